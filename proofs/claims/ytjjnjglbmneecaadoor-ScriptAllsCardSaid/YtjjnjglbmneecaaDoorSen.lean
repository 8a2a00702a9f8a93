/- The functions of the table of the shapes that encode. -/
import Derived.Test.YtjjnjglbmneecaaDoorSc1
namespace Go.Proofs.YtjjnjglbmneecaaDoor
open Go Go.RowKit
/-- What an operation of kind k has behind its word. -/
def encP (k : Nat) (a : Int) (v : List UInt8) : List UInt8 := match k with
  | 1 => 32 :: qL v
  | 2 => 32 :: Lib.itoa a
  | 3 => 32 :: qL v
  | 4 => 32 :: qL v
  | 5 => 32 :: qL v
  | 8 => 32 :: Lib.itoa a ++ 32 :: v
  | _ => []
def encF (k : Nat) : Nat := [0, 133, 136, 133, 133, 133, 140, 140, 143, 140].getD k 0
def wordL (k : Nat) : List UInt8 := [[], [105, 110, 103, 101, 115, 116], [103, 97, 109, 101], [112, 111, 115, 105, 116, 105, 111, 110], [109, 97, 116, 101, 114, 105, 97, 108], [115, 116, 97, 116, 115], [98, 111, 111, 107], [99, 104, 101, 99, 107, 112, 111, 105, 110, 116], [99, 114, 97, 115, 104], [114, 101, 111, 112, 101, 110]].getD k []
theorem enc_any {w : World} (hw : EnvS w) (k : Nat) (hk : 0 < k ∧ k < 10) (kk a : Int) (v : ByteArray) (hv : v.size ≤ 900000) (h0 : -9223372036854775808 ≤ a) (h1 : a ≤ 9223372036854775807) :
    Calls Tryd.prog (encF k) #[opV kk a v] w fun e w' => e = .returned (.string ⟨(encP k a v.data.toList).toArray⟩) ∧ Below w.heap.size w w' := by
  have hk' : k = 1 ∨ k = 2 ∨ k = 3 ∨ k = 4 ∨ k = 5 ∨ k = 6 ∨ k = 7 ∨ k = 8 ∨ k = 9 := by omega
  rcases hk' with rfl | rfl | rfl | rfl | rfl | rfl | rfl | rfl | rfl
  · exact quoted_any kk a v (by omega) w
  · exact numbered_any hw kk a v h0 h1
  · exact quoted_any kk a v (by omega) w
  · exact quoted_any kk a v (by omega) w
  · exact quoted_any kk a v (by omega) w
  · exact nothing_any kk a v w
  · exact nothing_any kk a v w
  · exact planned_any hw kk a v (by omega) h0 h1
  · exact nothing_any kk a v w
theorem EnvS.row {w : World} (h : EnvS w) (k : Nat) (hk : 0 < k ∧ k < 10) : w.cell? ⟨0, 4 * k, none⟩ = some (.string ⟨(wordL k).toArray⟩) ∧ w.cell? ⟨0, 4 * k + 2, none⟩ = some (fnV (encF k)) := by
  have hk' : k = 1 ∨ k = 2 ∨ k = 3 ∨ k = 4 ∨ k = 5 ∨ k = 6 ∨ k = 7 ∨ k = 8 ∨ k = 9 := by omega
  rcases hk' with rfl | rfl | rfl | rfl | rfl | rfl | rfl | rfl | rfl <;> exact ⟨h.tab _ _ rfl, h.tab _ _ rfl⟩
end Go.Proofs.YtjjnjglbmneecaaDoor
