/- The contract of script.Check. -/
import Derived.Test.YtjjnjglbmneecaaDoorScr
namespace Go.Proofs.YtjjnjglbmneecaaDoor
open Go Go.RowKit
/-- Whether an operation of kind k is valid. -/
def validB (k : Nat) (a : Int) (v : List UInt8) : Bool := match k with
  | 1 => decide (a = 0 ∧ v.length ≤ 40000)
  | 2 => decide (0 ≤ a ∧ a ≤ 1000000 ∧ v.length = 0)
  | 3 => decide (a = 0 ∧ v.length ≤ 200)
  | 4 => decide (a = 0 ∧ v.length ≤ 200)
  | 5 => decide (a = 0 ∧ v.length ≤ 200)
  | 6 => decide (a = 0 ∧ v.length = 0)
  | 7 => decide (a = 0 ∧ v.length = 0)
  | 8 => crashB a v
  | 9 => decide (a = 0 ∧ v.length = 0)
  | _ => false
def valF (k : Nat) : Nat := [0, 132, 135, 138, 138, 138, 139, 139, 142, 139].getD k 0
theorem valid_any {w : World} (hw : EnvS w) (k : Nat) (hk : 0 < k ∧ k < 10) (kk a : Int) (v : ByteArray) (hv : v.size ≤ 900000) :
    Calls Tryd.prog (valF k) #[opV kk a v] w fun e w' => e = .returned (.bool (validB k a v.data.toList)) ∧ Below w.heap.size w w' := by
  have hs := Lib.size_eq v
  obtain ⟨h0, h1⟩ := hk
  have hk' : k = 1 ∨ k = 2 ∨ k = 3 ∨ k = 4 ∨ k = 5 ∨ k = 6 ∨ k = 7 ∨ k = 8 ∨ k = 9 := by omega
  rcases hk' with rfl | rfl | rfl | rfl | rfl | rfl | rfl | rfl | rfl
  · show Calls Tryd.prog 132 _ _ _; unfold validB; rw [← hs]; exact text_any kk a v w
  · show Calls Tryd.prog 135 _ _ _; unfold validB; rw [← hs]; exact number_any kk a v w
  · show Calls Tryd.prog 138 _ _ _; unfold validB; rw [← hs]; exact query_any kk a v w
  · show Calls Tryd.prog 138 _ _ _; unfold validB; rw [← hs]; exact query_any kk a v w
  · show Calls Tryd.prog 138 _ _ _; unfold validB; rw [← hs]; exact query_any kk a v w
  · show Calls Tryd.prog 139 _ _ _; unfold validB; rw [← hs]; exact bare_any kk a v w
  · show Calls Tryd.prog 139 _ _ _; unfold validB; rw [← hs]; exact bare_any kk a v w
  · show Calls Tryd.prog 142 _ _ _; exact crash_any hw kk a v hv
  · show Calls Tryd.prog 139 _ _ _; unfold validB; rw [← hs]; exact bare_any kk a v w
theorem EnvS.valid {w : World} (h : EnvS w) (k : Nat) (hk : 0 < k ∧ k < 10) : w.cell? ⟨0, 4 * k + 1, none⟩ = some (fnV (valF k)) := by
  refine h.tab _ _ ?_
  obtain ⟨h0, h1⟩ := hk
  have hk' : k = 1 ∨ k = 2 ∨ k = 3 ∨ k = 4 ∨ k = 5 ∨ k = 6 ∨ k = 7 ∨ k = 8 ∨ k = 9 := by omega
  rcases hk' with rfl | rfl | rfl | rfl | rfl | rfl | rfl | rfl | rfl <;> rfl
end Go.Proofs.YtjjnjglbmneecaaDoor
