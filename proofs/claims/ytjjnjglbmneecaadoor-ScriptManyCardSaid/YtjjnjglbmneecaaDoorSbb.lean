/- The contract of the law's function bad. -/
import Derived.Test.YtjjnjglbmneecaaDoorSpg
import Derived.Test.YtjjnjglbmneecaaDoorSwk
namespace Go.Proofs.YtjjnjglbmneecaaDoor
open Go Go.RowKit
/-- The lines that are wrong. -/
def badL : List (List UInt8) := [[98, 111, 111], [98, 111, 111, 107, 32], [32, 98, 111, 111, 107], [66, 111, 111, 107], [103, 97, 109, 101], [103, 97, 109, 101, 32], [103, 97, 109, 101, 32, 45, 49], [103, 97, 109, 101, 32, 49, 48, 48, 48, 48, 48, 49], [103, 97, 109, 101, 32, 48, 48], [105, 110, 103, 101, 115, 116], [105, 110, 103, 101, 115, 116, 32, 97, 92], [105, 110, 103, 101, 115, 116, 32, 92, 120, 48, 65], [112, 111, 115, 105, 116, 105, 111, 110, 32, 92, 120, 52, 49], [115, 116, 97, 116, 115, 32, 255], [99, 114, 97, 115, 104, 32, 49], [99, 114, 97, 115, 104, 32, 49, 32], [99, 114, 97, 115, 104, 32, 49, 32, 49, 50, 57], [99, 114, 97, 115, 104, 32, 49, 32, 49, 44], [99, 114, 97, 115, 104, 32, 49, 48, 48, 48, 48, 48, 49, 32, 49], [99, 114, 97, 115, 104, 32, 49, 32, 49, 32, 49], [114, 101, 111, 112, 101, 110, 32, 49], [99, 104, 101, 99, 107, 112, 111, 105, 110, 116, 35]]
def badV : List Value := [.string ⟨#[98, 111, 111]⟩, .string ⟨#[98, 111, 111, 107, 32]⟩, .string ⟨#[32, 98, 111, 111, 107]⟩, .string ⟨#[66, 111, 111, 107]⟩, .string ⟨#[103, 97, 109, 101]⟩, .string ⟨#[103, 97, 109, 101, 32]⟩, .string ⟨#[103, 97, 109, 101, 32, 45, 49]⟩, .string ⟨#[103, 97, 109, 101, 32, 49, 48, 48, 48, 48, 48, 49]⟩, .string ⟨#[103, 97, 109, 101, 32, 48, 48]⟩, .string ⟨#[105, 110, 103, 101, 115, 116]⟩, .string ⟨#[105, 110, 103, 101, 115, 116, 32, 97, 92]⟩, .string ⟨#[105, 110, 103, 101, 115, 116, 32, 92, 120, 48, 65]⟩, .string ⟨#[112, 111, 115, 105, 116, 105, 111, 110, 32, 92, 120, 52, 49]⟩, .string ⟨#[115, 116, 97, 116, 115, 32, 255]⟩, .string ⟨#[99, 114, 97, 115, 104, 32, 49]⟩, .string ⟨#[99, 114, 97, 115, 104, 32, 49, 32]⟩, .string ⟨#[99, 114, 97, 115, 104, 32, 49, 32, 49, 50, 57]⟩, .string ⟨#[99, 114, 97, 115, 104, 32, 49, 32, 49, 44]⟩, .string ⟨#[99, 114, 97, 115, 104, 32, 49, 48, 48, 48, 48, 48, 49, 32, 49]⟩, .string ⟨#[99, 114, 97, 115, 104, 32, 49, 32, 49, 32, 49]⟩, .string ⟨#[114, 101, 111, 112, 101, 110, 32, 49]⟩, .string ⟨#[99, 104, 101, 99, 107, 112, 111, 105, 110, 116, 35]⟩]
theorem badV_at (q : Nat) (h : q < 22) : badV[q]'h = .string ⟨(badL.getD q []).toArray⟩ := by
  have hq : q = 0 ∨ q = 1 ∨ q = 2 ∨ q = 3 ∨ q = 4 ∨ q = 5 ∨ q = 6 ∨ q = 7 ∨ q = 8 ∨ q = 9 ∨ q = 10 ∨ q = 11 ∨ q = 12 ∨ q = 13 ∨ q = 14 ∨ q = 15 ∨ q = 16 ∨ q = 17 ∨ q = 18 ∨ q = 19 ∨ q = 20 ∨ q = 21 := by omega
  rcases hq with rfl | rfl | rfl | rfl | rfl | rfl | rfl | rfl | rfl | rfl | rfl | rfl | rfl | rfl | rfl | rfl | rfl | rfl | rfl | rfl | rfl | rfl <;> rfl
theorem bad_ok : ∀ q : Fin 22, (badL.getD q.val []).length ≤ 20 ∧ (10 : UInt8) ∉ badL.getD q.val [] ∧ ¬ (badL.getD q.val []).head?.getD 35 = 35 ∧ parO (badL.getD q.val []) = none := by decide +kernel
set_option maxRecDepth 100000 in
set_option maxHeartbeats 2000000 in
theorem bad_any (n : Int) (h0 : 0 ≤ n) (h1 : n ≤ 255) (w : World) : Calls Tryd.prog 23 #[.int .u8 n] w fun e w' => e = .returned (.string ⟨(badL.getD (n.toNat % 22) []).toArray⟩) ∧ Below w.heap.size w w' := by
  have hx : Int.tmod n 22 = ((n.toNat % 22 : Nat) : Int) := by rw [Int.tmod_eq_emod_of_nonneg h0]; omega
  have hq : n.toNat % 22 < 22 := by omega
  have HC := Lib.hid (badV_at _ hq)
  generalize badL.getD (n.toNat % 22) [] = b at *
  generalize n.toNat % 22 = q at *
  go_enter Tryd.func23, Tryd.ntmps23
  go_wp2_with fail
  go_ret
  exact ⟨congrArg Ending.returned HC.out, below_al _ _⟩
end Go.Proofs.YtjjnjglbmneecaaDoor
