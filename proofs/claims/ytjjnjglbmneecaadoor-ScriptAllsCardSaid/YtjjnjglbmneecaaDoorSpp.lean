/- The contract of script.Print. -/
import Derived.Test.YtjjnjglbmneecaaDoorSp1
namespace Go.Proofs.YtjjnjglbmneecaaDoor
open Go Go.RowKit
theorem encP_len (k : Nat) (a : Int) (v : List UInt8) (hv : v.length ≤ 900000) (h0 : -9223372036854775808 ≤ a) (h1 : a ≤ 9223372036854775807) : (encP k a v).length ≤ 5000000 := by
  have q := (qL_len v).2
  have i := Lib.itoa_length_le a h0 h1
  unfold encP
  split <;> simp <;> omega
/-- The string of an operation. -/
def prS (k a : Int) (v : List UInt8) : List UInt8 := if chkZ k a v = 0 then wordL k.toNat ++ encP k.toNat a v else []
theorem print_any {w : World} (hw : EnvS w) (k a : Int) (v : ByteArray) (hv : v.size ≤ 900000) (h0 : -9223372036854775808 ≤ a) (h1 : a ≤ 9223372036854775807) :
    Calls Tryd.prog 20 #[opV k a v] w fun e w' => e = .returned (.tuple #[.string ⟨(prS k a v.data.toList).toArray⟩, .int .i64 (chkZ k a v.data.toList)]) ∧ Below w.heap.size w w' := by
  have hs := Lib.size_eq v
  have hl : ∀ n : Nat, (encP n a v.data.toList).length ≤ 5000000 := fun n => encP_len n a _ (by omega) h0 h1
  by_cases hc : chkZ k a v.data.toList = 0
  · have hk : 0 < k ∧ k < 10 := by
      unfold chkZ at hc
      split at hc
      · rename_i h; exact ⟨h.1, h.2.1⟩
      · exact absurd hc (by decide)
    have hp : prS k a v.data.toList = wordL k.toNat ++ encP k.toNat a v.data.toList := by unfold prS; rw [if_pos hc]
    have hj : ∀ x y : List UInt8, (⟨(x ++ y).toArray⟩ : ByteArray) = ⟨x.toArray⟩ ++ ⟨y.toArray⟩ := fun x y => ByteArray.ext (Array.toList_inj.1 (by simp))
    rw [hp, hj, hc]
    have hk' : k = 1 ∨ k = 2 ∨ k = 3 ∨ k = 4 ∨ k = 5 ∨ k = 6 ∨ k = 7 ∨ k = 8 ∨ k = 9 := by omega
    rcases hk' with rfl | rfl | rfl | rfl | rfl | rfl | rfl | rfl | rfl
    · exact print_1 hw a v hv h0 h1 hc rfl (hl 1)
    · exact print_2 hw a v hv h0 h1 hc rfl (hl 2)
    · exact print_3 hw a v hv h0 h1 hc rfl (hl 3)
    · exact print_4 hw a v hv h0 h1 hc rfl (hl 4)
    · exact print_5 hw a v hv h0 h1 hc rfl (hl 5)
    · exact print_6 hw a v hv h0 h1 hc rfl (hl 6)
    · exact print_7 hw a v hv h0 h1 hc rfl (hl 7)
    · exact print_8 hw a v hv h0 h1 hc rfl (hl 8)
    · exact print_9 hw a v hv h0 h1 hc rfl (hl 9)
  · have hp : prS k a v.data.toList = [] := by unfold prS; rw [if_neg hc]
    have h2 : chkZ k a v.data.toList = 2 := by
      have : ∀ z : Int, chkZ k a v.data.toList = z → z = 0 ∨ z = 2 := fun z e => by unfold chkZ at e; split at e <;> omega
      rcases this _ rfl with e | e
      · exact absurd e hc
      · exact e
    rw [hp, h2]
    exact print_no hw k a v hv hc
end Go.Proofs.YtjjnjglbmneecaaDoor
