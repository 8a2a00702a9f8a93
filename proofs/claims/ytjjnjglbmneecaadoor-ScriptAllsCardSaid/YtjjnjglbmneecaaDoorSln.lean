/- The contracts of the law's functions plain and decimal. -/
import Derived.Test.YtjjnjglbmneecaaDoorSwk
namespace Go.Proofs.YtjjnjglbmneecaaDoor
open Go Go.RowKit
def plainB (c : UInt8) : Bool := decide (32 ≤ c.toNat ∧ c.toNat ≤ 126)
set_option maxHeartbeats 1000000 in
theorem plain_any (s : ByteArray) (hs : s.size ≤ 4000000) (w : World) : Calls Tryd.prog 22 #[.string s] w fun e w' => e = .returned (.bool (s.data.toList.all plainB)) ∧ w = w' := by
  obtain ⟨z, hz⟩ : ∃ z, s.data.toList.all plainB = z := ⟨_, rfl⟩
  rw [hz]
  have HZ := Lib.hid hz
  have HS := Lib.hid (Lib.size_eq s)
  clear hz
  go_enter Tryd.func22, Tryd.ntmps22
  go_wp2_with fail
  go_loopg [3] s.size (fun mm i wr => ∃ k : Nat, mm = s.size - k ∧ k ≤ s.size ∧ i = .int .i64 k ∧ z = (s.data.toList.drop k).all plainB ∧ wr = w)
  case atStart => exact ⟨0, rfl, by omega, rfl, by rw [List.drop_zero]; exact HZ.out.symm, rfl⟩
  case round =>
    obtain ⟨k, hkm, hk, rfl, hix, rfl⟩ := hrel
    have HK := Lib.hid hkm
    have HI := Lib.hid hix
    clear hkm hix
    by_cases hlt : k < s.size
    · have hdi : decide ((k : Int) < (s.size : Int)) = true := by simp; omega
      obtain ⟨c, hc⟩ : ∃ c, s[k] = c := ⟨_, rfl⟩
      have hd : s.data.toList.drop k = c :: s.data.toList.drop (k + 1) := by rw [List.drop_eq_getElem_cons (by have := HS.out; omega), ← hc]; rfl
      have HI2 : Hid (z = (plainB c && (s.data.toList.drop (k + 1)).all plainB)) := Lib.hid (by rw [HI.out, hd]; rfl)
      clear hd HI
      by_cases h1 : c.toNat < 32
      · have HF : Hid (z = false) := Lib.hid (by rw [HI2.out, show plainB c = false from decide_eq_false (by omega)]; rfl)
        go_wp2_with fail
        go_ret
        exact ⟨ret_bool HF.out.symm, rfl⟩
      · by_cases h2 : 126 < c.toNat
        · have HF : Hid (z = false) := Lib.hid (by rw [HI2.out, show plainB c = false from decide_eq_false (by omega)]; rfl)
          go_wp2_with fail
          go_ret
          exact ⟨ret_bool HF.out.symm, rfl⟩
        · have HF : Hid (z = (s.data.toList.drop (k + 1)).all plainB) := Lib.hid (by rw [HI2.out, show plainB c = true from decide_eq_true (by omega)]; rfl)
          go_wp2_with fail
          go_roundg (s.size - (k + 1))
          case measure => have := HK.out; omega
          case rel => exact ⟨k + 1, rfl, by omega, by go_num, HF.out, rfl⟩
    · have hkl : k = s.size := by omega
      have HT : Hid (z = true) := Lib.hid (by rw [HI.out, List.drop_eq_nil_of_le (by have := HS.out; omega)]; rfl)
      subst hkl
      go_wp2_with fail
      go_ret
      exact ⟨ret_bool HT.out.symm, rfl⟩
end Go.Proofs.YtjjnjglbmneecaaDoor
