/- The contract of the law's function decimal. -/
import Derived.Test.YtjjnjglbmneecaaDoorSlw
namespace Go.Proofs.YtjjnjglbmneecaaDoor
open Go Go.RowKit
theorem cv1 (w : World) (d : Nat) : (convert 33 9 (.slice (some ⟨w.heap.size, 0, none⟩) 1 1)).run Tryd.prog (w.alloc (.cells #[.int .u8 (d : Int)] 5)) = .ok (.string ⟨#[UInt8.ofNat d]⟩) (w.alloc (.cells #[.int .u8 (d : Int)] 5)) := by
  rw [run_convert_bytes_arg (w.alloc (.cells #[.int .u8 (d : Int)] 5)) 33 5 Tryd.underlying33 Tryd.underlying5 w.heap.size 0 1 1 [(d : Int)] rfl (fun i hi => by
    have hi0 : i = 0 := by omega
    subst hi0
    rw [Lib.cell_of_heap (heap_alloc_new _ _)]; rfl) 9 Tryd.underlying9]
  rfl
theorem digit_mod (m : Nat) : ((48 + m % 10 : Nat) : Int) = 48 + (m : Int) % 10 := by omega
set_option maxRecDepth 100000 in
set_option maxHeartbeats 1000000 in
theorem decimal_any (n : Nat) (hn : n ≤ 1000000) (w : World) : Calls Tryd.prog 27 #[.int .i64 n] w fun e w' => e = .returned (.string ⟨(Lib.itoa (n : Int)).toArray⟩) ∧ Below w.heap.size w w' := by
  rw [itoa_nat]
  obtain ⟨D, hD⟩ : ∃ D, Lib.decDigits n = D := ⟨_, rfl⟩
  rw [hD]
  have HD := Lib.hid hD
  clear hD
  go_enter Tryd.func27, Tryd.ntmps27
  go_wp2_with fail
  go_loopg [0, 3] (n + 1) (fun mm i s wr => ∃ (m : Nat) (acc : List UInt8), mm = m + 1 ∧ m ≤ n ∧ i = .int .i64 m ∧ s = .string ⟨acc.toArray⟩ ∧ D = Lib.decDigits m ++ acc ∧ acc.length + m ≤ n ∧ Below w.heap.size w wr)
  case atStart => exact ⟨n, [], rfl, by omega, rfl, rfl, by rw [List.append_nil]; exact HD.out.symm, by simp, Below.refl _ _⟩
  case round =>
    obtain ⟨m, acc, hkm, hm, rfl, rfl, hdd, hal, hb⟩ := hrel
    have HK := Lib.hid hkm
    have HB := Lib.hid hb
    have HDD := Lib.hid hdd
    have hcv := cv1 wr (48 + m % 10)
    rw [digit_mod] at hcv
    clear hkm hb hdd
    obtain ⟨c, hc⟩ : ∃ c, UInt8.ofNat (48 + m % 10) = c := ⟨_, rfl⟩
    rw [hc] at hcv
    have HC := Lib.hid hc
    clear hc
    have hj : (⟨#[c]⟩ ++ ⟨acc.toArray⟩ : ByteArray) = ⟨(c :: acc).toArray⟩ := (bs_app [c] acc).symm
    by_cases h10 : m < 10
    · have hq : (m : Int) / 10 = 0 := by omega
      have HF : Hid (D = c :: acc) := Lib.hid (by rw [HDD.out, Lib.decDigits, dif_pos h10, ← HC.out, show m % 10 = m by omega]; rfl)
      go_wp2_with fail
      go_ret
      exact ⟨by rw [HF.out]; rfl, HB.out.alloc HB.out.size _⟩
    · have hq : ((m : Int) / 10 == 0) = false := by simp; omega
      have HF : Hid (D = Lib.decDigits (m / 10) ++ (c :: acc)) := Lib.hid (by rw [HDD.out, Lib.decDigits, dif_neg h10, HC.out]; simp)
      go_wp2_with fail
      go_roundg (m / 10 + 1)
      case measure => have := HK.out; omega
      case rel => exact ⟨m / 10, c :: acc, rfl, by omega, by go_num, rfl, HF.out, by simp; omega, HB.out.alloc HB.out.size _⟩
end Go.Proofs.YtjjnjglbmneecaaDoor
