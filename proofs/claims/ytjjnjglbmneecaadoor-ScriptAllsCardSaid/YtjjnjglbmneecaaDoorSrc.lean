/- The contracts of the reference's functions Check and Word. Printed by src.py. -/
import Derived.Test.YtjjnjglbmneecaaDoorSyA
namespace Go.Proofs.YtjjnjglbmneecaaDoor
open Go Go.RowKit
theorem chkZ_at (k : Nat) (hk : 0 < k ∧ k < 10) (a : Int) (v : List UInt8) : chkZ k a v = if validB k a v = true then 0 else 2 := by
  unfold chkZ
  rw [Int.toNat_natCast]
  by_cases h : validB k a v = true
  · rw [if_pos ⟨by omega, by omega, h⟩, if_pos h]
  · rw [if_neg (fun e => h e.2.2), if_neg h]
theorem emp_of {v : ByteArray} (h : v.size = 0) : v.toList.isEmpty = true := by rw [emp_dec]; simpa using h
theorem emp_no {v : ByteArray} (h : ¬ v.size = 0) : v.toList.isEmpty = false := by rw [emp_dec]; simpa using h
set_option linter.unusedSimpArgs false in
set_option maxRecDepth 100000 in
set_option maxHeartbeats 4000000 in
theorem rchk_1 (a : Int) (v : ByteArray) (w : World) : Calls Tryd.prog 30 #[opV 1 a v] w fun e w' => e = .returned (.int .i64 (chkZ 1 a v.data.toList)) ∧ Below w.heap.size w w' := by
  have hs := Lib.size_eq v
  have HZ : Hid (chkZ 1 a v.data.toList = if a = 0 ∧ v.size ≤ 40000 then 0 else 2) := Lib.hid (by rw [show chkZ 1 a v.data.toList = _ from chkZ_at 1 (by decide) a _, hs]; simp [validB])
  generalize chkZ 1 a v.data.toList = z at *
  clear hs
  unfold opV
  by_cases ha : a = 0
  · subst ha
    by_cases hl : v.size ≤ 40000
    · have HF : Hid (z = 0) := Lib.hid (by rw [HZ.out, if_pos ⟨rfl, hl⟩])
      have hd : decide ((v.size : Int) ≤ 40000) = true := by simp; omega
      clear HZ
      rcases Nat.eq_zero_or_pos v.size with h0 | h0
      · have he := emp_of h0
        go_enter Tryd.func30, Tryd.ntmps30
        go_wp2_with fail
        go_ret
        exact ⟨ret_int HF.out.symm, below_al _ _⟩
      · have he := emp_no (v := v) (by omega)
        clear h0
        go_enter Tryd.func30, Tryd.ntmps30
        go_wp2_with fail
        go_ret
        exact ⟨ret_int HF.out.symm, below_al _ _⟩
    · have HF : Hid (z = 2) := Lib.hid (by rw [HZ.out, if_neg (fun h => hl h.2)])
      have hd : decide ((v.size : Int) ≤ 40000) = false := by simp; omega
      clear HZ
      rcases Nat.eq_zero_or_pos v.size with h0 | h0
      · omega
      · have he := emp_no (v := v) (by omega)
        clear h0
        go_enter Tryd.func30, Tryd.ntmps30
        go_wp2_with fail
        go_ret
        exact ⟨ret_int HF.out.symm, below_al _ _⟩
  · have HF : Hid (z = 2) := Lib.hid (by rw [HZ.out, if_neg (fun h => ha h.1)])
    clear HZ
    go_enter Tryd.func30, Tryd.ntmps30
    go_wp2_with fail
    go_ret
    exact ⟨ret_int HF.out.symm, below_al _ _⟩
set_option linter.unusedSimpArgs false in
set_option maxRecDepth 100000 in
set_option maxHeartbeats 4000000 in
theorem rchk_3 (a : Int) (v : ByteArray) (w : World) : Calls Tryd.prog 30 #[opV 3 a v] w fun e w' => e = .returned (.int .i64 (chkZ 3 a v.data.toList)) ∧ Below w.heap.size w w' := by
  have hs := Lib.size_eq v
  have HZ : Hid (chkZ 3 a v.data.toList = if a = 0 ∧ v.size ≤ 200 then 0 else 2) := Lib.hid (by rw [show chkZ 3 a v.data.toList = _ from chkZ_at 3 (by decide) a _, hs]; simp [validB])
  generalize chkZ 3 a v.data.toList = z at *
  clear hs
  unfold opV
  by_cases ha : a = 0
  · subst ha
    by_cases hl : v.size ≤ 200
    · have HF : Hid (z = 0) := Lib.hid (by rw [HZ.out, if_pos ⟨rfl, hl⟩])
      have hd : decide ((v.size : Int) ≤ 200) = true := by simp; omega
      clear HZ
      rcases Nat.eq_zero_or_pos v.size with h0 | h0
      · have he := emp_of h0
        go_enter Tryd.func30, Tryd.ntmps30
        go_wp2_with fail
        go_ret
        exact ⟨ret_int HF.out.symm, below_al _ _⟩
      · have he := emp_no (v := v) (by omega)
        clear h0
        go_enter Tryd.func30, Tryd.ntmps30
        go_wp2_with fail
        go_ret
        exact ⟨ret_int HF.out.symm, below_al _ _⟩
    · have HF : Hid (z = 2) := Lib.hid (by rw [HZ.out, if_neg (fun h => hl h.2)])
      have hd : decide ((v.size : Int) ≤ 200) = false := by simp; omega
      clear HZ
      rcases Nat.eq_zero_or_pos v.size with h0 | h0
      · omega
      · have he := emp_no (v := v) (by omega)
        clear h0
        go_enter Tryd.func30, Tryd.ntmps30
        go_wp2_with fail
        go_ret
        exact ⟨ret_int HF.out.symm, below_al _ _⟩
  · have HF : Hid (z = 2) := Lib.hid (by rw [HZ.out, if_neg (fun h => ha h.1)])
    clear HZ
    go_enter Tryd.func30, Tryd.ntmps30
    go_wp2_with fail
    go_ret
    exact ⟨ret_int HF.out.symm, below_al _ _⟩
set_option linter.unusedSimpArgs false in
set_option maxRecDepth 100000 in
set_option maxHeartbeats 4000000 in
theorem rchk_4 (a : Int) (v : ByteArray) (w : World) : Calls Tryd.prog 30 #[opV 4 a v] w fun e w' => e = .returned (.int .i64 (chkZ 4 a v.data.toList)) ∧ Below w.heap.size w w' := by
  have hs := Lib.size_eq v
  have HZ : Hid (chkZ 4 a v.data.toList = if a = 0 ∧ v.size ≤ 200 then 0 else 2) := Lib.hid (by rw [show chkZ 4 a v.data.toList = _ from chkZ_at 4 (by decide) a _, hs]; simp [validB])
  generalize chkZ 4 a v.data.toList = z at *
  clear hs
  unfold opV
  by_cases ha : a = 0
  · subst ha
    by_cases hl : v.size ≤ 200
    · have HF : Hid (z = 0) := Lib.hid (by rw [HZ.out, if_pos ⟨rfl, hl⟩])
      have hd : decide ((v.size : Int) ≤ 200) = true := by simp; omega
      clear HZ
      rcases Nat.eq_zero_or_pos v.size with h0 | h0
      · have he := emp_of h0
        go_enter Tryd.func30, Tryd.ntmps30
        go_wp2_with fail
        go_ret
        exact ⟨ret_int HF.out.symm, below_al _ _⟩
      · have he := emp_no (v := v) (by omega)
        clear h0
        go_enter Tryd.func30, Tryd.ntmps30
        go_wp2_with fail
        go_ret
        exact ⟨ret_int HF.out.symm, below_al _ _⟩
    · have HF : Hid (z = 2) := Lib.hid (by rw [HZ.out, if_neg (fun h => hl h.2)])
      have hd : decide ((v.size : Int) ≤ 200) = false := by simp; omega
      clear HZ
      rcases Nat.eq_zero_or_pos v.size with h0 | h0
      · omega
      · have he := emp_no (v := v) (by omega)
        clear h0
        go_enter Tryd.func30, Tryd.ntmps30
        go_wp2_with fail
        go_ret
        exact ⟨ret_int HF.out.symm, below_al _ _⟩
  · have HF : Hid (z = 2) := Lib.hid (by rw [HZ.out, if_neg (fun h => ha h.1)])
    clear HZ
    go_enter Tryd.func30, Tryd.ntmps30
    go_wp2_with fail
    go_ret
    exact ⟨ret_int HF.out.symm, below_al _ _⟩
set_option linter.unusedSimpArgs false in
set_option maxRecDepth 100000 in
set_option maxHeartbeats 4000000 in
theorem rchk_5 (a : Int) (v : ByteArray) (w : World) : Calls Tryd.prog 30 #[opV 5 a v] w fun e w' => e = .returned (.int .i64 (chkZ 5 a v.data.toList)) ∧ Below w.heap.size w w' := by
  have hs := Lib.size_eq v
  have HZ : Hid (chkZ 5 a v.data.toList = if a = 0 ∧ v.size ≤ 200 then 0 else 2) := Lib.hid (by rw [show chkZ 5 a v.data.toList = _ from chkZ_at 5 (by decide) a _, hs]; simp [validB])
  generalize chkZ 5 a v.data.toList = z at *
  clear hs
  unfold opV
  by_cases ha : a = 0
  · subst ha
    by_cases hl : v.size ≤ 200
    · have HF : Hid (z = 0) := Lib.hid (by rw [HZ.out, if_pos ⟨rfl, hl⟩])
      have hd : decide ((v.size : Int) ≤ 200) = true := by simp; omega
      clear HZ
      rcases Nat.eq_zero_or_pos v.size with h0 | h0
      · have he := emp_of h0
        go_enter Tryd.func30, Tryd.ntmps30
        go_wp2_with fail
        go_ret
        exact ⟨ret_int HF.out.symm, below_al _ _⟩
      · have he := emp_no (v := v) (by omega)
        clear h0
        go_enter Tryd.func30, Tryd.ntmps30
        go_wp2_with fail
        go_ret
        exact ⟨ret_int HF.out.symm, below_al _ _⟩
    · have HF : Hid (z = 2) := Lib.hid (by rw [HZ.out, if_neg (fun h => hl h.2)])
      have hd : decide ((v.size : Int) ≤ 200) = false := by simp; omega
      clear HZ
      rcases Nat.eq_zero_or_pos v.size with h0 | h0
      · omega
      · have he := emp_no (v := v) (by omega)
        clear h0
        go_enter Tryd.func30, Tryd.ntmps30
        go_wp2_with fail
        go_ret
        exact ⟨ret_int HF.out.symm, below_al _ _⟩
  · have HF : Hid (z = 2) := Lib.hid (by rw [HZ.out, if_neg (fun h => ha h.1)])
    clear HZ
    go_enter Tryd.func30, Tryd.ntmps30
    go_wp2_with fail
    go_ret
    exact ⟨ret_int HF.out.symm, below_al _ _⟩
set_option linter.unusedSimpArgs false in
set_option maxRecDepth 100000 in
set_option maxHeartbeats 4000000 in
theorem rchk_6 (a : Int) (v : ByteArray) (w : World) : Calls Tryd.prog 30 #[opV 6 a v] w fun e w' => e = .returned (.int .i64 (chkZ 6 a v.data.toList)) ∧ Below w.heap.size w w' := by
  have hs := Lib.size_eq v
  have HZ : Hid (chkZ 6 a v.data.toList = if a = 0 ∧ v.size = 0 then 0 else 2) := Lib.hid (by rw [show chkZ 6 a v.data.toList = _ from chkZ_at 6 (by decide) a _, hs]; simp [validB])
  generalize chkZ 6 a v.data.toList = z at *
  clear hs
  unfold opV
  by_cases ha : a = 0
  · subst ha
    by_cases hl : v.size = 0
    · have HF : Hid (z = 0) := Lib.hid (by rw [HZ.out, if_pos ⟨rfl, hl⟩])
      have he := emp_of hl
      clear HZ hl
      go_enter Tryd.func30, Tryd.ntmps30
      go_wp2_with fail
      go_ret
      exact ⟨ret_int HF.out.symm, below_al _ _⟩
    · have HF : Hid (z = 2) := Lib.hid (by rw [HZ.out, if_neg (fun h => hl h.2)])
      have he := emp_no hl
      clear HZ hl
      go_enter Tryd.func30, Tryd.ntmps30
      go_wp2_with fail
      go_ret
      exact ⟨ret_int HF.out.symm, below_al _ _⟩
  · have HF : Hid (z = 2) := Lib.hid (by rw [HZ.out, if_neg (fun h => ha h.1)])
    clear HZ
    go_enter Tryd.func30, Tryd.ntmps30
    go_wp2_with fail
    go_ret
    exact ⟨ret_int HF.out.symm, below_al _ _⟩
set_option linter.unusedSimpArgs false in
set_option maxRecDepth 100000 in
set_option maxHeartbeats 4000000 in
theorem rchk_7 (a : Int) (v : ByteArray) (w : World) : Calls Tryd.prog 30 #[opV 7 a v] w fun e w' => e = .returned (.int .i64 (chkZ 7 a v.data.toList)) ∧ Below w.heap.size w w' := by
  have hs := Lib.size_eq v
  have HZ : Hid (chkZ 7 a v.data.toList = if a = 0 ∧ v.size = 0 then 0 else 2) := Lib.hid (by rw [show chkZ 7 a v.data.toList = _ from chkZ_at 7 (by decide) a _, hs]; simp [validB])
  generalize chkZ 7 a v.data.toList = z at *
  clear hs
  unfold opV
  by_cases ha : a = 0
  · subst ha
    by_cases hl : v.size = 0
    · have HF : Hid (z = 0) := Lib.hid (by rw [HZ.out, if_pos ⟨rfl, hl⟩])
      have he := emp_of hl
      clear HZ hl
      go_enter Tryd.func30, Tryd.ntmps30
      go_wp2_with fail
      go_ret
      exact ⟨ret_int HF.out.symm, below_al _ _⟩
    · have HF : Hid (z = 2) := Lib.hid (by rw [HZ.out, if_neg (fun h => hl h.2)])
      have he := emp_no hl
      clear HZ hl
      go_enter Tryd.func30, Tryd.ntmps30
      go_wp2_with fail
      go_ret
      exact ⟨ret_int HF.out.symm, below_al _ _⟩
  · have HF : Hid (z = 2) := Lib.hid (by rw [HZ.out, if_neg (fun h => ha h.1)])
    clear HZ
    go_enter Tryd.func30, Tryd.ntmps30
    go_wp2_with fail
    go_ret
    exact ⟨ret_int HF.out.symm, below_al _ _⟩
set_option linter.unusedSimpArgs false in
set_option maxRecDepth 100000 in
set_option maxHeartbeats 4000000 in
theorem rchk_9 (a : Int) (v : ByteArray) (w : World) : Calls Tryd.prog 30 #[opV 9 a v] w fun e w' => e = .returned (.int .i64 (chkZ 9 a v.data.toList)) ∧ Below w.heap.size w w' := by
  have hs := Lib.size_eq v
  have HZ : Hid (chkZ 9 a v.data.toList = if a = 0 ∧ v.size = 0 then 0 else 2) := Lib.hid (by rw [show chkZ 9 a v.data.toList = _ from chkZ_at 9 (by decide) a _, hs]; simp [validB])
  generalize chkZ 9 a v.data.toList = z at *
  clear hs
  unfold opV
  by_cases ha : a = 0
  · subst ha
    by_cases hl : v.size = 0
    · have HF : Hid (z = 0) := Lib.hid (by rw [HZ.out, if_pos ⟨rfl, hl⟩])
      have he := emp_of hl
      clear HZ hl
      go_enter Tryd.func30, Tryd.ntmps30
      go_wp2_with fail
      go_ret
      exact ⟨ret_int HF.out.symm, below_al _ _⟩
    · have HF : Hid (z = 2) := Lib.hid (by rw [HZ.out, if_neg (fun h => hl h.2)])
      have he := emp_no hl
      clear HZ hl
      go_enter Tryd.func30, Tryd.ntmps30
      go_wp2_with fail
      go_ret
      exact ⟨ret_int HF.out.symm, below_al _ _⟩
  · have HF : Hid (z = 2) := Lib.hid (by rw [HZ.out, if_neg (fun h => ha h.1)])
    clear HZ
    go_enter Tryd.func30, Tryd.ntmps30
    go_wp2_with fail
    go_ret
    exact ⟨ret_int HF.out.symm, below_al _ _⟩
set_option linter.unusedSimpArgs false in
set_option maxRecDepth 100000 in
set_option maxHeartbeats 4000000 in
theorem rchk_2 (a : Int) (v : ByteArray) (w : World) : Calls Tryd.prog 30 #[opV 2 a v] w fun e w' => e = .returned (.int .i64 (chkZ 2 a v.data.toList)) ∧ Below w.heap.size w w' := by
  have hs := Lib.size_eq v
  have HZ : Hid (chkZ 2 a v.data.toList = if 0 ≤ a ∧ a ≤ 1000000 ∧ v.size = 0 then 0 else 2) := Lib.hid (by rw [show chkZ 2 a v.data.toList = _ from chkZ_at 2 (by decide) a _, hs]; simp [validB])
  generalize chkZ 2 a v.data.toList = z at *
  clear hs
  unfold opV
  by_cases hv : v.size = 0
  · have he := emp_of hv
    by_cases ha : a = 0
    · subst ha
      have HF : Hid (z = 0) := Lib.hid (by rw [HZ.out, if_pos ⟨by decide, by decide, hv⟩])
      clear HZ hv
      go_enter Tryd.func30, Tryd.ntmps30
      go_wp2_with fail
      go_ret
      exact ⟨ret_int HF.out.symm, below_al _ _⟩
    · by_cases h0 : 0 ≤ a
      · by_cases h1 : a ≤ 1000000
        · have HF : Hid (z = 0) := Lib.hid (by rw [HZ.out, if_pos ⟨h0, h1, hv⟩])
          clear HZ hv
          go_enter Tryd.func30, Tryd.ntmps30
          go_wp2_with fail
          go_ret
          exact ⟨ret_int HF.out.symm, below_al _ _⟩
        · have HF : Hid (z = 2) := Lib.hid (by rw [HZ.out, if_neg (fun h => h1 h.2.1)])
          clear HZ hv
          go_enter Tryd.func30, Tryd.ntmps30
          go_wp2_with fail
          go_ret
          exact ⟨ret_int HF.out.symm, below_al _ _⟩
      · have HF : Hid (z = 2) := Lib.hid (by rw [HZ.out, if_neg (fun h => h0 h.1)])
        clear HZ hv
        go_enter Tryd.func30, Tryd.ntmps30
        go_wp2_with fail
        go_ret
        exact ⟨ret_int HF.out.symm, below_al _ _⟩
  · have he := emp_no hv
    have HF : Hid (z = 2) := Lib.hid (by rw [HZ.out, if_neg (fun h => hv h.2.2)])
    clear HZ hv
    by_cases ha : a = 0
    · subst ha
      go_enter Tryd.func30, Tryd.ntmps30
      go_wp2_with fail
      go_ret
      exact ⟨ret_int HF.out.symm, below_al _ _⟩
    · by_cases h0 : 0 ≤ a
      · by_cases h1 : a ≤ 1000000
        · go_enter Tryd.func30, Tryd.ntmps30
          go_wp2_with fail
          go_ret
          exact ⟨ret_int HF.out.symm, below_al _ _⟩
        · go_enter Tryd.func30, Tryd.ntmps30
          go_wp2_with fail
          go_ret
          exact ⟨ret_int HF.out.symm, below_al _ _⟩
      · go_enter Tryd.func30, Tryd.ntmps30
        go_wp2_with fail
        go_ret
        exact ⟨ret_int HF.out.symm, below_al _ _⟩
set_option linter.unusedSimpArgs false in
set_option maxRecDepth 100000 in
set_option maxHeartbeats 4000000 in
theorem rchk_8 (a : Int) (v : ByteArray) (w : World) : Calls Tryd.prog 30 #[opV 8 a v] w fun e w' => e = .returned (.int .i64 (chkZ 8 a v.data.toList)) ∧ Below w.heap.size w w' := by
  have hs := Lib.size_eq v
  have HZ : Hid (chkZ 8 a v.data.toList = if 0 ≤ a ∧ a ≤ 1000000 ∧ v.size ≤ 1000 ∧ 0 < (keepP v.data.toList).length then 0 else 2) := Lib.hid (by rw [show chkZ 8 a v.data.toList = _ from chkZ_at 8 (by decide) a _, show validB 8 a v.data.toList = crashB a v.data.toList from rfl, crash_ref, hs]; simp)
  have HK : Hid (v.size ≤ 1000 → ∀ W : World, Calls Tryd.prog 53 #[.string v] W fun e w' => (∃ ao cap, e = .returned (.slice ao (keepP v.data.toList).length cap)) ∧ Below W.heap.size W w') := Lib.hid (fun hv W => (keep_any v (by omega) W).mono fun e w' ⟨u, h1, h2, h3⟩ => ⟨by
    rcases h2.2 with ⟨hu, h0⟩ | ⟨g, cap, cur, hu, _⟩
    · exact ⟨none, 0, by rw [h1, hu, h0]⟩
    · exact ⟨_, cap, by rw [h1, hu]⟩, h3⟩)
  generalize chkZ 8 a v.data.toList = z at *
  generalize (keepP v.data.toList).length = kl at *
  clear hs
  unfold opV
  by_cases ha : a = 0
  · subst ha
    rcases Nat.eq_zero_or_pos v.size with hv | hv
    · have he := emp_of hv
      have hv2 : v.size ≤ 1000 := by omega
      clear hv
      by_cases hl : v.size ≤ 1000
      · have hd : decide ((v.size : Int) ≤ 1000) = true := by simp; omega
        by_cases hk : 0 < kl
        · have hkd : decide ((0 : Int) < (kl : Int)) = true := by simp; omega
          have HF : Hid (z = 0) := Lib.hid (by rw [HZ.out, if_pos ⟨(by decide), (by decide), hl, hk⟩])
          clear HZ
          go_enter Tryd.func30, Tryd.ntmps30
          go_wp2_with (go_at_call 53; refine (HK.out hl _).mono ?_; rintro e w' ⟨⟨ao, cap, rfl⟩, hE⟩)
          go_ret
          exact ⟨ret_int HF.out.symm, (below_al _ _).trans (below_le hE (by simp))⟩
        · have hkd : decide ((0 : Int) < (kl : Int)) = false := by simp; omega
          have HF : Hid (z = 2) := Lib.hid (by rw [HZ.out, if_neg (fun h => hk h.2.2.2)])
          clear HZ
          go_enter Tryd.func30, Tryd.ntmps30
          go_wp2_with (go_at_call 53; refine (HK.out hl _).mono ?_; rintro e w' ⟨⟨ao, cap, rfl⟩, hE⟩)
          go_ret
          exact ⟨ret_int HF.out.symm, (below_al _ _).trans (below_le hE (by simp))⟩
      · have hd : decide ((v.size : Int) ≤ 1000) = false := by simp; omega
        exact absurd hv2 hl
    · have he := emp_no (v := v) (by omega)
      clear hv
      by_cases hl : v.size ≤ 1000
      · have hd : decide ((v.size : Int) ≤ 1000) = true := by simp; omega
        by_cases hk : 0 < kl
        · have hkd : decide ((0 : Int) < (kl : Int)) = true := by simp; omega
          have HF : Hid (z = 0) := Lib.hid (by rw [HZ.out, if_pos ⟨(by decide), (by decide), hl, hk⟩])
          clear HZ
          go_enter Tryd.func30, Tryd.ntmps30
          go_wp2_with (go_at_call 53; refine (HK.out hl _).mono ?_; rintro e w' ⟨⟨ao, cap, rfl⟩, hE⟩)
          go_ret
          exact ⟨ret_int HF.out.symm, (below_al _ _).trans (below_le hE (by simp))⟩
        · have hkd : decide ((0 : Int) < (kl : Int)) = false := by simp; omega
          have HF : Hid (z = 2) := Lib.hid (by rw [HZ.out, if_neg (fun h => hk h.2.2.2)])
          clear HZ
          go_enter Tryd.func30, Tryd.ntmps30
          go_wp2_with (go_at_call 53; refine (HK.out hl _).mono ?_; rintro e w' ⟨⟨ao, cap, rfl⟩, hE⟩)
          go_ret
          exact ⟨ret_int HF.out.symm, (below_al _ _).trans (below_le hE (by simp))⟩
      · have hd : decide ((v.size : Int) ≤ 1000) = false := by simp; omega
        have HF : Hid (z = 2) := Lib.hid (by rw [HZ.out, if_neg (fun h => hl h.2.2.1)])
        clear HZ
        go_enter Tryd.func30, Tryd.ntmps30
        go_wp2_with fail
        go_ret
        exact ⟨ret_int HF.out.symm, below_al _ _⟩
  · have hF := trivial
    by_cases h0 : 0 ≤ a
    · by_cases h1 : a ≤ 1000000
      · by_cases hl : v.size ≤ 1000
        · have hd : decide ((v.size : Int) ≤ 1000) = true := by simp; omega
          by_cases hk : 0 < kl
          · have hkd : decide ((0 : Int) < (kl : Int)) = true := by simp; omega
            have HF : Hid (z = 0) := Lib.hid (by rw [HZ.out, if_pos ⟨h0, h1, hl, hk⟩])
            clear HZ
            go_enter Tryd.func30, Tryd.ntmps30
            go_wp2_with (go_at_call 53; refine (HK.out hl _).mono ?_; rintro e w' ⟨⟨ao, cap, rfl⟩, hE⟩)
            go_ret
            exact ⟨ret_int HF.out.symm, (below_al _ _).trans (below_le hE (by simp))⟩
          · have hkd : decide ((0 : Int) < (kl : Int)) = false := by simp; omega
            have HF : Hid (z = 2) := Lib.hid (by rw [HZ.out, if_neg (fun h => hk h.2.2.2)])
            clear HZ
            go_enter Tryd.func30, Tryd.ntmps30
            go_wp2_with (go_at_call 53; refine (HK.out hl _).mono ?_; rintro e w' ⟨⟨ao, cap, rfl⟩, hE⟩)
            go_ret
            exact ⟨ret_int HF.out.symm, (below_al _ _).trans (below_le hE (by simp))⟩
        · have hd : decide ((v.size : Int) ≤ 1000) = false := by simp; omega
          have HF : Hid (z = 2) := Lib.hid (by rw [HZ.out, if_neg (fun h => hl h.2.2.1)])
          clear HZ
          go_enter Tryd.func30, Tryd.ntmps30
          go_wp2_with fail
          go_ret
          exact ⟨ret_int HF.out.symm, below_al _ _⟩
      · have HF0 := trivial
        have HF : Hid (z = 2) := Lib.hid (by rw [HZ.out, if_neg (fun h => h1 h.2.1)])
        clear HZ
        go_enter Tryd.func30, Tryd.ntmps30
        go_wp2_with fail
        go_ret
        exact ⟨ret_int HF.out.symm, below_al _ _⟩
    · have HF0 := trivial
      have HF : Hid (z = 2) := Lib.hid (by rw [HZ.out, if_neg (fun h => h0 h.1)])
      clear HZ
      go_enter Tryd.func30, Tryd.ntmps30
      go_wp2_with fail
      go_ret
      exact ⟨ret_int HF.out.symm, below_al _ _⟩
set_option linter.unusedSimpArgs false in
set_option maxRecDepth 100000 in
set_option maxHeartbeats 4000000 in
theorem rchk_no (k a : Int) (hk : ¬ (0 < k ∧ k < 10)) (v : ByteArray) (w : World) : Calls Tryd.prog 30 #[opV k a v] w fun e w' => e = .returned (.int .i64 (chkZ k a v.data.toList)) ∧ Below w.heap.size w w' := by
  have hz : chkZ k a v.data.toList = 2 := by unfold chkZ; rw [if_neg (fun h => hk ⟨h.1, h.2.1⟩)]
  rw [hz]
  have k1 : ¬ k = 1 := by omega
  have k2 : ¬ k = 2 := by omega
  have k3 : ¬ k = 3 := by omega
  have k4 : ¬ k = 4 := by omega
  have k5 : ¬ k = 5 := by omega
  have k6 : ¬ k = 6 := by omega
  have k7 : ¬ k = 7 := by omega
  have k8 : ¬ k = 8 := by omega
  have k9 : ¬ k = 9 := by omega
  clear hk hz
  unfold opV
  by_cases ha : a = 0
  · subst ha
    rcases Nat.eq_zero_or_pos v.size with hv | hv
    · have he := emp_of hv
      clear hv
      go_enter Tryd.func30, Tryd.ntmps30
      go_wp2_with fail
      go_ret
      exact ⟨rfl, below_al _ _⟩
    · have he := emp_no (v := v) (by omega)
      clear hv
      go_enter Tryd.func30, Tryd.ntmps30
      go_wp2_with fail
      go_ret
      exact ⟨rfl, below_al _ _⟩
  · go_enter Tryd.func30, Tryd.ntmps30
    go_wp2_with fail
    go_ret
    exact ⟨rfl, below_al _ _⟩
theorem rcheck_any (k a : Int) (v : ByteArray) (w : World) : Calls Tryd.prog 30 #[opV k a v] w fun e w' => e = .returned (.int .i64 (chkZ k a v.data.toList)) ∧ Below w.heap.size w w' := by
  by_cases hk : 0 < k ∧ k < 10
  · have hk' : k = 1 ∨ k = 2 ∨ k = 3 ∨ k = 4 ∨ k = 5 ∨ k = 6 ∨ k = 7 ∨ k = 8 ∨ k = 9 := by omega
    rcases hk' with rfl | rfl | rfl | rfl | rfl | rfl | rfl | rfl | rfl
    · exact rchk_1 a v w
    · exact rchk_2 a v w
    · exact rchk_3 a v w
    · exact rchk_4 a v w
    · exact rchk_5 a v w
    · exact rchk_6 a v w
    · exact rchk_7 a v w
    · exact rchk_8 a v w
    · exact rchk_9 a v w
  · exact rchk_no k a hk v w

end Go.Proofs.YtjjnjglbmneecaaDoor
