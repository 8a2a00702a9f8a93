/- The contracts of known, Word, drive.Check and what it calls. -/
import Derived.Test.YtjjnjglbmneecaaDoorSpl
namespace Go.Proofs.YtjjnjglbmneecaaDoor
open Go Go.RowKit
set_option linter.unusedSimpArgs false in
theorem known_any (k : Int) (w : World) : Calls Tryd.prog 47 #[.int .i64 k] w fun e w' => e = .returned (.bool (decide (0 < k ∧ k < 10))) ∧ w = w' := by
  by_cases h : 0 < k
  · have h1 : decide (0 < k) = true := by simpa using h
    go_enter Tryd.func47, Tryd.ntmps47
    go_wp2_with fail
    go_ret
    exact ⟨ret_bool (by simp [h]), rfl⟩
  · have h1 : decide (0 < k) = false := by simpa using h
    go_enter Tryd.func47, Tryd.ntmps47
    go_wp2_with fail
    go_ret
    exact ⟨ret_bool (by simp [h]), rfl⟩
set_option linter.unusedSimpArgs false in
theorem wrong_any (n : Int) (w : World) : Calls Tryd.prog 51 #[.int .i64 n] w fun e w' => e = .returned (.bool (decide (n < 0 ∨ 128 < n))) ∧ w = w' := by
  by_cases h : n < 0
  · have h1 : decide (n < 0) = true := by simpa using h
    go_enter Tryd.func51, Tryd.ntmps51
    go_wp2_with fail
    go_ret
    exact ⟨ret_bool (by simp [h]), rfl⟩
  · have h1 : decide (n < 0) = false := by simpa using h
    go_enter Tryd.func51, Tryd.ntmps51
    go_wp2_with fail
    go_ret
    exact ⟨ret_bool (by simp [h]), rfl⟩
/-- The index of the first number that is none of a plan's. -/
def ixBad : List Int → Nat → Int
  | [], _ => -1
  | x :: r, k => if x < 0 ∨ 128 < x then k else ixBad r (k + 1)
theorem ixBad_iff (l : List Int) (k : Nat) : (0 ≤ ixBad l k ↔ ∃ x ∈ l, x < 0 ∨ 128 < x) := by
  induction l generalizing k with
  | nil => simp [ixBad]
  | cons x r ih =>
    unfold ixBad
    by_cases h : x < 0 ∨ 128 < x
    · rw [if_pos h]; simp [h]
    · rw [if_neg h, ih]; simp [h]
/-- The cells of a slice of numbers. -/
def Nums (w : World) (g : Nat) (l : List Int) : Prop := ∀ i (h : i < l.length), w.cell? ⟨g, i, none⟩ = some (.int .i64 l[i])
theorem Nums.below {w w' : World} {g n : Nat} {l : List Int} (h : Nums w g l) (hb : Below n w w') (hg : g < n) : Nums w' g l := fun i hi => (hb.cell (p := ⟨g, i, none⟩) hg).trans (h i hi)
set_option maxHeartbeats 1000000 in
theorem index_any (l : List Int) (g cap : Nat) (w : World) (hl : l.length ≤ 1000000) (hc : Nums w g l) :
    Calls Tryd.prog 68 #[.slice (some ⟨g, 0, none⟩) l.length cap, .func (.func 51) #[] #[]] w fun e w' => e = .returned (.int .i64 (ixBad l 0)) ∧ w = w' := by
  have HC := Lib.hid hc
  go_enter Tryd.func68, Tryd.ntmps68
  go_wp2_with fail
  go_loopg [8] l.length (fun mm i wr => ∃ k : Nat, mm = l.length - k ∧ k ≤ l.length ∧ i = .int .i64 k ∧ ixBad l 0 = ixBad (l.drop k) k ∧ wr = w)
  case atStart => exact ⟨0, rfl, by omega, rfl, by rw [List.drop_zero], rfl⟩
  case round =>
    obtain ⟨k, hkm, hk, rfl, hix, rfl⟩ := hrel
    have HK := Lib.hid hkm
    clear hkm
    by_cases hlt : k < l.length
    · have hdi : decide ((k : Int) < (l.length : Int)) = true := by simp; omega
      have hcell := HC.out k hlt
      have hd : l.drop k = l[k] :: l.drop (k + 1) := List.drop_eq_getElem_cons hlt
      rw [hd] at hix
      generalize l[k] = x at hcell hix
      rw [show ixBad (x :: l.drop (k + 1)) k = if x < 0 ∨ 128 < x then (k : Int) else ixBad (l.drop (k + 1)) (k + 1) from rfl] at hix
      have HI := Lib.hid hix
      clear hix hd hc
      by_cases hx : x < 0 ∨ 128 < x
      · have hdx : decide (x < 0 ∨ 128 < x) = true := by simpa using hx
        go_wp2_with (go_at_call 51; refine (wrong_any x _).mono ?_; rintro e w' ⟨rfl, rfl⟩)
        go_ret
        exact ⟨ret_int (by rw [HI.out, if_pos hx]), rfl⟩
      · have hdx : decide (x < 0 ∨ 128 < x) = false := by simpa using hx
        go_wp2_with (go_at_call 51; refine (wrong_any x _).mono ?_; rintro e w' ⟨rfl, rfl⟩)
        go_roundg (l.length - (k + 1))
        case measure => have := HK.out; omega
        case rel => exact ⟨k + 1, rfl, by omega, by go_num, by rw [HI.out, if_neg hx], rfl⟩
    · have hkl : k = l.length := by omega
      subst hkl
      rw [List.drop_length] at hix
      have HI := Lib.hid hix
      clear hix
      go_wp2_with fail
      go_ret
      exact ⟨ret_int HI.out.symm, rfl⟩
theorem contains_any (l : List Int) (g cap : Nat) (w : World) (hl : l.length ≤ 1000000) (hc : Nums w g l) :
    Calls Tryd.prog 50 #[.slice (some ⟨g, 0, none⟩) l.length cap, .func (.func 51) #[] #[]] w fun e w' => e = .returned (.bool (decide (∃ x ∈ l, x < 0 ∨ 128 < x))) ∧ w = w' := by
  have HC := Lib.hid (index_any l g cap w hl hc)
  have HI := Lib.hid (ixBad_iff l 0)
  generalize ixBad l 0 = z at HC HI
  go_enter Tryd.func50, Tryd.ntmps50
  go_wp2_with (go_at_call 68; refine HC.out.mono ?_; rintro e w' ⟨rfl, rfl⟩)
  go_ret
  exact ⟨ret_bool (decide_eq_decide.2 HI.out), rfl⟩
/-- Whether the drive takes a plan. -/
def drvOk (a : Int) (l : List Int) : Prop := 0 ≤ a ∧ a ≤ 1000000 ∧ 1 ≤ l.length ∧ l.length ≤ 64 ∧ ∀ x ∈ l, 0 ≤ x ∧ x ≤ 128
instance (a : Int) (l : List Int) : Decidable (drvOk a l) := by unfold drvOk; infer_instance
theorem drvOk_in {a : Int} {l : List Int} (h1 : 0 ≤ a) (h2 : a ≤ 1000000) (h3 : 1 ≤ l.length) (h4 : l.length ≤ 64) : drvOk a l ↔ ¬ ∃ x ∈ l, x < 0 ∨ 128 < x := by
  unfold drvOk
  constructor
  · rintro ⟨_, _, _, _, h⟩ ⟨x, hx, hb⟩
    have := h x hx; omega
  · intro h
    refine ⟨h1, h2, h3, h4, fun x hx => ?_⟩
    have : ¬ (x < 0 ∨ 128 < x) := fun hb => h ⟨x, hx, hb⟩
    omega
set_option linter.unusedSimpArgs false in
set_option maxHeartbeats 4000000 in
theorem dcheck_any (a : Int) (l : List Int) (g cap : Nat) (w : World) (hl : l.length ≤ 1000000) (hc : Nums w g l) (hg : g < w.heap.size) :
    Calls Tryd.prog 26 #[.agg #[.int .i64 a, .slice (some ⟨g, 0, none⟩) l.length cap]] w fun e w' => e = .returned (.int .i64 (if drvOk a l then 0 else 2)) ∧ Below w.heap.size w w' := by
  have HB := Lib.hid (below_al w (.cells #[.int .i64 a, .slice (some ⟨g, 0, none⟩) l.length cap] 50))
  have HC := Lib.hid (contains_any l g cap _ hl (hc.below HB.out hg))
  clear hc
  generalize hz : (if drvOk a l then (0 : Int) else 2) = z
  have HZ := Lib.hid hz
  clear hz
  by_cases h1 : 0 ≤ a
  · have d1 : decide (a < 0) = false := by simp; omega
    by_cases h2 : a ≤ 1000000
    · have d2 : decide (1000000 < a) = false := by simp; omega
      by_cases h3 : 1 ≤ l.length
      · have d3 : decide ((l.length : Int) < 1) = false := by simp; omega
        by_cases h4 : l.length ≤ 64
        · have d4 : decide (64 < (l.length : Int)) = false := by simp; omega
          have HO := Lib.hid (drvOk_in h1 h2 h3 h4)
          by_cases h5 : ∃ x ∈ l, x < 0 ∨ 128 < x
          · rw [decide_eq_true h5] at HC
            have HR : Hid (¬ drvOk a l) := Lib.hid (fun h => HO.out.1 h h5)
            clear h5
            go_enter Tryd.func26, Tryd.ntmps26
            go_wp2_with (go_at_call 50; refine HC.out.mono ?_; rintro e w' ⟨rfl, rfl⟩)
            go_ret
            exact ⟨ret_int (by rw [← HZ.out, if_neg HR.out]), HB.out⟩
          · rw [decide_eq_false h5] at HC
            have HR : Hid (drvOk a l) := Lib.hid (HO.out.2 h5)
            clear h5
            go_enter Tryd.func26, Tryd.ntmps26
            go_wp2_with (go_at_call 50; refine HC.out.mono ?_; rintro e w' ⟨rfl, rfl⟩)
            go_ret
            exact ⟨ret_int (by rw [← HZ.out, if_pos HR.out]), HB.out⟩
        · have d4 : decide (64 < (l.length : Int)) = true := by simp; omega
          have HR : Hid (¬ drvOk a l) := Lib.hid (fun h => h4 h.2.2.2.1)
          go_enter Tryd.func26, Tryd.ntmps26
          go_wp2_with fail
          go_ret
          exact ⟨ret_int (by rw [← HZ.out, if_neg HR.out]), HB.out⟩
      · have d3 : decide ((l.length : Int) < 1) = true := by simp; omega
        have HR : Hid (¬ drvOk a l) := Lib.hid (fun h => h3 h.2.2.1)
        go_enter Tryd.func26, Tryd.ntmps26
        go_wp2_with fail
        go_ret
        exact ⟨ret_int (by rw [← HZ.out, if_neg HR.out]), HB.out⟩
    · have d2 : decide (1000000 < a) = true := by simp; omega
      have HR : Hid (¬ drvOk a l) := Lib.hid (fun h => h2 h.2.1)
      go_enter Tryd.func26, Tryd.ntmps26
      go_wp2_with fail
      go_ret
      exact ⟨ret_int (by rw [← HZ.out, if_neg HR.out]), HB.out⟩
  · have d1 : decide (a < 0) = true := by simp; omega
    have HR : Hid (¬ drvOk a l) := Lib.hid (fun h => h1 h.1)
    go_enter Tryd.func26, Tryd.ntmps26
    go_wp2_with fail
    go_ret
    exact ⟨ret_int (by rw [← HZ.out, if_neg HR.out]), HB.out⟩
end Go.Proofs.YtjjnjglbmneecaaDoor
