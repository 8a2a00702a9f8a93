/- The contracts of the reference's sets (temporef05): Has, Of, List, Len, Lowest. No condition. -/
import Derived.Test.YthbbnhhofkadgaaDoorBhs
import Derived.Test.YthbbnhhofkadgaaDoorBli
namespace Go.Proofs.YthbbnhhofkadgaaDoor
open Go Go.RowKit
set_option maxHeartbeats 400000 in
theorem sq_t (i : Nat) (hi : i < 64) (w : World) : Calls Tryd.prog 77 #[.int .i64 i] w fun e w' => e = .returned (.bool true) ∧ w = w' := by
  have h1 : decide ((i : Int) < 64) = true := by simp; omega
  have h0 : 0 ≤ (i : Int) := by omega
  go_enter Tryd.func77, Tryd.ntmps77
  go_wp2
  go_ret
  exact ⟨rfl, rfl⟩
theorem rhas_key (s i : Nat) : ((s : Int) / 2 ^ i % 2 == 1) = s.testBit i := by
  have e : ((s : Int) / 2 ^ i % 2) = ((s / 2 ^ i % 2 : Nat) : Int) := by
    have : ((2 : Int) ^ i) = ((2 ^ i : Nat) : Int) := by simp
    rw [this]; omega
  rw [e, Nat.testBit_eq_decide_div_mod_eq]
  rw [Bool.eq_iff_iff]
  simp only [beq_iff_eq, decide_eq_true_eq]
  omega
set_option maxHeartbeats 400000 in
theorem rhas_any (s i : Nat) (_ : s < 18446744073709551616) (hi : i < 64) (w : World) : Calls Tryd.prog 78 #[.int .u64 s, .int .i64 i] w fun e w' => e = .returned (.bool (s.testBit i)) ∧ w = w' := by
  have HK := Lib.hid (rhas_key s i)
  have HI := Lib.hid (sq_t i hi)
  have h0 : 0 ≤ (i : Int) := by omega
  go_enter Tryd.func78, Tryd.ntmps78
  go_wp2_with (go_at_call 77; refine (HI.out _).mono ?_; rintro e w' ⟨rfl, rfl⟩)
  go_ret
  exact ⟨ret_bool HK.out, rfl⟩
/-- The squares at which t holds, of the first k, in order. -/
def sqL (t : Nat → Bool) : Nat → List Int
  | 0 => []
  | k + 1 => sqL t k ++ if t k = true then [(k : Int)] else []
theorem sqL_len (t : Nat → Bool) (k : Nat) : (sqL t k).length = cnT t k := by
  induction k with
  | zero => rfl
  | succ k ih => simp only [sqL, cnT]; rw [List.length_append, ih]; split <;> rfl
theorem cnT_le (t : Nat → Bool) (k : Nat) : cnT t k ≤ k := by
  induction k with
  | zero => exact Nat.le_refl _
  | succ k ih => simp only [cnT]; split <;> omega
def Vi (l : List Int) : List Value := l.map fun y => Value.int .i64 y
theorem Vi_snoc (l : List Int) (x : Int) : Vi l ++ [.int .i64 x] = Vi (l ++ [x]) := by unfold Vi; simp
/-- The value of a slice of numbers that is made here, and what lies behind it. -/
structure Row (w0 : World) (w : World) (v : Value) (l : List Int) : Prop where
  own : w.ownsRow w0.heap.size 3 1 v l.length (Vi l)
  bel : Below w0.heap.size w0 w
theorem Row.app {w0 w w' : World} {v v' : Value} {l : List Int} {x : Int} (h : Row w0 w v l) (ho : w'.ownsRow w0.heap.size 3 1 v' (l.length + 1) (Vi l ++ [.int .i64 x])) (hg : (w.alloc (.cells #[.int .i64 x] 3)).grownBy w' v.ownBlock) : Row w0 w' v' (l ++ [x]) := by
  refine ⟨by rw [List.length_append, ← Vi_snoc]; exact ho, ?_⟩
  exact (h.bel.alloc h.bel.size _).grown hg (by simp; have := h.bel.size; omega) (fun k hk => (h.own.lt k hk).1)
set_option maxRecDepth 100000 in
set_option maxHeartbeats 1000000 in
theorem rlist_any (s : Nat) (hs : s < 18446744073709551616) (w : World) :
    Calls Tryd.prog 76 #[.int .u64 s] w fun e W' => ∃ v, e = .returned v ∧ Row w W' v (sqL (fun i => s.testBit i) 64) := by
  obtain ⟨i0, hi0, hz0, hz1, hz2⟩ := info_parts infoInt
  have Hs := Lib.hid hs
  clear hs
  go_enter Tryd.func76, Tryd.ntmps76
  go_wp2_with fail
  go_loopg [3, 4] 64 (fun mm o i wr => ∃ k : Nat, mm = 64 - k ∧ k ≤ 64 ∧ i = .int .i64 k ∧ Row w wr o (sqL (fun i => s.testBit i) k))
  case atStart => exact ⟨0, rfl, by omega, rfl, ⟨World.ownsRow_nil _ _ _ _, Below.refl _ _⟩⟩
  case round =>
    obtain ⟨k, hkm, hk, rfl, hr⟩ := hrel
    have HK := Lib.hid hkm
    clear hkm
    by_cases hlt : k < 64
    · have hdi : decide ((k : Int) < 64) = true := by simp; omega
      have HH := Lib.hid (fun W : World => rhas_any s k Hs.out hlt W)
      have HL : Hid (sqL (fun i => s.testBit i) (k + 1) = sqL (fun i => s.testBit i) k ++ if s.testBit k = true then [(k : Int)] else []) := Lib.hid rfl
      have hlen : (sqL (fun i => s.testBit i) k).length ≤ 64 := by rw [sqL_len]; have := cnT_le (fun i => s.testBit i) k; omega
      have hsz := hr.bel.size
      by_cases hb : s.testBit k = true
      · rw [hb] at HH
        have HL2 := Lib.hid (HL.out.trans (by rw [if_pos hb]))
        generalize sqL (fun i => s.testBit i) k = l at *
        have Hr := Lib.hid hr
        clear hb HL hr
        go_wp2_with (first
          | (go_at_call 78; refine (HH.out _).mono ?_; rintro e w' ⟨rfl, rfl⟩)
          | (at_builtin; refine wpList_append_own _ rfl _ _ 56 rfl w.heap.size 3 i0 (.int .i64 0) 1 8 Tryd.underlying56 hi0 hz0 hz1 hz2 rfl (by decide) _ _ _ rfl (Hr.out.own.alloc _) ⟨wr.heap.size, 0, none⟩ 1 1 [.int .i64 k] rfl rfl (cell_one_new _ _ _) (by simp [Value.oneCell']) (by unfold maxLen; omega) (by omega) (by simp; omega) ?_; intro v' w5 hown' hgrow _; have HO := Lib.hid hown'; have HG := Lib.hid hgrow; clear hown' hgrow))
        go_roundg (64 - (k + 1))
        case measure => have := HK.out; omega
        case rel => exact ⟨k + 1, rfl, by omega, by go_num, by rw [HL2.out]; exact Hr.out.app HO.out HG.out⟩
      · have hb' : s.testBit k = false := by simpa using hb
        rw [hb'] at HH
        have HL2 := Lib.hid (HL.out.trans (by rw [if_neg hb, List.append_nil]))
        have Hr := Lib.hid hr
        clear hb hb' HL hr
        go_wp2_with (go_at_call 78; refine (HH.out _).mono ?_; rintro e w' ⟨rfl, rfl⟩)
        go_roundg (64 - (k + 1))
        case measure => have := HK.out; omega
        case rel => exact ⟨k + 1, rfl, by omega, by go_num, by rw [HL2.out]; exact Hr.out⟩
    · have hk64 : k = 64 := by omega
      subst hk64
      go_wp2_with fail
      go_ret
      exact ⟨_, rfl, hr⟩
theorem Row.shape {w0 w : World} {v : Value} {l : List Int} (h : Row w0 w v l) : (v = .slice none 0 0 ∧ l = []) ∨ ∃ g cap, v = .slice (some ⟨g, 0, none⟩) l.length cap ∧ ∀ j, j < l.length → w.cell? ⟨g, j, none⟩ = some (.int .i64 (l.getD j 0)) := by
  rcases h.own.2 with ⟨rfl, h0⟩ | ⟨g, cap, cur, rfl, _⟩
  · exact .inl ⟨rfl, List.eq_nil_of_length_eq_zero h0⟩
  · refine .inr ⟨g, cap, rfl, fun j hj => ?_⟩
    rw [h.own.cellAt j (by omega)]
    unfold Vi
    rw [List.getElem?_map, List.getElem?_eq_getElem hj]
    simp [hj]
set_option maxHeartbeats 400000 in
theorem rlen_any (s : Nat) (hs : s < 18446744073709551616) (w : World) :
    Calls Tryd.prog 53 #[.int .u64 s] w fun e W' => e = .returned (.int .i64 (cnT (fun i => s.testBit i) 64 : Nat)) ∧ Below w.heap.size w W' := by
  have HC := Lib.hid (rlist_any s hs w)
  have HL := Lib.hid (sqL_len (fun i => s.testBit i) 64)
  generalize sqL (fun i => s.testBit i) 64 = l at *
  generalize cnT (fun i => s.testBit i) 64 = n at *
  clear hs
  go_enter Tryd.func53, Tryd.ntmps53
  go_wp2_with (go_at_call 76; refine HC.out.mono ?_; rintro e w1 ⟨v, rfl, hr⟩; rcases hr.shape with ⟨rfl, hl⟩ | ⟨g, cap, rfl, _⟩)
  · go_ret
    exact ⟨ret_int (by rw [← HL.out, hl]; rfl), hr.bel⟩
  · go_ret
    exact ⟨ret_int (by rw [← HL.out]), hr.bel⟩
set_option maxHeartbeats 400000 in
theorem rlow_any (s : Nat) (hs : s < 18446744073709551616) (w : World) (x : Int) (r : List Int) (hl : sqL (fun i => s.testBit i) 64 = x :: r) :
    Calls Tryd.prog 54 #[.int .u64 s] w fun e W' => e = .returned (.tuple #[.int .i64 x, .bool true]) ∧ Below w.heap.size w W' := by
  have HC := Lib.hid (rlist_any s hs w)
  rw [hl] at HC
  clear hs hl
  go_enter Tryd.func54, Tryd.ntmps54
  go_wp2_with (go_at_call 76; refine HC.out.mono ?_; rintro e w1 ⟨v, rfl, hr⟩; obtain ⟨g, cap, rfl, hc⟩ := (hr.shape.resolve_left (fun h => by cases h.2)); have c0 := hc 0 (by simp); simp only [List.getD_cons_zero] at c0; have hn : decide (((x :: r).length : Int) = 0) = false := (by simp; omega); clear hc)
  go_ret2
  exact ⟨rfl, hr.bel⟩
/-- The sum of the powers. -/
def sumL (l : List Int) : Nat := (l.map fun x => 2 ^ x.toNat).sum
theorem sumL_snoc (l : List Int) (k : Nat) : sumL (l ++ [(k : Int)]) = sumL l + 2 ^ k := by unfold sumL; simp
theorem sumL_sqL (t : Nat → Bool) (k : Nat) : sumL (sqL t k) = bsT t k := by
  induction k with
  | zero => rfl
  | succ k ih =>
    simp only [sqL, bsT]
    by_cases h : t k = true
    · rw [if_pos h, if_pos h, sumL_snoc, ih]
    · rw [if_neg h, if_neg h, List.append_nil, ih]; rfl
theorem sqL_at (t : Nat → Bool) (n : Nat) : ∀ j, j < (sqL t n).length → ∃ k, k < n ∧ (sqL t n).getD j 0 = k ∧ (sqL t n).take j = sqL t k ∧ (sqL t n).take (j + 1) = sqL t (k + 1) := by
  induction n with
  | zero => intro j hj; simp [sqL] at hj
  | succ n ih =>
    intro j hj
    by_cases h : t n = true
    · have e : sqL t (n + 1) = sqL t n ++ [(n : Int)] := by simp only [sqL]; rw [if_pos h]
      rw [e] at hj ⊢
      rw [List.length_append] at hj
      simp only [List.length_cons, List.length_nil] at hj
      by_cases hj2 : j < (sqL t n).length
      · obtain ⟨k, h1, h2, h3, h4⟩ := ih j hj2
        refine ⟨k, by omega, ?_, ?_, ?_⟩
        · rw [List.getD_eq_getElem?_getD, List.getElem?_append_left hj2, ← List.getD_eq_getElem?_getD]; exact h2
        · rw [List.take_append_of_le_length (by omega)]; exact h3
        · rw [List.take_append_of_le_length (by omega)]; exact h4
      · have hj3 : j = (sqL t n).length := by omega
        subst hj3
        refine ⟨n, by omega, ?_, ?_, ?_⟩
        · rw [List.getD_eq_getElem?_getD, List.getElem?_append_right (Nat.le_refl _)]; simp
        · rw [List.take_append_of_le_length (Nat.le_refl _), List.take_length]
        · rw [List.take_of_length_le (by simp)]; exact e.symm
    · have e : sqL t (n + 1) = sqL t n := by simp only [sqL]; rw [if_neg h, List.append_nil]
      rw [e] at hj ⊢
      obtain ⟨k, h1, h2, h3, h4⟩ := ih j hj
      exact ⟨k, by omega, h2, h3, h4⟩
theorem add_key {s k : Nat} (hk : k < 64) (hs : s < 2 ^ k) : IntKind.u64.wrap ((s : Int) + IntKind.u64.wrap (2 ^ k : Int)) = ((s + 2 ^ k : Nat) : Int) := by
  rw [wrap_pow hk]
  have h2 : 2 ^ k ≤ 2 ^ 63 := Nat.pow_le_pow_right (by decide) (by omega)
  have h3 : (2 : Nat) ^ 63 = 9223372036854775808 := by decide
  rw [show ((s : Int) + ((2 ^ k : Nat) : Int)) = ((s + 2 ^ k : Nat) : Int) by omega, wrapNv, Nat.mod_eq_of_lt (by omega)]
set_option maxRecDepth 100000 in
set_option maxHeartbeats 1000000 in
theorem rof_any (t : Nat → Bool) (w : World) (v : Value) (hv : (v = .slice none 0 0 ∧ sqL t 64 = []) ∨ ∃ g cap, v = .slice (some ⟨g, 0, none⟩) (sqL t 64).length cap ∧ ∀ j, j < (sqL t 64).length → w.cell? ⟨g, j, none⟩ = some (.int .i64 ((sqL t 64).getD j 0))) :
    Calls Tryd.prog 57 #[v] w fun e w' => e = .returned (.tuple #[.int .u64 (bsT t 64 : Nat), .int .i64 0]) ∧ w = w' := by
  have hS := sumL_sqL t 64
  have hat := sqL_at t 64
  have hle : (sqL t 64).length ≤ 64 := by rw [sqL_len]; exact cnT_le t 64
  rcases hv with ⟨rfl, h0⟩ | ⟨g, cap, rfl, hc⟩
  · rw [h0] at hS
    have HS := Lib.hid hS
    clear hat hle h0 hS
    go_enter Tryd.func57, Tryd.ntmps57
    go_wp2_with fail
    go_loopg [4, 5] 0 (fun mm sv i wr => mm = 0 ∧ sv = .int .u64 0 ∧ i = .int .i64 0 ∧ w = wr)
    case atStart => exact ⟨rfl, rfl, rfl, rfl⟩
    case round =>
      obtain ⟨_, rfl, rfl, rfl⟩ := hrel
      go_wp2_with fail
      go_ret2
      exact ⟨by rw [← HS.out]; rfl, rfl⟩
  · obtain ⟨l, hl⟩ : ∃ l, sqL t 64 = l := ⟨_, rfl⟩
    rw [hl] at hS hat hle hc
    rw [hl]
    have HS := Lib.hid hS
    have Hat := Lib.hid hat
    have Hc := Lib.hid hc
    clear hS hat hc hl
    go_enter Tryd.func57, Tryd.ntmps57
    go_wp2_with fail
    go_loopg [4, 5] l.length (fun mm sv i wr => ∃ j : Nat, mm = l.length - j ∧ j ≤ l.length ∧ i = .int .i64 j ∧ sv = .int .u64 (sumL (l.take j) : Nat) ∧ w = wr)
    case atStart => exact ⟨0, rfl, by omega, rfl, rfl, rfl⟩
    case round =>
      obtain ⟨j, hkm, hj, rfl, rfl, rfl⟩ := hrel
      have HK := Lib.hid hkm
      clear hkm
      by_cases hlt : j < l.length
      · have hdi : decide ((j : Int) < (l.length : Int)) = true := by simp; omega
        have c1 := Hc.out j hlt
        obtain ⟨k, hk, h2, h3, h4⟩ := Hat.out j hlt
        rw [h2] at c1
        have e1 : sumL (l.take j) = bsT t k := by rw [h3, sumL_sqL]
        have e2 : sumL (l.take (j + 1)) = bsT t (k + 1) := by rw [h4, sumL_sqL]
        have hlt2 := bsT_lt t k
        have tk : t k = true := by
          cases h : t k with
          | true => rfl
          | false =>
            exfalso
            have q : sqL t (k + 1) = sqL t k := by simp only [sqL]; rw [if_neg (by rw [h]; exact Bool.false_ne_true), List.append_nil]
            rw [q, ← h3] at h4
            have := congrArg List.length h4
            rw [List.length_take, List.length_take] at this
            omega
        have e3 : bsT t (k + 1) = bsT t k + 2 ^ k := by simp only [bsT]; rw [if_pos tk]
        rw [e1]
        obtain ⟨s, hs⟩ : ∃ s, bsT t k = s := ⟨_, rfl⟩
        rw [hs] at e3 hlt2
        rw [hs]
        have s64 : s < 18446744073709551616 := Nat.lt_trans hlt2 (pow_lt64 hk)
        have HH := Lib.hid (fun W : World => rhas_any s k s64 hk W)
        rw [Nat.testBit_lt_two_pow hlt2] at HH
        have HA := Lib.hid (add_key hk hlt2)
        have HN := Lib.hid (e2.trans e3)
        have HQ := Lib.hid (fun W : World => sq_t k hk W)
        have s0 : 0 ≤ (s : Int) := by omega
        have s1 : (s : Int) ≤ 18446744073709551615 := by omega
        have k0 : 0 ≤ (k : Int) := by omega
        have k1 : (k : Int) ≤ 63 := by omega
        clear h2 h3 h4 e1 e2 e3 hlt2 hs tk s64
        go_wp2_with (first
          | (go_at_call 77; refine (HQ.out _).mono ?_; rintro e w' ⟨rfl, rfl⟩)
          | (go_at_call 78; refine (HH.out _).mono ?_; rintro e w' ⟨rfl, rfl⟩))
        go_roundg (l.length - (j + 1))
        case measure => have := HK.out; omega
        case rel => exact ⟨j + 1, rfl, by omega, by go_num, by rw [HN.out, ← HA.out], rfl⟩
      · have hj2 : j = l.length := by omega
        subst hj2
        go_wp2_with fail
        go_ret2
        exact ⟨by rw [← HS.out, List.take_length]; rfl, rfl⟩
end Go.Proofs.YthbbnhhofkadgaaDoor
