/- The law MaterialBoards. Conditions: as in Env. -/
import Derived.Test.YtcnflmbnnobocaaDoorMcm
namespace Go.Proofs.YtcnflmbnnobocaaDoor
open Go Go.RowKit
/-- The turned board after k squares. -/
def trn (b : List Int) : Nat → List Int
  | 0 => zero64
  | k + 1 => (trn b k).set (63 - k) (swp (b.getD k 0))
theorem trn_len (b : List Int) (k : Nat) : (trn b k).length = 64 := by
  induction k with
  | zero => rfl
  | succ k ih => simp [trn, ih]
theorem trn_get (b : List Int) (k : Nat) (hk : k ≤ 64) : ∀ i, i < 64 → (trn b k).getD i 0 = if 63 - i < k then swp (b.getD (63 - i) 0) else 0 := by
  induction k with
  | zero => intro i hi; rw [if_neg (by omega)]; exact (by decide : ∀ i, i < 64 → zero64.getD i 0 = 0) i hi
  | succ k ih =>
    intro i hi
    have h := ih (by omega) i hi
    have hl := trn_len b k
    rw [List.getD_eq_getElem?_getD] at h
    simp only [trn, List.getD_eq_getElem?_getD, List.getElem?_set]
    by_cases e : 63 - k = i
    · rw [if_pos e, if_pos (by omega), if_pos (by omega)]
      have : k = 63 - i := by omega
      subst this
      simp
    · rw [if_neg e, h]
      by_cases e2 : 63 - i < k
      · rw [if_pos e2, if_pos (by omega), List.getD_eq_getElem?_getD]
      · rw [if_neg e2, if_neg (by omega)]
theorem Rch.sub {w0 w : World} {hs : List (Nat × TypeId × List Int)} (h : Rch w0 hs w) (hs' : List (Nat × TypeId × List Int)) (hsub : ∀ x ∈ hs', x ∈ hs) : Rch w0 hs' w := ⟨h.env, h.bel, fun x hx => h.held x (hsub x hx)⟩
theorem trn_zero (b : List Int) (k : Nat) (hk : k < 64) (h : swp (b.getD k 0) = 0) : trn b (k + 1) = trn b k := by
  show (trn b k).set (63 - k) _ = _
  rw [h]
  have hg := trn_get b k (by omega) (63 - k) (by omega)
  rw [if_neg (by omega)] at hg
  have hl := trn_len b k
  have : (trn b k)[63 - k]'(by omega) = 0 := by
    rw [List.getD_eq_getElem?_getD, List.getElem?_eq_getElem (by omega)] at hg
    exact hg
  rw [← this]
  exact List.set_getElem_self _
theorem trn_all (b : List Int) (hb : b.length = 64) : trn b 64 = (b.map swp).reverse := by
  have h1 : (trn b 64).length = 64 := trn_len b 64
  apply List.ext_getElem?
  intro i
  by_cases hi : i < 64
  · have h := trn_get b 64 (by omega) i hi
    rw [if_pos (by omega)] at h
    have h2 : (trn b 64)[i]? = some ((trn b 64).getD i 0) := by simp [h1, hi]
    rw [h2, h, List.getElem?_reverse (by simp [hb]; exact hi)]
    simp [hb]
    have : 64 - 1 - i < b.length := by omega
    rw [List.getElem?_eq_getElem this]
    have e : 64 - 1 - i = 63 - i := by omega
    simp
  · rw [List.getElem?_eq_none (by omega), List.getElem?_eq_none (by simp [hb]; omega)]
/-- The halves exchanged, after k places. -/
def hlf (v : List Int) : Nat → List Int
  | 0 => zero10
  | k + 1 => (hlf v k).set k (v.getD ((k + 5) % 10) 0)
theorem hlf_len (b : List Int) (k : Nat) : (hlf b k).length = 10 := by
  induction k with
  | zero => rfl
  | succ k ih => simp [hlf, ih]
theorem hlf_get (v : List Int) (k : Nat) (hk : k ≤ 10) : ∀ i, i < 10 → (hlf v k).getD i 0 = if i < k then v.getD ((i + 5) % 10) 0 else 0 := by
  induction k with
  | zero => intro i hi; rw [if_neg (by omega)]; exact (by decide : ∀ i, i < 10 → zero10.getD i 0 = 0) i hi
  | succ k ih =>
    intro i hi
    have h := ih (by omega) i hi
    have hl := hlf_len v k
    rw [List.getD_eq_getElem?_getD] at h
    simp only [hlf, List.getD_eq_getElem?_getD, List.getElem?_set]
    by_cases e : k = i
    · subst e
      rw [if_pos rfl, if_pos (by omega), if_pos (by omega)]
      simp
    · rw [if_neg e, h]
      by_cases e2 : i < k
      · rw [if_pos e2, if_pos (by omega), List.getD_eq_getElem?_getD]
      · rw [if_neg e2, if_neg (by omega)]
theorem hlf_all (v : List Int) : hlf v 10 = halfL v :=
  ext10 (hlf_len v 10) (by simp [halfL]) fun j hj => by
    rw [hlf_get v 10 (by omega) j hj, if_pos hj]
    simp [halfL, List.getD_eq_getElem?_getD, hj]
theorem plc_down {p : Int} (h0 : 0 < p) (h1 : p ≤ 12) (h2 : 0 < p % 6) : ∃ k : Nat, k < 10 ∧ plc p = (k : Int) + 1 ∧ p % 6 - 1 + 5 * (p / 6) = k := by
  have key : ∀ q : Nat, q < 13 → 0 < (q : Int) → 0 < (q : Int) % 6 → plc q = ((plc q - 1).toNat : Int) + 1 ∧ (plc q - 1).toNat < 10 ∧ (q : Int) % 6 - 1 + 5 * ((q : Int) / 6) = ((plc q - 1).toNat : Int) := by decide
  obtain ⟨q, rfl⟩ := Int.eq_ofNat_of_zero_le (Int.le_of_lt h0)
  obtain ⟨a, b, c⟩ := key q (by omega) h0 h2
  exact ⟨_, b, a, c⟩
theorem plc_none {p : Int} (h0 : 0 ≤ p) (h1 : p ≤ 12) (h : ¬ (0 < p ∧ 0 < p % 6)) : plc p = 0 := by
  have key : ∀ q : Nat, q < 13 → ¬ (0 < (q : Int) ∧ 0 < (q : Int) % 6) → plc q = 0 := by decide
  obtain ⟨q, rfl⟩ := Int.eq_ofNat_of_zero_le h0
  exact key q (by omega) h
theorem Fl.sq {fr st : Int} {b : List Int} {at_ : Int} {m : Nat} {c : Nat → Int} (h : Fl fr st b at_ m c) (i : Nat) : 0 ≤ b.getD i 0 ∧ b.getD i 0 ≤ 12 := by
  by_cases hi : i < 64
  · exact h.rng _ (List.mem_of_getElem? (i := i) (by simp [h.len, hi]))
  · rw [List.getD_eq_getElem?_getD, List.getElem?_eq_none (by rw [h.len]; omega)]; decide
theorem Fl.turn {fr st : Int} {b : List Int} {at_ : Int} {m : Nat} {l : List Int} (h : Fl fr st b at_ m (fun j => l.getD j 0)) (hl : l.length = 10) : matV (trn b 64) = hlf l 10 := by
  rw [trn_all b h.len, matV_turn b h.rng, hlf_all, h.mat hl]
set_option maxRecDepth 100000 in
set_option linter.unusedSimpArgs false in
set_option maxHeartbeats 4000000 in
theorem boards_any (n : List Int) (hn : Ten n) (fr st sq : Int) (f0 : 0 ≤ fr) (f1 : fr ≤ 255) (s0 : 0 ≤ st) (s1 : st ≤ 255) (q0 : 0 ≤ sq) (q1 : sq ≤ 255) (w : World) (hw : Env w) : Calls Tryd.prog 8 #[.agg (intsK .u8 n), .int .u8 fr, .int .u8 st, .int .u8 sq] w fun e w' => e = .returned (.bool true) ∧ Below w.heap.size w w' := by
  have Hn := Lib.hid hn
  have He := Lib.hid hw
  have hR := (Rch.start hw).alloc (.cells (intsK .u8 n) 50)
  have hP : Holds (w.alloc (.cells (intsK .u8 n) 50)) w.heap.size .u8 50 n := Holds.new w .u8 50 n
  have i1 : (Tryd.prog.info? 50).map (·.size) = some n.length := by rw [hn.1]; kernel_rfl
  clear hn hw
  go_enter Tryd.func8, Tryd.ntmps8
  go_wp2_with (first
      | (with_reducible refine wpl_load (g := w.heap.size) (k := .u8) (t := 50) (l := n) hP rfl 50 _ rfl rfl Tryd.underlying50 i1 ?_)
      | (go_at_call 24; refine (valid_P hR Hn.out).mono ?_; clear hR; rintro e wa ⟨v, lv, kv, rfl, hR⟩; have iv : (Tryd.prog.info? 25).map (·.size) = some v.length := (by rw [lv]; kernel_rfl); have hz : v.length = zero10.length := lv)
      | (with_reducible refine wpl_storeAt' hR 25 zero10 v (by with_unfolding_all rfl) (by simp) rfl 25 _ _ rfl rfl rfl hz (by kernel_rfl) ?_; clear hR; intro w2 z5 y5 hR)
      | (with_reducible refine wpl_loadG hR.hd (by with_unfolding_all rfl) 25 _ rfl rfl Tryd.underlying25 iv ?_)
      | (go_at_call 25; refine (filled_P hR lv kv fr st f0 f1 s0 s1).mono ?_; clear hR; rintro e w1 ⟨b, at_, m, hF, hm, rfl, hR⟩; have hb64 := Lib.hid hF.len; have hz64 : b.length = zero64.length := hF.len; have HF := Lib.hid hF; clear hF)
      | (with_reducible refine wpl_storeAt' hR 23 zero64 b (by with_unfolding_all rfl) (by simp) rfl 23 _ _ rfl rfl rfl hz64 (by kernel_rfl) ?_; clear hR; intro w3 z6 y6 hR))
  generalize hg5 : wa.heap.size = g5 at *
  generalize hg6 : w1.heap.size = g6 at *
  have hne : g5 ≠ g6 := y6 (g5, 25, v) (by simp)
  clear hg5 hg6 y5 y6 hz hz64 iv i1 hP hm
  have HM : Hid (matV b = v) := Lib.hid (HF.out.mat lv)
  have lb : b.length = 64 := hb64.out
  have him : (Tryd.prog.info? 23).map (·.size) = some (b.map (Value.int .i64)).length := by rw [List.length_map, lb]; kernel_rfl
  have hiv : (Tryd.prog.info? 25).map (·.size) = some (v.map (Value.int .i64)).length := by rw [List.length_map, lv]; kernel_rfl
  have hE : ∀ w : World, (Op.equalIn 10000 25 (.agg (ints v)) (.agg (v.map (Value.int .i64)).toArray)).run Tryd.prog w = .ok true w := eqOne v lv
  refine wp_region_noPanic ?_
  refine wp_region_held_drew (S := fun w' => Rch w _ w') (by kernel_rfl) (hR.drew) (fun hH => ?_)
  refine takeD 0 (some 24) rfl rfl (by kernel_rfl) (by kernel_rfl) (by kernel_rfl) (fun _ _ _ h => h) (yieldsIf_load_mid (by rfl) _ _ rfl _ _ rfl _ _ (fun w h => h.hd.range) Tryd.underlying23 rfl him) hH ?_
  try simp only [Act.put, List.setIfInBounds_toArray, List.set_cons_zero, List.set_cons_succ]
  refine takeD 2 (some 26) rfl rfl (by kernel_rfl) (by kernel_rfl) (by kernel_rfl) (fun _ _ _ h => h) (yieldsIf_load_mid (by rfl) _ _ rfl _ _ rfl _ _ (fun w h => h.tl.hd.range) Tryd.underlying25 rfl hiv) hH ?_
  try simp only [Act.put, List.setIfInBounds_toArray, List.set_cons_zero, List.set_cons_succ]
  refine wpAnyH_ready (rs := [1]) (by kernel_rfl) (by simp) ?_
  refine AllReadyH.cons rfl (fun K hK => ?_) AllReadyH.nil
  go_simp
  go_at_call 11; refine (of_R hH b lb).mono ?_; clear hH; rintro e w' ⟨rfl, hH⟩; rw [HM.out]
  go_wp2_with fail
  refine hK.out _ _ (hH) (fun hH => ?_)
  clear hK K
  try simp only [Act.put, List.setIfInBounds_toArray, List.set_cons_zero, List.set_cons_succ]
  refine takeD 3 (some 27) (v := ?_) rfl rfl (by kernel_rfl) (by kernel_rfl) (by kernel_rfl) (fun _ _ _ h => h) (Or.inl ⟨by rfl, ?_⟩) hH ?_
  rotate_left
  · intro w hSw; go_simp; try with_reducible rfl
  try simp only [Act.put, List.setIfInBounds_toArray, List.set_cons_zero, List.set_cons_succ]
  refine wpAnyH_done (by kernel_rfl) ?_ _
  refine NoPanic.normal ?_
  go_wp2_with fail
  clear hR
  have hR := hH.held_new 23 zero64
  have z7 := hH.bel.size
  have y7 : ∀ x ∈ [(g6, 23, b), (g5, 25, v)], x.1 ≠ w'.heap.size := fun x hx e => by have := (hH.held x hx).lt; omega
  clear hH
  generalize w'.heap.size = g7 at *
  have n76 : g6 ≠ g7 := y7 (g6, 23, b) (by simp)
  have n75 : g5 ≠ g7 := y7 (g5, 25, v) (by simp)
  have Y7 := Lib.hid y7
  have Z7 := Lib.hid z7
  have HIM := Lib.hid him
  have HIV := Lib.hid hiv
  have HE := Lib.hid hE
  clear y7 z7 him hiv hE lb
  go_loopg [12] 64 (fun m i wr => ∃ k : Nat, m = 64 - k ∧ k ≤ 64 ∧ i = .int .i64 k ∧ Rch w [(g7, 23, trn b k), (g6, 23, b), (g5, 25, v)] wr)
  case atStart => exact ⟨0, rfl, by omega, rfl, hR⟩
  case round =>
    obtain ⟨k, hkm, hk, rfl, hRk⟩ := hrel
    have HK := Lib.hid hkm
    clear hkm hR
    by_cases hlt : k < 64
    · have hdi : decide ((k : Int) < 64) = true := by simp; omega
      have c1 : wr.cell? ⟨g6, k, none⟩ = some (.int .i64 (b.getD k 0)) := hRk.tl.hd.cell k (by rw [hb64.out]; exact hlt)
      have c2 := hRk.hd.cell (63 - k) (by rw [trn_len]; omega)
      have c3 := hRk.hd.frozen (63 - k)
      have t1 : (63 - (k : Int)).toNat = 63 - k := by omega
      have t2 : 0 ≤ 63 - (k : Int) := by omega
      have t3 : 63 - (k : Int) < 64 := by omega
      have hp := HF.out.sq k
      have HT : Hid (trn b (k + 1) = (trn b k).set (63 - k) (swp (b.getD k 0))) := Lib.hid rfl
      have HT0 : Hid (swp (b.getD k 0) = 0 → trn b (k + 1) = trn b k) := Lib.hid (trn_zero b k hlt)
      generalize b.getD k 0 = p at *
      generalize (trn b k).getD (63 - k) 0 = r at *
      have HR := Lib.hid hRk
      clear hRk
      have hc : (6 < p) ∨ (¬ 6 < p ∧ 0 < p) ∨ p = 0 := by omega
      rcases hc with hc | ⟨hc1, hc2⟩ | rfl
      · have d1 : decide (6 < p) = true := by simpa using hc
        have HS : Hid (swp p = p - 6) := Lib.hid (by unfold swp; rw [if_pos hc])
        go_wp2_with fail
        go_roundg (64 - (k + 1))
        case measure => have := HK.out; omega
        case rel => exact ⟨k + 1, rfl, by omega, by go_num, by rw [HT.out, HS.out]; exact HR.out.setc He.out Z7.out Y7.out (63 - k) (p - 6)⟩
      · have d1 : decide (6 < p) = false := by simpa using hc1
        have d2 : decide (0 < p) = true := by simpa using hc2
        have HS : Hid (swp p = p + 6) := Lib.hid (by unfold swp; rw [if_neg hc1, if_pos hc2])
        go_wp2_with fail
        go_roundg (64 - (k + 1))
        case measure => have := HK.out; omega
        case rel => exact ⟨k + 1, rfl, by omega, by go_num, by rw [HT.out, HS.out]; exact HR.out.setc He.out Z7.out Y7.out (63 - k) (p + 6)⟩
      · clear hp
        go_wp2_with fail
        go_roundg (64 - (k + 1))
        case measure => have := HK.out; omega
        case rel => exact ⟨k + 1, rfl, by omega, by go_num, by rw [HT0.out (by decide)]; exact HR.out⟩
    · have hk64 : k = 64 := by omega
      subst hk64
      clear hlt HK
      have HMT : Hid (matV (trn b 64) = hlf v 10) := Lib.hid (HF.out.turn lv)
      have lc : (trn b 64).length = 64 := trn_len b 64
      generalize trn b 64 = c at *
      go_wp2_with fail
      have hR := hRk.held_new 25 zero10
      have z8 := hRk.bel.size
      have y8 : ∀ x ∈ [(g7, 23, c), (g6, 23, b), (g5, 25, v)], x.1 ≠ wr.heap.size := fun x hx e => by have := (hRk.held x hx).lt; omega
      clear hRk
      generalize wr.heap.size = g8 at *
      have Y8 := Lib.hid y8
      have Z8 := Lib.hid z8
      clear y8 z8
      go_loopg [15] 10 (fun m i wq => ∃ k : Nat, m = 10 - k ∧ k ≤ 10 ∧ i = .int .i64 k ∧ Rch w [(g8, 25, hlf v k), (g7, 23, c), (g6, 23, b), (g5, 25, v)] wq)
      case atStart => exact ⟨0, rfl, by omega, rfl, hR⟩
      case round =>
        obtain ⟨k, hkm, hk, rfl, hRk⟩ := hrel
        have HK := Lib.hid hkm
        clear hkm hR
        rename World => wr2
        by_cases hlt : k < 10
        · have hdi : decide ((k : Int) < 10) = true := by simp; omega
          have t0 : ((k : Int) + 5) % 10 = (((k + 5) % 10 : Nat) : Int) := by omega
          have t1 : (k + 5) % 10 < 10 := by omega
          have c1 := hRk.tl.tl.tl.hd.cell ((k + 5) % 10) (by rw [lv]; omega)
          have c2 := hRk.hd.cell k (by rw [hlf_len]; exact hlt)
          have c3 := hRk.hd.frozen k
          have HT : Hid (hlf v (k + 1) = (hlf v k).set k (v.getD ((k + 5) % 10) 0)) := Lib.hid rfl
          generalize v.getD ((k + 5) % 10) 0 = p at *
          generalize (hlf v k).getD k 0 = r at *
          generalize (k + 5) % 10 = q at *
          have HR := Lib.hid hRk
          clear hRk
          go_wp2_with fail
          go_roundg (10 - (k + 1))
          case measure => have := HK.out; omega
          case rel => exact ⟨k + 1, rfl, by omega, by go_num, by rw [HT.out]; exact HR.out.setc He.out Z8.out Y8.out k p⟩
        · have hk10 : k = 10 := by omega
          subst hk10
          clear hlt HK
          have lh : (hlf v 10).length = 10 := hlf_len v 10
          generalize hlf v 10 = h at *
          go_wp2_with fail
          have him : (Tryd.prog.info? 23).map (·.size) = some (c.map (Value.int .i64)).length := by rw [List.length_map, lc]; kernel_rfl
          have hiv : (Tryd.prog.info? 25).map (·.size) = some (h.map (Value.int .i64)).length := by rw [List.length_map, lh]; kernel_rfl
          have hE : ∀ w : World, (Op.equalIn 10000 25 (.agg (ints h)) (.agg (h.map (Value.int .i64)).toArray)).run Tryd.prog w = .ok true w := eqOne h lh
          refine wp_region_noPanic ?_
          refine wp_region_held_drew (S := fun w' => Rch w _ w') (by kernel_rfl) (hRk.drew) (fun hH => ?_)
          refine takeD 0 (some 62) rfl rfl (by kernel_rfl) (by kernel_rfl) (by kernel_rfl) (fun _ _ _ h => h) (yieldsIf_load_mid (by rfl) _ _ rfl _ _ rfl _ _ (fun w h => h.tl.hd.range) Tryd.underlying23 rfl him) hH ?_
          try simp only [Act.put, List.setIfInBounds_toArray, List.set_cons_zero, List.set_cons_succ]
          refine takeD 2 (some 64) rfl rfl (by kernel_rfl) (by kernel_rfl) (by kernel_rfl) (fun _ _ _ h => h) (yieldsIf_load_mid (by rfl) _ _ rfl _ _ rfl _ _ (fun w h => h.hd.range) Tryd.underlying25 rfl hiv) hH ?_
          try simp only [Act.put, List.setIfInBounds_toArray, List.set_cons_zero, List.set_cons_succ]
          refine wpAnyH_ready (rs := [1]) (by kernel_rfl) (by simp) ?_
          refine AllReadyH.cons rfl (fun K hK => ?_) AllReadyH.nil
          go_simp
          go_at_call 11; refine (of_R hH c lc).mono ?_; clear hH; rintro e w' ⟨rfl, hH⟩; rw [HMT.out]
          go_wp2_with fail
          refine hK.out _ _ (hH) (fun hH => ?_)
          clear hK K
          try simp only [Act.put, List.setIfInBounds_toArray, List.set_cons_zero, List.set_cons_succ]
          refine takeD 3 (some 65) (v := ?_) rfl rfl (by kernel_rfl) (by kernel_rfl) (by kernel_rfl) (fun _ _ _ h => h) (Or.inl ⟨by rfl, ?_⟩) hH ?_
          rotate_left
          · intro w hSw; go_simp; try with_reducible rfl
          try simp only [Act.put, List.setIfInBounds_toArray, List.set_cons_zero, List.set_cons_succ]
          refine wpAnyH_done (by kernel_rfl) ?_ _
          refine NoPanic.normal ?_
          obtain ⟨q, hq⟩ : ∃ q : Nat, sq % 64 = q := ⟨(sq % 64).toNat, by omega⟩
          have hq1 : q < 64 := by omega
          have c1 := hH.tl.tl.hd.cell q (by rw [hb64.out]; exact hq1)
          have c2 := hH.tl.tl.hd.frozen q
          have hp := HF.out.sq q
          have hR2 := (hH.sub [(g6, 23, b), (g5, 25, v)] (by intro x hx; simp at hx ⊢; rcases hx with h | h <;> simp [h])).setc He.out z6 (by simp [hne]) q 0
          have lbb : (b.set q 0).length = 64 := by rw [List.length_set]; exact hb64.out
          have HP : Hid (b.getD q 0 = b.getD q 0) := Lib.hid rfl
          have HA : Hid (∀ k : Nat, plc (b.getD q 0) = (k : Int) + 1 → matV (b.set q 0) = v.set k (v.getD k 0 - 1)) := Lib.hid fun k hk => by rw [matV_take b q (by rw [hb64.out]; exact hq1) k hk, HM.out]
          have HB : Hid (plc (b.getD q 0) = 0 → matV (b.set q 0) = v) := Lib.hid fun h0 => by rw [matV_same b q 0 (by rw [hb64.out]; exact hq1) h0 (by decide), HM.out]
          clear hH him hiv hE HP
          generalize b.getD q 0 = p at *
          by_cases hc : 0 < p ∧ 0 < p % 6
          · obtain ⟨hc1, hc2⟩ := hc
            obtain ⟨k, hk, hpl, hix⟩ := plc_down hc1 hp.2 hc2
            have HM2 : Hid (matV (b.set q 0) = v.set k (v.getD k 0 - 1)) := Lib.hid (HA.out k hpl)
            have c3 := hR2.tl.hd.cell k (by rw [lv]; exact hk)
            have c4 := hR2.tl.hd.frozen k
            have hv := okL_get lv kv k
            have hR3 := (hR2.sub [(g5, 25, v), (g6, 23, b.set q 0)] (by intro x hx; simp at hx ⊢; rcases hx with h | h <;> simp [h])).setc He.out z5 (by simp [Ne.symm hne]) k (v.getD k 0 - 1)
            have lvv : (v.set k (v.getD k 0 - 1)).length = 10 := by rw [List.length_set]; exact lv
            have d1 : decide (0 < p) = true := by simpa using hc1
            have d2 : decide (0 < p % 6) = true := by simpa using hc2
            have HR := Lib.hid hR3
            clear hpl hR2 hR3 HA HB
            generalize hx : v.getD k 0 = x at *
            clear hx
            go_wp2_with fail
            have hR3 := HR.out
            generalize v.set k (x - 1) = vv at *
            generalize b.set q 0 = bb at *
            have him : (Tryd.prog.info? 23).map (·.size) = some (bb.map (Value.int .i64)).length := by rw [List.length_map, lbb]; kernel_rfl
            have hiv : (Tryd.prog.info? 25).map (·.size) = some (vv.map (Value.int .i64)).length := by rw [List.length_map, lvv]; kernel_rfl
            have hE : ∀ w : World, (Op.equalIn 10000 25 (.agg (ints vv)) (.agg (vv.map (Value.int .i64)).toArray)).run Tryd.prog w = .ok true w := eqOne vv lvv
            refine wp_region_noPanic ?_
            refine wp_region_held_drew (S := fun w' => Rch w _ w') (by kernel_rfl) (hR3.drew) (fun hH => ?_)
            refine takeD 0 (some 92) rfl rfl (by kernel_rfl) (by kernel_rfl) (by kernel_rfl) (fun _ _ _ h => h) (yieldsIf_load_mid (by rfl) _ _ rfl _ _ rfl _ _ (fun w h => h.tl.hd.range) Tryd.underlying23 rfl him) hH ?_
            try simp only [Act.put, List.setIfInBounds_toArray, List.set_cons_zero, List.set_cons_succ]
            refine takeD 2 (some 94) rfl rfl (by kernel_rfl) (by kernel_rfl) (by kernel_rfl) (fun _ _ _ h => h) (yieldsIf_load_mid (by rfl) _ _ rfl _ _ rfl _ _ (fun w h => h.hd.range) Tryd.underlying25 rfl hiv) hH ?_
            try simp only [Act.put, List.setIfInBounds_toArray, List.set_cons_zero, List.set_cons_succ]
            refine wpAnyH_ready (rs := [1]) (by kernel_rfl) (by simp) ?_
            refine AllReadyH.cons rfl (fun K hK => ?_) AllReadyH.nil
            go_simp
            go_at_call 11; refine (of_R hH bb lbb).mono ?_; clear hH; rintro e w' ⟨rfl, hH⟩; rw [HM2.out]
            go_wp2_with fail
            refine hK.out _ _ (hH) (fun hH => ?_)
            clear hK K
            try simp only [Act.put, List.setIfInBounds_toArray, List.set_cons_zero, List.set_cons_succ]
            refine takeD 3 (some 95) (v := ?_) rfl rfl (by kernel_rfl) (by kernel_rfl) (by kernel_rfl) (fun _ _ _ h => h) (Or.inl ⟨by rfl, ?_⟩) hH ?_
            rotate_left
            · intro w hSw; go_simp; try with_reducible rfl
            try simp only [Act.put, List.setIfInBounds_toArray, List.set_cons_zero, List.set_cons_succ]
            refine takeD 4 (some 96) (v := ?_) rfl rfl (by kernel_rfl) (by kernel_rfl) (by kernel_rfl) (fun _ _ _ h => h) (Or.inl ⟨by rfl, ?_⟩) hH ?_
            rotate_left
            · intro w hSw; go_simp; try with_reducible rfl
            try simp only [Act.put, List.setIfInBounds_toArray, List.set_cons_zero, List.set_cons_succ]
            refine wpAnyH_ready (rs := [5]) (by kernel_rfl) (by simp) ?_
            refine AllReadyH.cons rfl (fun K hK => ?_) AllReadyH.nil
            go_simp
            go_at_call 13; refine (works_R hH).mono ?_; clear hH; rintro e w' ⟨rfl, hH⟩
            go_wp2_with fail
            refine hK.out _ _ (hH) (fun hH => ?_)
            clear hK K
            try simp only [Act.put, List.setIfInBounds_toArray, List.set_cons_zero, List.set_cons_succ]
            refine takeD 6 (some 98) (v := ?_) rfl rfl (by kernel_rfl) (by kernel_rfl) (by kernel_rfl) (fun _ _ _ h => h) (Or.inl ⟨by rfl, ?_⟩) hH ?_
            rotate_left
            · intro w hSw; go_simp; try with_reducible rfl
            try simp only [Act.put, List.setIfInBounds_toArray, List.set_cons_zero, List.set_cons_succ]
            refine takeD 7 (some 8) (v := ?_) rfl rfl (by kernel_rfl) (by kernel_rfl) (by kernel_rfl) (fun _ _ _ h => h) (Or.inl ⟨by rfl, ?_⟩) hH ?_
            rotate_left
            · intro w hSw; go_simp; try with_reducible rfl
            try simp only [Act.put, List.setIfInBounds_toArray, List.set_cons_zero, List.set_cons_succ]
            refine wpAnyH_done (by kernel_rfl) ?_ _
            refine NoPanic.normal ?_
            go_wp2_with fail
            go_ret
            exact ⟨rfl, hH.bel⟩
          · have HM2 : Hid (matV (b.set q 0) = v) := Lib.hid (HB.out (plc_none hp.1 hp.2 hc))
            have hR3 := hR2.sub [(g5, 25, v), (g6, 23, b.set q 0)] (by intro x hx; simp at hx ⊢; rcases hx with h | h <;> simp [h])
            have lvv := lv
            have HR := Lib.hid hR3
            clear hR2 hR3 HA HB
            by_cases hc1 : 0 < p
            · have d1 : decide (0 < p) = true := by simpa using hc1
              have d2 : decide (0 < p % 6) = false := by simp; omega
              clear hc
              go_wp2_with fail
              have hR3 := HR.out
              generalize v = vv at *
              generalize b.set q 0 = bb at *
              have him : (Tryd.prog.info? 23).map (·.size) = some (bb.map (Value.int .i64)).length := by rw [List.length_map, lbb]; kernel_rfl
              have hiv : (Tryd.prog.info? 25).map (·.size) = some (vv.map (Value.int .i64)).length := by rw [List.length_map, lvv]; kernel_rfl
              have hE : ∀ w : World, (Op.equalIn 10000 25 (.agg (ints vv)) (.agg (vv.map (Value.int .i64)).toArray)).run Tryd.prog w = .ok true w := eqOne vv lvv
              refine wp_region_noPanic ?_
              refine wp_region_held_drew (S := fun w' => Rch w _ w') (by kernel_rfl) (hR3.drew) (fun hH => ?_)
              refine takeD 0 (some 92) rfl rfl (by kernel_rfl) (by kernel_rfl) (by kernel_rfl) (fun _ _ _ h => h) (yieldsIf_load_mid (by rfl) _ _ rfl _ _ rfl _ _ (fun w h => h.tl.hd.range) Tryd.underlying23 rfl him) hH ?_
              try simp only [Act.put, List.setIfInBounds_toArray, List.set_cons_zero, List.set_cons_succ]
              refine takeD 2 (some 94) rfl rfl (by kernel_rfl) (by kernel_rfl) (by kernel_rfl) (fun _ _ _ h => h) (yieldsIf_load_mid (by rfl) _ _ rfl _ _ rfl _ _ (fun w h => h.hd.range) Tryd.underlying25 rfl hiv) hH ?_
              try simp only [Act.put, List.setIfInBounds_toArray, List.set_cons_zero, List.set_cons_succ]
              refine wpAnyH_ready (rs := [1]) (by kernel_rfl) (by simp) ?_
              refine AllReadyH.cons rfl (fun K hK => ?_) AllReadyH.nil
              go_simp
              go_at_call 11; refine (of_R hH bb lbb).mono ?_; clear hH; rintro e w' ⟨rfl, hH⟩; rw [HM2.out]
              go_wp2_with fail
              refine hK.out _ _ (hH) (fun hH => ?_)
              clear hK K
              try simp only [Act.put, List.setIfInBounds_toArray, List.set_cons_zero, List.set_cons_succ]
              refine takeD 3 (some 95) (v := ?_) rfl rfl (by kernel_rfl) (by kernel_rfl) (by kernel_rfl) (fun _ _ _ h => h) (Or.inl ⟨by rfl, ?_⟩) hH ?_
              rotate_left
              · intro w hSw; go_simp; try with_reducible rfl
              try simp only [Act.put, List.setIfInBounds_toArray, List.set_cons_zero, List.set_cons_succ]
              refine takeD 4 (some 96) (v := ?_) rfl rfl (by kernel_rfl) (by kernel_rfl) (by kernel_rfl) (fun _ _ _ h => h) (Or.inl ⟨by rfl, ?_⟩) hH ?_
              rotate_left
              · intro w hSw; go_simp; try with_reducible rfl
              try simp only [Act.put, List.setIfInBounds_toArray, List.set_cons_zero, List.set_cons_succ]
              refine wpAnyH_ready (rs := [5]) (by kernel_rfl) (by simp) ?_
              refine AllReadyH.cons rfl (fun K hK => ?_) AllReadyH.nil
              go_simp
              go_at_call 13; refine (works_R hH).mono ?_; clear hH; rintro e w' ⟨rfl, hH⟩
              go_wp2_with fail
              refine hK.out _ _ (hH) (fun hH => ?_)
              clear hK K
              try simp only [Act.put, List.setIfInBounds_toArray, List.set_cons_zero, List.set_cons_succ]
              refine takeD 6 (some 98) (v := ?_) rfl rfl (by kernel_rfl) (by kernel_rfl) (by kernel_rfl) (fun _ _ _ h => h) (Or.inl ⟨by rfl, ?_⟩) hH ?_
              rotate_left
              · intro w hSw; go_simp; try with_reducible rfl
              try simp only [Act.put, List.setIfInBounds_toArray, List.set_cons_zero, List.set_cons_succ]
              refine takeD 7 (some 8) (v := ?_) rfl rfl (by kernel_rfl) (by kernel_rfl) (by kernel_rfl) (fun _ _ _ h => h) (Or.inl ⟨by rfl, ?_⟩) hH ?_
              rotate_left
              · intro w hSw; go_simp; try with_reducible rfl
              try simp only [Act.put, List.setIfInBounds_toArray, List.set_cons_zero, List.set_cons_succ]
              refine wpAnyH_done (by kernel_rfl) ?_ _
              refine NoPanic.normal ?_
              go_wp2_with fail
              go_ret
              exact ⟨rfl, hH.bel⟩
            · have d1 : decide (0 < p) = false := by simpa using hc1
              clear hc
              go_wp2_with fail
              have hR3 := HR.out
              generalize v = vv at *
              generalize b.set q 0 = bb at *
              have him : (Tryd.prog.info? 23).map (·.size) = some (bb.map (Value.int .i64)).length := by rw [List.length_map, lbb]; kernel_rfl
              have hiv : (Tryd.prog.info? 25).map (·.size) = some (vv.map (Value.int .i64)).length := by rw [List.length_map, lvv]; kernel_rfl
              have hE : ∀ w : World, (Op.equalIn 10000 25 (.agg (ints vv)) (.agg (vv.map (Value.int .i64)).toArray)).run Tryd.prog w = .ok true w := eqOne vv lvv
              refine wp_region_noPanic ?_
              refine wp_region_held_drew (S := fun w' => Rch w _ w') (by kernel_rfl) (hR3.drew) (fun hH => ?_)
              refine takeD 0 (some 92) rfl rfl (by kernel_rfl) (by kernel_rfl) (by kernel_rfl) (fun _ _ _ h => h) (yieldsIf_load_mid (by rfl) _ _ rfl _ _ rfl _ _ (fun w h => h.tl.hd.range) Tryd.underlying23 rfl him) hH ?_
              try simp only [Act.put, List.setIfInBounds_toArray, List.set_cons_zero, List.set_cons_succ]
              refine takeD 2 (some 94) rfl rfl (by kernel_rfl) (by kernel_rfl) (by kernel_rfl) (fun _ _ _ h => h) (yieldsIf_load_mid (by rfl) _ _ rfl _ _ rfl _ _ (fun w h => h.hd.range) Tryd.underlying25 rfl hiv) hH ?_
              try simp only [Act.put, List.setIfInBounds_toArray, List.set_cons_zero, List.set_cons_succ]
              refine wpAnyH_ready (rs := [1]) (by kernel_rfl) (by simp) ?_
              refine AllReadyH.cons rfl (fun K hK => ?_) AllReadyH.nil
              go_simp
              go_at_call 11; refine (of_R hH bb lbb).mono ?_; clear hH; rintro e w' ⟨rfl, hH⟩; rw [HM2.out]
              go_wp2_with fail
              refine hK.out _ _ (hH) (fun hH => ?_)
              clear hK K
              try simp only [Act.put, List.setIfInBounds_toArray, List.set_cons_zero, List.set_cons_succ]
              refine takeD 3 (some 95) (v := ?_) rfl rfl (by kernel_rfl) (by kernel_rfl) (by kernel_rfl) (fun _ _ _ h => h) (Or.inl ⟨by rfl, ?_⟩) hH ?_
              rotate_left
              · intro w hSw; go_simp; try with_reducible rfl
              try simp only [Act.put, List.setIfInBounds_toArray, List.set_cons_zero, List.set_cons_succ]
              refine takeD 4 (some 96) (v := ?_) rfl rfl (by kernel_rfl) (by kernel_rfl) (by kernel_rfl) (fun _ _ _ h => h) (Or.inl ⟨by rfl, ?_⟩) hH ?_
              rotate_left
              · intro w hSw; go_simp; try with_reducible rfl
              try simp only [Act.put, List.setIfInBounds_toArray, List.set_cons_zero, List.set_cons_succ]
              refine wpAnyH_ready (rs := [5]) (by kernel_rfl) (by simp) ?_
              refine AllReadyH.cons rfl (fun K hK => ?_) AllReadyH.nil
              go_simp
              go_at_call 13; refine (works_R hH).mono ?_; clear hH; rintro e w' ⟨rfl, hH⟩
              go_wp2_with fail
              refine hK.out _ _ (hH) (fun hH => ?_)
              clear hK K
              try simp only [Act.put, List.setIfInBounds_toArray, List.set_cons_zero, List.set_cons_succ]
              refine takeD 6 (some 98) (v := ?_) rfl rfl (by kernel_rfl) (by kernel_rfl) (by kernel_rfl) (fun _ _ _ h => h) (Or.inl ⟨by rfl, ?_⟩) hH ?_
              rotate_left
              · intro w hSw; go_simp; try with_reducible rfl
              try simp only [Act.put, List.setIfInBounds_toArray, List.set_cons_zero, List.set_cons_succ]
              refine takeD 7 (some 8) (v := ?_) rfl rfl (by kernel_rfl) (by kernel_rfl) (by kernel_rfl) (fun _ _ _ h => h) (Or.inl ⟨by rfl, ?_⟩) hH ?_
              rotate_left
              · intro w hSw; go_simp; try with_reducible rfl
              try simp only [Act.put, List.setIfInBounds_toArray, List.set_cons_zero, List.set_cons_succ]
              refine wpAnyH_done (by kernel_rfl) ?_ _
              refine NoPanic.normal ?_
              go_wp2_with fail
              go_ret
              exact ⟨rfl, hH.bel⟩
end Go.Proofs.YtcnflmbnnobocaaDoor
