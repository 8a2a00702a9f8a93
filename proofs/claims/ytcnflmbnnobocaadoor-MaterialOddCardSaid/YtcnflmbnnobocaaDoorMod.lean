/- The law MaterialOdd. Conditions: as in Env. -/
import Derived.Test.YtcnflmbnnobocaaDoorMcm
namespace Go.Proofs.YtcnflmbnnobocaaDoor
open Go Go.RowKit
theorem odd_mat {b : List Int} {at_ : Int} {m : Nat} {v : List Int} {odd : Int} (h : Fl 0 1 b at_ m (fun j => v.getD j 0)) (lv : v.length = 10) (hm : (m : Int) ≤ 32) (ho : plc odd = 0) : matV ((b.set 63 odd).set 40 6) = v := by
  obtain ⟨_, hz⟩ := h.one rfl rfl
  have hl := h.len
  have z1 := hz 63 (by omega) (by omega)
  have z2 := hz 40 (by omega) (by omega)
  have p0 : plc 0 = 0 := by decide
  rw [matV_same _ 40 6 (by rw [List.length_set]; omega) (by
    rw [List.getD_eq_getElem?_getD] at z2 ⊢
    rw [List.getElem?_set, if_neg (by decide), z2, p0]) (by decide), matV_same _ 63 odd (by omega) (by rw [z1, p0]) ho]
  exact h.mat lv
set_option maxRecDepth 100000 in
set_option linter.unusedSimpArgs false in
set_option maxHeartbeats 4000000 in
theorem odd_any (n : List Int) (hn : Ten n) (odd : Int) (w : World) (hw : Env w) : Calls Tryd.prog 9 #[.agg (intsK .u8 n), .int .i64 odd] w fun e w' => e = .returned (.bool true) ∧ Below w.heap.size w w' := by
  have Hn := Lib.hid hn
  have He := Lib.hid hw
  have hR := (Rch.start hw).alloc (.cells (intsK .u8 n) 50)
  have hP : Holds (w.alloc (.cells (intsK .u8 n) 50)) w.heap.size .u8 50 n := Holds.new w .u8 50 n
  have i1 : (Tryd.prog.info? 50).map (·.size) = some n.length := by rw [hn.1]; kernel_rfl
  clear hn hw
  have hc : (1 ≤ odd ∧ odd ≤ 12) ∨ (odd < 1) ∨ (¬ odd < 1 ∧ 12 < odd) := by omega
  rcases hc with hc | hc | hc
  · obtain ⟨hc1, hc2⟩ := hc
    have d1 : decide (1 ≤ odd) = true := by simpa using hc1
    have d2 : decide (odd ≤ 12) = true := by simpa using hc2
    go_enter Tryd.func9, Tryd.ntmps9
    go_wp2_with (first
      | (with_reducible refine wpl_load (g := w.heap.size) (k := .u8) (t := 50) (l := n) hP rfl 50 _ rfl rfl Tryd.underlying50 i1 ?_)
      | (go_at_call 24; refine (valid_P hR Hn.out).mono ?_; clear hR; rintro e wa ⟨v, lv, kv, rfl, hR⟩; have iv : (Tryd.prog.info? 25).map (·.size) = some v.length := (by rw [lv]; kernel_rfl); have hz : v.length = zero10.length := lv)
      | (with_reducible refine wpl_storeAt' hR 25 zero10 v (by with_unfolding_all rfl) (by simp) rfl 25 _ _ rfl rfl rfl hz (by kernel_rfl) ?_; clear hR; intro w2 z5 y5 hR)
      | (with_reducible refine wpl_loadG hR.hd (by with_unfolding_all rfl) 25 _ rfl rfl Tryd.underlying25 iv ?_)
      | (go_at_call 25; refine (filled_P hR lv kv 0 1 (by omega) (by omega) (by omega) (by omega)).mono ?_; clear hR; rintro e w1 ⟨b, at_, m, hF, hm, rfl, hR⟩; have hb64 := Lib.hid hF.len; have hz64 : b.length = zero64.length := hF.len; have HF := Lib.hid hF; clear hF)
      | (with_reducible refine wpl_storeAt' hR 23 zero64 b (by with_unfolding_all rfl) (by simp) rfl 23 _ _ rfl rfl rfl hz64 (by kernel_rfl) ?_; clear hR; intro w3 z6 y6 hR; have c1 := hR.hd.cell 63 (by rw [hb64.out]; decide); have c2 := hR.hd.frozen 63; have c3 := (hR.hd.set 63 odd).cell 40 (by rw [List.length_set, hb64.out]; decide); have c4 := (hR.hd.set 63 odd).frozen 40)
      | (go_at_call 13; refine (works_R hR).mono ?_; clear hR; rintro e w1 ⟨rfl, hR⟩))
    go_ret
    exact ⟨rfl, hR.bel⟩
  · have d1 : decide (1 ≤ odd) = false := by simp; omega
    have H6 : Hid (plc odd = 0) := Lib.hid (by unfold plc; rw [if_neg (by omega), if_neg (by omega)])
    clear hc
    go_enter Tryd.func9, Tryd.ntmps9
    go_wp2_with (first
      | (with_reducible refine wpl_load (g := w.heap.size) (k := .u8) (t := 50) (l := n) hP rfl 50 _ rfl rfl Tryd.underlying50 i1 ?_)
      | (go_at_call 24; refine (valid_P hR Hn.out).mono ?_; clear hR; rintro e wa ⟨v, lv, kv, rfl, hR⟩; have iv : (Tryd.prog.info? 25).map (·.size) = some v.length := (by rw [lv]; kernel_rfl); have hz : v.length = zero10.length := lv)
      | (with_reducible refine wpl_storeAt' hR 25 zero10 v (by with_unfolding_all rfl) (by simp) rfl 25 _ _ rfl rfl rfl hz (by kernel_rfl) ?_; clear hR; intro w2 z5 y5 hR)
      | (with_reducible refine wpl_loadG hR.hd (by with_unfolding_all rfl) 25 _ rfl rfl Tryd.underlying25 iv ?_)
      | (go_at_call 25; refine (filled_P hR lv kv 0 1 (by omega) (by omega) (by omega) (by omega)).mono ?_; clear hR; rintro e w1 ⟨b, at_, m, hF, hm, rfl, hR⟩; have hb64 := Lib.hid hF.len; have hz64 : b.length = zero64.length := hF.len; have HF := Lib.hid hF; clear hF)
      | (with_reducible refine wpl_storeAt' hR 23 zero64 b (by with_unfolding_all rfl) (by simp) rfl 23 _ _ rfl rfl rfl hz64 (by kernel_rfl) ?_; clear hR; intro w3 z6 y6 hR; have c1 := hR.hd.cell 63 (by rw [hb64.out]; decide); have c2 := hR.hd.frozen 63; have c3 := (hR.hd.set 63 odd).cell 40 (by rw [List.length_set, hb64.out]; decide); have c4 := (hR.hd.set 63 odd).frozen 40))
    have hR3 := (hR.setc He.out z6 y6 63 odd).setc He.out z6 y6 40 6
    clear c1 c2 c3 c4 hR y5 y6 z5 z6
    have HM : Hid (matV ((b.set 63 odd).set 40 6) = v) := Lib.hid (odd_mat HF.out lv hm H6.out)
    have lbb : ((b.set 63 odd).set 40 6).length = 64 := by rw [List.length_set, List.length_set]; exact hb64.out
    generalize (b.set 63 odd).set 40 6 = bb at *
    generalize wa.heap.size = g5 at *
    generalize w1.heap.size = g6 at *
    generalize (w3.setCell _ _).setCell _ _ = w4 at *
    have him : (Tryd.prog.info? 23).map (·.size) = some (bb.map (Value.int .i64)).length := by rw [List.length_map, lbb]; kernel_rfl
    have hiv : (Tryd.prog.info? 25).map (·.size) = some (v.map (Value.int .i64)).length := by rw [List.length_map, lv]; kernel_rfl
    have hE : ∀ w : World, (Op.equalIn 10000 25 (.agg (ints v)) (.agg (v.map (Value.int .i64)).toArray)).run Tryd.prog w = .ok true w := eqOne v lv
    clear hz hz64 iv i1 hP
    refine wp_region_noPanic ?_
    refine wp_region_held_drew (S := fun w' => Rch w _ w') (by kernel_rfl) (hR3.drew) (fun hH => ?_)
    refine takeD 0 (some 21) rfl rfl (by kernel_rfl) (by kernel_rfl) (by kernel_rfl) (fun _ _ _ h => h) (yieldsIf_load_mid (by rfl) _ _ rfl _ _ rfl _ _ (fun w h => h.hd.range) Tryd.underlying23 rfl him) hH ?_
    try simp only [Act.put, List.setIfInBounds_toArray, List.set_cons_zero, List.set_cons_succ]
    refine takeD 2 (some 23) rfl rfl (by kernel_rfl) (by kernel_rfl) (by kernel_rfl) (fun _ _ _ h => h) (yieldsIf_load_mid (by rfl) _ _ rfl _ _ rfl _ _ (fun w h => h.tl.hd.range) Tryd.underlying25 rfl hiv) hH ?_
    try simp only [Act.put, List.setIfInBounds_toArray, List.set_cons_zero, List.set_cons_succ]
    refine wpAnyH_ready (rs := [1]) (by kernel_rfl) (by simp) ?_
    refine AllReadyH.cons rfl (fun K hK => ?_) AllReadyH.nil
    go_simp
    go_at_call 11; refine (of_R hH bb lbb).mono ?_; clear hH; rintro e w' ⟨rfl, hH⟩; rw [HM.out]
    go_wp2_with fail
    refine hK.out _ _ (hH) (fun hH => ?_)
    clear hK K
    try simp only [Act.put, List.setIfInBounds_toArray, List.set_cons_zero, List.set_cons_succ]
    refine takeD 3 (some 24) (v := ?_) rfl rfl (by kernel_rfl) (by kernel_rfl) (by kernel_rfl) (fun _ _ _ h => h) (Or.inl ⟨by rfl, ?_⟩) hH ?_
    rotate_left
    · intro w hSw; go_simp; try with_reducible rfl
    try simp only [Act.put, List.setIfInBounds_toArray, List.set_cons_zero, List.set_cons_succ]
    refine takeD 4 (some 25) (v := ?_) rfl rfl (by kernel_rfl) (by kernel_rfl) (by kernel_rfl) (fun _ _ _ h => h) (Or.inl ⟨by rfl, ?_⟩) hH ?_
    rotate_left
    · intro w hSw; go_simp; try with_reducible rfl
    try simp only [Act.put, List.setIfInBounds_toArray, List.set_cons_zero, List.set_cons_succ]
    refine wpAnyH_ready (rs := [5]) (by kernel_rfl) (by simp) ?_
    refine AllReadyH.cons rfl (fun K hK => ?_) AllReadyH.nil
    go_simp
    go_at_call 13; refine (works_R hH).mono ?_; clear hH; rintro e w' ⟨rfl, hH⟩
    go_wp2_with fail
    refine hK.out _ _ (hH) (fun hH => ?_)
    clear hK K
    try simp only [Act.put, List.setIfInBounds_toArray, List.set_cons_zero, List.set_cons_succ]
    refine takeD 6 (some 27) (v := ?_) rfl rfl (by kernel_rfl) (by kernel_rfl) (by kernel_rfl) (fun _ _ _ h => h) (Or.inl ⟨by rfl, ?_⟩) hH ?_
    rotate_left
    · intro w hSw; go_simp; try with_reducible rfl
    try simp only [Act.put, List.setIfInBounds_toArray, List.set_cons_zero, List.set_cons_succ]
    refine takeD 7 (some 4) (v := ?_) rfl rfl (by kernel_rfl) (by kernel_rfl) (by kernel_rfl) (fun _ _ _ h => h) (Or.inl ⟨by rfl, ?_⟩) hH ?_
    rotate_left
    · intro w hSw; go_simp; try with_reducible rfl
    try simp only [Act.put, List.setIfInBounds_toArray, List.set_cons_zero, List.set_cons_succ]
    refine wpAnyH_done (by kernel_rfl) ?_ _
    refine NoPanic.normal ?_
    go_wp2_with fail
    go_ret
    exact ⟨rfl, hH.bel⟩
  · obtain ⟨hc1, hc2⟩ := hc
    have d1 : decide (1 ≤ odd) = true := by simp; omega
    have d2 : decide (odd ≤ 12) = false := by simp; omega
    have H6 : Hid (plc odd = 0) := Lib.hid (by unfold plc; rw [if_neg (by omega), if_neg (by omega)])
    clear hc1 hc2
    go_enter Tryd.func9, Tryd.ntmps9
    go_wp2_with (first
      | (with_reducible refine wpl_load (g := w.heap.size) (k := .u8) (t := 50) (l := n) hP rfl 50 _ rfl rfl Tryd.underlying50 i1 ?_)
      | (go_at_call 24; refine (valid_P hR Hn.out).mono ?_; clear hR; rintro e wa ⟨v, lv, kv, rfl, hR⟩; have iv : (Tryd.prog.info? 25).map (·.size) = some v.length := (by rw [lv]; kernel_rfl); have hz : v.length = zero10.length := lv)
      | (with_reducible refine wpl_storeAt' hR 25 zero10 v (by with_unfolding_all rfl) (by simp) rfl 25 _ _ rfl rfl rfl hz (by kernel_rfl) ?_; clear hR; intro w2 z5 y5 hR)
      | (with_reducible refine wpl_loadG hR.hd (by with_unfolding_all rfl) 25 _ rfl rfl Tryd.underlying25 iv ?_)
      | (go_at_call 25; refine (filled_P hR lv kv 0 1 (by omega) (by omega) (by omega) (by omega)).mono ?_; clear hR; rintro e w1 ⟨b, at_, m, hF, hm, rfl, hR⟩; have hb64 := Lib.hid hF.len; have hz64 : b.length = zero64.length := hF.len; have HF := Lib.hid hF; clear hF)
      | (with_reducible refine wpl_storeAt' hR 23 zero64 b (by with_unfolding_all rfl) (by simp) rfl 23 _ _ rfl rfl rfl hz64 (by kernel_rfl) ?_; clear hR; intro w3 z6 y6 hR; have c1 := hR.hd.cell 63 (by rw [hb64.out]; decide); have c2 := hR.hd.frozen 63; have c3 := (hR.hd.set 63 odd).cell 40 (by rw [List.length_set, hb64.out]; decide); have c4 := (hR.hd.set 63 odd).frozen 40))
    have hR3 := (hR.setc He.out z6 y6 63 odd).setc He.out z6 y6 40 6
    clear c1 c2 c3 c4 hR y5 y6 z5 z6
    have HM : Hid (matV ((b.set 63 odd).set 40 6) = v) := Lib.hid (odd_mat HF.out lv hm H6.out)
    have lbb : ((b.set 63 odd).set 40 6).length = 64 := by rw [List.length_set, List.length_set]; exact hb64.out
    generalize (b.set 63 odd).set 40 6 = bb at *
    generalize wa.heap.size = g5 at *
    generalize w1.heap.size = g6 at *
    generalize (w3.setCell _ _).setCell _ _ = w4 at *
    have him : (Tryd.prog.info? 23).map (·.size) = some (bb.map (Value.int .i64)).length := by rw [List.length_map, lbb]; kernel_rfl
    have hiv : (Tryd.prog.info? 25).map (·.size) = some (v.map (Value.int .i64)).length := by rw [List.length_map, lv]; kernel_rfl
    have hE : ∀ w : World, (Op.equalIn 10000 25 (.agg (ints v)) (.agg (v.map (Value.int .i64)).toArray)).run Tryd.prog w = .ok true w := eqOne v lv
    clear hz hz64 iv i1 hP
    refine wp_region_noPanic ?_
    refine wp_region_held_drew (S := fun w' => Rch w _ w') (by kernel_rfl) (hR3.drew) (fun hH => ?_)
    refine takeD 0 (some 21) rfl rfl (by kernel_rfl) (by kernel_rfl) (by kernel_rfl) (fun _ _ _ h => h) (yieldsIf_load_mid (by rfl) _ _ rfl _ _ rfl _ _ (fun w h => h.hd.range) Tryd.underlying23 rfl him) hH ?_
    try simp only [Act.put, List.setIfInBounds_toArray, List.set_cons_zero, List.set_cons_succ]
    refine takeD 2 (some 23) rfl rfl (by kernel_rfl) (by kernel_rfl) (by kernel_rfl) (fun _ _ _ h => h) (yieldsIf_load_mid (by rfl) _ _ rfl _ _ rfl _ _ (fun w h => h.tl.hd.range) Tryd.underlying25 rfl hiv) hH ?_
    try simp only [Act.put, List.setIfInBounds_toArray, List.set_cons_zero, List.set_cons_succ]
    refine wpAnyH_ready (rs := [1]) (by kernel_rfl) (by simp) ?_
    refine AllReadyH.cons rfl (fun K hK => ?_) AllReadyH.nil
    go_simp
    go_at_call 11; refine (of_R hH bb lbb).mono ?_; clear hH; rintro e w' ⟨rfl, hH⟩; rw [HM.out]
    go_wp2_with fail
    refine hK.out _ _ (hH) (fun hH => ?_)
    clear hK K
    try simp only [Act.put, List.setIfInBounds_toArray, List.set_cons_zero, List.set_cons_succ]
    refine takeD 3 (some 24) (v := ?_) rfl rfl (by kernel_rfl) (by kernel_rfl) (by kernel_rfl) (fun _ _ _ h => h) (Or.inl ⟨by rfl, ?_⟩) hH ?_
    rotate_left
    · intro w hSw; go_simp; try with_reducible rfl
    try simp only [Act.put, List.setIfInBounds_toArray, List.set_cons_zero, List.set_cons_succ]
    refine takeD 4 (some 25) (v := ?_) rfl rfl (by kernel_rfl) (by kernel_rfl) (by kernel_rfl) (fun _ _ _ h => h) (Or.inl ⟨by rfl, ?_⟩) hH ?_
    rotate_left
    · intro w hSw; go_simp; try with_reducible rfl
    try simp only [Act.put, List.setIfInBounds_toArray, List.set_cons_zero, List.set_cons_succ]
    refine wpAnyH_ready (rs := [5]) (by kernel_rfl) (by simp) ?_
    refine AllReadyH.cons rfl (fun K hK => ?_) AllReadyH.nil
    go_simp
    go_at_call 13; refine (works_R hH).mono ?_; clear hH; rintro e w' ⟨rfl, hH⟩
    go_wp2_with fail
    refine hK.out _ _ (hH) (fun hH => ?_)
    clear hK K
    try simp only [Act.put, List.setIfInBounds_toArray, List.set_cons_zero, List.set_cons_succ]
    refine takeD 6 (some 27) (v := ?_) rfl rfl (by kernel_rfl) (by kernel_rfl) (by kernel_rfl) (fun _ _ _ h => h) (Or.inl ⟨by rfl, ?_⟩) hH ?_
    rotate_left
    · intro w hSw; go_simp; try with_reducible rfl
    try simp only [Act.put, List.setIfInBounds_toArray, List.set_cons_zero, List.set_cons_succ]
    refine takeD 7 (some 4) (v := ?_) rfl rfl (by kernel_rfl) (by kernel_rfl) (by kernel_rfl) (fun _ _ _ h => h) (Or.inl ⟨by rfl, ?_⟩) hH ?_
    rotate_left
    · intro w hSw; go_simp; try with_reducible rfl
    try simp only [Act.put, List.setIfInBounds_toArray, List.set_cons_zero, List.set_cons_succ]
    refine wpAnyH_done (by kernel_rfl) ?_ _
    refine NoPanic.normal ?_
    go_wp2_with fail
    go_ret
    exact ⟨rfl, hH.bel⟩
end Go.Proofs.YtcnflmbnnobocaaDoor
