/- The contracts of the reference's functions Parse, Plan, PrintAll and ParseAll. -/
import Derived.Test.YtjjnjglbmneecaaDoorSx3
import Derived.Test.YtjjnjglbmneecaaDoorSpt
import Derived.Test.YtjjnjglbmneecaaDoorSpq
namespace Go.Proofs.YtjjnjglbmneecaaDoor
open Go Go.RowKit
set_option maxRecDepth 100000 in
set_option maxHeartbeats 4000000 in
theorem rparse_any (s : ByteArray) (hs : s.size ≤ 250000) (w : World) :
    Calls Tryd.prog 14 #[.string s] w fun e w' => e = .returned (.tuple #[parV s.data.toList, .int .i64 (parE s.data.toList)]) ∧ Below w.heap.size w w' := by
  have HGs := Lib.hid (fun W : World => guess_any s hs W)
  have hbd := gsP_bd s.data.toList
  have hpar := gs_par s.data.toList
  have hsz := Lib.size_eq s
  have hR := Lib.hid (Rw.new w 24 (opC 0 0 ⟨#[]⟩))
  have hB := Lib.hid (below_al w (.cells (opC 0 0 ⟨#[]⟩) 24))
  have hlt : w.heap.size < (w.alloc (.cells (opC 0 0 ⟨#[]⟩) 24)).heap.size := by simp
  generalize gsP s.data.toList = x at *
  obtain ⟨k, a, v⟩ := x
  dsimp only at hbd
  unfold opx opV at HGs
  dsimp only at HGs
  have HPr := Lib.hid (fun W : World => rprint_any k a ⟨v.toArray⟩ (by simp [ByteArray.size]; omega) W)
  rw [show (⟨v.toArray⟩ : ByteArray).data.toList = v from rfl] at HPr
  unfold opV at HPr
  change parO s.data.toList = if chkZ k a v = 0 ∧ prS k a v = s.data.toList then some (k, a, v) else none at hpar
  obtain ⟨z, hz⟩ : ∃ z, chkZ k a v = z := ⟨_, rfl⟩
  obtain ⟨t, ht⟩ : ∃ t, prS k a v = t := ⟨_, rfl⟩
  rw [hz, ht] at hpar HPr
  clear hz ht
  by_cases hc : z = 0 ∧ t = s.data.toList
  · rw [if_pos hc] at hpar
    have e1 : parV s.data.toList = opV k a ⟨v.toArray⟩ := by unfold parV; rw [hpar]
    have e2 : parE s.data.toList = 0 := by unfold parE; rw [hpar]
    rw [e1, e2]
    obtain ⟨rfl, ht⟩ := hc
    have HT := Lib.hid ht
    clear e1 e2 hpar ht
    have hcmp : (t == s.toList) = true := by rw [Lib.toList_data]; simpa using HT.out
    go_enter Tryd.func14, Tryd.ntmps14
    go_wp2_with (first
      | (go_at_call 40; refine (HGs.out _).mono ?_; rintro e w1 ⟨rfl, hE⟩; have hR1 := Lib.hid ((hR.out.below hE hlt).alloc (.cells (opC k a ⟨v.toArray⟩) 24)); have hO1 := Lib.hid (Rw.new w1 24 (opC k a ⟨v.toArray⟩)); have hB1 := Lib.hid ((hB.out.trans (below_le hE (Nat.le_of_lt hlt))).alloc (Nat.le_trans (Nat.le_of_lt hlt) hE.size) (.cells (opC k a ⟨v.toArray⟩) 24)); have hlt1 : w.heap.size < w1.heap.size := Nat.lt_of_lt_of_le hlt hE.size; clear hE)
      | (go_at_call 28; refine (HPr.out _).mono ?_; rintro e w2 ⟨rfl, hE⟩; have hR2 := Lib.hid (hR1.out.below hE hR1.out.lt); have hO2 := Lib.hid (hO1.out.below hE hO1.out.lt); have hB2 := Lib.hid (hB1.out.trans (below_le hE hB1.out.size)); clear hE; obtain ⟨c0, c1, c2, f0, f1, f2⟩ := hR2.out.facts; obtain ⟨d0, d1, d2, g0, g1, g2⟩ := hO2.out.facts))
    refine bodyPost_ret (op_res (fn := Tryd.f14) rfl rfl rfl hR2.out.set3) rfl ?_
    exact ⟨rfl, below_set3 hB2.out (Nat.le_refl _) _ _ _⟩
  · rw [if_neg hc] at hpar
    have e1 : parV s.data.toList = opV 0 0 ⟨#[]⟩ := by unfold parV; rw [hpar]
    have e2 : parE s.data.toList = 8 := by unfold parE; rw [hpar]
    rw [e1, e2]
    clear e1 e2 hpar
    by_cases hz : z = 0
    · have HT := Lib.hid (fun e => hc ⟨hz, e⟩)
      clear hc
      subst hz
      have hcmp : (t == s.toList) = false := by rw [Lib.toList_data]; simpa using HT.out
      go_enter Tryd.func14, Tryd.ntmps14
      go_wp2_with (first
        | (go_at_call 40; refine (HGs.out _).mono ?_; rintro e w1 ⟨rfl, hE⟩; have hR1 := Lib.hid ((hR.out.below hE hlt).alloc (.cells (opC k a ⟨v.toArray⟩) 24)); have hO1 := Lib.hid (Rw.new w1 24 (opC k a ⟨v.toArray⟩)); have hB1 := Lib.hid ((hB.out.trans (below_le hE (Nat.le_of_lt hlt))).alloc (Nat.le_trans (Nat.le_of_lt hlt) hE.size) (.cells (opC k a ⟨v.toArray⟩) 24)); have hlt1 : w.heap.size < w1.heap.size := Nat.lt_of_lt_of_le hlt hE.size; clear hE)
        | (go_at_call 28; refine (HPr.out _).mono ?_; rintro e w2 ⟨rfl, hE⟩; have hR2 := Lib.hid (hR1.out.below hE hR1.out.lt); have hO2 := Lib.hid (hO1.out.below hE hO1.out.lt); have hB2 := Lib.hid (hB1.out.trans (below_le hE hB1.out.size)); clear hE; obtain ⟨c0, c1, c2, f0, f1, f2⟩ := hR2.out.facts; obtain ⟨d0, d1, d2, g0, g1, g2⟩ := hO2.out.facts))
      refine bodyPost_ret (op_res (fn := Tryd.f14) rfl rfl rfl hR2.out.set3) rfl ?_
      exact ⟨rfl, below_set3 hB2.out (Nat.le_refl _) _ _ _⟩
    · clear hc
      go_enter Tryd.func14, Tryd.ntmps14
      go_wp2_with (first
        | (go_at_call 40; refine (HGs.out _).mono ?_; rintro e w1 ⟨rfl, hE⟩; have hR1 := Lib.hid ((hR.out.below hE hlt).alloc (.cells (opC k a ⟨v.toArray⟩) 24)); have hO1 := Lib.hid (Rw.new w1 24 (opC k a ⟨v.toArray⟩)); have hB1 := Lib.hid ((hB.out.trans (below_le hE (Nat.le_of_lt hlt))).alloc (Nat.le_trans (Nat.le_of_lt hlt) hE.size) (.cells (opC k a ⟨v.toArray⟩) 24)); have hlt1 : w.heap.size < w1.heap.size := Nat.lt_of_lt_of_le hlt hE.size; clear hE)
        | (go_at_call 28; refine (HPr.out _).mono ?_; rintro e w2 ⟨rfl, hE⟩; have hR2 := Lib.hid (hR1.out.below hE hR1.out.lt); have hO2 := Lib.hid (hO1.out.below hE hO1.out.lt); have hB2 := Lib.hid (hB1.out.trans (below_le hE hB1.out.size)); clear hE; obtain ⟨c0, c1, c2, f0, f1, f2⟩ := hR2.out.facts; obtain ⟨d0, d1, d2, g0, g1, g2⟩ := hO2.out.facts))
      refine bodyPost_ret (op_res (fn := Tryd.f14) rfl rfl rfl hR2.out.set3) rfl ?_
      exact ⟨rfl, below_set3 hB2.out (Nat.le_refl _) _ _ _⟩
end Go.Proofs.YtjjnjglbmneecaaDoor
namespace Go.Proofs.YtjjnjglbmneecaaDoor
open Go Go.RowKit
set_option maxRecDepth 100000 in
set_option maxHeartbeats 4000000 in
theorem rplan_no (k a : Int) (v : ByteArray) (hc : ¬ (chkZ k a v.data.toList = 0 ∧ k = 8)) (w : World) :
    Calls Tryd.prog 29 #[opV k a v] w fun e w' => e = .returned (.tuple #[.agg #[.int .i64 0, .slice none 0 0], .int .i64 2]) ∧ Below w.heap.size w w' := by
  have hO := Lib.hid (Rw.new w 24 (opC k a v))
  have hB := Lib.hid (below_al w (.cells (opC k a v) 24))
  have hR := Lib.hid (Rw.new (w.alloc (.cells (opC k a v) 24)) 50 #[.int .i64 0, .slice none 0 0])
  have hO1 := Lib.hid (hO.out.alloc (.cells #[.int .i64 0, .slice none 0 0] 50))
  have hB1 := Lib.hid (hB.out.alloc hB.out.size (.cells #[.int .i64 0, .slice none 0 0] 50))
  have HC := Lib.hid (fun W : World => rcheck_any k a v W)
  obtain ⟨z, hz⟩ : ∃ z, chkZ k a v.data.toList = z := ⟨_, rfl⟩
  rw [hz] at HC hc
  clear hz
  unfold opV at HC ⊢
  by_cases hz : z = 0
  · have hk : ¬ k = 8 := fun h => hc ⟨hz, h⟩
    subst hz
    clear hc
    go_enter Tryd.func29, Tryd.ntmps29
    go_wp2_with (go_at_call 30; refine (HC.out _).mono ?_; rintro e w1 ⟨rfl, hE⟩; have hO2 := Lib.hid (hO1.out.below hE (by simp; omega)); have hR2 := Lib.hid (hR.out.below hE (by simp)); have hB2 := Lib.hid (hB1.out.trans (below_le hE (by simp; omega))); obtain ⟨c0, c1, c2, f0, f1, f2⟩ := hO2.out.facts; obtain ⟨d0, d1, g0, g1⟩ := hR2.out.facts2; rw [show (w.alloc (.cells (opC k a v) 24)).heap.size = w.heap.size + 1 by simp] at d0 d1 g0 g1; clear hE)
    refine bodyPost_ret (plan_res (fn := Tryd.f29) (g := w.heap.size + 1) rfl rfl rfl (by have := hR2.out.set2 (a' := .int .i64 0) (b' := .slice none 0 0); rwa [show (w.alloc (.cells (opC k a v) 24)).heap.size = w.heap.size + 1 by simp] at this)) rfl ?_
    exact ⟨rfl, below_set2 hB2.out (by omega) _ _⟩
  · clear hc
    go_enter Tryd.func29, Tryd.ntmps29
    go_wp2_with (go_at_call 30; refine (HC.out _).mono ?_; rintro e w1 ⟨rfl, hE⟩; have hR2 := Lib.hid (hR.out.below hE (by simp)); have hB2 := Lib.hid (hB1.out.trans (below_le hE (by simp; omega))); obtain ⟨d0, d1, g0, g1⟩ := hR2.out.facts2; rw [show (w.alloc (.cells (opC k a v) 24)).heap.size = w.heap.size + 1 by simp] at d0 d1 g0 g1; clear hE)
    refine bodyPost_ret (plan_res (fn := Tryd.f29) (g := w.heap.size + 1) rfl rfl rfl (by have := hR2.out.set2 (a' := .int .i64 0) (b' := .slice none 0 0); rwa [show (w.alloc (.cells (opC k a v) 24)).heap.size = w.heap.size + 1 by simp] at this)) rfl ?_
    exact ⟨rfl, below_set2 hB2.out (by omega) _ _⟩
theorem Rw.drew {w : World} {g : Nat} {t : TypeId} {cs : Array Value} (h : Rw w g t cs) : Rw w.drew g t cs := h
set_option maxRecDepth 100000 in
set_option maxHeartbeats 4000000 in
theorem rplan_ok (a : Int) (v : ByteArray) (hv : v.size ≤ 90000) (hc : chkZ 8 a v.data.toList = 0) {l : List Int} (hl : keepP v.data.toList = l) (hne : l ≠ []) (w : World) :
    Calls Tryd.prog 29 #[opV 8 a v] w fun e w' => (∃ g cap, e = .returned (.tuple #[.agg #[.int .i64 a, .slice (some ⟨g, 0, none⟩) l.length cap], .int .i64 0]) ∧ w.heap.size ≤ g ∧ g < w'.heap.size ∧ l.length ≤ cap ∧ Nums w' g l) ∧ Below w.heap.size w w' := by
  have hO := Lib.hid (Rw.new w 24 (opC 8 a v))
  have hB := Lib.hid (below_al w (.cells (opC 8 a v) 24))
  have hR := Lib.hid (Rw.new (w.alloc (.cells (opC 8 a v) 24)) 50 #[.int .i64 0, .slice none 0 0])
  have hO1 := Lib.hid (hO.out.alloc (.cells #[.int .i64 0, .slice none 0 0] 50))
  have hB1 := Lib.hid (hB.out.alloc hB.out.size (.cells #[.int .i64 0, .slice none 0 0] 50))
  have HC := Lib.hid (fun W : World => rcheck_any 8 a v W)
  have HKp : Hid (∀ W : World, Calls Tryd.prog 53 #[.string v] W fun e w' => (∃ g cap, e = .returned (.slice (some ⟨g, 0, none⟩) l.length cap) ∧ W.heap.size ≤ g ∧ g < w'.heap.size ∧ l.length ≤ cap ∧ Nums w' g l) ∧ Below W.heap.size W w') := Lib.hid (fun W =>
    (keep_any v (by omega) W).mono fun e w' ⟨x, h1, h2, h3⟩ => by
      rw [hl] at h2
      obtain ⟨g, cap, rfl, q1, q2, q3, q4⟩ := nums_row h2 hne
      exact ⟨⟨g, cap, h1, q1, q2, q3, q4⟩, h3⟩)
  rw [hc] at HC
  clear hc hl
  unfold opV at HC ⊢
  go_enter Tryd.func29, Tryd.ntmps29
  go_wp2_with (go_at_call 30; refine (HC.out _).mono ?_; rintro e w1 ⟨rfl, hE⟩; have hO2 := Lib.hid (hO1.out.below hE (by simp; omega)); have hR2 := Lib.hid (hR.out.below hE (by simp)); have hB2 := Lib.hid (hB1.out.trans (below_le hE (by simp; omega))); obtain ⟨c0, c1, c2, f0, f1, f2⟩ := hO2.out.facts; have hlt1 : w.heap.size + 1 < w1.heap.size := Nat.lt_of_lt_of_le (by simp) hE.size; clear hE)
  clear c0 c1 c2 f0 f1 f2
  refine wp_region_noPanic ?_
  refine wp_region_held_drew (S := fun w' => Rw w' w.heap.size 24 (opC 8 a v) ∧ Below w.heap.size w w') (by kernel_rfl) (⟨hO2.out, hB2.out.drew⟩) (fun hH => ?_)
  refine takeD 0 (some 13) (v := ?_) rfl rfl (by kernel_rfl) (by kernel_rfl) (by kernel_rfl) (fun _ _ _ h => h) (Or.inl ⟨by rfl, ?_⟩) hH ?_
  rotate_left
  · intro w hSw; go_simp; try with_reducible rfl
  try simp only [Act.put, List.setIfInBounds_toArray, List.set_cons_zero, List.set_cons_succ]
  refine takeD 1 (some 14) (v := ?_) rfl rfl (by kernel_rfl) (by kernel_rfl) (by kernel_rfl) (fun _ _ _ h => h) (Or.inl ⟨by rfl, ?_⟩) hH ?_
  rotate_left
  · intro w hSw; obtain ⟨c0, c1, c2, f0, f1, f2⟩ := hSw.1.facts; go_simp; try with_reducible rfl
  try simp only [Act.put, List.setIfInBounds_toArray, List.set_cons_zero, List.set_cons_succ]
  refine takeD 2 (some 15) (v := ?_) rfl rfl (by kernel_rfl) (by kernel_rfl) (by kernel_rfl) (fun _ _ _ h => h) (Or.inl ⟨by rfl, ?_⟩) hH ?_
  rotate_left
  · intro w hSw; go_simp; try with_reducible rfl
  try simp only [Act.put, List.setIfInBounds_toArray, List.set_cons_zero, List.set_cons_succ]
  refine takeD 3 (some 16) (v := ?_) rfl rfl (by kernel_rfl) (by kernel_rfl) (by kernel_rfl) (fun _ _ _ h => h) (Or.inl ⟨by rfl, ?_⟩) hH ?_
  rotate_left
  · intro w hSw; obtain ⟨c0, c1, c2, f0, f1, f2⟩ := hSw.1.facts; go_simp; try with_reducible rfl
  try simp only [Act.put, List.setIfInBounds_toArray, List.set_cons_zero, List.set_cons_succ]
  refine wpAnyH_ready (rs := [4]) (by kernel_rfl) (by simp) ?_
  refine AllReadyH.cons rfl (fun K hK => ?_) AllReadyH.nil
  go_simp
  go_at_call 53; refine (HKp.out _).mono ?_; rintro e w2 ⟨⟨g, cap, rfl, hgb, hg, hcp, hN⟩, hE⟩; have hR3 := Lib.hid (hR2.out.drew.below hE hR2.out.lt); have hlt2 := Nat.lt_of_lt_of_le hR2.out.lt hE.size; have HN := Lib.hid hN; replace hH := And.intro (hH.1.below hE hH.1.lt) (hH.2.trans (below_le hE hH.2.size)); clear hE hN
  go_wp2_with fail
  refine hK.out _ _ (hH) (fun hH => ?_)
  clear hK K
  try simp only [Act.put, List.setIfInBounds_toArray, List.set_cons_zero, List.set_cons_succ]
  refine takeD 5 (some 18) (v := ?_) rfl rfl (by kernel_rfl) (by kernel_rfl) (by kernel_rfl) (fun _ _ _ h => h) (Or.inl ⟨by rfl, ?_⟩) hH ?_
  rotate_left
  · intro w hSw; go_simp; try with_reducible rfl
  try simp only [Act.put, List.setIfInBounds_toArray, List.set_cons_zero, List.set_cons_succ]
  obtain ⟨d0, d1, g0, g1⟩ := hR3.out.facts2
  rw [show (w.alloc (.cells (opC 8 a v) 24)).heap.size = w.heap.size + 1 by simp] at d0 d1 g0 g1
  refine wpAnyH_ready (rs := [6]) (by kernel_rfl) (by simp) ?_
  refine AllReadyH.cons rfl (fun K hK => ?_) AllReadyH.nil
  go_simp
  go_wp2_with fail
  refine hK.out _ _ ?_ (fun hH => ?_)
  · exact ⟨rw_other (rw_other hH.1 (by omega)) (by omega), below_set2 hH.2 (by omega) _ _⟩
  clear hK K
  try simp only [Act.put, List.setIfInBounds_toArray, List.set_cons_zero, List.set_cons_succ]
  refine takeD 7 (some 3) (v := ?_) rfl rfl (by kernel_rfl) (by kernel_rfl) (by kernel_rfl) (fun _ _ _ h => h) (Or.inl ⟨by rfl, ?_⟩) hH ?_
  rotate_left
  · intro w hSw; go_simp; try with_reducible rfl
  try simp only [Act.put, List.setIfInBounds_toArray, List.set_cons_zero, List.set_cons_succ]
  refine wpAnyH_done (by kernel_rfl) ?_ _
  refine NoPanic.normal ?_
  go_wp2_with fail
  have hn1 : w.heap.size + 1 = (w.alloc (.cells (opC 8 a v) 24)).heap.size := by simp
  have hR5 := hR3.out.set2 (a' := .int .i64 a) (b' := .slice (some ⟨g, 0, none⟩) l.length cap)
  rw [← hn1] at hR5
  refine bodyPost_ret (plan_res (fn := Tryd.f29) (g := w.heap.size + 1) rfl rfl rfl hR5) rfl ?_
  refine ⟨⟨g, cap, rfl, ?_, by simp; omega, hcp, ?_⟩, hH.2⟩
  · have : w1.drew.heap.size = w1.heap.size := rfl
    omega
  refine HN.out.of_block ?_
  have : w1.drew.heap.size = w1.heap.size := rfl
  rw [heap_setCell_other _ _ _ _ (by simp; omega), heap_setCell_other _ _ _ _ (by simp; omega)]
end Go.Proofs.YtjjnjglbmneecaaDoor
namespace Go.Proofs.YtjjnjglbmneecaaDoor
open Go Go.RowKit
theorem Bs.sl {w0 w : World} {v : Value} {l : List UInt8} (h : Bs w0 w v l) : ∃ ao oc, v = .slice ao l.length oc := by
  rcases h.own.2 with ⟨hv, h0⟩ | ⟨g, cap, cur, hv, _⟩
  · exact ⟨none, 0, by rw [hv, h0]⟩
  · exact ⟨_, _, hv⟩
theorem paL_1 (x : Opx) (r : List Opx) (acc : List UInt8) : paL (x :: r) acc = if 262144 < acc.length + (prx x).length + 1 then ([], 9) else paL r (acc ++ (prx x ++ [10])) := rfl
set_option maxRecDepth 100000 in
set_option maxHeartbeats 4000000 in
theorem rpall_any {w : World} (l : List Opx) (g cap : Nat) (hl : l.length ≤ 1000000) (hc : OpsAt w g l) (hg : g < w.heap.size) (hf : ∀ x ∈ l, Fine x) :
    Calls Tryd.prog 34 #[.slice (some ⟨g, 0, none⟩) l.length cap] w fun e w' => e = .returned (.tuple #[.string ⟨(paP l).1.toArray⟩, .int .i64 (paP l).2]) ∧ Below w.heap.size w w' := by
  by_cases h1 : 1000 < l.length
  · have hp : paP l = ([], 10) := if_pos h1
    rw [hp]
    have d1 : decide (1000 < (l.length : Int)) = true := by simp; omega
    clear hc hf hp
    go_enter Tryd.func34, Tryd.ntmps34
    go_wp2_with fail
    go_ret2
    exact ⟨rfl, Below.refl _ _⟩
  have d1 : decide (1000 < (l.length : Int)) = false := by simp; omega
  obtain ⟨i0, hi0, hz0, hz1, hz2⟩ := info_parts infoByte
  have HC := Lib.hid hc
  have HF := Lib.hid hf
  clear hc hf
  obtain ⟨rs, hrs⟩ : ∃ rs, paP l = rs := ⟨_, rfl⟩
  rw [hrs]
  have HRS := Lib.hid hrs
  have HN1 := Lib.hid h1
  clear hrs h1
  go_enter Tryd.func34, Tryd.ntmps34
  go_wp2_with fail
  go_loopg [4] l.length (fun mm i wr => ∃ (k : Nat), mm = l.length - k ∧ k ≤ l.length ∧ i = .int .i64 k ∧ (∀ x ∈ l.take k, zx x = 0) ∧ Below w.heap.size w wr)
  case atStart => exact ⟨0, rfl, by omega, rfl, by simp, Below.refl _ _⟩
  case round =>
    obtain ⟨k, hkm, hk, rfl, hz, hb⟩ := hrel
    have HK := Lib.hid hkm
    have HZ := Lib.hid hz
    clear hkm hz
    by_cases hlt : k < l.length
    · have hdi : decide ((k : Int) < (l.length : Int)) = true := by simp; omega
      obtain ⟨q0, q1, q2⟩ := (HC.out.below hb hg) k hlt
      have hmem := List.getElem_mem hlt
      have htk : l.take (k + 1) = l.take k ++ [l[k]] := List.take_succ_eq_append_getElem hlt
      have HB := Lib.hid hb
      have hle := hb.size
      clear hb
      generalize l[k] = x at q0 q1 q2 hmem htk
      have HX := Lib.hid (fun W : World => rcheck_any x.1 x.2.1 ⟨x.2.2.toArray⟩ W)
      rw [show chkZ x.1 x.2.1 (⟨x.2.2.toArray⟩ : ByteArray).data.toList = zx x from rfl] at HX
      by_cases hx : zx x = 0
      · have HZ2 : Hid (∀ y ∈ l.take (k + 1), zx y = 0) := Lib.hid (by
          rw [htk]; intro y hy
          rcases List.mem_append.1 hy with h | h
          · exact HZ.out y h
          · rw [List.mem_singleton.1 h]; exact hx)
        rw [hx] at HX
        clear hx htk hmem
        obtain ⟨xk, xa, xv⟩ := x
        unfold opV at HX
        dsimp only at *
        go_wp2_with (go_at_call 30; refine (HX.out _).mono ?_; rintro e w' ⟨rfl, hE⟩; have HE := Lib.hid hE; clear hE)
        go_roundg (l.length - (k + 1))
        case measure => have := HK.out; omega
        case rel => exact ⟨k + 1, rfl, by omega, by go_num, HZ2.out, HB.out.trans (below_le HE.out hle)⟩
      · have HR : Hid (rs = ([], 2)) := Lib.hid (by rw [← HRS.out]; unfold paP; rw [if_neg HN1.out, if_pos ⟨x, hmem, hx⟩])
        have h2 : zx x = 2 := chk_two hx
        rw [h2] at HX
        clear hx h2 htk hmem
        obtain ⟨xk, xa, xv⟩ := x
        unfold opV at HX
        dsimp only at *
        go_wp2_with (go_at_call 30; refine (HX.out _).mono ?_; rintro e w' ⟨rfl, hE⟩; have HE := Lib.hid hE; clear hE)
        go_ret2
        exact ⟨by rw [HR.out]; rfl, HB.out.trans (below_le HE.out hle)⟩
    · have hkl : k = l.length := by omega
      subst hkl
      have hdi : decide ((l.length : Int) < (l.length : Int)) = false := by simp
      have hzz := HZ.out
      rw [List.take_length] at hzz
      have HRL : Hid (paL l [] = rs) := Lib.hid (by
        rw [← HRS.out]; unfold paP; rw [if_neg HN1.out, if_neg]
        rintro ⟨x, h1, h2⟩; exact h2 (hzz x h1))
      have HZ := Lib.hid hzz
      have HB := Lib.hid hb
      have hle := hb.size
      have HC1 := Lib.hid (HC.out.below hb hg)
      have hg1 : g < wr.heap.size := by omega
      clear hzz hb
      generalize wr = wa at *
      go_wp2_with fail
      go_loopg [5, 6] l.length (fun mm o i wv => ∃ (k : Nat) (acc : List UInt8), mm = l.length - k ∧ k ≤ l.length ∧ i = .int .i64 k ∧ rs = paL (l.drop k) acc ∧ acc.length ≤ 262144 ∧ Bs wa wv o acc)
      case atStart => exact ⟨0, [], rfl, by omega, rfl, HRL.out.symm, by simp, ⟨World.ownsRow_nil _ _ _ _, Below.refl _ _⟩⟩
      case round =>
        obtain ⟨k, acc, hkm, hk, rfl, hix, hacc, hb⟩ := hrel
        have HK2 := Lib.hid hkm
        clear hkm
        by_cases hlt : k < l.length
        · have hdi : decide ((k : Int) < (l.length : Int)) = true := by simp; omega
          obtain ⟨q0, q1, q2⟩ := (HC1.out.below hb.bel hg1) k hlt
          have hd : l.drop k = l[k] :: l.drop (k + 1) := List.drop_eq_getElem_cons hlt
          have hfx := HF.out _ (List.getElem_mem hlt)
          have hzx := HZ.out _ (List.getElem_mem hlt)
          rw [hd] at hix
          generalize l[k] = x at q0 q1 q2 hix hfx hzx
          rw [paL_1] at hix
          have HI := Lib.hid hix
          have hpl := prx_len hfx
          have HP := Lib.hid (fun (W : World) => rprint_any x.1 x.2.1 ⟨x.2.2.toArray⟩ (by simpa [ByteArray.size] using hfx.1) W)
          rw [show chkZ x.1 x.2.1 (⟨x.2.2.toArray⟩ : ByteArray).data.toList = 0 from hzx, show prS x.1 x.2.1 (⟨x.2.2.toArray⟩ : ByteArray).data.toList = prx x from rfl] at HP
          have hb0 := Lib.hid hb
          have hle2 := hb.bel.size
          clear hix hd hb hfx hzx
          obtain ⟨xk, xa, xv⟩ := x
          unfold opV at HP
          dsimp only at *
          generalize prx (xk, xa, xv) = p at *
          have m1 := trivial
          obtain ⟨n, hn⟩ : ∃ n, acc.length + p.length + 1 = n := ⟨_, rfl⟩
          by_cases hx : 262144 < acc.length + p.length + 1
          · have HZ2 : Hid (rs = ([], 9)) := Lib.hid (by rw [HI.out, if_pos hx])
            have hdx : decide ((262144 : Int) < (n : Int)) = true := by simp; omega
            have HH := Lib.hid hx
            have HN := Lib.hid hn
            clear hx hn
            go_wp2_with (first
              | (go_at_call 28; refine (HP.out _).mono ?_; rintro e w2 ⟨rfl, hE⟩; have hb1 := Lib.hid (hb0.out.grow hE); have hle3 := hb1.out.bel.size; clear hE)
              | (have _t := m1; at_builtin; refine Lib.wpList_append_own_string _ rfl _ _ 33 9 rfl wa.heap.size 5 i0 Tryd.underlying33 Tryd.underlying9 hi0 hz0 hz1 hz2 _ _ _ rfl hb1.out.own ⟨p.toArray⟩ rfl (by unfold maxLen; simp [ByteArray.size]; omega) (by simp [ByteArray.size]; omega) (by omega) ?_; intro v' w5 hown' hgrow _; clear m1 _t; have hb2 := Lib.hid (hb1.out.apps (by simpa [ByteArray.size] using hown') hgrow); have hle4 := hb2.out.bel.size; have hbl : (acc ++ p).length = acc.length + p.length := List.length_append; clear hown' hgrow)
              | (at_builtin; refine wpList_append_own _ rfl _ _ 33 rfl wa.heap.size 5 i0 (.int .u8 0) 1 1 Tryd.underlying33 hi0 hz0 hz1 hz2 rfl (by decide) _ _ _ rfl (hb2.out.own.alloc _) ⟨_, 0, none⟩ 1 1 [.int .u8 10] rfl rfl (cell_one_new _ _ _) (by simp [Value.oneCell']) (by unfold maxLen; omega) (by omega) (by simp; omega) ?_; intro v' w6 hown' hgrow _; have hb3 := Lib.hid (hb2.out.app (x := 10) hown' hgrow); clear hown' hgrow; obtain ⟨ao, oc, hv⟩ := hb3.out.sl; have hln : (acc ++ p ++ [(10 : UInt8)]).length = acc.length + p.length + 1 := by rw [List.length_append, List.length_append]; rfl
                 rw [hln, HN.out] at hv; subst hv; clear hln hbl))
            go_ret2
            exact ⟨by rw [HZ2.out]; rfl, HB.out.trans (below_le hb3.out.bel hle)⟩
          · have HZ2 : Hid (rs = paL (l.drop (k + 1)) (acc ++ (p ++ [10]))) := Lib.hid (by rw [HI.out, if_neg hx])
            have hdx : decide ((262144 : Int) < (n : Int)) = false := by simp; omega
            have HH := Lib.hid hx
            have HN := Lib.hid hn
            clear hx hn
            go_wp2_with (first
              | (go_at_call 28; refine (HP.out _).mono ?_; rintro e w2 ⟨rfl, hE⟩; have hb1 := Lib.hid (hb0.out.grow hE); have hle3 := hb1.out.bel.size; clear hE)
              | (have _t := m1; at_builtin; refine Lib.wpList_append_own_string _ rfl _ _ 33 9 rfl wa.heap.size 5 i0 Tryd.underlying33 Tryd.underlying9 hi0 hz0 hz1 hz2 _ _ _ rfl hb1.out.own ⟨p.toArray⟩ rfl (by unfold maxLen; simp [ByteArray.size]; omega) (by simp [ByteArray.size]; omega) (by omega) ?_; intro v' w5 hown' hgrow _; clear m1 _t; have hb2 := Lib.hid (hb1.out.apps (by simpa [ByteArray.size] using hown') hgrow); have hle4 := hb2.out.bel.size; have hbl : (acc ++ p).length = acc.length + p.length := List.length_append; clear hown' hgrow)
              | (at_builtin; refine wpList_append_own _ rfl _ _ 33 rfl wa.heap.size 5 i0 (.int .u8 0) 1 1 Tryd.underlying33 hi0 hz0 hz1 hz2 rfl (by decide) _ _ _ rfl (hb2.out.own.alloc _) ⟨_, 0, none⟩ 1 1 [.int .u8 10] rfl rfl (cell_one_new _ _ _) (by simp [Value.oneCell']) (by unfold maxLen; omega) (by omega) (by simp; omega) ?_; intro v' w6 hown' hgrow _; have hb3 := Lib.hid (hb2.out.app (x := 10) hown' hgrow); clear hown' hgrow; obtain ⟨ao, oc, hv⟩ := hb3.out.sl; have hln : (acc ++ p ++ [(10 : UInt8)]).length = acc.length + p.length + 1 := by rw [List.length_append, List.length_append]; rfl
                 rw [hln, HN.out] at hv; subst hv; clear hln hbl))
            go_roundg (l.length - (k + 1))
            case measure => have := HK2.out; omega
            case rel => exact ⟨k + 1, acc ++ p ++ [10], rfl, by omega, by go_num, by rw [HZ2.out, List.append_assoc], by have := HH.out; simp; omega, hb3.out⟩
        · have hkl : k = l.length := by omega
          subst hkl
          rw [List.drop_length] at hix
          have HI := Lib.hid hix
          have hdi : decide ((l.length : Int) < (l.length : Int)) = false := by simp
          have hcv := bs_string hb.own
          have HB3 := Lib.hid hb
          clear hix hb
          go_wp2_with fail
          go_ret2
          exact ⟨by rw [HI.out]; rfl, HB.out.trans (below_le HB3.out.bel hle)⟩
theorem rpall_nil (w : World) : Calls Tryd.prog 34 #[.slice none 0 0] w fun e w' => e = .returned (.tuple #[.string ⟨#[]⟩, .int .i64 0]) ∧ Below w.heap.size w w' := by
  go_enter Tryd.func34, Tryd.ntmps34
  go_wp2_with fail
  go_loopg [4] 1 (fun mm i wr => mm = 1 ∧ i = .int .i64 0 ∧ Below w.heap.size w wr)
  case atStart => exact ⟨rfl, rfl, Below.refl _ _⟩
  case round =>
    obtain ⟨rfl, rfl, hb⟩ := hrel
    generalize wr = wa at *
    have HB := Lib.hid hb
    clear hb
    go_wp2_with fail
    go_loopg [5, 6] 1 (fun mm o i wv => mm = 1 ∧ i = .int .i64 0 ∧ Bs wa wv o [])
    case atStart => exact ⟨rfl, rfl, ⟨World.ownsRow_nil _ _ _ _, Below.refl _ _⟩⟩
    case round =>
      obtain ⟨rfl, rfl, hb⟩ := hrel
      have hcv := bs_string hb.own
      have HB3 := Lib.hid hb
      clear hb
      go_wp2_with fail
      go_ret2
      exact ⟨rfl, HB.out.trans (below_le HB3.out.bel HB.out.size)⟩
end Go.Proofs.YtjjnjglbmneecaaDoor
namespace Go.Proofs.YtjjnjglbmneecaaDoor
open Go Go.RowKit
theorem paG_1 (ln : List UInt8) (r : List (List UInt8)) (i : Nat) (acc : List Opx) : paG (ln :: r) i acc = if ln.head?.getD 35 = 35 then paG r (i + 1) acc else if acc.length = 1000 then ([], i + 1, 10) else
    match parO ln with
    | none => ([], i + 1, 8)
    | some x => paG r (i + 1) (acc ++ [x]) := by rw [paG]; rfl
theorem rpa_long (s : ByteArray) (hs : 262144 < s.size) (w : World) :
    Calls Tryd.prog 35 #[.string s] w fun e w' => ∃ v, e = .returned (.tuple #[v, .int .i64 (paA s.data.toList).2.1, .int .i64 (paA s.data.toList).2.2]) ∧ Opsl w w' v (paA s.data.toList).1 := by
  have hp : paA s.data.toList = ([], 0, 9) := if_pos (by have := Lib.size_eq s; omega)
  rw [hp]
  have hdl : decide (262144 < (s.size : Int)) = true := by simp; omega
  go_enter Tryd.func35, Tryd.ntmps35
  go_wp2_with fail
  go_ret3
  exact ⟨_, rfl, Opsl.nil (Below.refl _ _)⟩
set_option maxRecDepth 100000 in
set_option maxHeartbeats 4000000 in
theorem rpa_any (s : ByteArray) (hs : s.size ≤ 250000) (w : World) :
    Calls Tryd.prog 35 #[.string s] w fun e w' => ∃ v, e = .returned (.tuple #[v, .int .i64 (paA s.data.toList).2.1, .int .i64 (paA s.data.toList).2.2]) ∧ Opsl w w' v (paA s.data.toList).1 := by
  have hp : paA s.data.toList = paG (parts 10 s.data.toList) 0 [] := if_neg (by have := Lib.size_eq s; omega)
  rw [hp]
  clear hp
  obtain ⟨i0, hi0, hz0, hz1, hz2⟩ := info_parts infoOp
  have hcl := Nat.le_trans (partsA_count 10 s.data.toList []) (by have := Lib.size_eq s; omega : s.data.toList.length + 1 ≤ 250001)
  have hpl : ∀ p ∈ parts 10 s.data.toList, p.length ≤ 250000 := fun p hp => by have := parts_len 10 _ p hp; have := Lib.size_eq s; omega
  have hpne : parts 10 s.data.toList ≠ [] := partsA_ne
  have HSp := Lib.hid (fun W : World => split_any s (by omega) 10 W)
  change (parts 10 s.data.toList).length ≤ 250001 at hcl
  generalize parts 10 s.data.toList = ps at *
  have HN := Lib.hid hpl
  clear hpl
  obtain ⟨rs, hrs⟩ : ∃ rs, paG ps 0 [] = rs := ⟨_, rfl⟩
  rw [hrs]
  have HRS := Lib.hid hrs
  clear hrs
  have hdl : decide (262144 < (s.size : Int)) = false := by simp; omega
  have HSZ := Lib.hid hs
  have HWL := Lib.hid hcl
  clear hs hcl
  go_enter Tryd.func35, Tryd.ntmps35
  go_wp2_with (go_at_call 57; refine (HSp.out _).mono ?_; rintro e w1 ⟨v1, rfl, hS⟩; obtain ⟨gs, cs, hvs, _, hgs, _, hat⟩ := hS.row hpne; subst hvs; have HB1 := Lib.hid hS.bel; have HAT := Lib.hid hat; have hle1 := hS.bel.size; clear hS hat)
  go_loopg [6, 7] ps.length (fun mm o i wr => ∃ (k : Nat) (acc : List Opx), mm = ps.length - k ∧ k ≤ ps.length ∧ acc.length ≤ k ∧ i = .int .i64 k ∧ rs = paG (ps.drop k) k acc ∧ Opsl w1 wr o acc)
  case atStart => exact ⟨0, [], rfl, by omega, by simp, rfl, by rw [List.drop_zero]; exact HRS.out.symm, Opsl.nil (Below.refl _ _)⟩
  case round =>
    obtain ⟨k, acc, hkm, hk, hak, rfl, hix, hb⟩ := hrel
    have HK := Lib.hid hkm
    clear hkm
    by_cases hlt : k < ps.length
    · have hdi : decide ((k : Int) < (ps.length : Int)) = true := by simp; omega
      have hcell := (HAT.out.below hb.bel hgs) k hlt
      have hd : ps.drop k = ps[k] :: ps.drop (k + 1) := List.drop_eq_getElem_cons hlt
      have hqz := HN.out _ (List.getElem_mem hlt)
      rw [hd] at hix
      generalize ps[k] = p at hcell hix hqz
      obtain ⟨q, hq⟩ : ∃ q : ByteArray, (⟨p.toArray⟩ : ByteArray) = q := ⟨_, rfl⟩
      have hqp : q.data.toList = p := by rw [← hq]
      rw [hq] at hcell
      rw [paG_1, ← hqp] at hix
      have hqs0 : q.size ≤ 250000 := by rw [Lib.size_eq, hqp]; exact hqz
      clear hq hqp hqz
      have hql : q.toList = q.data.toList := Lib.toList_data q
      have HI := Lib.hid hix
      have Hb := Lib.hid hb
      have hkb : k ≤ 250000 := by have := HWL.out; omega
      clear hix hd hb
      by_cases hq0 : q.data.toList = []
      · have hq1 : q.toList.isEmpty = true := by rw [hql, hq0]; rfl
        have HZ : Hid (rs = paG (ps.drop (k + 1)) (k + 1) acc) := Lib.hid (by rw [HI.out, hq0]; rfl)
        clear hq0 hql
        go_wp2_with fail
        go_roundg (ps.length - (k + 1))
        case measure => have := HK.out; omega
        case rel => exact ⟨k + 1, acc, rfl, by omega, by omega, by go_num, HZ.out, Hb.out⟩
      obtain ⟨c, r, hcr⟩ : ∃ c r, q.data.toList = c :: r := by
        rcases h : q.data.toList with _ | ⟨c, r⟩
        · exact absurd h hq0
        · exact ⟨c, r, rfl⟩
      have hq1 : q.toList.isEmpty = false := by rw [hql, hcr]; rfl
      have hqs : 0 < q.size := by rw [Lib.size_eq, hcr]; simp
      have hc0 : q[0] = c := by
        have : q.data.toList[0]'(by rw [hcr]; simp) = c := by simp [hcr]
        rw [← this]; rfl
      by_cases hc : c = 35
      · have HZ : Hid (rs = paG (ps.drop (k + 1)) (k + 1) acc) := Lib.hid (by rw [HI.out, hcr, if_pos (by simp [hc])])
        subst hc
        clear hq0 hql hcr
        go_wp2_with fail
        go_roundg (ps.length - (k + 1))
        case measure => have := HK.out; omega
        case rel => exact ⟨k + 1, acc, rfl, by omega, by omega, by go_num, HZ.out, Hb.out⟩
      have hc35 : (c.toNat : Int) ≠ 35 := fun h => hc (UInt8.toNat_inj.1 (by show c.toNat = 35; omega))
      have HI2 : Hid (rs = if acc.length = 1000 then ([], (k : Int) + 1, 10) else match parO q.data.toList with | none => ([], (k : Int) + 1, 8) | some x => paG (ps.drop (k + 1)) (k + 1) (acc ++ [x])) := Lib.hid (by rw [HI.out, if_neg (by rw [hcr]; simpa using hc)])
      have HP := Lib.hid (fun (W : World) => rparse_any q hqs0 W)
      unfold parV parE at HP
      clear HI hcr hql hq0
      obtain ⟨ao, oc, rfl⟩ : ∃ ao oc, u6 = .slice ao acc.length oc := by
        rcases Hb.out.row with ⟨h, h2⟩ | ⟨g, cap, h, _⟩
        · exact ⟨none, 0, by rw [h, h2]; rfl⟩
        · exact ⟨_, _, h⟩
      by_cases hn : acc.length = 1000
      · have dn : ((acc.length : Int) == 1000) = true := by simp; omega
        have HZ : Hid (rs = ([], (k : Int) + 1, 10)) := Lib.hid (by rw [HI2.out, if_pos hn])
        clear HP hn
        go_wp2_with fail
        go_ret3
        exact ⟨_, by rw [HZ.out]; rfl, by rw [HZ.out]; exact Opsl.nil (HB1.out.trans (below_le Hb.out.bel HB1.out.size))⟩
      have dn : ((acc.length : Int) == 1000) = false := by simp; omega
      rcases hpo : parO q.data.toList with _ | x
      · rw [hpo] at HP HI2
        have HZ : Hid (rs = ([], (k : Int) + 1, 8)) := Lib.hid (by rw [HI2.out, if_neg hn])
        clear hpo HI2 hn
        unfold opV at HP
        dsimp only at HP
        go_wp2_with (go_at_call 14; refine (HP.out _).mono ?_; rintro e w2 ⟨rfl, hE⟩; have HE := Lib.hid ((Hb.out.grow hE).bel); clear hE)
        go_ret3
        exact ⟨_, by rw [HZ.out]; rfl, by rw [HZ.out]; exact Opsl.nil ((HB1.out.trans (below_le HE.out HB1.out.size)).alloc (by have h1 := HE.out.size; have h2 := HB1.out.size; omega) _)⟩
      · rw [hpo] at HP HI2
        have HZ : Hid (rs = paG (ps.drop (k + 1)) (k + 1) (acc ++ [x])) := Lib.hid (by rw [HI2.out, if_neg hn])
        clear hpo HI2 hn
        obtain ⟨xk, xa, xv⟩ := x
        unfold opV at HP
        dsimp only at HP
        go_wp2_with (first
          | (go_at_call 14; refine (HP.out _).mono ?_; rintro e w2 ⟨rfl, hE⟩; have HO2 := Hb.out.grow hE; have HO3 := Lib.hid ((HO2.grow (below_al w2 (.cells #[.int .i64 xk, .int .i64 xa, .string ⟨xv.toArray⟩] 24))).grow (below_al _ (.cells #[.int .i64 xk, .int .i64 xa, .string ⟨xv.toArray⟩] 24)))
             have hCR := Lib.hid (cell_row3_new (w2.alloc (.cells #[.int .i64 xk, .int .i64 xa, .string ⟨xv.toArray⟩] 24)) (.int .i64 xk) (.int .i64 xa) (.string ⟨xv.toArray⟩) 24)
             have hle2 := HO2.bel.size
             clear hE HO2)
          | (at_builtin; refine wpList_append_own _ rfl _ _ 43 rfl w1.heap.size 24 i0 (.agg #[.int .i64 0, .int .i64 0, .string ⟨#[]⟩]) 3 32 Tryd.underlying43 hi0 hz0 hz1 hz2 rfl (by decide) _ _ _ rfl HO3.out.own ⟨w2.heap.size + 1, 0, none⟩ 1 1 [.int .i64 xk, .int .i64 xa, .string ⟨xv.toArray⟩] rfl rfl (by have := hCR.out; rwa [show (w2.alloc (.cells #[.int .i64 xk, .int .i64 xa, .string ⟨xv.toArray⟩] 24)).heap.size = w2.heap.size + 1 by simp] at this) (by simp [Value.oneCell']) (by unfold maxLen; omega) (by omega) (by simp; omega) ?_; intro v' w5 hown' hgrow _; have HO := Lib.hid hown'; have HG := Lib.hid hgrow; clear hown' hgrow))
        go_roundg (ps.length - (k + 1))
        case measure => have := HK.out; omega
        case rel => exact ⟨k + 1, acc ++ [(xk, xa, xv)], rfl, by omega, by simp; omega, by go_num, HZ.out, HO3.out.app (x := (xk, xa, xv)) HO.out HG.out⟩
    · have hkl : k = ps.length := by omega
      subst hkl
      rw [List.drop_length] at hix
      have HI := Lib.hid hix
      have Hb := Lib.hid hb
      have hdi : decide ((ps.length : Int) < (ps.length : Int)) = false := by simp
      clear hix hb
      go_wp2_with fail
      go_ret3
      rw [HI.out]
      exact ⟨_, rfl, Hb.out.base HB1.out⟩
end Go.Proofs.YtjjnjglbmneecaaDoor
