/- The law ScriptOps, walked. -/
import Derived.Test.YtjjnjglbmneecaaDoorSyC
namespace Go.Proofs.YtjjnjglbmneecaaDoor
open Go Go.RowKit
/-- The numbers that a slice holds. -/
def IsNums (W : World) (ao : Option Addr) (L : List Int) : Prop := L = [] ∨ ∃ g, ao = some ⟨g, 0, none⟩ ∧ g < W.heap.size ∧ Nums W g L
theorem IsNums.below {W W' : World} {ao : Option Addr} {L : List Int} (h : IsNums W ao L) (hb : Below W.heap.size W W') : IsNums W' ao L := by
  rcases h with h | ⟨g, h1, h2, h3⟩
  · exact .inl h
  · exact .inr ⟨g, h1, Nat.lt_of_lt_of_le h2 hb.size, h3.below hb h2⟩
/-- What Plan returns. -/
def plR (k a : Int) (v : List UInt8) : Int × List Int × Int := if chkZ k a v = 0 ∧ k = 8 then (a, keepP v, 0) else (0, [], 2)
theorem splan_is {w : World} (hw : EnvS w) (k a : Int) (v : ByteArray) (hv : v.size ≤ 90000) :
    Calls Tryd.prog 25 #[opV k a v] w fun e w' => (∃ ao cap, e = .returned (.tuple #[.agg #[.int .i64 (plR k a v.data.toList).1, .slice ao (plR k a v.data.toList).2.1.length cap], .int .i64 (plR k a v.data.toList).2.2]) ∧ (plR k a v.data.toList).2.1.length ≤ cap ∧ IsNums w' ao (plR k a v.data.toList).2.1) ∧ Below w.heap.size w w' := by
  by_cases h : chkZ k a v.data.toList = 0 ∧ k = 8
  · have hp : plR k a v.data.toList = (a, keepP v.data.toList, 0) := if_pos h
    rw [hp]
    obtain ⟨h1, rfl⟩ := h
    obtain ⟨l, h2, h3⟩ := chk8 h1
    have h4 : keepP v.data.toList = l := keep_plan h2 h3.2.2.2.1 h3.2.2.2.2
    rw [h4]
    exact (splan_ok hw a v (by omega) h1 h2).mono fun e w' ⟨⟨g, cap, q1, _, q3, q4, q5⟩, q6⟩ => ⟨⟨_, cap, q1, q4, .inr ⟨g, rfl, q3, q5⟩⟩, q6⟩
  · have hp : plR k a v.data.toList = (0, [], 2) := if_neg h
    rw [hp]
    exact (splan_no hw k a v (by omega) h).mono fun e w' ⟨q1, q2⟩ => ⟨⟨none, 0, q1, Nat.le_refl _, .inl rfl⟩, q2⟩
theorem rplan_is (k a : Int) (v : ByteArray) (hv : v.size ≤ 90000) (w : World) :
    Calls Tryd.prog 29 #[opV k a v] w fun e w' => (∃ ao cap, e = .returned (.tuple #[.agg #[.int .i64 (plR k a v.data.toList).1, .slice ao (plR k a v.data.toList).2.1.length cap], .int .i64 (plR k a v.data.toList).2.2]) ∧ (plR k a v.data.toList).2.1.length ≤ cap ∧ IsNums w' ao (plR k a v.data.toList).2.1) ∧ Below w.heap.size w w' := by
  by_cases h : chkZ k a v.data.toList = 0 ∧ k = 8
  · have hp : plR k a v.data.toList = (a, keepP v.data.toList, 0) := if_pos h
    rw [hp]
    obtain ⟨h1, rfl⟩ := h
    obtain ⟨l, h2, h3⟩ := chk8 h1
    have h4 : keepP v.data.toList = l := keep_plan h2 h3.2.2.2.1 h3.2.2.2.2
    have h5 : l ≠ [] := fun e => by have := h3.2.2.1; rw [e] at this; simp at this
    rw [h4]
    exact (rplan_ok a v hv h1 h4 h5 w).mono fun e w' ⟨⟨g, cap, q1, _, q3, q4, q5⟩, q6⟩ => ⟨⟨_, cap, q1, q4, .inr ⟨g, rfl, q3, q5⟩⟩, q6⟩
  · have hp : plR k a v.data.toList = (0, [], 2) := if_neg h
    rw [hp]
    exact (rplan_no k a v h w).mono fun e w' ⟨q1, q2⟩ => ⟨⟨none, 0, q1, Nat.le_refl _, .inl rfl⟩, q2⟩
theorem plR_len (k a : Int) (v : List UInt8) : (plR k a v).2.1.length ≤ 64 := by
  unfold plR
  split
  · rename_i h
    obtain ⟨h1, rfl⟩ := h
    obtain ⟨l, h2, h3⟩ := chk8 h1
    rw [keep_plan h2 h3.2.2.2.1 h3.2.2.2.2]
    exact h3.2.2.2.1
  · simp
/-- What is carried: the operation's block, the plans', their numbers. -/
structure OsS (w : World) (k a : Int) (v : ByteArray) (a' : Int) (L : List Int) (g9 g11 : Nat) (ao1 ao2 : Option Addr) (c1 c2 : Nat) (W : World) : Prop where
  opr : Rw W w.heap.size 24 (opC k a v)
  p : Rw W g9 50 #[.int .i64 a', .slice ao1 L.length c1]
  q : Rw W g11 50 #[.int .i64 a', .slice ao2 L.length c2]
  n1 : IsNums W ao1 L
  n2 : IsNums W ao2 L
  bel : Below w.heap.size w W
theorem OsS.below {w W W' : World} {k a a' : Int} {v : ByteArray} {L : List Int} {g9 g11 c1 c2 : Nat} {ao1 ao2 : Option Addr} (h : OsS w k a v a' L g9 g11 ao1 ao2 c1 c2 W) (hb : Below W.heap.size W W') : OsS w k a v a' L g9 g11 ao1 ao2 c1 c2 W' :=
  ⟨h.opr.below hb h.opr.lt, h.p.below hb h.p.lt, h.q.below hb h.q.lt, h.n1.below hb, h.n2.below hb, h.bel.trans (below_le hb h.bel.size)⟩
set_option linter.unusedSimpArgs false in
set_option maxRecDepth 100000 in
set_option maxHeartbeats 8000000 in
theorem ops_any (k a : Int) (v : ByteArray) (kd : Int) (h0 : -9223372036854775808 ≤ a) (h1 : a ≤ 9223372036854775807) {w : World} (hw : EnvS w) : Calls Tryd.prog 8 #[opV k a v, .int .i64 kd] w fun e w' => e = .returned (.bool true) ∧ Below w.heap.size w w' := by
  have HWk := Lib.hid (fun (W : World) (h : EnvS W) => works_any h)
  have hB0 := Lib.hid (below_al w (.cells (opC k a v) 24))
  have hO0 := Lib.hid (Rw.new w 24 (opC k a v))
  by_cases hm : (1000 < v.size ∧ v.size ≤ 40000) ∨ 40010 < v.size
  · unfold opV
    rcases hm with ⟨h2, h3⟩ | h2
    · have d1 : decide ((1000 : Int) < (v.size : Int)) = true := by simp; omega
      have d2 : decide ((v.size : Int) ≤ 40000) = true := by simp; omega
      go_enter Tryd.func8, Tryd.ntmps8
      go_wp2_with (go_at_call 12; refine (HWk.out _ (hw.below hB0.out)).mono ?_; rintro e w' ⟨rfl, hE⟩)
      go_ret
      exact ⟨rfl, hB0.out.trans (below_le hE hB0.out.size)⟩
    · have d1 : decide ((1000 : Int) < (v.size : Int)) = true := by simp; omega
      have d2 : decide ((v.size : Int) ≤ 40000) = false := by simp; omega
      have d3 : decide ((40010 : Int) < (v.size : Int)) = true := by simp; omega
      go_enter Tryd.func8, Tryd.ntmps8
      go_wp2_with (go_at_call 12; refine (HWk.out _ (hw.below hB0.out)).mono ?_; rintro e w' ⟨rfl, hE⟩)
      go_ret
      exact ⟨rfl, hB0.out.trans (below_le hE hB0.out.size)⟩
  have hv : v.size ≤ 40010 := by omega
  have d3 : decide ((40010 : Int) < (v.size : Int)) = false := by simp; omega
  have HP1 := Lib.hid (fun (W : World) (h : EnvS W) => print_any h k a v (by omega) h0 h1)
  have HP2 := Lib.hid (fun (W : World) => rprint_any k a v (by omega) W)
  have HL1 := Lib.hid (fun (W : World) (h : EnvS W) => splan_is h k a v (by omega))
  have HL2 := Lib.hid (fun (W : World) => rplan_is k a v (by omega) W)
  have HC1 := Lib.hid (fun (W : World) (h : EnvS W) => check_any h k a v (by omega))
  have HC2 := Lib.hid (fun (W : World) => rcheck_any k a v W)
  have HW1 := Lib.hid (fun (W : World) (h : EnvS W) => word_any h kd)
  have HW2 := Lib.hid (fun (W : World) => rword_any kd W)
  have hL64 := plR_len k a v.data.toList
  unfold opV at HP1 HP2 HL1 HL2 HC1 HC2 ⊢
  generalize prS k a v.data.toList = ps at *
  generalize chkZ k a v.data.toList = z at *
  generalize plR k a v.data.toList = pl at *
  generalize wordK kd = wk at *
  obtain ⟨a', L, pe⟩ := pl
  dsimp only at HL1 HL2 hL64
  have hEV := Lib.hid hw
  clear h0 h1
  have hdd : (decide ((1000 : Int) < (v.size : Int)) = true ∧ decide ((v.size : Int) ≤ 40000) = false) ∨ decide ((1000 : Int) < (v.size : Int)) = false := by
    by_cases h : 1000 < v.size
    · exact .inl ⟨by simp; omega, by simp; omega⟩
    · exact .inr (by simp; omega)
  clear hm
  rcases hdd with ⟨d1, d2⟩ | d1
  all_goals
    go_enter Tryd.func8, Tryd.ntmps8
    go_wp2_with (first
      | (go_at_call 20; refine (HP1.out _ (hEV.out.below hB0.out)).mono ?_; rintro e w1 ⟨rfl, hE⟩; have hB1 := Lib.hid (hB0.out.trans (below_le hE hB0.out.size)); have hO1 := Lib.hid (hO0.out.below hE hO0.out.lt); obtain ⟨c0, c1, c2, _, _, _⟩ := hO1.out.facts; clear hE)
      | (go_at_call 28; refine (HP2.out _).mono ?_; rintro e w2 ⟨rfl, hE⟩; clear c0 c1 c2; have hB2 := Lib.hid (hB1.out.trans (below_le hE hB1.out.size)); have hO2 := Lib.hid (hO1.out.below hE hO1.out.lt); obtain ⟨c0, c1, c2, _, _, _⟩ := hO2.out.facts; clear hE)
      | (go_at_call 25; refine (HL1.out _ (hEV.out.below hB2.out)).mono ?_; rintro e w3 ⟨⟨ao1, cp1, rfl, hcp1, hN⟩, hE⟩; clear c0 c1 c2
         have hb := hE.trans (below_le (below_al w3 (.cells #[.int .i64 a', .slice ao1 L.length cp1] 50)) hE.size)
         have hB3 := Lib.hid (hB2.out.trans (below_le hb hB2.out.size)); have hO3 := Lib.hid (hO2.out.below hb hO2.out.lt); have hQ3 := Lib.hid (Rw.new w3 50 #[.int .i64 a', .slice ao1 L.length cp1]); have hN3 := Lib.hid (hN.below (below_al w3 (.cells #[.int .i64 a', .slice ao1 L.length cp1] 50))); obtain ⟨c0, c1, c2, _, _, _⟩ := hO3.out.facts; clear hE hb hN)
      | (go_at_call 29; refine (HL2.out _).mono ?_; rintro e w4 ⟨⟨ao2, cp2, rfl, hcp2, hN⟩, hE⟩; clear c0 c1 c2
         have hb := hE.trans (below_le (below_al w4 (.cells #[.int .i64 a', .slice ao2 L.length cp2] 50)) hE.size)
         have hS := Lib.hid (OsS.mk (hO3.out.below hb hO3.out.lt) (hQ3.out.below hb hQ3.out.lt) (Rw.new w4 50 #[.int .i64 a', .slice ao2 L.length cp2]) (hN3.out.below hb) (hN.below (below_al w4 (.cells #[.int .i64 a', .slice ao2 L.length cp2] 50))) (hB3.out.trans (below_le hb hB3.out.size)))
         obtain ⟨q0, q1, _, _⟩ := hS.out.p.facts2
         obtain ⟨r0, r1, _, _⟩ := hS.out.q.facts2
         clear hE hb hN hO3 hQ3 hN3 hB3))
    clear q0 q1 r0 r1
    generalize w4.alloc _ = w5 at *
    go_loopg [13] L.length (fun mm i wr => ∃ j : Nat, mm = L.length - j ∧ j ≤ L.length ∧ i = .int .i64 j ∧ OsS w k a v a' L w3.heap.size w4.heap.size ao1 ao2 cp1 cp2 wr)
    case atStart => exact ⟨0, rfl, by omega, rfl, hS.out⟩
    case round =>
      clear hS
      obtain ⟨j, hkm, hj, rfl, hSS⟩ := hrel
      have HK := Lib.hid hkm
      have hS := Lib.hid hSS
      obtain ⟨q0, q1, _, _⟩ := hSS.p.facts2
      obtain ⟨r0, r1, _, _⟩ := hSS.q.facts2
      clear hkm
      by_cases hjl : j < L.length
      · have dl : decide ((j : Int) < (L.length : Int)) = true := by simp; omega
        rcases hSS.n1 with h | ⟨g, rfl, hg, hn1⟩
        · rw [h] at hjl; simp at hjl
        rcases hSS.n2 with h | ⟨g', rfl, hg', hn2⟩
        · rw [h] at hjl; simp at hjl
        have e1 := hn1 j hjl
        have e2 := hn2 j hjl
        generalize L[j] = x at e1 e2
        clear hSS hn1 hn2
        go_wp2_with fail
        go_region
        go_wp2_with fail
        go_roundg (L.length - (j + 1))
        case measure => have := HK.out; omega
        case rel => exact ⟨j + 1, rfl, by omega, by go_num, hS.out.below (Below.refl _ _).drew⟩
      have dl : decide ((j : Int) < (L.length : Int)) = false := by simp; omega
      clear hSS
      go_wp2_with fail
      clear q0 q1 r0 r1
      refine wp_region_noPanic ?_
      refine wp_region_held_drew (S := fun w' => EnvS w' ∧ Rw w' w.heap.size 24 (opC k a v) ∧ Below w.heap.size w w') (by kernel_rfl) (⟨hw.below hS.out.bel.drew, hS.out.opr, hS.out.bel.drew⟩) (fun hH => ?_)
      refine takeD 0 (some 88) (v := ?_) rfl rfl (by kernel_rfl) (by kernel_rfl) (by kernel_rfl) (fun _ _ _ h => h) (Or.inl ⟨by rfl, ?_⟩) hH ?_
      rotate_left
      · intro w hSw; obtain ⟨c0, c1, c2, f0, f1, f2⟩ := hSw.2.1.facts; go_simp; try with_reducible rfl
      try simp only [Act.put, List.setIfInBounds_toArray, List.set_cons_zero, List.set_cons_succ]
      refine takeD 2 (some 90) (v := ?_) rfl rfl (by kernel_rfl) (by kernel_rfl) (by kernel_rfl) (fun _ _ _ h => h) (Or.inl ⟨by rfl, ?_⟩) hH ?_
      rotate_left
      · intro w hSw; obtain ⟨c0, c1, c2, f0, f1, f2⟩ := hSw.2.1.facts; go_simp; try with_reducible rfl
      try simp only [Act.put, List.setIfInBounds_toArray, List.set_cons_zero, List.set_cons_succ]
      refine wpAnyH_ready (rs := [1]) (by kernel_rfl) (by simp) ?_
      refine AllReadyH.cons rfl (fun K hK => ?_) AllReadyH.nil
      go_simp
      go_at_call 21; refine (HC1.out _ hH.1).mono ?_; rintro e w' ⟨rfl, hE⟩; replace hH : EnvS w' ∧ Rw w' w.heap.size 24 (opC k a v) ∧ Below w.heap.size w w' := ⟨hH.1.below hE, hH.2.1.below hE hH.2.1.lt, hH.2.2.trans (below_le hE hH.2.2.size)⟩; clear hE
      go_wp2_with fail
      refine hK.out _ _ (hH) (fun hH => ?_)
      clear hK K
      try simp only [Act.put, List.setIfInBounds_toArray, List.set_cons_zero, List.set_cons_succ]
      refine wpAnyH_ready (rs := [3]) (by kernel_rfl) (by simp) ?_
      refine AllReadyH.cons rfl (fun K hK => ?_) AllReadyH.nil
      go_simp
      go_at_call 30; refine (HC2.out _).mono ?_; rintro e w' ⟨rfl, hE⟩; replace hH : EnvS w' ∧ Rw w' w.heap.size 24 (opC k a v) ∧ Below w.heap.size w w' := ⟨hH.1.below hE, hH.2.1.below hE hH.2.1.lt, hH.2.2.trans (below_le hE hH.2.2.size)⟩; clear hE
      go_wp2_with fail
      refine hK.out _ _ (hH) (fun hH => ?_)
      clear hK K
      try simp only [Act.put, List.setIfInBounds_toArray, List.set_cons_zero, List.set_cons_succ]
      refine takeD 4 (some 92) (v := ?_) rfl rfl (by kernel_rfl) (by kernel_rfl) (by kernel_rfl) (fun _ _ _ h => h) (Or.inl ⟨by rfl, ?_⟩) hH ?_
      rotate_left
      · intro w hSw; go_simp; try with_reducible rfl
      try simp only [Act.put, List.setIfInBounds_toArray, List.set_cons_zero, List.set_cons_succ]
      refine takeD 5 (some 93) (v := ?_) rfl rfl (by kernel_rfl) (by kernel_rfl) (by kernel_rfl) (fun _ _ _ h => h) (Or.inl ⟨by rfl, ?_⟩) hH ?_
      rotate_left
      · intro w hSw; go_simp; try with_reducible rfl
      try simp only [Act.put, List.setIfInBounds_toArray, List.set_cons_zero, List.set_cons_succ]
      refine takeD 6 (some 94) (v := ?_) rfl rfl (by kernel_rfl) (by kernel_rfl) (by kernel_rfl) (fun _ _ _ h => h) (Or.inl ⟨by rfl, ?_⟩) hH ?_
      rotate_left
      · intro w hSw; go_simp; try with_reducible rfl
      try simp only [Act.put, List.setIfInBounds_toArray, List.set_cons_zero, List.set_cons_succ]
      refine takeD 7 (some 95) (v := ?_) rfl rfl (by kernel_rfl) (by kernel_rfl) (by kernel_rfl) (fun _ _ _ h => h) (Or.inl ⟨by rfl, ?_⟩) hH ?_
      rotate_left
      · intro w hSw; go_simp; try with_reducible rfl
      try simp only [Act.put, List.setIfInBounds_toArray, List.set_cons_zero, List.set_cons_succ]
      refine takeD 8 (some 96) (v := ?_) rfl rfl (by kernel_rfl) (by kernel_rfl) (by kernel_rfl) (fun _ _ _ h => h) (Or.inl ⟨by rfl, ?_⟩) hH ?_
      rotate_left
      · intro w hSw; go_simp; try with_reducible rfl
      try simp only [Act.put, List.setIfInBounds_toArray, List.set_cons_zero, List.set_cons_succ]
      refine takeD 9 (some 97) (v := ?_) rfl rfl (by kernel_rfl) (by kernel_rfl) (by kernel_rfl) (fun _ _ _ h => h) (Or.inl ⟨by rfl, ?_⟩) hH ?_
      rotate_left
      · intro w hSw; go_simp; try with_reducible rfl
      try simp only [Act.put, List.setIfInBounds_toArray, List.set_cons_zero, List.set_cons_succ]
      refine takeD 10 (some 98) (v := ?_) rfl rfl (by kernel_rfl) (by kernel_rfl) (by kernel_rfl) (fun _ _ _ h => h) (Or.inl ⟨by rfl, ?_⟩) hH ?_
      rotate_left
      · intro w hSw; go_simp; try with_reducible rfl
      try simp only [Act.put, List.setIfInBounds_toArray, List.set_cons_zero, List.set_cons_succ]
      refine takeD 11 (some 99) (v := ?_) rfl rfl (by kernel_rfl) (by kernel_rfl) (by kernel_rfl) (fun _ _ _ h => h) (Or.inl ⟨by rfl, ?_⟩) hH ?_
      rotate_left
      · intro w hSw; go_simp; try with_reducible rfl
      try simp only [Act.put, List.setIfInBounds_toArray, List.set_cons_zero, List.set_cons_succ]
      refine takeD 12 (some 100) (v := ?_) rfl rfl (by kernel_rfl) (by kernel_rfl) (by kernel_rfl) (fun _ _ _ h => h) (Or.inl ⟨by rfl, ?_⟩) hH ?_
      rotate_left
      · intro w hSw; go_simp; try with_reducible rfl
      try simp only [Act.put, List.setIfInBounds_toArray, List.set_cons_zero, List.set_cons_succ]
      refine takeD 13 (some 101) (v := ?_) rfl rfl (by kernel_rfl) (by kernel_rfl) (by kernel_rfl) (fun _ _ _ h => h) (Or.inl ⟨by rfl, ?_⟩) hH ?_
      rotate_left
      · intro w hSw; go_simp; try with_reducible rfl
      try simp only [Act.put, List.setIfInBounds_toArray, List.set_cons_zero, List.set_cons_succ]
      refine takeD 14 (some 102) (v := ?_) rfl rfl (by kernel_rfl) (by kernel_rfl) (by kernel_rfl) (fun _ _ _ h => h) (Or.inl ⟨by rfl, ?_⟩) hH ?_
      rotate_left
      · intro w hSw; go_simp; try with_reducible rfl
      try simp only [Act.put, List.setIfInBounds_toArray, List.set_cons_zero, List.set_cons_succ]
      refine takeD 15 (some 103) (v := ?_) rfl rfl (by kernel_rfl) (by kernel_rfl) (by kernel_rfl) (fun _ _ _ h => h) (Or.inl ⟨by rfl, ?_⟩) hH ?_
      rotate_left
      · intro w hSw; go_simp; try with_reducible rfl
      try simp only [Act.put, List.setIfInBounds_toArray, List.set_cons_zero, List.set_cons_succ]
      refine takeD 16 (some 104) (v := ?_) rfl rfl (by kernel_rfl) (by kernel_rfl) (by kernel_rfl) (fun _ _ _ h => h) (Or.inl ⟨by rfl, ?_⟩) hH ?_
      rotate_left
      · intro w hSw; go_simp; try with_reducible rfl
      try simp only [Act.put, List.setIfInBounds_toArray, List.set_cons_zero, List.set_cons_succ]
      refine takeD 18 (some 106) (v := ?_) rfl rfl (by kernel_rfl) (by kernel_rfl) (by kernel_rfl) (fun _ _ _ h => h) (Or.inl ⟨by rfl, ?_⟩) hH ?_
      rotate_left
      · intro w hSw; go_simp; try with_reducible rfl
      try simp only [Act.put, List.setIfInBounds_toArray, List.set_cons_zero, List.set_cons_succ]
      refine wpAnyH_ready (rs := [17]) (by kernel_rfl) (by simp) ?_
      refine AllReadyH.cons rfl (fun K hK => ?_) AllReadyH.nil
      go_simp
      go_at_call 31; refine (HW1.out _ hH.1).mono ?_; rintro e w' ⟨rfl, rfl⟩
      go_wp2_with fail
      refine hK.out _ _ (hH) (fun hH => ?_)
      clear hK K
      try simp only [Act.put, List.setIfInBounds_toArray, List.set_cons_zero, List.set_cons_succ]
      refine wpAnyH_ready (rs := [19]) (by kernel_rfl) (by simp) ?_
      refine AllReadyH.cons rfl (fun K hK => ?_) AllReadyH.nil
      go_simp
      go_at_call 32; refine (HW2.out _).mono ?_; rintro e w' ⟨rfl, hE⟩; replace hH : EnvS w' ∧ Rw w' w.heap.size 24 (opC k a v) ∧ Below w.heap.size w w' := ⟨hH.1.below hE, hH.2.1.below hE hH.2.1.lt, hH.2.2.trans (below_le hE hH.2.2.size)⟩; clear hE
      go_wp2_with fail
      refine hK.out _ _ (hH) (fun hH => ?_)
      clear hK K
      try simp only [Act.put, List.setIfInBounds_toArray, List.set_cons_zero, List.set_cons_succ]
      refine takeD 20 (some 108) (v := ?_) rfl rfl (by kernel_rfl) (by kernel_rfl) (by kernel_rfl) (fun _ _ _ h => h) (Or.inl ⟨by rfl, ?_⟩) hH ?_
      rotate_left
      · intro w hSw; go_simp; try with_reducible rfl
      try simp only [Act.put, List.setIfInBounds_toArray, List.set_cons_zero, List.set_cons_succ]
      refine takeD 21 (some 109) (v := ?_) rfl rfl (by kernel_rfl) (by kernel_rfl) (by kernel_rfl) (fun _ _ _ h => h) (Or.inl ⟨by rfl, ?_⟩) hH ?_
      rotate_left
      · intro w hSw; go_simp; try with_reducible rfl
      try simp only [Act.put, List.setIfInBounds_toArray, List.set_cons_zero, List.set_cons_succ]
      refine takeD 22 (some 110) (v := ?_) rfl rfl (by kernel_rfl) (by kernel_rfl) (by kernel_rfl) (fun _ _ _ h => h) (Or.inl ⟨by rfl, ?_⟩) hH ?_
      rotate_left
      · intro w hSw; go_simp; try with_reducible rfl
      try simp only [Act.put, List.setIfInBounds_toArray, List.set_cons_zero, List.set_cons_succ]
      refine wpAnyH_ready (rs := [23]) (by kernel_rfl) (by simp) ?_
      refine AllReadyH.cons rfl (fun K hK => ?_) AllReadyH.nil
      go_simp
      go_at_call 12; refine (HWk.out _ hH.1).mono ?_; rintro e w' ⟨rfl, hE⟩; replace hH : EnvS w' ∧ Rw w' w.heap.size 24 (opC k a v) ∧ Below w.heap.size w w' := ⟨hH.1.below hE, hH.2.1.below hE hH.2.1.lt, hH.2.2.trans (below_le hE hH.2.2.size)⟩; clear hE
      go_wp2_with fail
      refine hK.out _ _ (hH) (fun hH => ?_)
      clear hK K
      try simp only [Act.put, List.setIfInBounds_toArray, List.set_cons_zero, List.set_cons_succ]
      refine takeD 24 (some 112) (v := ?_) rfl rfl (by kernel_rfl) (by kernel_rfl) (by kernel_rfl) (fun _ _ _ h => h) (Or.inl ⟨by rfl, ?_⟩) hH ?_
      rotate_left
      · intro w hSw; go_simp; try with_reducible rfl
      try simp only [Act.put, List.setIfInBounds_toArray, List.set_cons_zero, List.set_cons_succ]
      refine takeD 25 (some 4) (v := ?_) rfl rfl (by kernel_rfl) (by kernel_rfl) (by kernel_rfl) (fun _ _ _ h => h) (Or.inl ⟨by rfl, ?_⟩) hH ?_
      rotate_left
      · intro w hSw; go_simp; try with_reducible rfl
      try simp only [Act.put, List.setIfInBounds_toArray, List.set_cons_zero, List.set_cons_succ]
      refine wpAnyH_done (by kernel_rfl) ?_ _
      refine NoPanic.normal ?_
      go_wp2_with fail
      go_ret
      exact ⟨rfl, hH.2.2⟩
end Go.Proofs.YtjjnjglbmneecaaDoor
