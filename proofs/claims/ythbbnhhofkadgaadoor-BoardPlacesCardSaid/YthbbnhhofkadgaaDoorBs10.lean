/- The law BoardTurned. Conditions: as in EnvB. -/
import Derived.Test.YthbbnhhofkadgaaDoorBrg
import Derived.Test.YthbbnhhofkadgaaDoorBrv
namespace Go.Proofs.YthbbnhhofkadgaaDoor
open Go Go.RowKit
theorem wpl_neB {ops : Array Oper} {rest : List Oper} {o : Oper} {a : Act} {w : World} {Q : Exit → Act → World → Prop} {l l' : List Int} (hl : l.length = 64) (hl' : l'.length = 64) (he : l = l') (hgd : Region.wanted o (yielded ops a.tmps) = true) (x y : Operand) (u : TypeId) (ho : o.op = .binOp .neq 24 x y u)
    (hx : a.eval x = .agg (ints l)) (hy : a.eval y = .agg (ints l')) (h : wpList Tryd.prog ops Q rest (a.put o.dst (.bool false)) w) : wpList Tryd.prog ops Q (o :: rest) a w :=
  wpl_neG (l := l) (l' := l') hgd x y u ho hx hy Tryd.underlying24 Tryd.underlying3 (by kernel_rfl) (by kernel_rfl) (by kernel_rfl) hl hl' (by rw [decide_eq_true he]; exact h)
theorem colE_ok {p : Int} (h0 : 0 ≤ p) (h1 : p ≤ 12) (h : p ≠ 0) : colE p = 0 := if_pos ⟨by omega, h1⟩
set_option maxRecDepth 100000 in
set_option linter.unusedSimpArgs false in
set_option maxHeartbeats 4000000 in
theorem turned_any (n : List Int) (hn : n.length = 64) (h8 : u8s n) (w : World) (hw : EnvB w) :
    Calls Tryd.prog 10 #[.agg (intsK .u8 n)] w fun e w' => e = .returned (.bool true) ∧ Below w.heap.size w w' := by
  have hok := mdV_ok h8
  obtain ⟨b, hb⟩ : ∃ b, mdV n = b := ⟨_, rfl⟩
  rw [hb] at hok
  have lb : b.length = 64 := by rw [← hb]; exact mdV_len n
  have hff := flV_flV lb hok
  have hxok := flV_ok hok
  have ht0 := turned_col hok 0 (.inl rfl)
  have ht1 := turned_col hok 1 (.inr rfl)
  have hget := flV_get hok
  have lx := flV_len b
  obtain ⟨x, hx⟩ : ∃ x, flV b = x := ⟨_, rfl⟩
  rw [hx] at hff hxok ht0 ht1 hget lx
  have HB := Lib.hid hb
  have HX := Lib.hid hx
  have HXX := Lib.hid hff
  have HC := Lib.hid (chkB_t hok)
  have HCX := Lib.hid (chkB_t hxok)
  have HN := Lib.hid hn
  have zb : b.length = zero64.length := lb
  have zx : x.length = zero64.length := lx
  have ib := i24 lb
  have ix := i24 lx
  have i1 := i29 hn
  have H8 := Lib.hid h8
  have Hok := Lib.hid hok
  have Hget := Lib.hid hget
  have sb0_lt := Lib.hid (bsum_lt64 (fun q => isB q 0) b)
  have sb1_lt := Lib.hid (bsum_lt64 (fun q => isB q 1) b)
  obtain ⟨sb0, hs0⟩ : ∃ s, bsum (fun q => isB q 0) b 64 = s := ⟨_, rfl⟩
  obtain ⟨sb1, hs1⟩ : ∃ s, bsum (fun q => isB q 1) b 64 = s := ⟨_, rfl⟩
  obtain ⟨sx0, hq0⟩ : ∃ s, bsum (fun q => isB q 0) x 64 = s := ⟨_, rfl⟩
  obtain ⟨sx1, hq1⟩ : ∃ s, bsum (fun q => isB q 1) x 64 = s := ⟨_, rfl⟩
  rw [hs0] at sb0_lt
  rw [hs1] at sb1_lt
  rw [show ((1 : Int) - 0) = 1 from rfl, hq0, hs1] at ht0
  rw [show ((1 : Int) - 1) = 0 from rfl, hq1, hs0] at ht1
  have sb1_rv := Lib.hid ht0.symm
  have sb0_rv := Lib.hid ht1.symm
  have Hb0 := Lib.hid hs0
  have Hb1 := Lib.hid hs1
  have Hx0 := Lib.hid hq0
  have Hx1 := Lib.hid hq1
  have hR := (Rch.start hw).alloc (.cells (intsK .u8 n) 29)
  have hP : Holds (w.alloc (.cells (intsK .u8 n) 29)) w.heap.size .u8 29 n := Holds.new w .u8 29 n
  clear hb hw h8 hn hok hff hxok ht0 ht1 hget hx hs0 hs1 hq0 hq1
  go_enter Tryd.func10, Tryd.ntmps10
  go_wp2_with (first
    | (with_reducible refine wpl_load (g := w.heap.size) (k := .u8) (t := 29) (l := n) hP rfl 29 _ rfl rfl Tryd.underlying29 i1 ?_)
    | (go_at_call 14; refine (made_R hR HN.out H8.out).mono ?_; clear hR; rintro e wa ⟨rfl, hR⟩; rw [HB.out]; have t1 := trivial)
    | (have _t := t1; go_at_call 33; refine (flip_R hR b lb).mono ?_; clear hR t1 _t; rintro e wb ⟨rfl, hR⟩; rw [HX.out, HC.out])
    | (go_at_call 33; refine (flip_R hR x lx).mono ?_; clear hR; rintro e wc ⟨rfl, hR⟩; rw [HXX.out, HCX.out])
    | (with_reducible refine wpl_storeNew hR 24 zero64 b (by with_unfolding_all rfl) rfl 24 _ _ rfl rfl rfl zb z64_info ?_; clear hR; intro w2 hR)
    | (with_reducible refine wpl_storeNew hR 24 zero64 x (by with_unfolding_all rfl) rfl 24 _ _ rfl rfl rfl zx z64_info ?_; clear hR; intro w2 hR)
    | (with_reducible refine wpl_loadG hR.hd (by with_unfolding_all rfl) 24 _ rfl rfl Tryd.underlying24 (by first | exact ib | exact ix) ?_)
    | (with_reducible refine wpl_loadG hR.tl.tl.hd (by with_unfolding_all rfl) 24 _ rfl rfl Tryd.underlying24 ib ?_)
    | (with_reducible refine wpl_neB lb lb rfl (by with_unfolding_all rfl) _ _ _ rfl rfl (by with_unfolding_all rfl) ?_))
  generalize wa.heap.size = gb at *
  generalize wb.heap.size = gx at *
  generalize wc.heap.size = gy at *
  generalize hw2 : w2 = w4 at *
  clear hw2
  go_loopg [35] 64 (fun mm i wr => ∃ j : Nat, mm = 64 - j ∧ j ≤ 64 ∧ i = .int .i64 j ∧ Rch w [(gy, 24, b), (gx, 24, x), (gb, 24, b)] wr)
  case atStart => exact ⟨0, rfl, by omega, rfl, hR⟩
  case round =>
    clear hR
    obtain ⟨j, hkm, hj, rfl, hR⟩ := hrel
    have HK := Lib.hid hkm
    clear hkm
    by_cases hlt : j < 64
    · have hdi : decide ((j : Int) < 64) = true := by simp; omega
      have c1 := hR.tl.tl.hd.cell j (by omega)
      have hq := flI_lt j
      have hqe : 8 * (7 - (j : Int) / 8) + (j : Int) % 8 = ((flI j : Nat) : Int) := by unfold flI; omega
      have c2 := hR.tl.hd.cell (flI j) (by omega)
      rw [Hget.out _ hq, flI_flI hlt] at c2
      have hpb := okB_get Hok.out j
      generalize b.getD j 0 = p at c1 c2 hpb
      generalize flI j = q at *
      by_cases h0 : p = 0
      · subst h0
        have e0 : swapV 0 = 0 := by decide
        rw [e0] at c2
        clear e0
        go_wp2_with fail
        go_roundg (64 - (j + 1))
        case measure => have := HK.out; omega
        case rel => exact ⟨j + 1, rfl, by omega, by go_num, hR⟩
      · have h1 : (p == 0) = false := by simpa using h0
        have HE := Lib.hid (colE_ok hpb.1 hpb.2 h0)
        clear h0 hpb
        go_wp2_with (go_at_call 35; refine (swap_any p _).mono ?_; rintro e w' ⟨rfl, rfl⟩; rw [HE.out])
        go_roundg (64 - (j + 1))
        case measure => have := HK.out; omega
        case rel => exact ⟨j + 1, rfl, by omega, by go_num, hR⟩
    · have h64 : j = 64 := by omega
      subst h64
      replace ib := i24m lb
      replace ix := i24m lx
      go_wp2_with fail
      refine wp_region_noPanic ?_
      refine wp_region_held_drew (S := fun w' => Rch w [(gy, 24, b), (gx, 24, x), (gb, 24, b)] w') (by kernel_rfl) (hR.drew) (fun hH => ?_)
      refine takeD 0 (some 64) rfl rfl (by kernel_rfl) (by kernel_rfl) (by kernel_rfl) (fun _ _ _ h => h) (yieldsIf_load_mid (by rfl) _ _ rfl _ _ rfl _ _ (fun w h => h.tl.hd.range) Tryd.underlying24 rfl ix) hH ?_
      try simp only [Act.put, List.setIfInBounds_toArray, List.set_cons_zero, List.set_cons_succ]
      refine takeD 2 (some 66) rfl rfl (by kernel_rfl) (by kernel_rfl) (by kernel_rfl) (fun _ _ _ h => h) (yieldsIf_load_mid (by rfl) _ _ rfl _ _ rfl _ _ (fun w h => h.tl.tl.hd.range) Tryd.underlying24 rfl ib) hH ?_
      try simp only [Act.put, List.setIfInBounds_toArray, List.set_cons_zero, List.set_cons_succ]
      refine wpAnyH_ready (rs := [1]) (by kernel_rfl) (by simp) ?_
      refine AllReadyH.cons rfl (fun K hK => ?_) AllReadyH.nil
      go_simp
      go_at_call 26; refine (color_R hH x lx 0).mono ?_; clear hH; rintro e w' ⟨rfl, hH⟩; rw [Hx0.out]
      go_wp2_with fail
      refine hK.out _ _ (hH) (fun hH => ?_)
      clear hK K
      try simp only [Act.put, List.setIfInBounds_toArray, List.set_cons_zero, List.set_cons_succ]
      refine wpAnyH_ready (rs := [3]) (by kernel_rfl) (by simp) ?_
      refine AllReadyH.cons rfl (fun K hK => ?_) AllReadyH.nil
      go_simp
      go_at_call 26; refine (color_R hH b lb 1).mono ?_; clear hH; rintro e w' ⟨rfl, hH⟩; rw [Hb1.out]
      go_wp2_with fail
      refine hK.out _ _ (hH) (fun hH => ?_)
      clear hK K
      try simp only [Act.put, List.setIfInBounds_toArray, List.set_cons_zero, List.set_cons_succ]
      refine wpAnyH_ready (rs := [4]) (by kernel_rfl) (by simp) ?_
      refine AllReadyH.cons rfl (fun K hK => ?_) AllReadyH.nil
      go_simp
      go_at_call 36; refine (sflip_any sb1 sb1_lt.out _).mono ?_; rintro e w' ⟨rfl, rfl⟩; rw [sb1_rv.out]
      go_wp2_with fail
      refine hK.out _ _ (hH) (fun hH => ?_)
      clear hK K
      try simp only [Act.put, List.setIfInBounds_toArray, List.set_cons_zero, List.set_cons_succ]
      refine takeD 5 (some 69) (v := ?_) rfl rfl (by kernel_rfl) (by kernel_rfl) (by kernel_rfl) (fun _ _ _ h => h) (Or.inl ⟨by rfl, ?_⟩) hH ?_
      rotate_left
      · intro w hSw; go_simp; try with_reducible rfl
      try simp only [Act.put, List.setIfInBounds_toArray, List.set_cons_zero, List.set_cons_succ]
      refine takeD 6 (some 70) (v := ?_) rfl rfl (by kernel_rfl) (by kernel_rfl) (by kernel_rfl) (fun _ _ _ h => h) (Or.inl ⟨by rfl, ?_⟩) hH ?_
      rotate_left
      · intro w hSw; go_simp; try with_reducible rfl
      try simp only [Act.put, List.setIfInBounds_toArray, List.set_cons_zero, List.set_cons_succ]
      refine takeD 7 (some 71) rfl rfl (by kernel_rfl) (by kernel_rfl) (by kernel_rfl) (fun _ _ _ h => h) (yieldsIf_load_mid (by rfl) _ _ rfl _ _ rfl _ _ (fun w h => h.tl.hd.range) Tryd.underlying24 rfl ix) hH ?_
      try simp only [Act.put, List.setIfInBounds_toArray, List.set_cons_zero, List.set_cons_succ]
      refine takeD 9 (some 73) rfl rfl (by kernel_rfl) (by kernel_rfl) (by kernel_rfl) (fun _ _ _ h => h) (yieldsIf_load_mid (by rfl) _ _ rfl _ _ rfl _ _ (fun w h => h.tl.tl.hd.range) Tryd.underlying24 rfl ib) hH ?_
      try simp only [Act.put, List.setIfInBounds_toArray, List.set_cons_zero, List.set_cons_succ]
      refine wpAnyH_ready (rs := [8]) (by kernel_rfl) (by simp) ?_
      refine AllReadyH.cons rfl (fun K hK => ?_) AllReadyH.nil
      go_simp
      go_at_call 26; refine (color_R hH x lx 1).mono ?_; clear hH; rintro e w' ⟨rfl, hH⟩; rw [Hx1.out]
      go_wp2_with fail
      refine hK.out _ _ (hH) (fun hH => ?_)
      clear hK K
      try simp only [Act.put, List.setIfInBounds_toArray, List.set_cons_zero, List.set_cons_succ]
      refine wpAnyH_ready (rs := [10]) (by kernel_rfl) (by simp) ?_
      refine AllReadyH.cons rfl (fun K hK => ?_) AllReadyH.nil
      go_simp
      go_at_call 26; refine (color_R hH b lb 0).mono ?_; clear hH; rintro e w' ⟨rfl, hH⟩; rw [Hb0.out]
      go_wp2_with fail
      refine hK.out _ _ (hH) (fun hH => ?_)
      clear hK K
      try simp only [Act.put, List.setIfInBounds_toArray, List.set_cons_zero, List.set_cons_succ]
      refine wpAnyH_ready (rs := [11]) (by kernel_rfl) (by simp) ?_
      refine AllReadyH.cons rfl (fun K hK => ?_) AllReadyH.nil
      go_simp
      go_at_call 36; refine (sflip_any sb0 sb0_lt.out _).mono ?_; rintro e w' ⟨rfl, rfl⟩; rw [sb0_rv.out]
      go_wp2_with fail
      refine hK.out _ _ (hH) (fun hH => ?_)
      clear hK K
      try simp only [Act.put, List.setIfInBounds_toArray, List.set_cons_zero, List.set_cons_succ]
      refine takeD 12 (some 76) (v := ?_) rfl rfl (by kernel_rfl) (by kernel_rfl) (by kernel_rfl) (fun _ _ _ h => h) (Or.inl ⟨by rfl, ?_⟩) hH ?_
      rotate_left
      · intro w hSw; go_simp; try with_reducible rfl
      try simp only [Act.put, List.setIfInBounds_toArray, List.set_cons_zero, List.set_cons_succ]
      refine takeD 13 (some 77) (v := ?_) rfl rfl (by kernel_rfl) (by kernel_rfl) (by kernel_rfl) (fun _ _ _ h => h) (Or.inl ⟨by rfl, ?_⟩) hH ?_
      rotate_left
      · intro w hSw; go_simp; try with_reducible rfl
      try simp only [Act.put, List.setIfInBounds_toArray, List.set_cons_zero, List.set_cons_succ]
      refine takeD 14 (some 78) (v := ?_) rfl rfl (by kernel_rfl) (by kernel_rfl) (by kernel_rfl) (fun _ _ _ h => h) (Or.inl ⟨by rfl, ?_⟩) hH ?_
      rotate_left
      · intro w hSw; go_simp; try with_reducible rfl
      try simp only [Act.put, List.setIfInBounds_toArray, List.set_cons_zero, List.set_cons_succ]
      refine wpAnyH_ready (rs := [15]) (by kernel_rfl) (by simp) ?_
      refine AllReadyH.cons rfl (fun K hK => ?_) AllReadyH.nil
      go_simp
      go_at_call 11; refine (works_R hH).mono ?_; clear hH; rintro e w' ⟨rfl, hH⟩
      go_wp2_with fail
      refine hK.out _ _ (hH) (fun hH => ?_)
      clear hK K
      try simp only [Act.put, List.setIfInBounds_toArray, List.set_cons_zero, List.set_cons_succ]
      refine takeD 16 (some 80) (v := ?_) rfl rfl (by kernel_rfl) (by kernel_rfl) (by kernel_rfl) (fun _ _ _ h => h) (Or.inl ⟨by rfl, ?_⟩) hH ?_
      rotate_left
      · intro w hSw; go_simp; try with_reducible rfl
      try simp only [Act.put, List.setIfInBounds_toArray, List.set_cons_zero, List.set_cons_succ]
      refine takeD 17 (some 2) (v := ?_) rfl rfl (by kernel_rfl) (by kernel_rfl) (by kernel_rfl) (fun _ _ _ h => h) (Or.inl ⟨by rfl, ?_⟩) hH ?_
      rotate_left
      · intro w hSw; go_simp; try with_reducible rfl
      try simp only [Act.put, List.setIfInBounds_toArray, List.set_cons_zero, List.set_cons_succ]
      refine wpAnyH_done (by kernel_rfl) ?_ _
      refine NoPanic.normal ?_
      go_wp2_with fail
      go_ret
      exact ⟨rfl, hH.bel⟩
end Go.Proofs.YthbbnhhofkadgaaDoor
