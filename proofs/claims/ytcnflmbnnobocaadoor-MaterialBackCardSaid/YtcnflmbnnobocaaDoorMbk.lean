/- The law MaterialBack. Conditions: as in Env. -/
import Derived.Test.YtcnflmbnnobocaaDoorMcm
import Derived.Deep.DeepCutAuto
namespace Go.Proofs.YtcnflmbnnobocaaDoor
open Go Go.RowKit
theorem step_alloc25 {ops : Array Oper} {o : Oper} {a : Act} {w : World} {K : Act → World → Prop} {Q : Exit → Act → World → Prop} (d : Option Tmp) (hd : o.dst = d) (ho : o.op = .alloc 25) (hw : Region.wanted o (yielded ops a.tmps) = true)
    (hK : K (a.put d (.pointer (some ⟨w.heap.size, 0, none⟩))) (w.alloc (.cells (ints zero10) 25))) : if Region.wanted o (yielded ops a.tmps) = true then Oper.wp Tryd.prog o a w K Q else K (a.put o.dst undef) w := by
  subst hd
  rw [if_pos hw]
  unfold Oper.wp execOp
  simp only [ho]
  go_simp
  exact hK
theorem step_store25 {ops : Array Oper} {o : Oper} {a : Act} {w : World} {K : Act → World → Prop} {Q : Exit → Act → World → Prop} {g : Nat} {l l' : List Int} (hg : Holds w g .i64 25 l) (x y : Operand) (d : Option Tmp) (hd : o.dst = d) (ho : o.op = .store 25 x y) (hw : Region.wanted o (yielded ops a.tmps) = true)
    (hx : a.eval x = .pointer (some ⟨g, 0, none⟩)) (hy : a.eval y = .agg (ints l')) (hl : l.length = 10) (hl' : l'.length = 10)
    (hK : K (a.put d undef) (w.setRow g (ints l'))) : if Region.wanted o (yielded ops a.tmps) = true then Oper.wp Tryd.prog o a w K Q else K (a.put o.dst undef) w := by
  subst hd
  rw [if_pos hw]
  exact wp_store_row 25 x y ho g (ints l') hx hy 25 (ints l) hg (by rw [intsK_size, hl']; kernel_rfl) (by rw [intsK_size, intsK_size, hl, hl']) (intsK_all .i64 l') hK
def Par (w : World) (n m : List Int) (w' : World) : Prop := Holds w' w.heap.size .u8 50 n ∧ Holds w' (w.heap.size + 1) .u8 50 m
theorem par_of {w W wc : World} {n m : List Int} {hs : List (Nat × TypeId × List Int)} (h : Par w n m W) (hR : Rch W hs wc) : Par w n m wc := ⟨h.1.below hR.bel h.1.lt, h.2.below hR.bel h.2.lt⟩
theorem Rch.base {w W wc : World} {hs : List (Nat × TypeId × List Int)} (h : Rch W hs wc) (hB : Below w.heap.size w W) : Rch w hs wc := ⟨h.env, hB.trans (h.bel.mono hB.size), h.held⟩
def BackCut (w : World) (p5 p6 : Value) (wx : World) : Prop := ∃ (g5 g6 : Nat) (v u : List Int), p5 = .pointer (some ⟨g5, 0, none⟩) ∧ p6 = .pointer (some ⟨g6, 0, none⟩) ∧ v.length = 10 ∧ okL v ∧ u.length = 10 ∧ okL u ∧ Rch w [(g6, 25, u), (g5, 25, v)] wx
set_option maxRecDepth 100000 in
set_option linter.unusedSimpArgs false in
set_option maxHeartbeats 4000000 in
theorem back_any (n m : List Int) (hn : Ten n) (hm : Ten m) (w : World) (hw : Env w) : Calls Tryd.prog 6 #[.agg (intsK .u8 n), .agg (intsK .u8 m)] w fun e w' => e = .returned (.bool true) ∧ Below w.heap.size w w' := by
  have Hn := Lib.hid hn
  have Hm := Lib.hid hm
  have hB0 : Below w.heap.size w ((w.alloc (.cells (intsK .u8 n) 50)).alloc (.cells (intsK .u8 m) 50)) := ((Below.refl _ _).alloc (Nat.le_refl _) _).alloc (by simp) _
  have HB := Lib.hid hB0
  have He := Lib.hid (hw.below hB0)
  have hR := (Rch.start (hw.below hB0)).drew
  clear hB0
  have hP1 : Holds ((w.alloc (.cells (intsK .u8 n) 50)).alloc (.cells (intsK .u8 m) 50)) w.heap.size .u8 50 n := (Holds.new w .u8 50 n).alloc _
  have hP2 : Holds ((w.alloc (.cells (intsK .u8 n) 50)).alloc (.cells (intsK .u8 m) 50)) (w.heap.size + 1) .u8 50 m := Holds.newAt .u8 50 m (by simp)
  have i1 : (Tryd.prog.info? 50).map (·.size) = some (n.map (Value.int .u8)).length := by rw [List.length_map, hn.1]; kernel_rfl
  have i2 : (Tryd.prog.info? 50).map (·.size) = some (m.map (Value.int .u8)).length := by rw [List.length_map, hm.1]; kernel_rfl
  have HP : Hid (Par w n m ((w.alloc (.cells (intsK .u8 n) 50)).alloc (.cells (intsK .u8 m) 50))) := Lib.hid ⟨hP1, hP2⟩
  clear hn hm hP1 hP2
  go_enter Tryd.func6, Tryd.ntmps6
  go_upto_region 1 with fail
  go_cut [5, 6] (fun p5 p6 wx => BackCut w p5 p6 wx)
  case first =>
    refine wp_region_noPanic ?_
    refine wp_region_held_drew (S := Par w n m) (by kernel_rfl) (par_of HP.out hR) (fun hH => ?_)
    refine takeD 0 (some 19) rfl rfl (by kernel_rfl) (by kernel_rfl) (by kernel_rfl) (fun _ _ _ h => h) (yieldsIf_load_mid (by rfl) _ _ rfl _ _ rfl _ _ (fun w h => h.1.range) Tryd.underlying50 rfl i1) hH ?_
    try simp only [Act.put, List.setIfInBounds_toArray, List.set_cons_zero, List.set_cons_succ]
    refine takeD 2 (some 21) rfl rfl (by kernel_rfl) (by kernel_rfl) (by kernel_rfl) (fun _ _ _ h => h) (yieldsIf_load_mid (by rfl) _ _ rfl _ _ rfl _ _ (fun w h => h.2.range) Tryd.underlying50 rfl i2) hH ?_
    try simp only [Act.put, List.setIfInBounds_toArray, List.set_cons_zero, List.set_cons_succ]
    clear hH
    refine wpAnyH_ready (rs := [1, 4, 5]) (by kernel_rfl) (by simp) ?_
    refine AllReadyH.cons rfl (fun K hK => ?_) (AllReadyH.cons rfl (fun K hK => ?_) (AllReadyH.cons rfl (fun K hK => ?_) (AllReadyH.nil)))
    · go_simp
      go_at_call 24; refine (valid_P hR Hn.out).mono ?_; clear hR; rintro e wd ⟨v, lv, kv, rfl, hR⟩
      go_wp2_with fail
      refine hK.out _ _ (par_of HP.out hR) (fun _ => ?_)
      clear hK K
      try simp only [Act.put, List.setIfInBounds_toArray, List.set_cons_zero, List.set_cons_succ]
      refine wpAnyH_ready (rs := [3, 4, 5]) (by kernel_rfl) (by simp) ?_
      refine AllReadyH.cons rfl (fun K hK => ?_) (AllReadyH.cons rfl (fun K hK => ?_) (AllReadyH.cons rfl (fun K hK => ?_) (AllReadyH.nil)))
      · go_simp
        go_at_call 24; refine (valid_P hR Hm.out).mono ?_; clear hR; rintro e wd ⟨u, lu, ku, rfl, hR⟩
        go_wp2_with fail
        refine hK.out _ _ (par_of HP.out hR) (fun _ => ?_)
        clear hK K
        try simp only [Act.put, List.setIfInBounds_toArray, List.set_cons_zero, List.set_cons_succ]
        refine wpAnyH_ready (rs := [4, 5]) (by kernel_rfl) (by simp) ?_
        refine AllReadyH.cons rfl (fun K hK => ?_) (AllReadyH.cons rfl (fun K hK => ?_) (AllReadyH.nil))
        · refine step_alloc25 (some 5) rfl rfl (by with_unfolding_all rfl) ?_
          refine gen_new (C := fun g wn => K (Act.put _ _ (.pointer (some ⟨g, 0, none⟩))) wn) hR (fun g5 wn zg5 yg5 hR => ?_)
          refine hK.out _ _ (par_of HP.out hR) (fun _ => ?_)
          clear hK K
          try simp only [Act.put, List.setIfInBounds_toArray, List.set_cons_zero, List.set_cons_succ]
          refine wpAnyH_ready (rs := [5]) (by kernel_rfl) (by simp) ?_
          refine AllReadyH.cons rfl (fun K hK => ?_) (AllReadyH.nil)
          · refine step_alloc25 (some 6) rfl rfl (by with_unfolding_all rfl) ?_
            refine gen_new (C := fun g wn => K (Act.put _ _ (.pointer (some ⟨g, 0, none⟩))) wn) hR (fun g6 wn zg6 yg6 hR => ?_)
            refine hK.out _ _ (par_of HP.out hR) (fun _ => ?_)
            clear hK K
            try simp only [Act.put, List.setIfInBounds_toArray, List.set_cons_zero, List.set_cons_succ]
            have hne : g5 ≠ g6 := yg6 (g5, 25, zero10) (by simp)
            have hR := hR.swap
            refine wpAnyH_ready (rs := [6]) (by kernel_rfl) (by simp) ?_
            refine AllReadyH.cons rfl (fun K hK => ?_) AllReadyH.nil
            refine step_store25 (l := zero10) (l' := v) hR.hd _ _ none rfl rfl (by with_unfolding_all rfl) rfl rfl rfl lv ?_
            have hR := hR.set0 He.out zg5 (by simp [hne, Ne.symm hne]) v
            refine hK.out _ _ (par_of HP.out hR) (fun _ => ?_)
            clear hK K
            try simp only [Act.put, List.setIfInBounds_toArray, List.set_cons_zero, List.set_cons_succ]
            have hR := hR.swap
            refine wpAnyH_ready (rs := [7]) (by kernel_rfl) (by simp) ?_
            refine AllReadyH.cons rfl (fun K hK => ?_) AllReadyH.nil
            refine step_store25 (l := zero10) (l' := u) hR.hd _ _ none rfl rfl (by with_unfolding_all rfl) rfl rfl rfl lu ?_
            have hR := hR.set0 He.out zg6 (by simp [hne, Ne.symm hne]) u
            refine hK.out _ _ (par_of HP.out hR) (fun _ => ?_)
            clear hK K
            try simp only [Act.put, List.setIfInBounds_toArray, List.set_cons_zero, List.set_cons_succ]
            refine wpAnyH_done (by kernel_rfl) ?_ _
            refine NoPanic.normal ?_
            go_wp2_with fail
            go_meet
            exact ⟨g5, g6, v, u, rfl, rfl, lv, kv, lu, ku, hR.base HB.out⟩
        · refine step_alloc25 (some 6) rfl rfl (by with_unfolding_all rfl) ?_
          refine gen_new (C := fun g wn => K (Act.put _ _ (.pointer (some ⟨g, 0, none⟩))) wn) hR (fun g6 wn zg6 yg6 hR => ?_)
          refine hK.out _ _ (par_of HP.out hR) (fun _ => ?_)
          clear hK K
          try simp only [Act.put, List.setIfInBounds_toArray, List.set_cons_zero, List.set_cons_succ]
          refine wpAnyH_ready (rs := [4]) (by kernel_rfl) (by simp) ?_
          refine AllReadyH.cons rfl (fun K hK => ?_) (AllReadyH.nil)
          · refine step_alloc25 (some 5) rfl rfl (by with_unfolding_all rfl) ?_
            refine gen_new (C := fun g wn => K (Act.put _ _ (.pointer (some ⟨g, 0, none⟩))) wn) hR (fun g5 wn zg5 yg5 hR => ?_)
            refine hK.out _ _ (par_of HP.out hR) (fun _ => ?_)
            clear hK K
            try simp only [Act.put, List.setIfInBounds_toArray, List.set_cons_zero, List.set_cons_succ]
            have hne : g6 ≠ g5 := yg5 (g6, 25, zero10) (by simp)
            refine wpAnyH_ready (rs := [6]) (by kernel_rfl) (by simp) ?_
            refine AllReadyH.cons rfl (fun K hK => ?_) AllReadyH.nil
            refine step_store25 (l := zero10) (l' := v) hR.hd _ _ none rfl rfl (by with_unfolding_all rfl) rfl rfl rfl lv ?_
            have hR := hR.set0 He.out zg5 (by simp [hne, Ne.symm hne]) v
            refine hK.out _ _ (par_of HP.out hR) (fun _ => ?_)
            clear hK K
            try simp only [Act.put, List.setIfInBounds_toArray, List.set_cons_zero, List.set_cons_succ]
            have hR := hR.swap
            refine wpAnyH_ready (rs := [7]) (by kernel_rfl) (by simp) ?_
            refine AllReadyH.cons rfl (fun K hK => ?_) AllReadyH.nil
            refine step_store25 (l := zero10) (l' := u) hR.hd _ _ none rfl rfl (by with_unfolding_all rfl) rfl rfl rfl lu ?_
            have hR := hR.set0 He.out zg6 (by simp [hne, Ne.symm hne]) u
            refine hK.out _ _ (par_of HP.out hR) (fun _ => ?_)
            clear hK K
            try simp only [Act.put, List.setIfInBounds_toArray, List.set_cons_zero, List.set_cons_succ]
            refine wpAnyH_done (by kernel_rfl) ?_ _
            refine NoPanic.normal ?_
            go_wp2_with fail
            go_meet
            exact ⟨g5, g6, v, u, rfl, rfl, lv, kv, lu, ku, hR.base HB.out⟩
      · refine step_alloc25 (some 5) rfl rfl (by with_unfolding_all rfl) ?_
        refine gen_new (C := fun g wn => K (Act.put _ _ (.pointer (some ⟨g, 0, none⟩))) wn) hR (fun g5 wn zg5 yg5 hR => ?_)
        refine hK.out _ _ (par_of HP.out hR) (fun _ => ?_)
        clear hK K
        try simp only [Act.put, List.setIfInBounds_toArray, List.set_cons_zero, List.set_cons_succ]
        refine wpAnyH_ready (rs := [3, 5]) (by kernel_rfl) (by simp) ?_
        refine AllReadyH.cons rfl (fun K hK => ?_) (AllReadyH.cons rfl (fun K hK => ?_) (AllReadyH.nil))
        · go_simp
          go_at_call 24; refine (valid_P hR Hm.out).mono ?_; clear hR; rintro e wd ⟨u, lu, ku, rfl, hR⟩
          go_wp2_with fail
          refine hK.out _ _ (par_of HP.out hR) (fun _ => ?_)
          clear hK K
          try simp only [Act.put, List.setIfInBounds_toArray, List.set_cons_zero, List.set_cons_succ]
          refine wpAnyH_ready (rs := [5]) (by kernel_rfl) (by simp) ?_
          refine AllReadyH.cons rfl (fun K hK => ?_) (AllReadyH.nil)
          · refine step_alloc25 (some 6) rfl rfl (by with_unfolding_all rfl) ?_
            refine gen_new (C := fun g wn => K (Act.put _ _ (.pointer (some ⟨g, 0, none⟩))) wn) hR (fun g6 wn zg6 yg6 hR => ?_)
            refine hK.out _ _ (par_of HP.out hR) (fun _ => ?_)
            clear hK K
            try simp only [Act.put, List.setIfInBounds_toArray, List.set_cons_zero, List.set_cons_succ]
            have hne : g5 ≠ g6 := yg6 (g5, 25, zero10) (by simp)
            have hR := hR.swap
            refine wpAnyH_ready (rs := [6]) (by kernel_rfl) (by simp) ?_
            refine AllReadyH.cons rfl (fun K hK => ?_) AllReadyH.nil
            refine step_store25 (l := zero10) (l' := v) hR.hd _ _ none rfl rfl (by with_unfolding_all rfl) rfl rfl rfl lv ?_
            have hR := hR.set0 He.out zg5 (by simp [hne, Ne.symm hne]) v
            refine hK.out _ _ (par_of HP.out hR) (fun _ => ?_)
            clear hK K
            try simp only [Act.put, List.setIfInBounds_toArray, List.set_cons_zero, List.set_cons_succ]
            have hR := hR.swap
            refine wpAnyH_ready (rs := [7]) (by kernel_rfl) (by simp) ?_
            refine AllReadyH.cons rfl (fun K hK => ?_) AllReadyH.nil
            refine step_store25 (l := zero10) (l' := u) hR.hd _ _ none rfl rfl (by with_unfolding_all rfl) rfl rfl rfl lu ?_
            have hR := hR.set0 He.out zg6 (by simp [hne, Ne.symm hne]) u
            refine hK.out _ _ (par_of HP.out hR) (fun _ => ?_)
            clear hK K
            try simp only [Act.put, List.setIfInBounds_toArray, List.set_cons_zero, List.set_cons_succ]
            refine wpAnyH_done (by kernel_rfl) ?_ _
            refine NoPanic.normal ?_
            go_wp2_with fail
            go_meet
            exact ⟨g5, g6, v, u, rfl, rfl, lv, kv, lu, ku, hR.base HB.out⟩
        · refine step_alloc25 (some 6) rfl rfl (by with_unfolding_all rfl) ?_
          refine gen_new (C := fun g wn => K (Act.put _ _ (.pointer (some ⟨g, 0, none⟩))) wn) hR (fun g6 wn zg6 yg6 hR => ?_)
          refine hK.out _ _ (par_of HP.out hR) (fun _ => ?_)
          clear hK K
          try simp only [Act.put, List.setIfInBounds_toArray, List.set_cons_zero, List.set_cons_succ]
          refine wpAnyH_ready (rs := [3]) (by kernel_rfl) (by simp) ?_
          refine AllReadyH.cons rfl (fun K hK => ?_) (AllReadyH.nil)
          · go_simp
            go_at_call 24; refine (valid_P hR Hm.out).mono ?_; clear hR; rintro e wd ⟨u, lu, ku, rfl, hR⟩
            go_wp2_with fail
            refine hK.out _ _ (par_of HP.out hR) (fun _ => ?_)
            clear hK K
            try simp only [Act.put, List.setIfInBounds_toArray, List.set_cons_zero, List.set_cons_succ]
            have hne : g5 ≠ g6 := yg6 (g5, 25, zero10) (by simp)
            have hR := hR.swap
            refine wpAnyH_ready (rs := [6]) (by kernel_rfl) (by simp) ?_
            refine AllReadyH.cons rfl (fun K hK => ?_) AllReadyH.nil
            refine step_store25 (l := zero10) (l' := v) hR.hd _ _ none rfl rfl (by with_unfolding_all rfl) rfl rfl rfl lv ?_
            have hR := hR.set0 He.out zg5 (by simp [hne, Ne.symm hne]) v
            refine hK.out _ _ (par_of HP.out hR) (fun _ => ?_)
            clear hK K
            try simp only [Act.put, List.setIfInBounds_toArray, List.set_cons_zero, List.set_cons_succ]
            have hR := hR.swap
            refine wpAnyH_ready (rs := [7]) (by kernel_rfl) (by simp) ?_
            refine AllReadyH.cons rfl (fun K hK => ?_) AllReadyH.nil
            refine step_store25 (l := zero10) (l' := u) hR.hd _ _ none rfl rfl (by with_unfolding_all rfl) rfl rfl rfl lu ?_
            have hR := hR.set0 He.out zg6 (by simp [hne, Ne.symm hne]) u
            refine hK.out _ _ (par_of HP.out hR) (fun _ => ?_)
            clear hK K
            try simp only [Act.put, List.setIfInBounds_toArray, List.set_cons_zero, List.set_cons_succ]
            refine wpAnyH_done (by kernel_rfl) ?_ _
            refine NoPanic.normal ?_
            go_wp2_with fail
            go_meet
            exact ⟨g5, g6, v, u, rfl, rfl, lv, kv, lu, ku, hR.base HB.out⟩
      · refine step_alloc25 (some 6) rfl rfl (by with_unfolding_all rfl) ?_
        refine gen_new (C := fun g wn => K (Act.put _ _ (.pointer (some ⟨g, 0, none⟩))) wn) hR (fun g6 wn zg6 yg6 hR => ?_)
        refine hK.out _ _ (par_of HP.out hR) (fun _ => ?_)
        clear hK K
        try simp only [Act.put, List.setIfInBounds_toArray, List.set_cons_zero, List.set_cons_succ]
        refine wpAnyH_ready (rs := [3, 4]) (by kernel_rfl) (by simp) ?_
        refine AllReadyH.cons rfl (fun K hK => ?_) (AllReadyH.cons rfl (fun K hK => ?_) (AllReadyH.nil))
        · go_simp
          go_at_call 24; refine (valid_P hR Hm.out).mono ?_; clear hR; rintro e wd ⟨u, lu, ku, rfl, hR⟩
          go_wp2_with fail
          refine hK.out _ _ (par_of HP.out hR) (fun _ => ?_)
          clear hK K
          try simp only [Act.put, List.setIfInBounds_toArray, List.set_cons_zero, List.set_cons_succ]
          refine wpAnyH_ready (rs := [4]) (by kernel_rfl) (by simp) ?_
          refine AllReadyH.cons rfl (fun K hK => ?_) (AllReadyH.nil)
          · refine step_alloc25 (some 5) rfl rfl (by with_unfolding_all rfl) ?_
            refine gen_new (C := fun g wn => K (Act.put _ _ (.pointer (some ⟨g, 0, none⟩))) wn) hR (fun g5 wn zg5 yg5 hR => ?_)
            refine hK.out _ _ (par_of HP.out hR) (fun _ => ?_)
            clear hK K
            try simp only [Act.put, List.setIfInBounds_toArray, List.set_cons_zero, List.set_cons_succ]
            have hne : g6 ≠ g5 := yg5 (g6, 25, zero10) (by simp)
            refine wpAnyH_ready (rs := [6]) (by kernel_rfl) (by simp) ?_
            refine AllReadyH.cons rfl (fun K hK => ?_) AllReadyH.nil
            refine step_store25 (l := zero10) (l' := v) hR.hd _ _ none rfl rfl (by with_unfolding_all rfl) rfl rfl rfl lv ?_
            have hR := hR.set0 He.out zg5 (by simp [hne, Ne.symm hne]) v
            refine hK.out _ _ (par_of HP.out hR) (fun _ => ?_)
            clear hK K
            try simp only [Act.put, List.setIfInBounds_toArray, List.set_cons_zero, List.set_cons_succ]
            have hR := hR.swap
            refine wpAnyH_ready (rs := [7]) (by kernel_rfl) (by simp) ?_
            refine AllReadyH.cons rfl (fun K hK => ?_) AllReadyH.nil
            refine step_store25 (l := zero10) (l' := u) hR.hd _ _ none rfl rfl (by with_unfolding_all rfl) rfl rfl rfl lu ?_
            have hR := hR.set0 He.out zg6 (by simp [hne, Ne.symm hne]) u
            refine hK.out _ _ (par_of HP.out hR) (fun _ => ?_)
            clear hK K
            try simp only [Act.put, List.setIfInBounds_toArray, List.set_cons_zero, List.set_cons_succ]
            refine wpAnyH_done (by kernel_rfl) ?_ _
            refine NoPanic.normal ?_
            go_wp2_with fail
            go_meet
            exact ⟨g5, g6, v, u, rfl, rfl, lv, kv, lu, ku, hR.base HB.out⟩
        · refine step_alloc25 (some 5) rfl rfl (by with_unfolding_all rfl) ?_
          refine gen_new (C := fun g wn => K (Act.put _ _ (.pointer (some ⟨g, 0, none⟩))) wn) hR (fun g5 wn zg5 yg5 hR => ?_)
          refine hK.out _ _ (par_of HP.out hR) (fun _ => ?_)
          clear hK K
          try simp only [Act.put, List.setIfInBounds_toArray, List.set_cons_zero, List.set_cons_succ]
          refine wpAnyH_ready (rs := [3]) (by kernel_rfl) (by simp) ?_
          refine AllReadyH.cons rfl (fun K hK => ?_) (AllReadyH.nil)
          · go_simp
            go_at_call 24; refine (valid_P hR Hm.out).mono ?_; clear hR; rintro e wd ⟨u, lu, ku, rfl, hR⟩
            go_wp2_with fail
            refine hK.out _ _ (par_of HP.out hR) (fun _ => ?_)
            clear hK K
            try simp only [Act.put, List.setIfInBounds_toArray, List.set_cons_zero, List.set_cons_succ]
            have hne : g6 ≠ g5 := yg5 (g6, 25, zero10) (by simp)
            refine wpAnyH_ready (rs := [6]) (by kernel_rfl) (by simp) ?_
            refine AllReadyH.cons rfl (fun K hK => ?_) AllReadyH.nil
            refine step_store25 (l := zero10) (l' := v) hR.hd _ _ none rfl rfl (by with_unfolding_all rfl) rfl rfl rfl lv ?_
            have hR := hR.set0 He.out zg5 (by simp [hne, Ne.symm hne]) v
            refine hK.out _ _ (par_of HP.out hR) (fun _ => ?_)
            clear hK K
            try simp only [Act.put, List.setIfInBounds_toArray, List.set_cons_zero, List.set_cons_succ]
            have hR := hR.swap
            refine wpAnyH_ready (rs := [7]) (by kernel_rfl) (by simp) ?_
            refine AllReadyH.cons rfl (fun K hK => ?_) AllReadyH.nil
            refine step_store25 (l := zero10) (l' := u) hR.hd _ _ none rfl rfl (by with_unfolding_all rfl) rfl rfl rfl lu ?_
            have hR := hR.set0 He.out zg6 (by simp [hne, Ne.symm hne]) u
            refine hK.out _ _ (par_of HP.out hR) (fun _ => ?_)
            clear hK K
            try simp only [Act.put, List.setIfInBounds_toArray, List.set_cons_zero, List.set_cons_succ]
            refine wpAnyH_done (by kernel_rfl) ?_ _
            refine NoPanic.normal ?_
            go_wp2_with fail
            go_meet
            exact ⟨g5, g6, v, u, rfl, rfl, lv, kv, lu, ku, hR.base HB.out⟩
    · refine step_alloc25 (some 5) rfl rfl (by with_unfolding_all rfl) ?_
      refine gen_new (C := fun g wn => K (Act.put _ _ (.pointer (some ⟨g, 0, none⟩))) wn) hR (fun g5 wn zg5 yg5 hR => ?_)
      refine hK.out _ _ (par_of HP.out hR) (fun _ => ?_)
      clear hK K
      try simp only [Act.put, List.setIfInBounds_toArray, List.set_cons_zero, List.set_cons_succ]
      refine wpAnyH_ready (rs := [1, 5]) (by kernel_rfl) (by simp) ?_
      refine AllReadyH.cons rfl (fun K hK => ?_) (AllReadyH.cons rfl (fun K hK => ?_) (AllReadyH.nil))
      · go_simp
        go_at_call 24; refine (valid_P hR Hn.out).mono ?_; clear hR; rintro e wd ⟨v, lv, kv, rfl, hR⟩
        go_wp2_with fail
        refine hK.out _ _ (par_of HP.out hR) (fun _ => ?_)
        clear hK K
        try simp only [Act.put, List.setIfInBounds_toArray, List.set_cons_zero, List.set_cons_succ]
        refine wpAnyH_ready (rs := [3, 5]) (by kernel_rfl) (by simp) ?_
        refine AllReadyH.cons rfl (fun K hK => ?_) (AllReadyH.cons rfl (fun K hK => ?_) (AllReadyH.nil))
        · go_simp
          go_at_call 24; refine (valid_P hR Hm.out).mono ?_; clear hR; rintro e wd ⟨u, lu, ku, rfl, hR⟩
          go_wp2_with fail
          refine hK.out _ _ (par_of HP.out hR) (fun _ => ?_)
          clear hK K
          try simp only [Act.put, List.setIfInBounds_toArray, List.set_cons_zero, List.set_cons_succ]
          refine wpAnyH_ready (rs := [5]) (by kernel_rfl) (by simp) ?_
          refine AllReadyH.cons rfl (fun K hK => ?_) (AllReadyH.nil)
          · refine step_alloc25 (some 6) rfl rfl (by with_unfolding_all rfl) ?_
            refine gen_new (C := fun g wn => K (Act.put _ _ (.pointer (some ⟨g, 0, none⟩))) wn) hR (fun g6 wn zg6 yg6 hR => ?_)
            refine hK.out _ _ (par_of HP.out hR) (fun _ => ?_)
            clear hK K
            try simp only [Act.put, List.setIfInBounds_toArray, List.set_cons_zero, List.set_cons_succ]
            have hne : g5 ≠ g6 := yg6 (g5, 25, zero10) (by simp)
            have hR := hR.swap
            refine wpAnyH_ready (rs := [6]) (by kernel_rfl) (by simp) ?_
            refine AllReadyH.cons rfl (fun K hK => ?_) AllReadyH.nil
            refine step_store25 (l := zero10) (l' := v) hR.hd _ _ none rfl rfl (by with_unfolding_all rfl) rfl rfl rfl lv ?_
            have hR := hR.set0 He.out zg5 (by simp [hne, Ne.symm hne]) v
            refine hK.out _ _ (par_of HP.out hR) (fun _ => ?_)
            clear hK K
            try simp only [Act.put, List.setIfInBounds_toArray, List.set_cons_zero, List.set_cons_succ]
            have hR := hR.swap
            refine wpAnyH_ready (rs := [7]) (by kernel_rfl) (by simp) ?_
            refine AllReadyH.cons rfl (fun K hK => ?_) AllReadyH.nil
            refine step_store25 (l := zero10) (l' := u) hR.hd _ _ none rfl rfl (by with_unfolding_all rfl) rfl rfl rfl lu ?_
            have hR := hR.set0 He.out zg6 (by simp [hne, Ne.symm hne]) u
            refine hK.out _ _ (par_of HP.out hR) (fun _ => ?_)
            clear hK K
            try simp only [Act.put, List.setIfInBounds_toArray, List.set_cons_zero, List.set_cons_succ]
            refine wpAnyH_done (by kernel_rfl) ?_ _
            refine NoPanic.normal ?_
            go_wp2_with fail
            go_meet
            exact ⟨g5, g6, v, u, rfl, rfl, lv, kv, lu, ku, hR.base HB.out⟩
        · refine step_alloc25 (some 6) rfl rfl (by with_unfolding_all rfl) ?_
          refine gen_new (C := fun g wn => K (Act.put _ _ (.pointer (some ⟨g, 0, none⟩))) wn) hR (fun g6 wn zg6 yg6 hR => ?_)
          refine hK.out _ _ (par_of HP.out hR) (fun _ => ?_)
          clear hK K
          try simp only [Act.put, List.setIfInBounds_toArray, List.set_cons_zero, List.set_cons_succ]
          refine wpAnyH_ready (rs := [3]) (by kernel_rfl) (by simp) ?_
          refine AllReadyH.cons rfl (fun K hK => ?_) (AllReadyH.nil)
          · go_simp
            go_at_call 24; refine (valid_P hR Hm.out).mono ?_; clear hR; rintro e wd ⟨u, lu, ku, rfl, hR⟩
            go_wp2_with fail
            refine hK.out _ _ (par_of HP.out hR) (fun _ => ?_)
            clear hK K
            try simp only [Act.put, List.setIfInBounds_toArray, List.set_cons_zero, List.set_cons_succ]
            have hne : g5 ≠ g6 := yg6 (g5, 25, zero10) (by simp)
            have hR := hR.swap
            refine wpAnyH_ready (rs := [6]) (by kernel_rfl) (by simp) ?_
            refine AllReadyH.cons rfl (fun K hK => ?_) AllReadyH.nil
            refine step_store25 (l := zero10) (l' := v) hR.hd _ _ none rfl rfl (by with_unfolding_all rfl) rfl rfl rfl lv ?_
            have hR := hR.set0 He.out zg5 (by simp [hne, Ne.symm hne]) v
            refine hK.out _ _ (par_of HP.out hR) (fun _ => ?_)
            clear hK K
            try simp only [Act.put, List.setIfInBounds_toArray, List.set_cons_zero, List.set_cons_succ]
            have hR := hR.swap
            refine wpAnyH_ready (rs := [7]) (by kernel_rfl) (by simp) ?_
            refine AllReadyH.cons rfl (fun K hK => ?_) AllReadyH.nil
            refine step_store25 (l := zero10) (l' := u) hR.hd _ _ none rfl rfl (by with_unfolding_all rfl) rfl rfl rfl lu ?_
            have hR := hR.set0 He.out zg6 (by simp [hne, Ne.symm hne]) u
            refine hK.out _ _ (par_of HP.out hR) (fun _ => ?_)
            clear hK K
            try simp only [Act.put, List.setIfInBounds_toArray, List.set_cons_zero, List.set_cons_succ]
            refine wpAnyH_done (by kernel_rfl) ?_ _
            refine NoPanic.normal ?_
            go_wp2_with fail
            go_meet
            exact ⟨g5, g6, v, u, rfl, rfl, lv, kv, lu, ku, hR.base HB.out⟩
      · refine step_alloc25 (some 6) rfl rfl (by with_unfolding_all rfl) ?_
        refine gen_new (C := fun g wn => K (Act.put _ _ (.pointer (some ⟨g, 0, none⟩))) wn) hR (fun g6 wn zg6 yg6 hR => ?_)
        refine hK.out _ _ (par_of HP.out hR) (fun _ => ?_)
        clear hK K
        try simp only [Act.put, List.setIfInBounds_toArray, List.set_cons_zero, List.set_cons_succ]
        refine wpAnyH_ready (rs := [1]) (by kernel_rfl) (by simp) ?_
        refine AllReadyH.cons rfl (fun K hK => ?_) (AllReadyH.nil)
        · go_simp
          go_at_call 24; refine (valid_P hR Hn.out).mono ?_; clear hR; rintro e wd ⟨v, lv, kv, rfl, hR⟩
          go_wp2_with fail
          refine hK.out _ _ (par_of HP.out hR) (fun _ => ?_)
          clear hK K
          try simp only [Act.put, List.setIfInBounds_toArray, List.set_cons_zero, List.set_cons_succ]
          refine wpAnyH_ready (rs := [3]) (by kernel_rfl) (by simp) ?_
          refine AllReadyH.cons rfl (fun K hK => ?_) (AllReadyH.nil)
          · go_simp
            go_at_call 24; refine (valid_P hR Hm.out).mono ?_; clear hR; rintro e wd ⟨u, lu, ku, rfl, hR⟩
            go_wp2_with fail
            refine hK.out _ _ (par_of HP.out hR) (fun _ => ?_)
            clear hK K
            try simp only [Act.put, List.setIfInBounds_toArray, List.set_cons_zero, List.set_cons_succ]
            have hne : g5 ≠ g6 := yg6 (g5, 25, zero10) (by simp)
            have hR := hR.swap
            refine wpAnyH_ready (rs := [6]) (by kernel_rfl) (by simp) ?_
            refine AllReadyH.cons rfl (fun K hK => ?_) AllReadyH.nil
            refine step_store25 (l := zero10) (l' := v) hR.hd _ _ none rfl rfl (by with_unfolding_all rfl) rfl rfl rfl lv ?_
            have hR := hR.set0 He.out zg5 (by simp [hne, Ne.symm hne]) v
            refine hK.out _ _ (par_of HP.out hR) (fun _ => ?_)
            clear hK K
            try simp only [Act.put, List.setIfInBounds_toArray, List.set_cons_zero, List.set_cons_succ]
            have hR := hR.swap
            refine wpAnyH_ready (rs := [7]) (by kernel_rfl) (by simp) ?_
            refine AllReadyH.cons rfl (fun K hK => ?_) AllReadyH.nil
            refine step_store25 (l := zero10) (l' := u) hR.hd _ _ none rfl rfl (by with_unfolding_all rfl) rfl rfl rfl lu ?_
            have hR := hR.set0 He.out zg6 (by simp [hne, Ne.symm hne]) u
            refine hK.out _ _ (par_of HP.out hR) (fun _ => ?_)
            clear hK K
            try simp only [Act.put, List.setIfInBounds_toArray, List.set_cons_zero, List.set_cons_succ]
            refine wpAnyH_done (by kernel_rfl) ?_ _
            refine NoPanic.normal ?_
            go_wp2_with fail
            go_meet
            exact ⟨g5, g6, v, u, rfl, rfl, lv, kv, lu, ku, hR.base HB.out⟩
    · refine step_alloc25 (some 6) rfl rfl (by with_unfolding_all rfl) ?_
      refine gen_new (C := fun g wn => K (Act.put _ _ (.pointer (some ⟨g, 0, none⟩))) wn) hR (fun g6 wn zg6 yg6 hR => ?_)
      refine hK.out _ _ (par_of HP.out hR) (fun _ => ?_)
      clear hK K
      try simp only [Act.put, List.setIfInBounds_toArray, List.set_cons_zero, List.set_cons_succ]
      refine wpAnyH_ready (rs := [1, 4]) (by kernel_rfl) (by simp) ?_
      refine AllReadyH.cons rfl (fun K hK => ?_) (AllReadyH.cons rfl (fun K hK => ?_) (AllReadyH.nil))
      · go_simp
        go_at_call 24; refine (valid_P hR Hn.out).mono ?_; clear hR; rintro e wd ⟨v, lv, kv, rfl, hR⟩
        go_wp2_with fail
        refine hK.out _ _ (par_of HP.out hR) (fun _ => ?_)
        clear hK K
        try simp only [Act.put, List.setIfInBounds_toArray, List.set_cons_zero, List.set_cons_succ]
        refine wpAnyH_ready (rs := [3, 4]) (by kernel_rfl) (by simp) ?_
        refine AllReadyH.cons rfl (fun K hK => ?_) (AllReadyH.cons rfl (fun K hK => ?_) (AllReadyH.nil))
        · go_simp
          go_at_call 24; refine (valid_P hR Hm.out).mono ?_; clear hR; rintro e wd ⟨u, lu, ku, rfl, hR⟩
          go_wp2_with fail
          refine hK.out _ _ (par_of HP.out hR) (fun _ => ?_)
          clear hK K
          try simp only [Act.put, List.setIfInBounds_toArray, List.set_cons_zero, List.set_cons_succ]
          refine wpAnyH_ready (rs := [4]) (by kernel_rfl) (by simp) ?_
          refine AllReadyH.cons rfl (fun K hK => ?_) (AllReadyH.nil)
          · refine step_alloc25 (some 5) rfl rfl (by with_unfolding_all rfl) ?_
            refine gen_new (C := fun g wn => K (Act.put _ _ (.pointer (some ⟨g, 0, none⟩))) wn) hR (fun g5 wn zg5 yg5 hR => ?_)
            refine hK.out _ _ (par_of HP.out hR) (fun _ => ?_)
            clear hK K
            try simp only [Act.put, List.setIfInBounds_toArray, List.set_cons_zero, List.set_cons_succ]
            have hne : g6 ≠ g5 := yg5 (g6, 25, zero10) (by simp)
            refine wpAnyH_ready (rs := [6]) (by kernel_rfl) (by simp) ?_
            refine AllReadyH.cons rfl (fun K hK => ?_) AllReadyH.nil
            refine step_store25 (l := zero10) (l' := v) hR.hd _ _ none rfl rfl (by with_unfolding_all rfl) rfl rfl rfl lv ?_
            have hR := hR.set0 He.out zg5 (by simp [hne, Ne.symm hne]) v
            refine hK.out _ _ (par_of HP.out hR) (fun _ => ?_)
            clear hK K
            try simp only [Act.put, List.setIfInBounds_toArray, List.set_cons_zero, List.set_cons_succ]
            have hR := hR.swap
            refine wpAnyH_ready (rs := [7]) (by kernel_rfl) (by simp) ?_
            refine AllReadyH.cons rfl (fun K hK => ?_) AllReadyH.nil
            refine step_store25 (l := zero10) (l' := u) hR.hd _ _ none rfl rfl (by with_unfolding_all rfl) rfl rfl rfl lu ?_
            have hR := hR.set0 He.out zg6 (by simp [hne, Ne.symm hne]) u
            refine hK.out _ _ (par_of HP.out hR) (fun _ => ?_)
            clear hK K
            try simp only [Act.put, List.setIfInBounds_toArray, List.set_cons_zero, List.set_cons_succ]
            refine wpAnyH_done (by kernel_rfl) ?_ _
            refine NoPanic.normal ?_
            go_wp2_with fail
            go_meet
            exact ⟨g5, g6, v, u, rfl, rfl, lv, kv, lu, ku, hR.base HB.out⟩
        · refine step_alloc25 (some 5) rfl rfl (by with_unfolding_all rfl) ?_
          refine gen_new (C := fun g wn => K (Act.put _ _ (.pointer (some ⟨g, 0, none⟩))) wn) hR (fun g5 wn zg5 yg5 hR => ?_)
          refine hK.out _ _ (par_of HP.out hR) (fun _ => ?_)
          clear hK K
          try simp only [Act.put, List.setIfInBounds_toArray, List.set_cons_zero, List.set_cons_succ]
          refine wpAnyH_ready (rs := [3]) (by kernel_rfl) (by simp) ?_
          refine AllReadyH.cons rfl (fun K hK => ?_) (AllReadyH.nil)
          · go_simp
            go_at_call 24; refine (valid_P hR Hm.out).mono ?_; clear hR; rintro e wd ⟨u, lu, ku, rfl, hR⟩
            go_wp2_with fail
            refine hK.out _ _ (par_of HP.out hR) (fun _ => ?_)
            clear hK K
            try simp only [Act.put, List.setIfInBounds_toArray, List.set_cons_zero, List.set_cons_succ]
            have hne : g6 ≠ g5 := yg5 (g6, 25, zero10) (by simp)
            refine wpAnyH_ready (rs := [6]) (by kernel_rfl) (by simp) ?_
            refine AllReadyH.cons rfl (fun K hK => ?_) AllReadyH.nil
            refine step_store25 (l := zero10) (l' := v) hR.hd _ _ none rfl rfl (by with_unfolding_all rfl) rfl rfl rfl lv ?_
            have hR := hR.set0 He.out zg5 (by simp [hne, Ne.symm hne]) v
            refine hK.out _ _ (par_of HP.out hR) (fun _ => ?_)
            clear hK K
            try simp only [Act.put, List.setIfInBounds_toArray, List.set_cons_zero, List.set_cons_succ]
            have hR := hR.swap
            refine wpAnyH_ready (rs := [7]) (by kernel_rfl) (by simp) ?_
            refine AllReadyH.cons rfl (fun K hK => ?_) AllReadyH.nil
            refine step_store25 (l := zero10) (l' := u) hR.hd _ _ none rfl rfl (by with_unfolding_all rfl) rfl rfl rfl lu ?_
            have hR := hR.set0 He.out zg6 (by simp [hne, Ne.symm hne]) u
            refine hK.out _ _ (par_of HP.out hR) (fun _ => ?_)
            clear hK K
            try simp only [Act.put, List.setIfInBounds_toArray, List.set_cons_zero, List.set_cons_succ]
            refine wpAnyH_done (by kernel_rfl) ?_ _
            refine NoPanic.normal ?_
            go_wp2_with fail
            go_meet
            exact ⟨g5, g6, v, u, rfl, rfl, lv, kv, lu, ku, hR.base HB.out⟩
      · refine step_alloc25 (some 5) rfl rfl (by with_unfolding_all rfl) ?_
        refine gen_new (C := fun g wn => K (Act.put _ _ (.pointer (some ⟨g, 0, none⟩))) wn) hR (fun g5 wn zg5 yg5 hR => ?_)
        refine hK.out _ _ (par_of HP.out hR) (fun _ => ?_)
        clear hK K
        try simp only [Act.put, List.setIfInBounds_toArray, List.set_cons_zero, List.set_cons_succ]
        refine wpAnyH_ready (rs := [1]) (by kernel_rfl) (by simp) ?_
        refine AllReadyH.cons rfl (fun K hK => ?_) (AllReadyH.nil)
        · go_simp
          go_at_call 24; refine (valid_P hR Hn.out).mono ?_; clear hR; rintro e wd ⟨v, lv, kv, rfl, hR⟩
          go_wp2_with fail
          refine hK.out _ _ (par_of HP.out hR) (fun _ => ?_)
          clear hK K
          try simp only [Act.put, List.setIfInBounds_toArray, List.set_cons_zero, List.set_cons_succ]
          refine wpAnyH_ready (rs := [3]) (by kernel_rfl) (by simp) ?_
          refine AllReadyH.cons rfl (fun K hK => ?_) (AllReadyH.nil)
          · go_simp
            go_at_call 24; refine (valid_P hR Hm.out).mono ?_; clear hR; rintro e wd ⟨u, lu, ku, rfl, hR⟩
            go_wp2_with fail
            refine hK.out _ _ (par_of HP.out hR) (fun _ => ?_)
            clear hK K
            try simp only [Act.put, List.setIfInBounds_toArray, List.set_cons_zero, List.set_cons_succ]
            have hne : g6 ≠ g5 := yg5 (g6, 25, zero10) (by simp)
            refine wpAnyH_ready (rs := [6]) (by kernel_rfl) (by simp) ?_
            refine AllReadyH.cons rfl (fun K hK => ?_) AllReadyH.nil
            refine step_store25 (l := zero10) (l' := v) hR.hd _ _ none rfl rfl (by with_unfolding_all rfl) rfl rfl rfl lv ?_
            have hR := hR.set0 He.out zg5 (by simp [hne, Ne.symm hne]) v
            refine hK.out _ _ (par_of HP.out hR) (fun _ => ?_)
            clear hK K
            try simp only [Act.put, List.setIfInBounds_toArray, List.set_cons_zero, List.set_cons_succ]
            have hR := hR.swap
            refine wpAnyH_ready (rs := [7]) (by kernel_rfl) (by simp) ?_
            refine AllReadyH.cons rfl (fun K hK => ?_) AllReadyH.nil
            refine step_store25 (l := zero10) (l' := u) hR.hd _ _ none rfl rfl (by with_unfolding_all rfl) rfl rfl rfl lu ?_
            have hR := hR.set0 He.out zg6 (by simp [hne, Ne.symm hne]) u
            refine hK.out _ _ (par_of HP.out hR) (fun _ => ?_)
            clear hK K
            try simp only [Act.put, List.setIfInBounds_toArray, List.set_cons_zero, List.set_cons_succ]
            refine wpAnyH_done (by kernel_rfl) ?_ _
            refine NoPanic.normal ?_
            go_wp2_with fail
            go_meet
            exact ⟨g5, g6, v, u, rfl, rfl, lv, kv, lu, ku, hR.base HB.out⟩
  case rest =>
    clear HP He i1 i2 Hn Hm HB hR
    obtain ⟨g5, g6, v, u, rfl, rfl, lv, kv, lu, ku, hR⟩ := hcut
    have cv := chkL_ok kv
    have cu := chkL_ok ku
    obtain ⟨po, pv, b0, b1⟩ := prs_sgn lv kv
    have pe : prsE (sgnL v) = 0 := prsE_t po
    obtain ⟨ro, rv⟩ := rd_txt lv kv
    have re : rdE (txtL v) = 0 := rdE_t ro
    have sz := txtL_size lv kv
    have H1 := Lib.hid cv
    have H2 := Lib.hid cu
    have H3 := Lib.hid pv
    have H4 := Lib.hid pe
    have H5 := Lib.hid rv
    have H6 := Lib.hid re
    have iv : (Tryd.prog.info? 25).map (·.size) = some v.length := by rw [lv]; kernel_rfl
    have iu : (Tryd.prog.info? 25).map (·.size) = some u.length := by rw [lu]; kernel_rfl
    have hz : v.length = zero10.length := lv
    by_cases hvu : v = u
    · subst hvu
      clear cv cu po pv pe ro rv re lu ku kv
      go_wp2_with (first
        | (with_reducible refine wpl_loadG hR.hd (by with_unfolding_all rfl) 25 _ rfl rfl Tryd.underlying25 (by first | exact iv | exact iv) ?_)
        | (with_reducible refine wpl_loadG hR.tl.hd (by with_unfolding_all rfl) 25 _ rfl rfl Tryd.underlying25 (by first | exact iv | exact iv) ?_)
        | (with_reducible refine wpl_loadG hR.tl.tl.hd (by with_unfolding_all rfl) 25 _ rfl rfl Tryd.underlying25 (by first | exact iv | exact iv) ?_)
        | (with_reducible refine wpl_loadG hR.tl.tl.tl.hd (by with_unfolding_all rfl) 25 _ rfl rfl Tryd.underlying25 (by first | exact iv | exact iv) ?_)
        | (go_at_call_of 14 (Value.agg (ints v)); refine (sign_R hR v lv).mono ?_; clear hR; rintro e w1 ⟨rfl, hR⟩; rw [H1.out])
        | (go_at_call_of 16 (Value.agg (ints v)); refine (text_R hR v lv).mono ?_; clear hR; rintro e w1 ⟨rfl, hR⟩; rw [H1.out])
        | (go_at_call 20; refine (parse_R hR (sgnL v) b0 (by omega)).mono ?_; clear hR; rintro e w1 ⟨rfl, hR⟩; rw [H3.out, H4.out])
        | (go_at_call 22; refine (read_R hR (txtL v) (by omega)).mono ?_; clear hR; rintro e w1 ⟨rfl, hR⟩; rw [H5.out, H6.out])
        | (with_reducible refine wpl_storeAt hR 25 zero10 v (by with_unfolding_all rfl) (by simp) rfl 25 _ _ rfl rfl rfl hz (by kernel_rfl) ?_; clear hR; intro w2 hR)
        | (go_at_call 18; refine (check_R hR v lv).mono ?_; clear hR; rintro e w1 ⟨rfl, hR⟩; rw [H1.out])
        | (with_reducible refine wpl_eqSame v lv (by with_unfolding_all rfl) _ _ _ rfl rfl (by with_unfolding_all rfl) ?_)
        | (go_at_call 13; refine (works_R hR).mono ?_; clear hR; rintro e w1 ⟨rfl, hR⟩))
      go_ret
      exact ⟨rfl, hR.bel⟩
    · have hsg : (sgnL v == sgnL u) = false := by rw [beq_eq_false_iff_ne]; exact fun e => hvu (sgnL_inj lv kv lu ku e)
      have htx : ((txtL v).toList == (txtL u).toList) = false := by
        rw [beq_eq_false_iff_ne]
        intro e
        rw [ByteArray.toList_eq, ByteArray.toList_eq] at e
        exact hvu (txtL_inj lv kv lu ku (ba_ext e))
      have HV := Lib.hid hvu
      clear cv cu po pv pe ro rv re kv ku hvu
      go_wp2_with (first
        | (with_reducible refine wpl_loadG hR.hd (by with_unfolding_all rfl) 25 _ rfl rfl Tryd.underlying25 (by first | exact iv | exact iu) ?_)
        | (with_reducible refine wpl_loadG hR.tl.hd (by with_unfolding_all rfl) 25 _ rfl rfl Tryd.underlying25 (by first | exact iv | exact iu) ?_)
        | (with_reducible refine wpl_loadG hR.tl.tl.hd (by with_unfolding_all rfl) 25 _ rfl rfl Tryd.underlying25 (by first | exact iv | exact iu) ?_)
        | (with_reducible refine wpl_loadG hR.tl.tl.tl.hd (by with_unfolding_all rfl) 25 _ rfl rfl Tryd.underlying25 (by first | exact iv | exact iu) ?_)
        | (go_at_call_of 14 (Value.agg (ints v)); refine (sign_R hR v lv).mono ?_; clear hR; rintro e w1 ⟨rfl, hR⟩; rw [H1.out])
        | (go_at_call_of 16 (Value.agg (ints v)); refine (text_R hR v lv).mono ?_; clear hR; rintro e w1 ⟨rfl, hR⟩; rw [H1.out])
        | (go_at_call_of 14 (Value.agg (ints u)); refine (sign_R hR u lu).mono ?_; clear hR; rintro e w1 ⟨rfl, hR⟩; rw [H2.out])
        | (go_at_call_of 16 (Value.agg (ints u)); refine (text_R hR u lu).mono ?_; clear hR; rintro e w1 ⟨rfl, hR⟩; rw [H2.out])
        | (go_at_call 20; refine (parse_R hR (sgnL v) b0 (by omega)).mono ?_; clear hR; rintro e w1 ⟨rfl, hR⟩; rw [H3.out, H4.out])
        | (go_at_call 22; refine (read_R hR (txtL v) (by omega)).mono ?_; clear hR; rintro e w1 ⟨rfl, hR⟩; rw [H5.out, H6.out])
        | (with_reducible refine wpl_storeAt hR 25 zero10 v (by with_unfolding_all rfl) (by simp) rfl 25 _ _ rfl rfl rfl hz (by kernel_rfl) ?_; clear hR; intro w2 hR)
        | (go_at_call 18; refine (check_R hR v lv).mono ?_; clear hR; rintro e w1 ⟨rfl, hR⟩; rw [H1.out])
        | (with_reducible refine wpl_eqSame v lv (by with_unfolding_all rfl) _ _ _ rfl rfl (by with_unfolding_all rfl) ?_)
        | (with_reducible refine wpl_eqNot lv lu HV.out (by with_unfolding_all rfl) _ _ _ rfl rfl (by with_unfolding_all rfl) ?_)
        | (go_at_call 13; refine (works_R hR).mono ?_; clear hR; rintro e w1 ⟨rfl, hR⟩))
      go_ret
      exact ⟨rfl, hR.bel⟩
end Go.Proofs.YtcnflmbnnobocaaDoor
