/- The examples of the chapter. Conditions: as in EnvB. -/
import Derived.Test.YthbbnhhofkadgaaDoorBwh
namespace Go.Proofs.YthbbnhhofkadgaaDoor
open Go Go.RowKit
set_option maxRecDepth 100000 in
set_option maxHeartbeats 4000000 in
theorem works_any (w : World) (hw : EnvB w) : Calls Tryd.prog 11 #[] w fun e w' => e = .returned (.bool true) ∧ Below w.heap.size w w' := by
  have hR := Rch.start hw
  go_enter Tryd.func11, Tryd.ntmps11
  have t1 := trivial
  have m1 := trivial
  have m2 := trivial
  have m3 := trivial
  have m4 := trivial
  go_upto_region 9 with (first
    | (have _t := t1; go_at_call 12; refine (psr_R hR ⟨#[114, 110, 98, 113, 107, 98, 110, 114, 47, 112, 112, 112, 112, 112, 112, 112, 112, 47, 56, 47, 56, 47, 56, 47, 56, 47, 80, 80, 80, 80, 80, 80, 80, 80, 47, 82, 78, 66, 81, 75, 66, 78, 82]⟩ (by decide)).mono ?_; clear hR t1 _t; rintro e w1 ⟨rfl, hR⟩; rw [wk_p2, wk_p3])
    | (go_at_call 12; refine (psr_R hR ⟨#[56, 47, 56, 47, 56, 47, 56, 47, 56, 47, 56, 47, 56, 47, 52, 52]⟩ (by decide)).mono ?_; clear hR; rintro e w1 ⟨rfl, hR⟩; rw [wk_q2, wk_q3])
    | (go_at_call 21; refine (king_R hR strB strB_ln 1).mono ?_; clear hR; rintro e w1 ⟨rfl, hR⟩; rw [wk_kv, wk_kb])
    | (go_at_call 28; refine (count_R hR strB strB_ln).mono ?_; clear hR; rintro e w1 ⟨rfl, hR⟩; rw [wk_cn0])
    | (have _t := m1; go_at_call 19; refine (move_R hR strB strB_ln 12 28).mono ?_; clear hR m1 _t; rintro e w1 ⟨rfl, hR⟩; rw [wk_mv1, wk_mv2])
    | (have _t := m2; go_at_call 19; refine (move_R hR strB strB_ln 28 36).mono ?_; clear hR m2 _t; rintro e w1 ⟨rfl, hR⟩; rw [mvz3, wk_mv3])
    | (have _t := m3; go_at_call 19; refine (move_R hR strB strB_ln 12 12).mono ?_; clear hR m3 _t; rintro e w1 ⟨rfl, hR⟩; rw [mvz4, wk_mv4])
    | (have _t := m4; go_at_call 19; refine (move_R hR strB strB_ln 12 64).mono ?_; clear hR m4 _t; rintro e w1 ⟨rfl, hR⟩; rw [mvz5, wk_mv5])
    | (go_at_call 15; refine (place_R hR strM strM_ln).mono ?_; clear hR; rintro e w1 ⟨rfl, hR⟩; rw [wk_pl, wk_chk])
    | (with_reducible refine wpl_storeNew hR 24 zero64 strB (by with_unfolding_all rfl) rfl 24 _ _ rfl rfl rfl strB_lz z64_info ?_; clear hR; intro w2 hR)
    | (with_reducible refine wpl_storeNew hR 48 zero13 [32, 8, 2, 2, 2, 1, 1, 8, 2, 2, 2, 1, 1] (by with_unfolding_all rfl) rfl 48 _ _ rfl rfl rfl cn_lz z13_info ?_; clear hR; intro w2 hR)
    | (with_reducible refine wpl_storeNew hR 24 zero64 strM (by with_unfolding_all rfl) rfl 24 _ _ rfl rfl rfl strM_lz z64_info ?_; clear hR; intro w2 hR)
    | (with_reducible refine wpl_storeNew hR 24 zero64 zero64 (by with_unfolding_all rfl) rfl 24 _ _ rfl rfl rfl rfl z64_info ?_; clear hR; intro w2 hR)
    | (with_reducible refine wpl_loadG hR.hd (by with_unfolding_all rfl) 24 _ rfl rfl Tryd.underlying24 (by kernel_rfl) ?_)
    | (with_reducible refine wpl_loadG hR.tl.hd (by with_unfolding_all rfl) 24 _ rfl rfl Tryd.underlying24 (by kernel_rfl) ?_)
    | (with_reducible refine wpl_loadG hR.tl.tl.hd (by with_unfolding_all rfl) 24 _ rfl rfl Tryd.underlying24 (by kernel_rfl) ?_)
    | (with_reducible refine wpl_loadG hR.tl.tl.tl.hd (by with_unfolding_all rfl) 24 _ rfl rfl Tryd.underlying24 (by kernel_rfl) ?_)
    | (with_reducible refine wpl_loadG hR.tl.tl.tl.tl.hd (by with_unfolding_all rfl) 24 _ rfl rfl Tryd.underlying24 (by kernel_rfl) ?_)
    | (with_reducible refine wpl_loadG hR.tl.tl.tl.tl.tl.hd (by with_unfolding_all rfl) 24 _ rfl rfl Tryd.underlying24 (by kernel_rfl) ?_)
    | (with_reducible refine wpl_loadG hR.tl.tl.tl.tl.tl.tl.hd (by with_unfolding_all rfl) 24 _ rfl rfl Tryd.underlying24 (by kernel_rfl) ?_)
    | fail)
  go_wp2_with (first
    | (go_at_call 12; refine (psr_R hR ⟨#[56, 47, 56, 47, 56, 47, 56, 47, 56, 47, 56, 47, 56, 47, 52, 52]⟩ (by decide)).mono ?_; clear hR; rintro e w1 ⟨rfl, hR⟩; rw [wk_q2, wk_q3])
    | (with_reducible refine wpl_storeNew hR 24 zero64 zero64 (by with_unfolding_all rfl) rfl 24 _ _ rfl rfl rfl rfl z64_info ?_; clear hR; intro w2 hR; refine stop_of ?_))
  unfold Stop
  have HCB := Lib.hid (strB_c hR.tl.tl.tl.tl.tl.tl.hd)
  go_step
  go_step
  go_step
  go_step
  go_step
  go_step
  go_step
  simp only [List.append]
  have hT : strT.toList = [114, 110, 98, 113, 107, 98, 110, 114, 47, 112, 112, 112, 112, 112, 112, 112, 112, 47, 56, 47, 56, 47, 52, 80, 51, 47, 56, 47, 80, 80, 80, 80, 49, 80, 80, 80, 47, 82, 78, 66, 81, 75, 66, 78, 82] := by decide +kernel
  go_wp2_with (first
    | (with_reducible refine wpl_loadC HCB.out.1 (by with_unfolding_all rfl) _ rfl rfl ?_)
    | (with_reducible refine wpl_loadC HCB.out.2.1 (by with_unfolding_all rfl) _ rfl rfl ?_)
    | (with_reducible refine wpl_loadC HCB.out.2.2.1 (by with_unfolding_all rfl) _ rfl rfl ?_)
    | (with_reducible refine wpl_loadC HCB.out.2.2.2.1 (by with_unfolding_all rfl) _ rfl rfl ?_)
    | (with_reducible refine wpl_loadC HCB.out.2.2.2.2 (by with_unfolding_all rfl) _ rfl rfl ?_)
    | (with_reducible refine wpl_loadG hR.tl.tl.tl.tl.tl.tl.hd (by with_unfolding_all rfl) 24 _ rfl rfl Tryd.underlying24 (by kernel_rfl) ?_)
    | (go_at_call 24; refine (pawns_R hR).mono ?_; clear hR; rintro e w1 ⟨rfl, hR⟩)
    | (go_at_call 38; refine (list_R hR).mono ?_; clear hR; rintro e w1 ⟨g, cap, rfl, hgc, hgl, hR⟩; have HG := Lib.hid hgc; clear hgc)
    | (go_at_call 37; refine (eq_pawns hR g cap hgl HG.out _ _ (by with_unfolding_all rfl)).mono ?_; clear hR; rintro e w1 ⟨rfl, hR⟩; have HCN := Lib.hid (cn_c hR.tl.tl.tl.tl.tl.hd))
    | (with_reducible refine wpl_loadC HCN.out.1 (by with_unfolding_all rfl) _ rfl rfl ?_)
    | (with_reducible refine wpl_loadC HCN.out.2.1 (by with_unfolding_all rfl) _ rfl rfl ?_)
    | (with_reducible refine wpl_loadC HCN.out.2.2 (by with_unfolding_all rfl) _ rfl rfl ?_))
  go_ret
  exact ⟨rfl, hR.bel⟩
end Go.Proofs.YthbbnhhofkadgaaDoor
