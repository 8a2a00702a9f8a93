/- The law ScriptBack, walked. -/
import Derived.Test.YtjjnjglbmneecaaDoorSnp
import Derived.Test.YtjjnjglbmneecaaDoorSag
import Derived.Deep.RegionWith
import Derived.Deep.DeepCutAuto
namespace Go.Proofs.YtjjnjglbmneecaaDoor
open Go Go.RowKit
/-- The state in the region that makes two operations: two arguments' blocks, and the blocks made so far. -/
structure Bk (w : World) (b0 b1 : Array Value) (W : World) (rows : List (Nat × Array Value)) : Prop where
  par : Rw W w.heap.size 35 b0 ∧ Rw W (w.heap.size + 1) 35 b1
  bel : Below w.heap.size w W
  rows : ∀ r ∈ rows, Rw W r.1 24 r.2 ∧ w.heap.size + 2 ≤ r.1
theorem Bk.below {w W W' : World} {b0 b1 : Array Value} {rows : List (Nat × Array Value)} (h : Bk w b0 b1 W rows) (hb : Below W.heap.size W W') : Bk w b0 b1 W' rows :=
  ⟨⟨h.par.1.below hb h.par.1.lt, h.par.2.below hb h.par.2.lt⟩, h.bel.trans (below_le hb h.bel.size), fun r hr => ⟨(h.rows r hr).1.below hb (h.rows r hr).1.lt, (h.rows r hr).2⟩⟩
theorem Bk.swap {w W : World} {b0 b1 : Array Value} {r s : Nat × Array Value} (h : Bk w b0 b1 W [r, s]) : Bk w b0 b1 W [s, r] := ⟨h.par, h.bel, fun x hx => h.rows x (by simp at hx ⊢; exact hx.symm)⟩
theorem Bk.hd {w W : World} {b0 b1 : Array Value} {r : Nat × Array Value} {l : List (Nat × Array Value)} (h : Bk w b0 b1 W (r :: l)) : Rw W r.1 24 r.2 := (h.rows r (by simp)).1
theorem Bk.al {w W : World} {b0 b1 : Array Value} {rows : List (Nat × Array Value)} (h : Bk w b0 b1 W rows) (cs : Array Value) : Bk w b0 b1 (W.alloc (.cells cs 24)) ((W.heap.size, cs) :: rows) := by
  have hb := h.below (below_al W (.cells cs 24))
  refine ⟨hb.par, hb.bel, fun r hr => ?_⟩
  rcases List.mem_cons.1 hr with rfl | hr
  · exact ⟨Rw.new W 24 cs, by have := h.par.2.lt; show w.heap.size + 2 ≤ W.heap.size; omega⟩
  · exact hb.rows r hr
theorem Bk.ne {w W : World} {b0 b1 : Array Value} {rows : List (Nat × Array Value)} (h : Bk w b0 b1 W rows) : ∀ r ∈ rows, r.1 ≠ W.heap.size := fun r hr => Nat.ne_of_lt (h.rows r hr).1.lt
theorem Bk.set {w W : World} {b0 b1 : Array Value} {g : Nat} {a' b' c' : Value} {s : Nat × Array Value} (hne : s.1 ≠ g) {a b c : Value} (h : Bk w b0 b1 W [(g, #[a', b', c']), s]) : Bk w b0 b1 (((W.setCell ⟨g, 0, none⟩ a).setCell ⟨g, 1, none⟩ b).setCell ⟨g, 2, none⟩ c) [(g, #[a, b, c]), s] := by
  have h0 := h.rows (g, #[a', b', c']) (by simp)
  have hs := h.rows s (by simp)
  have hg : w.heap.size + 2 ≤ g := h0.2
  have hk : ∀ (b0' : Nat) {t : TypeId} {cs : Array Value}, Rw W b0' t cs → b0' ≠ g → Rw (((W.setCell ⟨g, 0, none⟩ a).setCell ⟨g, 1, none⟩ b).setCell ⟨g, 2, none⟩ c) b0' t cs := fun b0' t cs hr hn => by
    unfold Rw
    rw [heap_setCell_other _ _ _ _ (by simpa using hn), heap_setCell_other _ _ _ _ (by simpa using hn), heap_setCell_other _ _ _ _ (by simpa using hn)]
    exact hr
  refine ⟨⟨hk _ h.par.1 (by omega), hk _ h.par.2 (by omega)⟩, below_set3 h.bel (by omega) _ _ _, fun r hr => ?_⟩
  rcases List.mem_cons.1 hr with rfl | hr
  · exact ⟨h0.1.set3, hg⟩
  · obtain rfl := List.mem_singleton.1 hr
    exact ⟨hk _ hs.1 hne, hs.2⟩
def opA (x : Opx) : Array Value := #[.int .i64 x.1, .int .i64 x.2.1, .string ⟨x.2.2.toArray⟩]
/-- What is so behind the region. -/
def BackCut (w : World) (x y : Opx) (p q : Value) (W : World) : Prop := ∃ g5 g6, p = .pointer (some ⟨g5, 0, none⟩) ∧ q = .pointer (some ⟨g6, 0, none⟩) ∧ g5 ≠ g6 ∧ Rw W g5 24 (opA x) ∧ Rw W g6 24 (opA y) ∧ Below w.heap.size w W
theorem Bk.rest {w W : World} {b0 b1 : Array Value} {x y : Opx} {g5 g6 : Nat} (h : Bk w b0 b1 W [(g5, opA x), (g6, opA y)]) (hne : g5 ≠ g6) : g5 ≠ g6 ∧ Rw W g5 24 (opA x) ∧ Rw W g6 24 (opA y) ∧ Below w.heap.size w W :=
  ⟨hne, (h.rows (g5, opA x) (by simp)).1, (h.rows (g6, opA y) (by simp)).1, h.bel⟩
theorem prx_short {x : Opx} (hx : Fine x) : (prx x).length ≤ 4 * x.2.2.length + 60 := by
  unfold prx prS
  split
  · rename_i h
    have hk := chk_iff.1 h
    have h2 : (wordL x.1.toNat).length ≤ 10 := by
      unfold wordL
      rcases h : x.1.toNat with _ | _ | _ | _ | _ | _ | _ | _ | _ | _ | n <;> simp
    have h3 := (qL_len x.2.2).2
    have h4 := Lib.itoa_length_le x.2.1 hx.2.1 hx.2.2
    have h5 : (encP x.1.toNat x.2.1 x.2.2).length ≤ 4 * x.2.2.length + 30 := by
      unfold encP
      split <;> simp <;> omega
    simp; omega
  · simp
set_option linter.unusedSimpArgs false in
set_option maxRecDepth 100000 in
set_option maxHeartbeats 8000000 in
theorem back_any {w : World} (hw : EnvS w) (k a : Nat) (sl : Value) (l : List UInt8) (hk : k ≤ 255) (ha : a ≤ 4294967295) (hs : ByS w sl l) (k2 a2 : Nat) (sl2 : Value) (l2 : List UInt8) (hk2 : k2 ≤ 255) (ha2 : a2 ≤ 4294967295) (hs2 : ByS w sl2 l2) :
    Calls Tryd.prog 4 #[nmV k a sl, nmV k2 a2 sl2] w fun e w' => e = .returned (.bool true) ∧ Below w.heap.size w w' := by
  have HWk := Lib.hid (fun (W : World) (h : EnvS W) => works_any h)
  have hW0 := hw.below ((below_al w (.cells #[.int .u8 k, .int .u32 a, sl] 35)).trans (below_le (below_al _ (.cells #[.int .u8 k2, .int .u32 a2, sl2] 35)) (by simp)))
  have hB0 : Below w.heap.size w ((w.alloc (.cells #[.int .u8 k, .int .u32 a, sl] 35)).alloc (.cells #[.int .u8 k2, .int .u32 a2, sl2] 35)) := (below_al w _).alloc (by simp) _
  have HW0 := Lib.hid hW0
  have HB0 := Lib.hid hB0
  obtain ⟨ao, cap, hsl, hcap, _⟩ := hs.sl
  obtain ⟨ao2, cap2, hsl2, hcap2, _⟩ := hs2.sl
  have HS := Lib.hid hs
  have HS2 := Lib.hid hs2
  clear hs hs2 hW0 hB0
  subst hsl
  subst hsl2
  unfold nmV
  by_cases h1 : 300 < l.length
  · have d1 : decide ((300 : Int) < (l.length : Int)) = true := by simp; omega
    go_enter Tryd.func4, Tryd.ntmps4
    go_wp2_with (go_at_call 12; refine (HWk.out _ HW0.out).mono ?_; rintro e w' ⟨rfl, hE⟩)
    go_ret
    exact ⟨rfl, HB0.out.trans (below_le hE HB0.out.size)⟩
  have d1 : decide ((300 : Int) < (l.length : Int)) = false := by simp; omega
  by_cases h2 : 300 < l2.length
  · have d2 : decide ((300 : Int) < (l2.length : Int)) = true := by simp; omega
    go_enter Tryd.func4, Tryd.ntmps4
    go_wp2_with (go_at_call 12; refine (HWk.out _ HW0.out).mono ?_; rintro e w' ⟨rfl, hE⟩)
    go_ret
    exact ⟨rfl, HB0.out.trans (below_le hE HB0.out.size)⟩
  have d2 : decide ((300 : Int) < (l2.length : Int)) = false := by simp; omega
  have hl1 : l.length ≤ 300 := by omega
  have hl2 : l2.length ≤ 300 := by omega
  obtain ⟨x, hx⟩ : ∃ x, opP k a l = x := ⟨_, rfl⟩
  obtain ⟨y, hy⟩ : ∃ y, opP k2 a2 l2 = y := ⟨_, rfl⟩
  have hzx := opP_ok k a l (by omega)
  have hzy := opP_ok k2 a2 l2 (by omega)
  have hfx := opP_fine k a l (by omega)
  have hfy := opP_fine k2 a2 l2 (by omega)
  rw [hx] at hzx hfx
  rw [hy] at hzy hfy
  replace hfx : Fine x ∧ x.2.2.length ≤ 1500 := ⟨hfx.1, by have := hfx.2; omega⟩
  replace hfy : Fine y ∧ y.2.2.length ≤ 1500 := ⟨hfy.1, by have := hfy.2; omega⟩
  have HX : Hid (∀ W : World, Below w.heap.size w W → Calls Tryd.prog 19 #[.agg #[.int .u8 k, .int .u32 a, .slice ao l.length cap]] W fun e w' => e = .returned (.agg #[.int .i64 x.1, .int .i64 x.2.1, .string ⟨x.2.2.toArray⟩]) ∧ Below W.heap.size W w') := Lib.hid (fun W hb => by rw [← hx]; exact nop_any k a hk ha l _ W (HS.out.below hb))
  have HY : Hid (∀ W : World, Below w.heap.size w W → Calls Tryd.prog 19 #[.agg #[.int .u8 k2, .int .u32 a2, .slice ao2 l2.length cap2]] W fun e w' => e = .returned (.agg #[.int .i64 y.1, .int .i64 y.2.1, .string ⟨y.2.2.toArray⟩]) ∧ Below W.heap.size W w') := Lib.hid (fun W hb => by rw [← hy]; exact nop_any k2 a2 hk2 ha2 l2 _ W (HS2.out.below hb))
  have HF := Lib.hid (And.intro hzx (And.intro hzy (And.intro hfx hfy)))
  have hR0 : Bk w #[.int .u8 k, .int .u32 a, .slice ao l.length cap] #[.int .u8 k2, .int .u32 a2, .slice ao2 l2.length cap2] ((w.alloc (.cells #[.int .u8 k, .int .u32 a, .slice ao l.length cap] 35)).alloc (.cells #[.int .u8 k2, .int .u32 a2, .slice ao2 l2.length cap2] 35)).drew [] := by
    refine Bk.below ⟨⟨(Rw.new w 35 _).alloc _, ?_⟩, HB0.out, fun r hr => by cases hr⟩ (Below.refl _ _).drew
    have := Rw.new (w.alloc (.cells #[.int .u8 k, .int .u32 a, .slice ao l.length cap] 35)) 35 #[.int .u8 k2, .int .u32 a2, .slice ao2 l2.length cap2]
    rwa [show (w.alloc (.cells #[.int .u8 k, .int .u32 a, .slice ao l.length cap] 35)).heap.size = w.heap.size + 1 by simp] at this
  clear h1 h2 hx hy hzx hzy hfx hfy hl1 hl2
  have hR := hR0
  clear hR0
  go_enter Tryd.func4, Tryd.ntmps4
  go_upto_region 3 with fail
  go_cut [5, 6] (fun p5 p6 wx => BackCut w x y p5 p6 wx)
  case first =>
    refine wp_region_noPanic ?_
    refine wp_region_held_drew (S := fun W => Rw W w.heap.size 35 #[.int .u8 k, .int .u32 a, .slice ao l.length cap] ∧ Rw W (w.heap.size + 1) 35 #[.int .u8 k2, .int .u32 a2, .slice ao2 l2.length cap2]) (by kernel_rfl) hR.par (fun hH => ?_)
    refine takeD 0 (some 24) (v := ?_) rfl rfl (by kernel_rfl) (by kernel_rfl) (by kernel_rfl) (fun _ _ _ h => h) (Or.inl ⟨by rfl, ?_⟩) hH ?_
    rotate_left
    · intro w hSw; obtain ⟨c0, c1, c2, f0, f1, f2⟩ := hSw.1.facts; go_simp; try with_reducible rfl
    try simp only [Act.put, List.setIfInBounds_toArray, List.set_cons_zero, List.set_cons_succ]
    refine takeD 2 (some 26) (v := ?_) rfl rfl (by kernel_rfl) (by kernel_rfl) (by kernel_rfl) (fun _ _ _ h => h) (Or.inl ⟨by rfl, ?_⟩) hH ?_
    rotate_left
    · intro w hSw; obtain ⟨c0, c1, c2, f0, f1, f2⟩ := hSw.2.facts; go_simp; try with_reducible rfl
    try simp only [Act.put, List.setIfInBounds_toArray, List.set_cons_zero, List.set_cons_succ]
    clear hH
    generalize ((w.alloc (.cells #[.int .u8 k, .int .u32 a, .slice ao l.length cap] 35)).alloc (.cells #[.int .u8 k2, .int .u32 a2, .slice ao2 l2.length cap2] 35)).drew = W at *
    refine wpAnyH_ready (rs := [1, 4, 5]) (by kernel_rfl) (by simp) ?_
    refine AllReadyH.cons rfl (fun K hK => ?_) (AllReadyH.cons rfl (fun K hK => ?_) (AllReadyH.cons rfl (fun K hK => ?_) (AllReadyH.nil)))
    · go_simp
      go_at_call 19; refine (HX.out _ hR.bel).mono ?_; rintro e v1 ⟨rfl, hE⟩; replace hR := hR.below hE; clear hE
      go_wp2_with fail
      refine hK.out _ _ hR.par (fun _ => ?_)
      clear hK K
      try simp only [Act.put, List.setIfInBounds_toArray, List.set_cons_zero, List.set_cons_succ]
      refine wpAnyH_ready (rs := [3, 4, 5]) (by kernel_rfl) (by simp) ?_
      refine AllReadyH.cons rfl (fun K hK => ?_) (AllReadyH.cons rfl (fun K hK => ?_) (AllReadyH.cons rfl (fun K hK => ?_) (AllReadyH.nil)))
      · go_simp
        go_at_call 19; refine (HY.out _ hR.bel).mono ?_; rintro e v2 ⟨rfl, hE⟩; replace hR := hR.below hE; clear hE
        go_wp2_with fail
        refine hK.out _ _ hR.par (fun _ => ?_)
        clear hK K
        try simp only [Act.put, List.setIfInBounds_toArray, List.set_cons_zero, List.set_cons_succ]
        refine wpAnyH_ready (rs := [4, 5]) (by kernel_rfl) (by simp) ?_
        refine AllReadyH.cons rfl (fun K hK => ?_) (AllReadyH.cons rfl (fun K hK => ?_) (AllReadyH.nil))
        · go_simp
          have yg5 := hR.ne
          replace hR := hR.al #[.int .i64 0, .int .i64 0, .string ⟨#[]⟩]
          generalize v2.heap.size = g5 at *
          generalize v2.alloc (.cells #[.int .i64 0, .int .i64 0, .string ⟨#[]⟩] 24) = v3 at *
          refine hK.out _ _ hR.par (fun _ => ?_)
          clear hK K
          try simp only [Act.put, List.setIfInBounds_toArray, List.set_cons_zero, List.set_cons_succ]
          refine wpAnyH_ready (rs := [5]) (by kernel_rfl) (by simp) ?_
          refine AllReadyH.cons rfl (fun K hK => ?_) (AllReadyH.nil)
          · go_simp
            have yg6 := hR.ne
            replace hR := hR.al #[.int .i64 0, .int .i64 0, .string ⟨#[]⟩]
            generalize v3.heap.size = g6 at *
            generalize v3.alloc (.cells #[.int .i64 0, .int .i64 0, .string ⟨#[]⟩] 24) = v4 at *
            refine hK.out _ _ hR.par (fun _ => ?_)
            clear hK K
            try simp only [Act.put, List.setIfInBounds_toArray, List.set_cons_zero, List.set_cons_succ]
            have hne : g5 ≠ g6 := yg6 _ (List.mem_singleton.2 rfl)
            replace hR := hR.swap
            refine wpAnyH_ready (rs := [6]) (by kernel_rfl) (by simp) ?_
            refine AllReadyH.cons rfl (fun K hK => ?_) AllReadyH.nil
            obtain ⟨c0, c1, c2, f0, f1, f2⟩ := hR.hd.facts
            go_simp
            replace hR := hR.set hne.symm (a := .int .i64 x.1) (b := .int .i64 x.2.1) (c := .string ⟨x.2.2.toArray⟩)
            refine hK.out _ _ hR.par (fun _ => ?_)
            clear hK K c0 c1 c2 f0 f1 f2
            try simp only [Act.put, List.setIfInBounds_toArray, List.set_cons_zero, List.set_cons_succ]
            replace hR := hR.swap
            refine wpAnyH_ready (rs := [7]) (by kernel_rfl) (by simp) ?_
            refine AllReadyH.cons rfl (fun K hK => ?_) AllReadyH.nil
            obtain ⟨c0, c1, c2, f0, f1, f2⟩ := hR.hd.facts
            go_simp
            replace hR := hR.set hne (a := .int .i64 y.1) (b := .int .i64 y.2.1) (c := .string ⟨y.2.2.toArray⟩)
            refine hK.out _ _ hR.par (fun _ => ?_)
            clear hK K c0 c1 c2 f0 f1 f2
            try simp only [Act.put, List.setIfInBounds_toArray, List.set_cons_zero, List.set_cons_succ]
            refine wpAnyH_done (by kernel_rfl) ?_ _
            refine NoPanic.normal ?_
            go_wp2_with fail
            go_meet
            exact ⟨g5, g6, rfl, rfl, hR.swap.rest hne⟩
        · go_simp
          have yg6 := hR.ne
          replace hR := hR.al #[.int .i64 0, .int .i64 0, .string ⟨#[]⟩]
          generalize v2.heap.size = g6 at *
          generalize v2.alloc (.cells #[.int .i64 0, .int .i64 0, .string ⟨#[]⟩] 24) = v5 at *
          refine hK.out _ _ hR.par (fun _ => ?_)
          clear hK K
          try simp only [Act.put, List.setIfInBounds_toArray, List.set_cons_zero, List.set_cons_succ]
          refine wpAnyH_ready (rs := [4]) (by kernel_rfl) (by simp) ?_
          refine AllReadyH.cons rfl (fun K hK => ?_) (AllReadyH.nil)
          · go_simp
            have yg5 := hR.ne
            replace hR := hR.al #[.int .i64 0, .int .i64 0, .string ⟨#[]⟩]
            generalize v5.heap.size = g5 at *
            generalize v5.alloc (.cells #[.int .i64 0, .int .i64 0, .string ⟨#[]⟩] 24) = v6 at *
            refine hK.out _ _ hR.par (fun _ => ?_)
            clear hK K
            try simp only [Act.put, List.setIfInBounds_toArray, List.set_cons_zero, List.set_cons_succ]
            have hne : g6 ≠ g5 := yg5 _ (List.mem_singleton.2 rfl)
            refine wpAnyH_ready (rs := [6]) (by kernel_rfl) (by simp) ?_
            refine AllReadyH.cons rfl (fun K hK => ?_) AllReadyH.nil
            obtain ⟨c0, c1, c2, f0, f1, f2⟩ := hR.hd.facts
            go_simp
            replace hR := hR.set hne (a := .int .i64 x.1) (b := .int .i64 x.2.1) (c := .string ⟨x.2.2.toArray⟩)
            refine hK.out _ _ hR.par (fun _ => ?_)
            clear hK K c0 c1 c2 f0 f1 f2
            try simp only [Act.put, List.setIfInBounds_toArray, List.set_cons_zero, List.set_cons_succ]
            replace hR := hR.swap
            refine wpAnyH_ready (rs := [7]) (by kernel_rfl) (by simp) ?_
            refine AllReadyH.cons rfl (fun K hK => ?_) AllReadyH.nil
            obtain ⟨c0, c1, c2, f0, f1, f2⟩ := hR.hd.facts
            go_simp
            replace hR := hR.set hne.symm (a := .int .i64 y.1) (b := .int .i64 y.2.1) (c := .string ⟨y.2.2.toArray⟩)
            refine hK.out _ _ hR.par (fun _ => ?_)
            clear hK K c0 c1 c2 f0 f1 f2
            try simp only [Act.put, List.setIfInBounds_toArray, List.set_cons_zero, List.set_cons_succ]
            refine wpAnyH_done (by kernel_rfl) ?_ _
            refine NoPanic.normal ?_
            go_wp2_with fail
            go_meet
            exact ⟨g5, g6, rfl, rfl, hR.swap.rest hne.symm⟩
      · go_simp
        have yg5 := hR.ne
        replace hR := hR.al #[.int .i64 0, .int .i64 0, .string ⟨#[]⟩]
        generalize v1.heap.size = g5 at *
        generalize v1.alloc (.cells #[.int .i64 0, .int .i64 0, .string ⟨#[]⟩] 24) = v7 at *
        refine hK.out _ _ hR.par (fun _ => ?_)
        clear hK K
        try simp only [Act.put, List.setIfInBounds_toArray, List.set_cons_zero, List.set_cons_succ]
        refine wpAnyH_ready (rs := [3, 5]) (by kernel_rfl) (by simp) ?_
        refine AllReadyH.cons rfl (fun K hK => ?_) (AllReadyH.cons rfl (fun K hK => ?_) (AllReadyH.nil))
        · go_simp
          go_at_call 19; refine (HY.out _ hR.bel).mono ?_; rintro e v8 ⟨rfl, hE⟩; replace hR := hR.below hE; clear hE
          go_wp2_with fail
          refine hK.out _ _ hR.par (fun _ => ?_)
          clear hK K
          try simp only [Act.put, List.setIfInBounds_toArray, List.set_cons_zero, List.set_cons_succ]
          refine wpAnyH_ready (rs := [5]) (by kernel_rfl) (by simp) ?_
          refine AllReadyH.cons rfl (fun K hK => ?_) (AllReadyH.nil)
          · go_simp
            have yg6 := hR.ne
            replace hR := hR.al #[.int .i64 0, .int .i64 0, .string ⟨#[]⟩]
            generalize v8.heap.size = g6 at *
            generalize v8.alloc (.cells #[.int .i64 0, .int .i64 0, .string ⟨#[]⟩] 24) = v9 at *
            refine hK.out _ _ hR.par (fun _ => ?_)
            clear hK K
            try simp only [Act.put, List.setIfInBounds_toArray, List.set_cons_zero, List.set_cons_succ]
            have hne : g5 ≠ g6 := yg6 _ (List.mem_singleton.2 rfl)
            replace hR := hR.swap
            refine wpAnyH_ready (rs := [6]) (by kernel_rfl) (by simp) ?_
            refine AllReadyH.cons rfl (fun K hK => ?_) AllReadyH.nil
            obtain ⟨c0, c1, c2, f0, f1, f2⟩ := hR.hd.facts
            go_simp
            replace hR := hR.set hne.symm (a := .int .i64 x.1) (b := .int .i64 x.2.1) (c := .string ⟨x.2.2.toArray⟩)
            refine hK.out _ _ hR.par (fun _ => ?_)
            clear hK K c0 c1 c2 f0 f1 f2
            try simp only [Act.put, List.setIfInBounds_toArray, List.set_cons_zero, List.set_cons_succ]
            replace hR := hR.swap
            refine wpAnyH_ready (rs := [7]) (by kernel_rfl) (by simp) ?_
            refine AllReadyH.cons rfl (fun K hK => ?_) AllReadyH.nil
            obtain ⟨c0, c1, c2, f0, f1, f2⟩ := hR.hd.facts
            go_simp
            replace hR := hR.set hne (a := .int .i64 y.1) (b := .int .i64 y.2.1) (c := .string ⟨y.2.2.toArray⟩)
            refine hK.out _ _ hR.par (fun _ => ?_)
            clear hK K c0 c1 c2 f0 f1 f2
            try simp only [Act.put, List.setIfInBounds_toArray, List.set_cons_zero, List.set_cons_succ]
            refine wpAnyH_done (by kernel_rfl) ?_ _
            refine NoPanic.normal ?_
            go_wp2_with fail
            go_meet
            exact ⟨g5, g6, rfl, rfl, hR.swap.rest hne⟩
        · go_simp
          have yg6 := hR.ne
          replace hR := hR.al #[.int .i64 0, .int .i64 0, .string ⟨#[]⟩]
          generalize v7.heap.size = g6 at *
          generalize v7.alloc (.cells #[.int .i64 0, .int .i64 0, .string ⟨#[]⟩] 24) = v10 at *
          refine hK.out _ _ hR.par (fun _ => ?_)
          clear hK K
          try simp only [Act.put, List.setIfInBounds_toArray, List.set_cons_zero, List.set_cons_succ]
          refine wpAnyH_ready (rs := [3]) (by kernel_rfl) (by simp) ?_
          refine AllReadyH.cons rfl (fun K hK => ?_) (AllReadyH.nil)
          · go_simp
            go_at_call 19; refine (HY.out _ hR.bel).mono ?_; rintro e v11 ⟨rfl, hE⟩; replace hR := hR.below hE; clear hE
            go_wp2_with fail
            refine hK.out _ _ hR.par (fun _ => ?_)
            clear hK K
            try simp only [Act.put, List.setIfInBounds_toArray, List.set_cons_zero, List.set_cons_succ]
            have hne : g5 ≠ g6 := yg6 _ (List.mem_singleton.2 rfl)
            replace hR := hR.swap
            refine wpAnyH_ready (rs := [6]) (by kernel_rfl) (by simp) ?_
            refine AllReadyH.cons rfl (fun K hK => ?_) AllReadyH.nil
            obtain ⟨c0, c1, c2, f0, f1, f2⟩ := hR.hd.facts
            go_simp
            replace hR := hR.set hne.symm (a := .int .i64 x.1) (b := .int .i64 x.2.1) (c := .string ⟨x.2.2.toArray⟩)
            refine hK.out _ _ hR.par (fun _ => ?_)
            clear hK K c0 c1 c2 f0 f1 f2
            try simp only [Act.put, List.setIfInBounds_toArray, List.set_cons_zero, List.set_cons_succ]
            replace hR := hR.swap
            refine wpAnyH_ready (rs := [7]) (by kernel_rfl) (by simp) ?_
            refine AllReadyH.cons rfl (fun K hK => ?_) AllReadyH.nil
            obtain ⟨c0, c1, c2, f0, f1, f2⟩ := hR.hd.facts
            go_simp
            replace hR := hR.set hne (a := .int .i64 y.1) (b := .int .i64 y.2.1) (c := .string ⟨y.2.2.toArray⟩)
            refine hK.out _ _ hR.par (fun _ => ?_)
            clear hK K c0 c1 c2 f0 f1 f2
            try simp only [Act.put, List.setIfInBounds_toArray, List.set_cons_zero, List.set_cons_succ]
            refine wpAnyH_done (by kernel_rfl) ?_ _
            refine NoPanic.normal ?_
            go_wp2_with fail
            go_meet
            exact ⟨g5, g6, rfl, rfl, hR.swap.rest hne⟩
      · go_simp
        have yg6 := hR.ne
        replace hR := hR.al #[.int .i64 0, .int .i64 0, .string ⟨#[]⟩]
        generalize v1.heap.size = g6 at *
        generalize v1.alloc (.cells #[.int .i64 0, .int .i64 0, .string ⟨#[]⟩] 24) = v12 at *
        refine hK.out _ _ hR.par (fun _ => ?_)
        clear hK K
        try simp only [Act.put, List.setIfInBounds_toArray, List.set_cons_zero, List.set_cons_succ]
        refine wpAnyH_ready (rs := [3, 4]) (by kernel_rfl) (by simp) ?_
        refine AllReadyH.cons rfl (fun K hK => ?_) (AllReadyH.cons rfl (fun K hK => ?_) (AllReadyH.nil))
        · go_simp
          go_at_call 19; refine (HY.out _ hR.bel).mono ?_; rintro e v13 ⟨rfl, hE⟩; replace hR := hR.below hE; clear hE
          go_wp2_with fail
          refine hK.out _ _ hR.par (fun _ => ?_)
          clear hK K
          try simp only [Act.put, List.setIfInBounds_toArray, List.set_cons_zero, List.set_cons_succ]
          refine wpAnyH_ready (rs := [4]) (by kernel_rfl) (by simp) ?_
          refine AllReadyH.cons rfl (fun K hK => ?_) (AllReadyH.nil)
          · go_simp
            have yg5 := hR.ne
            replace hR := hR.al #[.int .i64 0, .int .i64 0, .string ⟨#[]⟩]
            generalize v13.heap.size = g5 at *
            generalize v13.alloc (.cells #[.int .i64 0, .int .i64 0, .string ⟨#[]⟩] 24) = v14 at *
            refine hK.out _ _ hR.par (fun _ => ?_)
            clear hK K
            try simp only [Act.put, List.setIfInBounds_toArray, List.set_cons_zero, List.set_cons_succ]
            have hne : g6 ≠ g5 := yg5 _ (List.mem_singleton.2 rfl)
            refine wpAnyH_ready (rs := [6]) (by kernel_rfl) (by simp) ?_
            refine AllReadyH.cons rfl (fun K hK => ?_) AllReadyH.nil
            obtain ⟨c0, c1, c2, f0, f1, f2⟩ := hR.hd.facts
            go_simp
            replace hR := hR.set hne (a := .int .i64 x.1) (b := .int .i64 x.2.1) (c := .string ⟨x.2.2.toArray⟩)
            refine hK.out _ _ hR.par (fun _ => ?_)
            clear hK K c0 c1 c2 f0 f1 f2
            try simp only [Act.put, List.setIfInBounds_toArray, List.set_cons_zero, List.set_cons_succ]
            replace hR := hR.swap
            refine wpAnyH_ready (rs := [7]) (by kernel_rfl) (by simp) ?_
            refine AllReadyH.cons rfl (fun K hK => ?_) AllReadyH.nil
            obtain ⟨c0, c1, c2, f0, f1, f2⟩ := hR.hd.facts
            go_simp
            replace hR := hR.set hne.symm (a := .int .i64 y.1) (b := .int .i64 y.2.1) (c := .string ⟨y.2.2.toArray⟩)
            refine hK.out _ _ hR.par (fun _ => ?_)
            clear hK K c0 c1 c2 f0 f1 f2
            try simp only [Act.put, List.setIfInBounds_toArray, List.set_cons_zero, List.set_cons_succ]
            refine wpAnyH_done (by kernel_rfl) ?_ _
            refine NoPanic.normal ?_
            go_wp2_with fail
            go_meet
            exact ⟨g5, g6, rfl, rfl, hR.swap.rest hne.symm⟩
        · go_simp
          have yg5 := hR.ne
          replace hR := hR.al #[.int .i64 0, .int .i64 0, .string ⟨#[]⟩]
          generalize v12.heap.size = g5 at *
          generalize v12.alloc (.cells #[.int .i64 0, .int .i64 0, .string ⟨#[]⟩] 24) = v15 at *
          refine hK.out _ _ hR.par (fun _ => ?_)
          clear hK K
          try simp only [Act.put, List.setIfInBounds_toArray, List.set_cons_zero, List.set_cons_succ]
          refine wpAnyH_ready (rs := [3]) (by kernel_rfl) (by simp) ?_
          refine AllReadyH.cons rfl (fun K hK => ?_) (AllReadyH.nil)
          · go_simp
            go_at_call 19; refine (HY.out _ hR.bel).mono ?_; rintro e v16 ⟨rfl, hE⟩; replace hR := hR.below hE; clear hE
            go_wp2_with fail
            refine hK.out _ _ hR.par (fun _ => ?_)
            clear hK K
            try simp only [Act.put, List.setIfInBounds_toArray, List.set_cons_zero, List.set_cons_succ]
            have hne : g6 ≠ g5 := yg5 _ (List.mem_singleton.2 rfl)
            refine wpAnyH_ready (rs := [6]) (by kernel_rfl) (by simp) ?_
            refine AllReadyH.cons rfl (fun K hK => ?_) AllReadyH.nil
            obtain ⟨c0, c1, c2, f0, f1, f2⟩ := hR.hd.facts
            go_simp
            replace hR := hR.set hne (a := .int .i64 x.1) (b := .int .i64 x.2.1) (c := .string ⟨x.2.2.toArray⟩)
            refine hK.out _ _ hR.par (fun _ => ?_)
            clear hK K c0 c1 c2 f0 f1 f2
            try simp only [Act.put, List.setIfInBounds_toArray, List.set_cons_zero, List.set_cons_succ]
            replace hR := hR.swap
            refine wpAnyH_ready (rs := [7]) (by kernel_rfl) (by simp) ?_
            refine AllReadyH.cons rfl (fun K hK => ?_) AllReadyH.nil
            obtain ⟨c0, c1, c2, f0, f1, f2⟩ := hR.hd.facts
            go_simp
            replace hR := hR.set hne.symm (a := .int .i64 y.1) (b := .int .i64 y.2.1) (c := .string ⟨y.2.2.toArray⟩)
            refine hK.out _ _ hR.par (fun _ => ?_)
            clear hK K c0 c1 c2 f0 f1 f2
            try simp only [Act.put, List.setIfInBounds_toArray, List.set_cons_zero, List.set_cons_succ]
            refine wpAnyH_done (by kernel_rfl) ?_ _
            refine NoPanic.normal ?_
            go_wp2_with fail
            go_meet
            exact ⟨g5, g6, rfl, rfl, hR.swap.rest hne.symm⟩
    · go_simp
      have yg5 := hR.ne
      replace hR := hR.al #[.int .i64 0, .int .i64 0, .string ⟨#[]⟩]
      generalize W.heap.size = g5 at *
      generalize W.alloc (.cells #[.int .i64 0, .int .i64 0, .string ⟨#[]⟩] 24) = v17 at *
      refine hK.out _ _ hR.par (fun _ => ?_)
      clear hK K
      try simp only [Act.put, List.setIfInBounds_toArray, List.set_cons_zero, List.set_cons_succ]
      refine wpAnyH_ready (rs := [1, 5]) (by kernel_rfl) (by simp) ?_
      refine AllReadyH.cons rfl (fun K hK => ?_) (AllReadyH.cons rfl (fun K hK => ?_) (AllReadyH.nil))
      · go_simp
        go_at_call 19; refine (HX.out _ hR.bel).mono ?_; rintro e v18 ⟨rfl, hE⟩; replace hR := hR.below hE; clear hE
        go_wp2_with fail
        refine hK.out _ _ hR.par (fun _ => ?_)
        clear hK K
        try simp only [Act.put, List.setIfInBounds_toArray, List.set_cons_zero, List.set_cons_succ]
        refine wpAnyH_ready (rs := [3, 5]) (by kernel_rfl) (by simp) ?_
        refine AllReadyH.cons rfl (fun K hK => ?_) (AllReadyH.cons rfl (fun K hK => ?_) (AllReadyH.nil))
        · go_simp
          go_at_call 19; refine (HY.out _ hR.bel).mono ?_; rintro e v19 ⟨rfl, hE⟩; replace hR := hR.below hE; clear hE
          go_wp2_with fail
          refine hK.out _ _ hR.par (fun _ => ?_)
          clear hK K
          try simp only [Act.put, List.setIfInBounds_toArray, List.set_cons_zero, List.set_cons_succ]
          refine wpAnyH_ready (rs := [5]) (by kernel_rfl) (by simp) ?_
          refine AllReadyH.cons rfl (fun K hK => ?_) (AllReadyH.nil)
          · go_simp
            have yg6 := hR.ne
            replace hR := hR.al #[.int .i64 0, .int .i64 0, .string ⟨#[]⟩]
            generalize v19.heap.size = g6 at *
            generalize v19.alloc (.cells #[.int .i64 0, .int .i64 0, .string ⟨#[]⟩] 24) = v20 at *
            refine hK.out _ _ hR.par (fun _ => ?_)
            clear hK K
            try simp only [Act.put, List.setIfInBounds_toArray, List.set_cons_zero, List.set_cons_succ]
            have hne : g5 ≠ g6 := yg6 _ (List.mem_singleton.2 rfl)
            replace hR := hR.swap
            refine wpAnyH_ready (rs := [6]) (by kernel_rfl) (by simp) ?_
            refine AllReadyH.cons rfl (fun K hK => ?_) AllReadyH.nil
            obtain ⟨c0, c1, c2, f0, f1, f2⟩ := hR.hd.facts
            go_simp
            replace hR := hR.set hne.symm (a := .int .i64 x.1) (b := .int .i64 x.2.1) (c := .string ⟨x.2.2.toArray⟩)
            refine hK.out _ _ hR.par (fun _ => ?_)
            clear hK K c0 c1 c2 f0 f1 f2
            try simp only [Act.put, List.setIfInBounds_toArray, List.set_cons_zero, List.set_cons_succ]
            replace hR := hR.swap
            refine wpAnyH_ready (rs := [7]) (by kernel_rfl) (by simp) ?_
            refine AllReadyH.cons rfl (fun K hK => ?_) AllReadyH.nil
            obtain ⟨c0, c1, c2, f0, f1, f2⟩ := hR.hd.facts
            go_simp
            replace hR := hR.set hne (a := .int .i64 y.1) (b := .int .i64 y.2.1) (c := .string ⟨y.2.2.toArray⟩)
            refine hK.out _ _ hR.par (fun _ => ?_)
            clear hK K c0 c1 c2 f0 f1 f2
            try simp only [Act.put, List.setIfInBounds_toArray, List.set_cons_zero, List.set_cons_succ]
            refine wpAnyH_done (by kernel_rfl) ?_ _
            refine NoPanic.normal ?_
            go_wp2_with fail
            go_meet
            exact ⟨g5, g6, rfl, rfl, hR.swap.rest hne⟩
        · go_simp
          have yg6 := hR.ne
          replace hR := hR.al #[.int .i64 0, .int .i64 0, .string ⟨#[]⟩]
          generalize v18.heap.size = g6 at *
          generalize v18.alloc (.cells #[.int .i64 0, .int .i64 0, .string ⟨#[]⟩] 24) = v21 at *
          refine hK.out _ _ hR.par (fun _ => ?_)
          clear hK K
          try simp only [Act.put, List.setIfInBounds_toArray, List.set_cons_zero, List.set_cons_succ]
          refine wpAnyH_ready (rs := [3]) (by kernel_rfl) (by simp) ?_
          refine AllReadyH.cons rfl (fun K hK => ?_) (AllReadyH.nil)
          · go_simp
            go_at_call 19; refine (HY.out _ hR.bel).mono ?_; rintro e v22 ⟨rfl, hE⟩; replace hR := hR.below hE; clear hE
            go_wp2_with fail
            refine hK.out _ _ hR.par (fun _ => ?_)
            clear hK K
            try simp only [Act.put, List.setIfInBounds_toArray, List.set_cons_zero, List.set_cons_succ]
            have hne : g5 ≠ g6 := yg6 _ (List.mem_singleton.2 rfl)
            replace hR := hR.swap
            refine wpAnyH_ready (rs := [6]) (by kernel_rfl) (by simp) ?_
            refine AllReadyH.cons rfl (fun K hK => ?_) AllReadyH.nil
            obtain ⟨c0, c1, c2, f0, f1, f2⟩ := hR.hd.facts
            go_simp
            replace hR := hR.set hne.symm (a := .int .i64 x.1) (b := .int .i64 x.2.1) (c := .string ⟨x.2.2.toArray⟩)
            refine hK.out _ _ hR.par (fun _ => ?_)
            clear hK K c0 c1 c2 f0 f1 f2
            try simp only [Act.put, List.setIfInBounds_toArray, List.set_cons_zero, List.set_cons_succ]
            replace hR := hR.swap
            refine wpAnyH_ready (rs := [7]) (by kernel_rfl) (by simp) ?_
            refine AllReadyH.cons rfl (fun K hK => ?_) AllReadyH.nil
            obtain ⟨c0, c1, c2, f0, f1, f2⟩ := hR.hd.facts
            go_simp
            replace hR := hR.set hne (a := .int .i64 y.1) (b := .int .i64 y.2.1) (c := .string ⟨y.2.2.toArray⟩)
            refine hK.out _ _ hR.par (fun _ => ?_)
            clear hK K c0 c1 c2 f0 f1 f2
            try simp only [Act.put, List.setIfInBounds_toArray, List.set_cons_zero, List.set_cons_succ]
            refine wpAnyH_done (by kernel_rfl) ?_ _
            refine NoPanic.normal ?_
            go_wp2_with fail
            go_meet
            exact ⟨g5, g6, rfl, rfl, hR.swap.rest hne⟩
      · go_simp
        have yg6 := hR.ne
        replace hR := hR.al #[.int .i64 0, .int .i64 0, .string ⟨#[]⟩]
        generalize v17.heap.size = g6 at *
        generalize v17.alloc (.cells #[.int .i64 0, .int .i64 0, .string ⟨#[]⟩] 24) = v23 at *
        refine hK.out _ _ hR.par (fun _ => ?_)
        clear hK K
        try simp only [Act.put, List.setIfInBounds_toArray, List.set_cons_zero, List.set_cons_succ]
        refine wpAnyH_ready (rs := [1]) (by kernel_rfl) (by simp) ?_
        refine AllReadyH.cons rfl (fun K hK => ?_) (AllReadyH.nil)
        · go_simp
          go_at_call 19; refine (HX.out _ hR.bel).mono ?_; rintro e v24 ⟨rfl, hE⟩; replace hR := hR.below hE; clear hE
          go_wp2_with fail
          refine hK.out _ _ hR.par (fun _ => ?_)
          clear hK K
          try simp only [Act.put, List.setIfInBounds_toArray, List.set_cons_zero, List.set_cons_succ]
          refine wpAnyH_ready (rs := [3]) (by kernel_rfl) (by simp) ?_
          refine AllReadyH.cons rfl (fun K hK => ?_) (AllReadyH.nil)
          · go_simp
            go_at_call 19; refine (HY.out _ hR.bel).mono ?_; rintro e v25 ⟨rfl, hE⟩; replace hR := hR.below hE; clear hE
            go_wp2_with fail
            refine hK.out _ _ hR.par (fun _ => ?_)
            clear hK K
            try simp only [Act.put, List.setIfInBounds_toArray, List.set_cons_zero, List.set_cons_succ]
            have hne : g5 ≠ g6 := yg6 _ (List.mem_singleton.2 rfl)
            replace hR := hR.swap
            refine wpAnyH_ready (rs := [6]) (by kernel_rfl) (by simp) ?_
            refine AllReadyH.cons rfl (fun K hK => ?_) AllReadyH.nil
            obtain ⟨c0, c1, c2, f0, f1, f2⟩ := hR.hd.facts
            go_simp
            replace hR := hR.set hne.symm (a := .int .i64 x.1) (b := .int .i64 x.2.1) (c := .string ⟨x.2.2.toArray⟩)
            refine hK.out _ _ hR.par (fun _ => ?_)
            clear hK K c0 c1 c2 f0 f1 f2
            try simp only [Act.put, List.setIfInBounds_toArray, List.set_cons_zero, List.set_cons_succ]
            replace hR := hR.swap
            refine wpAnyH_ready (rs := [7]) (by kernel_rfl) (by simp) ?_
            refine AllReadyH.cons rfl (fun K hK => ?_) AllReadyH.nil
            obtain ⟨c0, c1, c2, f0, f1, f2⟩ := hR.hd.facts
            go_simp
            replace hR := hR.set hne (a := .int .i64 y.1) (b := .int .i64 y.2.1) (c := .string ⟨y.2.2.toArray⟩)
            refine hK.out _ _ hR.par (fun _ => ?_)
            clear hK K c0 c1 c2 f0 f1 f2
            try simp only [Act.put, List.setIfInBounds_toArray, List.set_cons_zero, List.set_cons_succ]
            refine wpAnyH_done (by kernel_rfl) ?_ _
            refine NoPanic.normal ?_
            go_wp2_with fail
            go_meet
            exact ⟨g5, g6, rfl, rfl, hR.swap.rest hne⟩
    · go_simp
      have yg6 := hR.ne
      replace hR := hR.al #[.int .i64 0, .int .i64 0, .string ⟨#[]⟩]
      generalize W.heap.size = g6 at *
      generalize W.alloc (.cells #[.int .i64 0, .int .i64 0, .string ⟨#[]⟩] 24) = v26 at *
      refine hK.out _ _ hR.par (fun _ => ?_)
      clear hK K
      try simp only [Act.put, List.setIfInBounds_toArray, List.set_cons_zero, List.set_cons_succ]
      refine wpAnyH_ready (rs := [1, 4]) (by kernel_rfl) (by simp) ?_
      refine AllReadyH.cons rfl (fun K hK => ?_) (AllReadyH.cons rfl (fun K hK => ?_) (AllReadyH.nil))
      · go_simp
        go_at_call 19; refine (HX.out _ hR.bel).mono ?_; rintro e v27 ⟨rfl, hE⟩; replace hR := hR.below hE; clear hE
        go_wp2_with fail
        refine hK.out _ _ hR.par (fun _ => ?_)
        clear hK K
        try simp only [Act.put, List.setIfInBounds_toArray, List.set_cons_zero, List.set_cons_succ]
        refine wpAnyH_ready (rs := [3, 4]) (by kernel_rfl) (by simp) ?_
        refine AllReadyH.cons rfl (fun K hK => ?_) (AllReadyH.cons rfl (fun K hK => ?_) (AllReadyH.nil))
        · go_simp
          go_at_call 19; refine (HY.out _ hR.bel).mono ?_; rintro e v28 ⟨rfl, hE⟩; replace hR := hR.below hE; clear hE
          go_wp2_with fail
          refine hK.out _ _ hR.par (fun _ => ?_)
          clear hK K
          try simp only [Act.put, List.setIfInBounds_toArray, List.set_cons_zero, List.set_cons_succ]
          refine wpAnyH_ready (rs := [4]) (by kernel_rfl) (by simp) ?_
          refine AllReadyH.cons rfl (fun K hK => ?_) (AllReadyH.nil)
          · go_simp
            have yg5 := hR.ne
            replace hR := hR.al #[.int .i64 0, .int .i64 0, .string ⟨#[]⟩]
            generalize v28.heap.size = g5 at *
            generalize v28.alloc (.cells #[.int .i64 0, .int .i64 0, .string ⟨#[]⟩] 24) = v29 at *
            refine hK.out _ _ hR.par (fun _ => ?_)
            clear hK K
            try simp only [Act.put, List.setIfInBounds_toArray, List.set_cons_zero, List.set_cons_succ]
            have hne : g6 ≠ g5 := yg5 _ (List.mem_singleton.2 rfl)
            refine wpAnyH_ready (rs := [6]) (by kernel_rfl) (by simp) ?_
            refine AllReadyH.cons rfl (fun K hK => ?_) AllReadyH.nil
            obtain ⟨c0, c1, c2, f0, f1, f2⟩ := hR.hd.facts
            go_simp
            replace hR := hR.set hne (a := .int .i64 x.1) (b := .int .i64 x.2.1) (c := .string ⟨x.2.2.toArray⟩)
            refine hK.out _ _ hR.par (fun _ => ?_)
            clear hK K c0 c1 c2 f0 f1 f2
            try simp only [Act.put, List.setIfInBounds_toArray, List.set_cons_zero, List.set_cons_succ]
            replace hR := hR.swap
            refine wpAnyH_ready (rs := [7]) (by kernel_rfl) (by simp) ?_
            refine AllReadyH.cons rfl (fun K hK => ?_) AllReadyH.nil
            obtain ⟨c0, c1, c2, f0, f1, f2⟩ := hR.hd.facts
            go_simp
            replace hR := hR.set hne.symm (a := .int .i64 y.1) (b := .int .i64 y.2.1) (c := .string ⟨y.2.2.toArray⟩)
            refine hK.out _ _ hR.par (fun _ => ?_)
            clear hK K c0 c1 c2 f0 f1 f2
            try simp only [Act.put, List.setIfInBounds_toArray, List.set_cons_zero, List.set_cons_succ]
            refine wpAnyH_done (by kernel_rfl) ?_ _
            refine NoPanic.normal ?_
            go_wp2_with fail
            go_meet
            exact ⟨g5, g6, rfl, rfl, hR.swap.rest hne.symm⟩
        · go_simp
          have yg5 := hR.ne
          replace hR := hR.al #[.int .i64 0, .int .i64 0, .string ⟨#[]⟩]
          generalize v27.heap.size = g5 at *
          generalize v27.alloc (.cells #[.int .i64 0, .int .i64 0, .string ⟨#[]⟩] 24) = v30 at *
          refine hK.out _ _ hR.par (fun _ => ?_)
          clear hK K
          try simp only [Act.put, List.setIfInBounds_toArray, List.set_cons_zero, List.set_cons_succ]
          refine wpAnyH_ready (rs := [3]) (by kernel_rfl) (by simp) ?_
          refine AllReadyH.cons rfl (fun K hK => ?_) (AllReadyH.nil)
          · go_simp
            go_at_call 19; refine (HY.out _ hR.bel).mono ?_; rintro e v31 ⟨rfl, hE⟩; replace hR := hR.below hE; clear hE
            go_wp2_with fail
            refine hK.out _ _ hR.par (fun _ => ?_)
            clear hK K
            try simp only [Act.put, List.setIfInBounds_toArray, List.set_cons_zero, List.set_cons_succ]
            have hne : g6 ≠ g5 := yg5 _ (List.mem_singleton.2 rfl)
            refine wpAnyH_ready (rs := [6]) (by kernel_rfl) (by simp) ?_
            refine AllReadyH.cons rfl (fun K hK => ?_) AllReadyH.nil
            obtain ⟨c0, c1, c2, f0, f1, f2⟩ := hR.hd.facts
            go_simp
            replace hR := hR.set hne (a := .int .i64 x.1) (b := .int .i64 x.2.1) (c := .string ⟨x.2.2.toArray⟩)
            refine hK.out _ _ hR.par (fun _ => ?_)
            clear hK K c0 c1 c2 f0 f1 f2
            try simp only [Act.put, List.setIfInBounds_toArray, List.set_cons_zero, List.set_cons_succ]
            replace hR := hR.swap
            refine wpAnyH_ready (rs := [7]) (by kernel_rfl) (by simp) ?_
            refine AllReadyH.cons rfl (fun K hK => ?_) AllReadyH.nil
            obtain ⟨c0, c1, c2, f0, f1, f2⟩ := hR.hd.facts
            go_simp
            replace hR := hR.set hne.symm (a := .int .i64 y.1) (b := .int .i64 y.2.1) (c := .string ⟨y.2.2.toArray⟩)
            refine hK.out _ _ hR.par (fun _ => ?_)
            clear hK K c0 c1 c2 f0 f1 f2
            try simp only [Act.put, List.setIfInBounds_toArray, List.set_cons_zero, List.set_cons_succ]
            refine wpAnyH_done (by kernel_rfl) ?_ _
            refine NoPanic.normal ?_
            go_wp2_with fail
            go_meet
            exact ⟨g5, g6, rfl, rfl, hR.swap.rest hne.symm⟩
      · go_simp
        have yg5 := hR.ne
        replace hR := hR.al #[.int .i64 0, .int .i64 0, .string ⟨#[]⟩]
        generalize v26.heap.size = g5 at *
        generalize v26.alloc (.cells #[.int .i64 0, .int .i64 0, .string ⟨#[]⟩] 24) = v32 at *
        refine hK.out _ _ hR.par (fun _ => ?_)
        clear hK K
        try simp only [Act.put, List.setIfInBounds_toArray, List.set_cons_zero, List.set_cons_succ]
        refine wpAnyH_ready (rs := [1]) (by kernel_rfl) (by simp) ?_
        refine AllReadyH.cons rfl (fun K hK => ?_) (AllReadyH.nil)
        · go_simp
          go_at_call 19; refine (HX.out _ hR.bel).mono ?_; rintro e v33 ⟨rfl, hE⟩; replace hR := hR.below hE; clear hE
          go_wp2_with fail
          refine hK.out _ _ hR.par (fun _ => ?_)
          clear hK K
          try simp only [Act.put, List.setIfInBounds_toArray, List.set_cons_zero, List.set_cons_succ]
          refine wpAnyH_ready (rs := [3]) (by kernel_rfl) (by simp) ?_
          refine AllReadyH.cons rfl (fun K hK => ?_) (AllReadyH.nil)
          · go_simp
            go_at_call 19; refine (HY.out _ hR.bel).mono ?_; rintro e v34 ⟨rfl, hE⟩; replace hR := hR.below hE; clear hE
            go_wp2_with fail
            refine hK.out _ _ hR.par (fun _ => ?_)
            clear hK K
            try simp only [Act.put, List.setIfInBounds_toArray, List.set_cons_zero, List.set_cons_succ]
            have hne : g6 ≠ g5 := yg5 _ (List.mem_singleton.2 rfl)
            refine wpAnyH_ready (rs := [6]) (by kernel_rfl) (by simp) ?_
            refine AllReadyH.cons rfl (fun K hK => ?_) AllReadyH.nil
            obtain ⟨c0, c1, c2, f0, f1, f2⟩ := hR.hd.facts
            go_simp
            replace hR := hR.set hne (a := .int .i64 x.1) (b := .int .i64 x.2.1) (c := .string ⟨x.2.2.toArray⟩)
            refine hK.out _ _ hR.par (fun _ => ?_)
            clear hK K c0 c1 c2 f0 f1 f2
            try simp only [Act.put, List.setIfInBounds_toArray, List.set_cons_zero, List.set_cons_succ]
            replace hR := hR.swap
            refine wpAnyH_ready (rs := [7]) (by kernel_rfl) (by simp) ?_
            refine AllReadyH.cons rfl (fun K hK => ?_) AllReadyH.nil
            obtain ⟨c0, c1, c2, f0, f1, f2⟩ := hR.hd.facts
            go_simp
            replace hR := hR.set hne.symm (a := .int .i64 y.1) (b := .int .i64 y.2.1) (c := .string ⟨y.2.2.toArray⟩)
            refine hK.out _ _ hR.par (fun _ => ?_)
            clear hK K c0 c1 c2 f0 f1 f2
            try simp only [Act.put, List.setIfInBounds_toArray, List.set_cons_zero, List.set_cons_succ]
            refine wpAnyH_done (by kernel_rfl) ?_ _
            refine NoPanic.normal ?_
            go_wp2_with fail
            go_meet
            exact ⟨g5, g6, rfl, rfl, hR.swap.rest hne.symm⟩
  case rest =>
    obtain ⟨g5, g6, rfl, rfl, hne, r5, r6, hB⟩ := hcut
    have HPl : Hid (∀ W : World, Calls Tryd.prog 22 #[.string ⟨(prx x).toArray⟩] W fun e w' => e = .returned (.bool true) ∧ W = w') := Lib.hid (fun W => by
      have := plain_any ⟨(prx x).toArray⟩ (by have h1 := prx_short HF.out.2.2.1.1; have h2 := HF.out.2.2.1.2; simp [ByteArray.size]; omega) W
      rw [show (⟨(prx x).toArray⟩ : ByteArray).data.toList = prx x from rfl, show (prx x).all plainB = true from pr_plain HF.out.1] at this
      exact this)
    have HPr : Hid (∀ W : World, EnvS W → Calls Tryd.prog 13 #[.string ⟨(prx x).toArray⟩] W fun e w' => e = .returned (.tuple #[.agg #[.int .i64 x.1, .int .i64 x.2.1, .string ⟨x.2.2.toArray⟩], .int .i64 0]) ∧ Below W.heap.size W w') := Lib.hid (fun W hW => by
      have := parse_any hW ⟨(prx x).toArray⟩ (by have h1 := prx_short HF.out.2.2.1.1; have h2 := HF.out.2.2.1.2; simp [ByteArray.size]; omega)
      unfold parV parE at this
      rw [show (⟨(prx x).toArray⟩ : ByteArray).data.toList = prx x from rfl, show parO (prx x) = some (x.1, x.2.1, x.2.2) from par_pr HF.out.1] at this
      exact this)
    have hpr : ∀ z : Opx, Fine z → zx z = 0 → ∀ W : World, EnvS W → Calls Tryd.prog 20 #[.agg #[.int .i64 z.1, .int .i64 z.2.1, .string ⟨z.2.2.toArray⟩]] W fun e w' => e = .returned (.tuple #[.string ⟨(prx z).toArray⟩, .int .i64 0]) ∧ Below W.heap.size W w' := fun z hz h0 W hW => by
      have := print_any hW z.1 z.2.1 ⟨z.2.2.toArray⟩ (by simpa [ByteArray.size] using hz.1) hz.2.1 hz.2.2
      rw [show chkZ z.1 z.2.1 (⟨z.2.2.toArray⟩ : ByteArray).data.toList = 0 from h0, show prS z.1 z.2.1 (⟨z.2.2.toArray⟩ : ByteArray).data.toList = prx z from rfl] at this
      exact this
    have hch : ∀ z : Opx, Fine z → zx z = 0 → ∀ W : World, EnvS W → Calls Tryd.prog 21 #[.agg #[.int .i64 z.1, .int .i64 z.2.1, .string ⟨z.2.2.toArray⟩]] W fun e w' => e = .returned (.int .i64 0) ∧ Below W.heap.size W w' := fun z hz h0 W hW => by
      have := check_any hW z.1 z.2.1 ⟨z.2.2.toArray⟩ (by simpa [ByteArray.size] using hz.1)
      rw [show chkZ z.1 z.2.1 (⟨z.2.2.toArray⟩ : ByteArray).data.toList = 0 from h0] at this
      exact this
    have HPx := Lib.hid (hpr x HF.out.2.2.1.1 HF.out.1)
    have HPy := Lib.hid (hpr y HF.out.2.2.2.1 HF.out.2.1)
    have HCx := Lib.hid (hch x HF.out.2.2.1.1 HF.out.1)
    have HCy := Lib.hid (hch y HF.out.2.2.2.1 HF.out.2.1)
    have hinj : prx x = prx y → x = y := fun e => pr_inj HF.out.1 HF.out.2.1 e
    clear hpr hch
    have m1 := trivial
    have m2 := trivial
    unfold opA at r5 r6
    by_cases hxy : x = y
    · subst hxy
      clear hinj
      obtain ⟨xk, xa, xv⟩ := x
      generalize prx (xk, xa, xv) = px at *
      dsimp only at *
      obtain ⟨c0, c1, c2, f0, f1, f2⟩ := r5.facts
      replace r5 := Lib.hid r5
      replace r6 := Lib.hid r6
      replace hB := Lib.hid hB
      go_wp2_with (first
          | (have _t := m1; go_at_call 20; refine (HPx.out _ (hw.below hB.out)).mono ?_; clear m1 _t; rintro e w1 ⟨rfl, hE⟩; have R5 := Lib.hid (r5.out.below hE r5.out.lt); have R6 := Lib.hid (r6.out.below hE r6.out.lt); have B1 := Lib.hid (hB.out.trans (below_le hE hB.out.size)); obtain ⟨c0, c1, c2, f0, f1, f2⟩ := R6.out.facts; clear hE r5 r6 hB)
          | (go_at_call 20; refine (HPy.out _ (hw.below B1.out)).mono ?_; rintro e w2 ⟨rfl, hE⟩; have Q5 := Lib.hid (R5.out.below hE R5.out.lt); have Q6 := Lib.hid (R6.out.below hE R6.out.lt); have B2 := Lib.hid (B1.out.trans (below_le hE B1.out.size)); clear hE R5 R6 B1)
          | (go_at_call 13; refine (HPr.out _ (hw.below B2.out)).mono ?_; rintro e w3 ⟨rfl, hE⟩
             have hb3 := hE.trans (below_le (below_al w3 (.cells #[.int .i64 xk, .int .i64 xa, .string ⟨xv.toArray⟩] 24)) hE.size)
             have P5 := Lib.hid (Q5.out.below hb3 Q5.out.lt); have P6 := Lib.hid (Q6.out.below hb3 Q6.out.lt); have P11 := Lib.hid (Rw.new w3 24 #[.int .i64 xk, .int .i64 xa, .string ⟨xv.toArray⟩]); have B3 := Lib.hid (B2.out.trans (below_le hb3 B2.out.size)); have hl5 := P5.out.facts; obtain ⟨c0, c1, c2, f0, f1, f2⟩ := P5.out.facts; clear hE hb3 hl5 Q5 Q6 B2)
          | (have _t := m2; go_at_call 21; refine (HCx.out _ (hw.below B3.out)).mono ?_; clear m2 _t; rintro e w4 ⟨rfl, hE⟩; have S5 := Lib.hid (P5.out.below hE P5.out.lt); have S6 := Lib.hid (P6.out.below hE P6.out.lt); have S11 := Lib.hid (P11.out.below hE P11.out.lt); have B4 := Lib.hid (B3.out.trans (below_le hE B3.out.size)); obtain ⟨c0, c1, c2, f0, f1, f2⟩ := S6.out.facts; clear hE P5 P6 P11 B3)
          | (go_at_call 21; refine (HCy.out _ (hw.below B4.out)).mono ?_; rintro e w5 ⟨rfl, hE⟩; have T5 := Lib.hid (S5.out.below hE S5.out.lt); have T6 := Lib.hid (S6.out.below hE S6.out.lt); have T11 := Lib.hid (S11.out.below hE S11.out.lt); have B5 := Lib.hid (B4.out.trans (below_le hE B4.out.size)); obtain ⟨c0, c1, c2, f0, f1, f2⟩ := T5.out.facts; obtain ⟨d0, d1, d2, _, _, _⟩ := T6.out.facts; obtain ⟨e0, e1, e2, _, _, _⟩ := T11.out.facts; clear hE S5 S6 S11 B4)
          | (go_at_call 22; refine (HPl.out _).mono ?_; rintro e w6 ⟨rfl, rfl⟩)
          | (go_at_call 12; refine (HWk.out _ (hw.below B5.out)).mono ?_; rintro e w7 ⟨rfl, hE⟩; have B6 := Lib.hid (B5.out.trans (below_le hE B5.out.size)); clear hE))
      go_ret
      exact ⟨rfl, B6.out⟩
    · have hpp : (prx x == prx y) = false := beq_eq_false_iff_ne.2 (fun e => hxy (hinj e))
      clear hinj
      obtain ⟨xk, xa, xv⟩ := x
      obtain ⟨yk, ya, yv⟩ := y
      generalize prx (xk, xa, xv) = px at *
      generalize prx (yk, ya, yv) = py at *
      dsimp only at *
      obtain ⟨c0, c1, c2, f0, f1, f2⟩ := r5.facts
      replace r5 := Lib.hid r5
      replace r6 := Lib.hid r6
      replace hB := Lib.hid hB
      have hcs : xk ≠ yk ∨ (xk = yk ∧ xa ≠ ya) ∨ (xk = yk ∧ xa = ya ∧ xv ≠ yv) := by
        by_cases e1 : xk = yk
        · by_cases e2 : xa = ya
          · exact .inr (.inr ⟨e1, e2, fun e3 => hxy (by rw [e1, e2, e3])⟩)
          · exact .inr (.inl ⟨e1, e2⟩)
        · exact .inl e1
      clear hxy
      rcases hcs with h | ⟨rfl, h⟩ | ⟨rfl, rfl, h⟩
      all_goals
        go_wp2_with (first
          | (have _t := m1; go_at_call 20; refine (HPx.out _ (hw.below hB.out)).mono ?_; clear m1 _t; rintro e w1 ⟨rfl, hE⟩; have R5 := Lib.hid (r5.out.below hE r5.out.lt); have R6 := Lib.hid (r6.out.below hE r6.out.lt); have B1 := Lib.hid (hB.out.trans (below_le hE hB.out.size)); obtain ⟨c0, c1, c2, f0, f1, f2⟩ := R6.out.facts; clear hE r5 r6 hB)
          | (go_at_call 20; refine (HPy.out _ (hw.below B1.out)).mono ?_; rintro e w2 ⟨rfl, hE⟩; have Q5 := Lib.hid (R5.out.below hE R5.out.lt); have Q6 := Lib.hid (R6.out.below hE R6.out.lt); have B2 := Lib.hid (B1.out.trans (below_le hE B1.out.size)); clear hE R5 R6 B1)
          | (go_at_call 13; refine (HPr.out _ (hw.below B2.out)).mono ?_; rintro e w3 ⟨rfl, hE⟩
             have hb3 := hE.trans (below_le (below_al w3 (.cells #[.int .i64 xk, .int .i64 xa, .string ⟨xv.toArray⟩] 24)) hE.size)
             have P5 := Lib.hid (Q5.out.below hb3 Q5.out.lt); have P6 := Lib.hid (Q6.out.below hb3 Q6.out.lt); have P11 := Lib.hid (Rw.new w3 24 #[.int .i64 xk, .int .i64 xa, .string ⟨xv.toArray⟩]); have B3 := Lib.hid (B2.out.trans (below_le hb3 B2.out.size)); have hl5 := P5.out.facts; obtain ⟨c0, c1, c2, f0, f1, f2⟩ := P5.out.facts; clear hE hb3 hl5 Q5 Q6 B2)
          | (have _t := m2; go_at_call 21; refine (HCx.out _ (hw.below B3.out)).mono ?_; clear m2 _t; rintro e w4 ⟨rfl, hE⟩; have S5 := Lib.hid (P5.out.below hE P5.out.lt); have S6 := Lib.hid (P6.out.below hE P6.out.lt); have S11 := Lib.hid (P11.out.below hE P11.out.lt); have B4 := Lib.hid (B3.out.trans (below_le hE B3.out.size)); obtain ⟨c0, c1, c2, f0, f1, f2⟩ := S6.out.facts; clear hE P5 P6 P11 B3)
          | (go_at_call 21; refine (HCy.out _ (hw.below B4.out)).mono ?_; rintro e w5 ⟨rfl, hE⟩; have T5 := Lib.hid (S5.out.below hE S5.out.lt); have T6 := Lib.hid (S6.out.below hE S6.out.lt); have T11 := Lib.hid (S11.out.below hE S11.out.lt); have B5 := Lib.hid (B4.out.trans (below_le hE B4.out.size)); obtain ⟨c0, c1, c2, f0, f1, f2⟩ := T5.out.facts; obtain ⟨d0, d1, d2, _, _, _⟩ := T6.out.facts; obtain ⟨e0, e1, e2, _, _, _⟩ := T11.out.facts; clear hE S5 S6 S11 B4)
          | (go_at_call 22; refine (HPl.out _).mono ?_; rintro e w6 ⟨rfl, rfl⟩)
          | (go_at_call 12; refine (HWk.out _ (hw.below B5.out)).mono ?_; rintro e w7 ⟨rfl, hE⟩; have B6 := Lib.hid (B5.out.trans (below_le hE B5.out.size)); clear hE))
        go_ret
        exact ⟨rfl, B6.out⟩
end Go.Proofs.YtjjnjglbmneecaaDoor
