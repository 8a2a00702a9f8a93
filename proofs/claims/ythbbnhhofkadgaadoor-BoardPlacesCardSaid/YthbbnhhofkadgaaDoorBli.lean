/- The contract of tempolaw05.List: the squares of a set in order. Conditions: the table deBruijn64tab lies as the library lays it. -/
import Derived.Test.YthbbnhhofkadgaaDoorBkg
import Derived.Test.YthbbnhhofkadgaaDoorBpl
namespace Go.Proofs.YthbbnhhofkadgaaDoor
open Go Go.RowKit Go.Shelf
attribute [local go_sem] Oper.semAt_some
/-- The squares of a set, in order. -/
def lowL (x : Nat) : List Int := if _h : x = 0 then [] else ((Lib.ctz 64 x : Nat) : Int) :: lowL (dropLow x)
termination_by x
decreasing_by exact dropLow_lt x _h
theorem lowL_zero : lowL 0 = [] := by rw [lowL, dif_pos rfl]
theorem lowL_step {x : Nat} (h : x ≠ 0) : lowL x = ((Lib.ctz 64 x : Nat) : Int) :: lowL (dropLow x) := by rw [lowL, dif_neg h]
set_option maxRecDepth 100000 in
set_option maxHeartbeats 1000000 in
theorem all2_in (l Bs n₀ : Nat) (x : Nat) (hx : x < 18446744073709551616) (hn0 : 0 < n₀) (J Jx : List Int → World → Prop)
    (hY : ∀ (pre : List Int) (y : Int) W, J pre W → pre.length < (lowL x).length → YieldAt Fence.wide 2 Tryd.prog l #[.int .i64 y] W fun e W' =>
      (e = .returned (.bool true) ∧ J (pre ++ [y]) W' ∧ Below n₀ W W') ∨ (e = .returned (.bool false) ∧ Jx (pre ++ [y]) W'))
    (W : World) (hBs : W.cell? ⟨Bs, 0, none⟩ = some (.int .u64 x)) (hT : Tab64 W) (h0 : J [] W) :
    CallsIn Fence.wide 3 Tryd.prog 79 #[.func (.yield l) #[] #[], .pointer (some ⟨Bs, 0, none⟩)] W fun e W' => (∃ v, e = .returned v) ∧
      ((∃ ys, ys = lowL x ∧ J ys W') ∨ (∃ pre, True ∧ Jx pre W')) := by
  refine callsIn_of_wp Tryd.func79 rfl trivial ?_ rfl
  simp only [Tryd.ntmps79, List.size_toArray, List.length_cons, List.length_nil, Nat.reduceAdd, Nat.reduceSub, Array.replicate_succ, Array.replicate_zero, List.push_toArray, List.append_toArray, List.nil_append, List.cons_append]
  gi_wp2
  gi_loopw [3] (fun c wr => ∃ (pre : List Int) (cur : Nat), c = .int .u64 cur ∧ J pre wr ∧ Tab64 wr ∧ pre ++ lowL cur = lowL x ∧ cur ≤ x)
    (fun c _ => (intOf c).toNat)
  case atStart => exact ⟨[], x, rfl, h0, hT, rfl, Nat.le_refl _⟩
  case round =>
    obtain ⟨pre, cur, rfl, hJ, hTw, hc1, hle⟩ := hrel
    by_cases hz : cur = 0
    · subst hz
      have HH := Lib.hid (And.intro hJ hc1)
      clear hJ hc1 hle
      gi_wp2
      go_end0
      obtain ⟨hJ, hc1⟩ := HH.out
      exact ⟨⟨_, rfl⟩, .inl ⟨pre, by rw [← hc1, lowL_zero, List.append_nil], hJ⟩⟩
    · have hz' : ((cur : Int) != 0) = true := by rw [bne_iff_ne]; omega
      have hcur : cur < 18446744073709551616 := by omega
      have hlt := dropLow_lt cur hz
      obtain ⟨fn, tmps, assign, body, hy, hR⟩ := hY pre ((Lib.ctz 64 cur : Nat) : Int) wr hJ (by rw [← hc1, lowL_step hz]; simp)
      have HC := Lib.hid (tz_any cur hz hcur wr hTw)
      have HH := Lib.hid (And.intro hle (And.intro hc1 (And.intro hTw hz)))
      have HD : Hid (bits BinOp.and IntKind.u64 (cur : Int) ((cur : Int) - 1) = ((dropLow cur : Nat) : Int)) := Lib.hid (by
        have : ((cur : Int) - 1) = ((cur - 1 : Nat) : Int) := by omega
        rw [this, u64_and_nat cur (cur - 1) hcur (by omega)]; rfl)
      clear hle hc1 hJ hTw hlt
      have HZ0 : ∃ z : Nat, Lib.ctz 64 cur = z := ⟨_, rfl⟩
      obtain ⟨z, hz0⟩ := HZ0
      rw [hz0] at hy hR HC
      have HZ := Lib.hid hz0
      clear hz0
      gi_wp2_with (refine ⟨trivial, ?_⟩; gi_at_call 80; refine (callsIn_wide.2 HC.out).mono ?_; rintro e w' ⟨rfl, rfl⟩)
      refine hR.mono ?_
      rintro e W3 (⟨rfl, hJ3, hk3⟩ | ⟨rfl, hJx3⟩)
      · have HJ := Lib.hid (And.intro hJ3 hk3)
        clear hJ3 hk3 hR hy
        have hd := HD.out
        gi_wp2
        go_roundw
        case rel =>
          obtain ⟨hle, hc1, hTw, hz⟩ := HH.out
          have hlt := dropLow_lt cur hz
          refine ⟨pre ++ [(z : Int)], dropLow cur, rfl, HJ.out.1, hTw.below HJ.out.2 hn0, ?_, by omega⟩
          rw [← hc1, lowL_step hz, HZ.out, List.append_assoc, List.singleton_append]
        case measure =>
          have hlt := dropLow_lt cur HH.out.2.2.2
          simp [intOf]; omega
      · gi_wp2
        refine bodyPost_ret (results_none rfl _ _ _) rfl ?_
        exact ⟨⟨_, rfl⟩, .inr ⟨pre ++ [(z : Int)], trivial, hJx3⟩⟩
theorem eqNil (a : Array Value) (w : World) : Sem.run Tryd.prog (binOp BinOp.eql 82 (Value.func (.func 79) #[] a) Value.nilFunc) w = .ok (.bool false) w := by kernel_rfl
theorem infoInt : (Tryd.prog.info? 3).map (fun i => (i.zero, i.size, i.bytes)) = some (some (.int .i64 0), 1, 8) := by kernel_rfl
/-- Between two squares: the squares so far. -/
def LiI (w : World) (R : Nat) (pre : List Int) (W : World) : Prop :=
  (∃ v, Boxed W R 56 v ∧ W.ownsRow R 3 1 v pre.length (pre.map fun y => Value.int .i64 y) ∧ True) ∧ Below w.heap.size w W
set_option maxRecDepth 100000 in
set_option maxHeartbeats 1000000 in
theorem list_in (x : Nat) (hx : x < 18446744073709551616) (hlow : (lowL x).length < 100) (w : World) (hT : Tab64 w) :
    CallsIn Fence.wide 4 Tryd.prog 38 #[.int .u64 x] w fun e W' => (∃ v, e = .returned v ∧ W'.ownsRow w.heap.size 3 1 v (lowL x).length ((lowL x).map fun y => Value.int .i64 y)) ∧ Below w.heap.size w W' := by
  have hp := hT.1
  refine callsIn_of_wp_marks Tryd.func38 rfl trivial ?_ rfl
  simp only [Tryd.ntmps38, List.size_toArray, List.length_cons, List.length_nil, Nat.reduceAdd, Nat.reduceSub, Array.replicate_succ, Array.replicate_zero, List.push_toArray, List.append_toArray, List.nil_append, List.cons_append]
  have hnil := fun W => eqNil #[.pointer (some ⟨w.heap.size + 1, 0, none⟩)] W
  gi_wp2_with (refine ⟨trivial, ?_⟩; gi_at_call 65; refine (callsIn_wide.2 (all_any x _)).mono ?_; rintro e w' ⟨rfl, rfl⟩)
  have x0 : Boxed ((w.alloc (.cells #[.slice none 0 0] 56)).alloc (.cells #[.int .u64 x] 44)) w.heap.size 56 (.slice none 0 0) := (Boxed.new w 56 _).alloc _
  have c2 := cell_new_l (w.alloc (.cells #[.slice none 0 0] 56)) (.int .u64 x) 44
  simp only [World.size_alloc] at c2
  have hB0 : Below w.heap.size w ((w.alloc (.cells #[.slice none 0 0] 56)).alloc (.cells #[.int .u64 x] 44)) := ((Below.refl _ w).alloc (Nat.le_refl _) _).alloc (by simp) _
  have hT0 := hT.below hB0 hp
  have hseq : SeqStopsK (α := Int) Fence.wide 3 Tryd.prog 79 #[.pointer (some ⟨w.heap.size + 1, 0, none⟩)] (fun y => #[.int .i64 y]) (Below w.heap.size) (fun ys => ys = lowL x) (fun _ => True) (lowL x).length ((w.alloc (.cells #[.slice none 0 0] 56)).alloc (.cells #[.int .u64 x] 44)) := by
    intro l J Jx W hW hJ hJx hY h0
    have hcW : W.cell? ⟨w.heap.size + 1, 0, none⟩ = some (.int .u64 x) := (hW.cell (p := ⟨w.heap.size + 1, 0, none⟩) (by simp)).trans c2.1
    exact all2_in l (w.heap.size + 1) w.heap.size x hx hp J Jx (fun pre y W1 h1 h2 => hY pre y W1 h1 h2) W hcW (hT0.below hW (by simp)) h0
  refine wpIn_rangeFunc_ownF rfl (by omega) (gf := 79) (lb := #[.pointer (some ⟨w.heap.size + 1, 0, none⟩)]) rfl trivial (enters_of Tryd.func79 (by kernel_rfl) rfl)
    hseq belowK_t (belowK_b (by simp; omega)) (Below.refl _ _) (fun _ => rfl)
    (LiI w w.heap.size) (fun _ _ _ => False)
    (OwnFrom.and (Own.from (holdsRow_own w.heap.size w.heap.size 56 3 1 (fun pre : List Int => pre.length) (fun pre => pre.map fun y => Value.int .i64 y) (fun _ _ => True)) _) (ownFrom_below (Nat.le_refl _) (by simp; omega))) (fun _ _ _ _ _ hs _ _ => hs)
    ⟨⟨_, x0, World.ownsRow_nil _ _ _ _, trivial⟩, hB0⟩
    (fun y => { tmps := #[.int .u64 x, undef, .slice none 0 0, .pointer (some ⟨w.heap.size, 0, none⟩), .func (.func 79) #[] #[.pointer (some ⟨w.heap.size + 1, 0, none⟩)], .int .i64 y, .int .u64 x, .func (.func 79) #[] #[.pointer (some ⟨w.heap.size + 1, 0, none⟩)], .func (.func 79) #[] #[.pointer (some ⟨w.heap.size + 1, 0, none⟩)], .bool false, .func (.func 79) #[] #[.pointer (some ⟨w.heap.size + 1, 0, none⟩)], .int .i64 y, undef, undef, undef, undef, undef, undef, undef, undef], defers := [] }) ?assign ?body ?done ?stop
  case assign =>
    intro l y W K hK
    gi_wp2
    exact hK
  case body =>
    rintro l pre y W ⟨⟨v, hv, hr, _⟩, hBl⟩ hlen
    obtain ⟨i0, hi0, hz0, hz1, hz2⟩ := info_parts infoInt
    have hl : pre.length < 99 ∨ 99 ≤ pre.length := by omega
    have hHv := Lib.hid (And.intro hv (And.intro hr hBl))
    have d2 := hv.cell
    have hsz := hBl.size
    clear hv hr hseq x0 c2 hB0 hT0
    gi_wp2_with (gi_at_builtin; refine wpListIn_append_own _ rfl _ _ 56 rfl w.heap.size 3 i0 (.int .i64 0) 1 8 Tryd.underlying56 hi0 hz0 hz1 hz2 rfl (by decide) _ _ _ rfl (hHv.out.2.1.alloc _) ⟨W.heap.size, 0, none⟩ 1 1 [.int .i64 y] rfl rfl (cell_one_new _ _ _) (by simp [Value.oneCell']) (by unfold maxLen; omega) (by omega) (by simp; omega) ?_; intro v' w5 hown' hgrow _; obtain ⟨g', cap', rfl⟩ := ownsRow_succ hown'; have HO := Lib.hid hown'; have HG := Lib.hid hgrow; obtain ⟨hv1, _, _, _, _⟩ := hHv.out.1.appended (by decide) hHv.out.2.1 (by omega) (by omega) HO.out HG.out; have hc1 := hv1.cell; have hf1 := hv1.frozen; clear hown' hgrow hv1)
    obtain ⟨_, hv2, hr2, hk2, hb2⟩ := hHv.out.1.appended (by decide) hHv.out.2.1 hsz (Nat.le_refl _) HO.out HG.out
    exact ⟨hk2, hb2, ⟨_, hv2, by rw [List.length_append, List.map_append]; exact hr2, trivial⟩, hBl.trans hb2⟩
  case done =>
    rintro D ys W hD rfl ⟨⟨v, hv, hr, _⟩, hBl⟩ hK
    have SK := Lib.hid hK
    have d2 := hv.cell
    clear hK
    gi_wp2
    have hne : v.ownBlock = none ∨ v.ownBlock ≠ some D := by
      rcases hr.2 with ⟨h, _⟩ | ⟨g, cap, cur, rfl, _, hgb, _⟩
      · exact .inl (by rw [h]; rfl)
      · refine .inr fun e => ?_
        obtain rfl : g = D := by simpa [Value.ownBlock] using e
        rw [SK.out] at hgb; cases hgb
    refine ⟨by simp, .inl ⟨_, _, rfl, run_takeDeferred SK.out, ?_⟩⟩
    refine ⟨v, ?_, ⟨v, rfl, hr.kept (grownBy_putObj' _ D (.deferred none)) hne⟩, hBl.trans (belowK_b (w := w) (Nat.le_refl _) W D _ _ (by simp at hD; omega) SK.out rfl rfl)⟩
    simp [results, Tryd.f38, go_sem]
  case stop =>
    rintro D c pre W hD _ h _
    exact h.elim
theorem low_pawns : lowL 65280 = [8, 9, 10, 11, 12, 13, 14, 15] := by
  rw [lowL_step (x := 65280) (by decide), show dropLow 65280 = 65024 by decide +kernel, show Lib.ctz 64 65280 = 8 by decide +kernel]
  rw [lowL_step (x := 65024) (by decide), show dropLow 65024 = 64512 by decide +kernel, show Lib.ctz 64 65024 = 9 by decide +kernel]
  rw [lowL_step (x := 64512) (by decide), show dropLow 64512 = 63488 by decide +kernel, show Lib.ctz 64 64512 = 10 by decide +kernel]
  rw [lowL_step (x := 63488) (by decide), show dropLow 63488 = 61440 by decide +kernel, show Lib.ctz 64 63488 = 11 by decide +kernel]
  rw [lowL_step (x := 61440) (by decide), show dropLow 61440 = 57344 by decide +kernel, show Lib.ctz 64 61440 = 12 by decide +kernel]
  rw [lowL_step (x := 57344) (by decide), show dropLow 57344 = 49152 by decide +kernel, show Lib.ctz 64 57344 = 13 by decide +kernel]
  rw [lowL_step (x := 49152) (by decide), show dropLow 49152 = 32768 by decide +kernel, show Lib.ctz 64 49152 = 14 by decide +kernel]
  rw [lowL_step (x := 32768) (by decide), show dropLow 32768 = 0 by decide +kernel, show Lib.ctz 64 32768 = 15 by decide +kernel]
  rw [lowL_zero]; rfl
theorem list_pawns (w : World) (hT : Tab64 w) :
    Calls Tryd.prog 38 #[.int .u64 65280] w fun e W' => ∃ g cap, e = .returned (.slice (some ⟨g, 0, none⟩) 8 cap) ∧ (∀ j, j < 8 → W'.cell? ⟨g, 0 + j, none⟩ = some (.int .i64 (([8, 9, 10, 11, 12, 13, 14, 15] : List Int).getD j 0))) ∧ g < W'.heap.size ∧ Below w.heap.size w W' := by
  have h := callsIn_wide.1 (list_in 65280 (by decide) (by rw [low_pawns]; decide) w hT)
  rw [low_pawns] at h
  refine h.mono ?_
  rintro e W' ⟨⟨v, rfl, hr⟩, hB⟩
  obtain ⟨g, cap, rfl⟩ := ownsRow_succ hr
  refine ⟨g, cap, rfl, fun j hj => ?_, (hr.lt g rfl).2, hB⟩
  rw [Nat.zero_add, hr.cellAt j hj]
  have : ∀ j : Fin 8, (([8, 9, 10, 11, 12, 13, 14, 15] : List Int).map fun y => Value.int .i64 y)[j.val]? = some (Value.int .i64 (([8, 9, 10, 11, 12, 13, 14, 15] : List Int).getD j.val 0)) := by
    intro j; match j with
    | 0 | 1 | 2 | 3 | 4 | 5 | 6 | 7 => rfl
  exact this ⟨j, hj⟩
end Go.Proofs.YthbbnhhofkadgaaDoor
