/- The contracts of math/bits.TrailingZeros64 and of the iterator over a set of squares; Lowest. Conditions: the table deBruijn64tab lies in memory as the library lays it. -/
import Derived.RangeFuncNested
import Derived.RangeFuncBound
import Derived.RangeFuncCalls
import Derived.RangeFuncLeaves
import Derived.Shelf.Abstract
import Derived.Shelf.RegionOpen
import Derived.WalkKit
import Derived.OwnWalkIn
import Derived.TacticsInMore
import Derived.LoopNIn
import Derived.LoopIn
import Derived.Lib.TrailingZeros
import Derived.Laws.Bits64b
import Derived.Test.YthbbnhhofkadgaaDoorBst
namespace Go.Proofs.YthbbnhhofkadgaaDoor
open Go Go.RowKit Go.Shelf
attribute [local go_sem] Oper.semAt_some
def Tab64 (w : World) : Prop := 0 < w.heap.size ∧ ∀ j, j < 64 → w.cell? ⟨0, j, none⟩ = some (.int .u8 ((Lib.deBruijn64tab.getD j 0 : Nat) : Int))
theorem Tab64.below {w w' : World} (h : Tab64 w) {B : Nat} (hb : Below B w w') (hB : 0 < B) : Tab64 w' := ⟨Nat.lt_of_lt_of_le h.1 hb.size, fun j hj => (hb.cell (p := ⟨0, j, none⟩) hB).trans (h.2 j hj)⟩
theorem tz_key (x a : Nat) (hx : x < 18446744073709551616) (hx0 : x ≠ 0) (hlow : x &&& (18446744073709551616 - x) = a) :
    IntKind.u64.wrap (bits BinOp.and IntKind.u64 (x : Int) (IntKind.u64.wrap (-(x : Int))) * 285870213051353865) / 288230376151711744 = ((a * 285870213051353865 % 18446744073709551616 / 288230376151711744 : Nat) : Int) := by
  have e1 : IntKind.u64.wrap (-(x : Int)) = ((18446744073709551616 - x : Nat) : Int) := by
    unfold IntKind.wrap; simp [IntKind.bits, IntKind.signed]; omega
  rw [e1, u64_and_nat x _ hx (by omega), hlow]
  unfold IntKind.wrap; simp [IntKind.bits, IntKind.signed]
set_option maxHeartbeats 400000 in
theorem tz_core (x k idx : Nat) (w : World) (hx0 : ((x : Int) == 0) = false)
    (key : IntKind.u64.wrap (bits BinOp.and IntKind.u64 (x : Int) (IntKind.u64.wrap (-(x : Int))) * 285870213051353865) / 288230376151711744 = (idx : Int))
    (hi : idx < 64) (hk : k < 64) (hcell : w.cell? ⟨0, idx, none⟩ = some (.int .u8 k)) :
    Calls Tryd.prog 80 #[.int .u64 x] w fun e w' => e = .returned (.int .i64 k) ∧ w = w' := by
  go_enter Tryd.func80, Tryd.ntmps80
  go_wp2_with (simp only [key])
  go_ret
  exact ⟨rfl, rfl⟩
theorem tz_any (x : Nat) (h0 : x ≠ 0) (hx : x < 18446744073709551616) (w : World) (hT : Tab64 w) : Calls Tryd.prog 80 #[.int .u64 x] w fun e w' => e = .returned (.int .i64 (Lib.ctz 64 x : Nat)) ∧ w = w' := by
  obtain ⟨hlow, hk⟩ := Lib.lowest_bit 64 x h0 hx
  obtain ⟨hi, htab⟩ := Lib.deBruijn64_at _ hk
  have hcell := hT.2 _ hi
  rw [htab] at hcell
  exact tz_core x _ _ w (by simp; omega) (tz_key x _ hx h0 hlow) hi hk hcell
theorem cell_new_l (W : World) (v : Value) (t : TypeId) : (W.alloc (.cells #[v] t)).cell? ⟨W.heap.size, 0, none⟩ = some v ∧ (W.alloc (.cells #[v] t)).frozen? ⟨W.heap.size, 0, none⟩ = false :=
  ⟨by simp [World.cell?_alloc_new], by simp⟩
theorem cell_alloc_l {W : World} {a : Addr} {v : Value} (o : Obj) (h : W.cell? a = some v) : (W.alloc o).cell? a = some v := cell_kept h (World.grownBy_alloc W o none) (fun r e => by cases e)
theorem frozen_alloc_l {W : World} {a : Addr} {v : Value} (o : Obj) (h : W.cell? a = some v) (hf : W.frozen? a = false) : (W.alloc o).frozen? a = false := (frozen_kept h (World.grownBy_alloc W o none) (fun r e => by cases e)).trans hf
theorem two_cells {W : World} {B : Nat} {u v y z : Value} (h0 : W.cell? ⟨B, 0, none⟩ = some u) (h1 : W.cell? ⟨B + 1, 0, none⟩ = some v) :
    ((W.setCell ⟨B, 0, none⟩ y).setCell ⟨B + 1, 0, none⟩ z).cell? ⟨B, 0, none⟩ = some y ∧ ((W.setCell ⟨B, 0, none⟩ y).setCell ⟨B + 1, 0, none⟩ z).cell? ⟨B + 1, 0, none⟩ = some z := by
  have e1 : (W.setCell ⟨B, 0, none⟩ y).cell? ⟨B + 1, 0, none⟩ = some v := (World.cell?_setCell_other _ _ _ _ (by simp)).trans h1
  exact ⟨(World.cell?_setCell_other _ _ _ _ (by simp)).trans (World.cell?_setCell_same' W ⟨B, 0, none⟩ y (by rw [h0]; rfl)), World.cell?_setCell_same' _ _ _ (by rw [e1]; rfl)⟩
/-- The set without its lowest square. -/
def dropLow (x : Nat) : Nat := x &&& (x - 1)
theorem dropLow_lt (x : Nat) (h : x ≠ 0) : dropLow x < x := by
  unfold dropLow
  have := Nat.and_le_right (n := x) (m := x - 1)
  omega
set_option maxRecDepth 100000 in
set_option maxHeartbeats 1000000 in
theorem all1_in (l Bs n₀ : Nat) (x : Nat) (hx : x < 18446744073709551616) (hn0 : 0 < n₀) (J Jx : List Int → World → Prop)
    (hY : ∀ (pre : List Int) (y : Int) W, J pre W → pre.length < 18446744073709551616 → YieldAt Fence.wide 2 Tryd.prog l #[.int .i64 y] W fun e W' =>
      (e = .returned (.bool true) ∧ J (pre ++ [y]) W' ∧ Below n₀ W W') ∨ (e = .returned (.bool false) ∧ Jx (pre ++ [y]) W'))
    (W : World) (hBs : W.cell? ⟨Bs, 0, none⟩ = some (.int .u64 x)) (hT : Tab64 W) (h0 : J [] W) :
    CallsIn Fence.wide 3 Tryd.prog 79 #[.func (.yield l) #[] #[], .pointer (some ⟨Bs, 0, none⟩)] W fun e W' => (∃ v, e = .returned v) ∧
      ((∃ ys, (ys = [] → x = 0) ∧ J ys W') ∨ (∃ pre, (x ≠ 0 ∧ ∃ rest, pre = ((Lib.ctz 64 x : Nat) : Int) :: rest) ∧ Jx pre W')) := by
  refine callsIn_of_wp Tryd.func79 rfl trivial ?_ rfl
  simp only [Tryd.ntmps79, List.size_toArray, List.length_cons, List.length_nil, Nat.reduceAdd, Nat.reduceSub, Array.replicate_succ, Array.replicate_zero, List.push_toArray, List.append_toArray, List.nil_append, List.cons_append]
  gi_wp2
  gi_loopw [3] (fun c wr => ∃ (pre : List Int) (cur : Nat), c = .int .u64 cur ∧ J pre wr ∧ Tab64 wr ∧ pre.length + cur ≤ x ∧ (pre = [] → cur = x) ∧ (pre ≠ [] → x ≠ 0 ∧ ∃ rest, pre = ((Lib.ctz 64 x : Nat) : Int) :: rest))
    (fun c _ => (intOf c).toNat)
  case atStart => exact ⟨[], x, rfl, h0, hT, by simp, fun _ => rfl, fun h => absurd rfl h⟩
  case round =>
    obtain ⟨pre, cur, rfl, hJ, hTw, hle, hc1, hc2⟩ := hrel
    by_cases hz : cur = 0
    · subst hz
      have HH := Lib.hid (And.intro hJ (And.intro hc1 hc2))
      clear hJ hc1 hc2 hle
      gi_wp2
      go_end0
      obtain ⟨hJ, hc1, hc2⟩ := HH.out
      exact ⟨⟨_, rfl⟩, .inl ⟨pre, fun h => (hc1 h).symm, hJ⟩⟩
    · have hz' : ((cur : Int) != 0) = true := by rw [bne_iff_ne]; omega
      have hcur : cur < 18446744073709551616 := by omega
      have hlt := dropLow_lt cur hz
      obtain ⟨fn, tmps, assign, body, hy, hR⟩ := hY pre ((Lib.ctz 64 cur : Nat) : Int) wr hJ (by omega)
      have HC := Lib.hid (tz_any cur hz hcur wr hTw)
      have HH := Lib.hid (And.intro hle (And.intro hc1 (And.intro hc2 (And.intro hTw hz))))
      have HD : Hid (bits BinOp.and IntKind.u64 (cur : Int) ((cur : Int) - 1) = ((dropLow cur : Nat) : Int)) := Lib.hid (by
        have : ((cur : Int) - 1) = ((cur - 1 : Nat) : Int) := by omega
        rw [this, u64_and_nat cur (cur - 1) hcur (by omega)]; rfl)
      clear hle hc1 hc2 hJ hTw hlt
      have HZ0 : ∃ z : Nat, Lib.ctz 64 cur = z := ⟨_, rfl⟩
      obtain ⟨z, hz0⟩ := HZ0
      rw [hz0] at hy hR HC
      have HZ := Lib.hid hz0
      clear hz0
      gi_wp2_with (refine ⟨trivial, ?_⟩; gi_at_call 80; refine (callsIn_wide.2 HC.out).mono ?_; rintro e w' ⟨rfl, rfl⟩)
      refine hR.mono ?_
      rintro e W3 (⟨rfl, hJ3, hk3⟩ | ⟨rfl, hJx3⟩)
      · have HJ := Lib.hid (And.intro hJ3 hk3)
        clear hJ3 hk3 hR hy
        have hd := HD.out
        gi_wp2
        go_roundw
        case rel =>
          obtain ⟨hle, hc1, hc2, hTw, hz⟩ := HH.out
          have hlt := dropLow_lt cur hz
          refine ⟨pre ++ [(z : Int)], dropLow cur, rfl, HJ.out.1, hTw.below HJ.out.2 hn0, by simp; omega, fun h => by simp at h, fun _ => ?_⟩
          by_cases hp : pre = []
          · have := hc1 hp
            subst this
            subst hp
            exact ⟨hz, [], by rw [HZ.out]; rfl⟩
          · obtain ⟨h1, rest, h2⟩ := hc2 hp
            exact ⟨h1, rest ++ [(z : Int)], by rw [h2]; rfl⟩
        case measure =>
          have hlt := dropLow_lt cur HH.out.2.2.2.2
          simp [intOf]; omega
      · gi_wp2
        refine bodyPost_ret (results_none rfl _ _ _) rfl ?_
        obtain ⟨hle, hc1, hc2, hTw, hz⟩ := HH.out
        refine ⟨⟨_, rfl⟩, .inr ⟨pre ++ [(z : Int)], ?_, hJx3⟩⟩
        by_cases hp : pre = []
        · have := hc1 hp
          subst this
          subst hp
          exact ⟨hz, [], by rw [HZ.out]; rfl⟩
        · obtain ⟨h1, rest, h2⟩ := hc2 hp
          exact ⟨h1, rest ++ [(z : Int)], by rw [h2]; rfl⟩
set_option maxHeartbeats 400000 in
theorem all_any (x : Nat) (w : World) : Calls Tryd.prog 65 #[.int .u64 x] w fun e w' => e = .returned (.func (.func 79) #[] #[.pointer (some ⟨w.heap.size, 0, none⟩)]) ∧ w.alloc (.cells #[.int .u64 x] 44) = w' := by
  go_enter Tryd.func65, Tryd.ntmps65
  go_wp2
  go_ret
  exact ⟨rfl, rfl⟩
def lowV (x : Nat) : Int := if x = 0 then 0 else ((Lib.ctz 64 x : Nat) : Int)
set_option maxRecDepth 100000 in
set_option maxHeartbeats 1000000 in
theorem low_in (x : Nat) (hx : x < 18446744073709551616) (w : World) (hT : Tab64 w) :
    CallsIn Fence.wide 4 Tryd.prog 52 #[.int .u64 x] w fun e W' => e = .returned (.tuple #[.int .i64 (lowV x), .bool (decide (x ≠ 0))]) ∧ Below w.heap.size w W' := by
  have hp := hT.1
  refine callsIn_of_wp_marks Tryd.func52 rfl trivial ?_ rfl
  simp only [Tryd.ntmps52, List.size_toArray, List.length_cons, List.length_nil, Nat.reduceAdd, Nat.reduceSub, Array.replicate_succ, Array.replicate_zero, List.push_toArray, List.append_toArray, List.nil_append, List.cons_append]
  gi_wp2_with (refine ⟨trivial, ?_⟩; gi_at_call 65; refine (callsIn_wide.2 (all_any x _)).mono ?_; rintro e w' ⟨rfl, rfl⟩)
  have c0 := cell_new_l w (.int .i64 0) 3
  have c1 := cell_new_l (w.alloc (.cells #[.int .i64 0] 3)) (.bool false) 4
  have c2 := cell_new_l ((w.alloc (.cells #[.int .i64 0] 3)).alloc (.cells #[.bool false] 4)) (.int .u64 x) 44
  simp only [World.size_alloc] at c1 c2
  have hB0 : Below w.heap.size w (((w.alloc (.cells #[.int .i64 0] 3)).alloc (.cells #[.bool false] 4)).alloc (.cells #[.int .u64 x] 44)) := (((Below.refl _ w).alloc (Nat.le_refl _) _).alloc (by simp) _).alloc (by simp; omega) _
  have hT0 := hT.below hB0 hp
  have hseq : SeqStopsK (α := Int) Fence.wide 3 Tryd.prog 79 #[.pointer (some ⟨w.heap.size + 1 + 1, 0, none⟩)] (fun y => #[.int .i64 y]) (Below w.heap.size) (fun ys => ys = [] → x = 0) (fun pre => x ≠ 0 ∧ ∃ rest, pre = ((Lib.ctz 64 x : Nat) : Int) :: rest) 18446744073709551616 (((w.alloc (.cells #[.int .i64 0] 3)).alloc (.cells #[.bool false] 4)).alloc (.cells #[.int .u64 x] 44)) := by
    intro l J Jx W hW hJ hJx hY h0
    have hcW : W.cell? ⟨w.heap.size + 1 + 1, 0, none⟩ = some (.int .u64 x) := (hW.cell (p := ⟨w.heap.size + 1 + 1, 0, none⟩) (by simp)).trans c2.1
    refine (all1_in l (w.heap.size + 1 + 1) w.heap.size x hx hp J Jx (fun pre y W1 h1 h2 => hY pre y W1 h1 h2) W hcW (hT0.below hW (by simp)) h0).mono ?_
    exact fun e W' h => h
  refine wpIn_rangeFunc_ownF rfl (by omega) (gf := 79) (lb := #[.pointer (some ⟨w.heap.size + 1 + 1, 0, none⟩)]) rfl trivial (enters_of Tryd.func79 (by kernel_rfl) rfl)
    hseq belowK_t (belowK_b (by simp; omega)) (Below.refl _ _) (fun _ => rfl)
    (fun pre W => (pre = [] ∧ W.cell? ⟨w.heap.size, 0, none⟩ = some (.int .i64 0) ∧ W.frozen? ⟨w.heap.size, 0, none⟩ = false ∧ W.cell? ⟨w.heap.size + 1, 0, none⟩ = some (.bool false) ∧ W.frozen? ⟨w.heap.size + 1, 0, none⟩ = false) ∧ Below w.heap.size w W)
    (fun c pre W => (c = .ret ∧ ∃ y : Int, pre = [y] ∧ W.cell? ⟨w.heap.size, 0, none⟩ = some (.int .i64 y) ∧ W.cell? ⟨w.heap.size + 1, 0, none⟩ = some (.bool true)) ∧ Below w.heap.size w W)
    (OwnFrom.and (Own.from (fun s A B row hs hg hr => ⟨hs.1, cell_kept hs.2.1 hg hr, (frozen_kept hs.2.1 hg hr).trans hs.2.2.1, cell_kept hs.2.2.2.1 hg hr, (frozen_kept hs.2.2.2.1 hg hr).trans hs.2.2.2.2⟩) _) (ownFrom_below (Nat.le_refl _) (by simp; omega)))
    (fun c => OwnFrom.and (Own.from (fun s A B row ⟨h1, y, h2, h3, h4⟩ hg hr => ⟨h1, y, h2, cell_kept h3 hg hr, cell_kept h4 hg hr⟩) _) (ownFrom_below (Nat.le_refl _) (by simp; omega)))
    ⟨⟨rfl, cell_alloc_l _ (cell_alloc_l _ c0.1), frozen_alloc_l _ (cell_alloc_l _ c0.1) (frozen_alloc_l _ c0.1 c0.2), cell_alloc_l _ c1.1, frozen_alloc_l _ c1.1 c1.2⟩, hB0⟩
    (fun y => { tmps := #[.int .u64 x, undef, .pointer (some ⟨w.heap.size, 0, none⟩), .pointer (some ⟨w.heap.size + 1, 0, none⟩), .int .i64 y, .int .u64 x, .func (.func 79) #[] #[.pointer (some ⟨w.heap.size + 1 + 1, 0, none⟩)], .int .i64 y, undef], defers := [] }) ?assign ?body ?done ?stop
  case assign =>
    intro l y W K hK
    gi_wp2
    exact hK
  case body =>
    rintro l pre y W ⟨⟨rfl, h1, h2, h3, h4⟩, hB⟩ _
    have s0 := two_cells (y := .int .i64 y) (z := .bool true) h1 h3
    have sB := (hB.setCell (p := ⟨w.heap.size, 0, none⟩) (Nat.le_refl _) (.int .i64 y)).setCell (p := ⟨w.heap.size + 1, 0, none⟩) (by simp) (.bool true)
    have S0 := Lib.hid s0
    have SB := Lib.hid sB
    clear s0 sB
    gi_wp2
    exact ⟨(KeepsOthers.setCell _ _ _).trans (KeepsOthers.setCell _ _ _), ⟨rfl, y, rfl, S0.out.1, S0.out.2⟩, SB.out⟩
  case done =>
    rintro D ys W hD hS ⟨⟨rfl, h1, h2, h3, h4⟩, hB⟩ hK
    have hx0 : x = 0 := hS rfl
    subst hx0
    have s0 := two_cells (y := .int .i64 0) (z := .bool false) h1 h3
    have sB := (hB.setCell (p := ⟨w.heap.size, 0, none⟩) (Nat.le_refl _) (.int .i64 0)).setCell (p := ⟨w.heap.size + 1, 0, none⟩) (by simp) (.bool false)
    have hK' := ((KeepsOthers.setCell W ⟨w.heap.size, 0, none⟩ (.int .i64 0)).trans (KeepsOthers.setCell _ ⟨w.heap.size + 1, 0, none⟩ (.bool false))).same D _ hK rfl
    have S0 := Lib.hid s0
    have SB := Lib.hid sB
    have SK := Lib.hid hK'
    clear s0 sB hK' hS
    gi_wp2
    refine ⟨by simp, .inl ⟨_, _, rfl, run_takeDeferred SK.out, ?_⟩⟩
    have hc5 := cell_kept S0.out.1 (grownBy_putObj' _ D (.deferred none)) (fun r e => by cases e; exact ⟨_, SK.out, rfl⟩)
    have hc6 := cell_kept S0.out.2 (grownBy_putObj' _ D (.deferred none)) (fun r e => by cases e; exact ⟨_, SK.out, rfl⟩)
    refine ⟨.tuple #[.int .i64 0, .bool false], ?_, ⟨rfl, SB.out.trans (belowK_b (w := w) (Nat.le_refl _) _ D _ _ (by simp at hD; omega) SK.out rfl rfl)⟩⟩
    simp [results, Tryd.f52, go_sem, hc5, hc6]
  case stop =>
    rintro D c pre W hD ⟨hx0, rest, hpre⟩ ⟨⟨rfl, y, rfl, h1, h2⟩, hB⟩ hK
    have hy : y = ((Lib.ctz 64 x : Nat) : Int) := by simpa using (List.cons.inj hpre).1
    have HL : Hid (lowV x = y) := Lib.hid (by unfold lowV; rw [if_neg hx0, hy])
    have HD : Hid (decide (x ≠ 0) = true) := Lib.hid (by simpa using hx0)
    have SK := Lib.hid hK
    clear hpre hy hx0 hK
    gi_wp2
    refine ⟨by simp, .inl ⟨_, _, rfl, run_takeDeferred SK.out, ?_⟩⟩
    have hc5 := cell_kept h1 (grownBy_putObj' _ D (.deferred none)) (fun r e => by cases e; exact ⟨_, SK.out, rfl⟩)
    have hc6 := cell_kept h2 (grownBy_putObj' _ D (.deferred none)) (fun r e => by cases e; exact ⟨_, SK.out, rfl⟩)
    refine ⟨.tuple #[.int .i64 y, .bool true], ?_, ⟨by rw [HL.out]; exact congrArg (fun b => Ending.returned (.tuple #[.int .i64 y, .bool b])) HD.out.symm, hB.trans (belowK_b (w := w) (Nat.le_refl _) W D _ _ (by simp at hD; omega) SK.out rfl rfl)⟩⟩
    simp [results, Tryd.f52, go_sem, hc5, hc6]
theorem low_any (x : Nat) (hx : x < 18446744073709551616) (w : World) (hT : Tab64 w) :
    Calls Tryd.prog 52 #[.int .u64 x] w fun e W' => e = .returned (.tuple #[.int .i64 (lowV x), .bool (decide (x ≠ 0))]) ∧ Below w.heap.size w W' := callsIn_wide.1 (low_in x hx w hT)
end Go.Proofs.YthbbnhhofkadgaaDoor
