/- The board of the start, and the examples of the chapter. No condition. -/
import Derived.Test.YtcnflmbnnobocaaDoorMrr
import Derived.BigRegion
import Derived.RegionTactic
namespace Go.Proofs.YtcnflmbnnobocaaDoor
open Go Go.RowKit

def backL : List Int := [4, 2, 3, 5, 6, 3, 2, 4]
def st1 (l : List Int) (k : Nat) : List Int := (((l.set k (backL.getD k 0)).set (8 + k) 1).set (48 + k) 7).set (56 + k) (backL.getD k 0 + 6)
def stL : Nat → List Int
  | 0 => List.replicate 64 0
  | k + 1 => st1 (stL k) k
theorem stL_len (k : Nat) : (stL k).length = 64 := by
  induction k with
  | zero => simp [stL]
  | succ k ih => simp [stL, st1, ih]
set_option maxRecDepth 100000 in
set_option maxHeartbeats 4000000 in
theorem start_any (w : World) : Calls Tryd.prog 26 #[] w fun e w' => e = .returned (.agg (ints (stL 8))) ∧ Below w.heap.size w w' := by
  go_enter Tryd.func26, Tryd.ntmps26
  go_wp2_with fail
  go_loopw [3] (fun i wr => ∃ k : Nat, k ≤ 8 ∧ i = .int .i64 k ∧ Holds wr (w.heap.size + 1) .i64 23 (stL k) ∧ Holds wr (w.heap.size + 1 + 1) .i64 71 backL ∧ Below w.heap.size w wr ∧ Holds wr w.heap.size .i64 23 (stL 0)) (fun i _ => 8 - (intOf i).toNat)
  case atStart => exact ⟨0, by omega, rfl, (Holds.newAt .i64 23 (stL 0) (by simp)).alloc _, Holds.newAt .i64 71 backL (by simp), by go_grown, ((Holds.newAt .i64 23 (stL 0) (by simp)).alloc _).alloc _⟩
  case round =>
    obtain ⟨k, hk, rfl, hr, hv, hbl, hz⟩ := hrel
    by_cases hlt : k < 8
    · have hlen := stL_len k
      have cb := hv.cell k (by simp [backL]; omega)
      have HW : Hid (stL (k + 1) = ((((stL k).set k (backL.getD k 0)).set (8 + k) 1).set (48 + k) 7).set (56 + k) (backL.getD k 0 + 6)) := Lib.hid rfl
      have hbp : 0 ≤ backL.getD k 0 ∧ backL.getD k 0 ≤ 6 := (by decide : ∀ n, n < 8 → 0 ≤ backL.getD n 0 ∧ backL.getD n 0 ≤ 6) k hlt
      generalize backL.getD k 0 = p at *
      generalize hg1 : w.heap.size + 1 = g1 at *
      generalize hg2 : g1 + 1 = g2 at *
      have c1 := hr.cell k (by omega)
      have c2 := hr.cell (8 + k) (by omega)
      have c3 := hr.cell (48 + k) (by omega)
      have c4 := hr.cell (56 + k) (by omega)
      have d1 := hr.frozen k
      have d2 := hr.frozen (8 + k)
      have d3 := hr.frozen (48 + k)
      have d4 := hr.frozen (56 + k)
      have n1 : g2 ≠ g1 := by omega
      have n2 : g1 ≠ g2 := by omega
      have t1 : ((8 : Int) + (k : Int)).toNat = 8 + k := by omega
      have t2 : ((48 : Int) + (k : Int)).toNat = 48 + k := by omega
      have t3 : ((56 : Int) + (k : Int)).toNat = 56 + k := by omega
      have p0 : (k : Int) < 8 := by omega
      have p1 : (0 : Int) ≤ 8 + (k : Int) := by omega
      have p2 : (0 : Int) ≤ 48 + (k : Int) := by omega
      have p3 : (0 : Int) ≤ 56 + (k : Int) := by omega
      have q0 : (k : Int) < 64 := by omega
      have q1 : 8 + (k : Int) < 64 := by omega
      have q2 : 48 + (k : Int) < 64 := by omega
      have q3 : 56 + (k : Int) < 64 := by omega
      go_wp2_with fail
      have HR := Lib.hid ((((hr.set k p).set (8 + k) 1).set (48 + k) 7).set (56 + k) (p + 6))
      have HL := Lib.hid (And.intro hlt (And.intro hv (And.intro hbl hz)))
      clear hk hlt hr hv hbl hz
      have wq1 : IntKind.i64.wrap (8 + (k : Int)) = 8 + (k : Int) := by rw [IntKind.wrap_i64]; omega
      have wq2 : IntKind.i64.wrap (48 + (k : Int)) = 48 + (k : Int) := by rw [IntKind.wrap_i64]; omega
      have wq3 : IntKind.i64.wrap (56 + (k : Int)) = 56 + (k : Int) := by rw [IntKind.wrap_i64]; omega
      have wq4 : IntKind.i64.wrap (p + 6) = p + 6 := by rw [IntKind.wrap_i64]; omega
      have wq5 : wrap64 (p + 6) = p + 6 := by unfold wrap64; omega
      go_region
      go_wp2_with fail
      obtain ⟨hlt, hv, hbl, hz⟩ := HL.out
      subst hg2
      subst hg1
      have hB4 := ((((hbl.setCell (p := ⟨w.heap.size + 1, k, none⟩) (by simp) (.int .i64 p)).setCell (p := ⟨w.heap.size + 1, 8 + k, none⟩) (by simp) (.int .i64 1)).setCell (p := ⟨w.heap.size + 1, 48 + k, none⟩) (by simp) (.int .i64 7)).setCell (p := ⟨w.heap.size + 1, 56 + k, none⟩) (by simp) (.int .i64 (p + 6)))
      have hV4 := (((hv.setOther (a := ⟨w.heap.size + 1, k, none⟩) (.int .i64 p) (by simp)).setOther (a := ⟨w.heap.size + 1, 8 + k, none⟩) (.int .i64 1) (by simp)).setOther (a := ⟨w.heap.size + 1, 48 + k, none⟩) (.int .i64 7) (by simp)).setOther (a := ⟨w.heap.size + 1, 56 + k, none⟩) (.int .i64 (p + 6)) (by simp)
      have hZ4 := (((hz.setOther (a := ⟨w.heap.size + 1, k, none⟩) (.int .i64 p) (by simp)).setOther (a := ⟨w.heap.size + 1, 8 + k, none⟩) (.int .i64 1) (by simp)).setOther (a := ⟨w.heap.size + 1, 48 + k, none⟩) (.int .i64 7) (by simp)).setOther (a := ⟨w.heap.size + 1, 56 + k, none⟩) (.int .i64 (p + 6)) (by simp)
      have hR4 := HR.out
      rw [← HW.out] at hR4
      clear HR HW HL hz hv hbl
      generalize (((wr.setCell _ _).setCell _ _).setCell _ _).setCell _ _ = w4 at *
      go_roundw
      case rel => exact ⟨k + 1, by go_num, by go_num, hR4.drew, hV4.drew, hB4.drew, hZ4.drew⟩
      case measure => simp [intOf]; omega
    · have : k = 8 := by omega
      subst this
      have hlen := stL_len 8
      have hlen0 := stL_len 0
      generalize hL8 : stL 8 = l at *
      generalize stL 0 = l0 at *
      go_wp2_with (first
        | (with_reducible refine wpl_load (g := w.heap.size + 1) (k := .i64) (t := 23) (l := l) hr rfl 23 _ rfl rfl Tryd.underlying23 ?hi ?_)
        | (with_reducible refine wpl_store (g := w.heap.size) (k := .i64) (t := 23) (l := l0) hz rfl 23 _ _ rfl rfl l rfl ?hl ?hj ?_))
      case hi => rw [hlen]; kernel_rfl
      case hl => rw [hlen, hlen0]
      case hj => rw [hlen0]; kernel_rfl
      refine bodyPost_ret (results_cell_row rfl _ _ w.heap.size 23 (intsK .i64 l) (0, 0) _ rfl (hz.setRow _) Tryd.underlying23 rfl (by rw [intsK_size, hlen]; kernel_rfl)) rfl ?_
      exact ⟨by rw [hL8], below_setRow hbl (Nat.le_refl _) _⟩
end Go.Proofs.YtcnflmbnnobocaaDoor
