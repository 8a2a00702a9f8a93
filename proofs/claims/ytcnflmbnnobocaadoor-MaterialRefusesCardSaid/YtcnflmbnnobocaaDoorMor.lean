/- The contract of the reference of material.Of: the same numbers. No condition. -/
import Derived.Test.YtcnflmbnnobocaaDoorMof
namespace Go.Proofs.YtcnflmbnnobocaaDoor
open Go Go.RowKit

set_option maxRecDepth 100000 in
set_option maxHeartbeats 4000000 in
theorem of_ref (b : List Int) (hb : b.length = 64) (w : World) :
    Calls Tryd.prog 12 #[.agg (ints b)] w fun e w' => e = .returned (.agg (ints (matV b))) ∧ Below w.heap.size w w' := by
  go_enter Tryd.func12, Tryd.ntmps12
  go_wp2_with fail
  go_loopw [4] (fun i wr => ∃ k : Nat, k ≤ 64 ∧ i = .int .i64 k ∧ Holds wr w.heap.size .i64 23 b ∧ Holds wr (w.heap.size + 1) .i64 28 zero10 ∧ Holds wr (w.heap.size + 1 + 1) .i64 28 (cnt zero10 (b.take k)) ∧ Below w.heap.size w wr) (fun i _ => 64 - (intOf i).toNat)
  case atStart => exact ⟨0, by omega, rfl, ((Holds.new w .i64 23 b).alloc _).alloc _, (Holds.newAt .i64 28 zero10 (by simp)).alloc _, Holds.newAt .i64 28 zero10 (by simp), by go_grown⟩
  case round =>
    obtain ⟨k, hk, rfl, hB, hr, hv, hbl⟩ := hrel
    by_cases hlt : k < 64
    · have hix : wr.cell? ⟨w.heap.size, k, none⟩ = some (.int .i64 (b.getD k 0)) := hB.cell k (by omega)
      have hbd := cnt_bd b k (by omega)
      have hlen : (cnt zero10 (b.take k)).length = 10 := cnt_len _ _
      have HN : Hid (cnt zero10 (b.take (k + 1)) = cnt1 (cnt zero10 (b.take k)) (b.getD k 0)) := by show _ = _; rw [take_snoc' b k (by omega), cnt_snoc]
      generalize b.getD k 0 = p at *
      generalize cnt zero10 (b.take k) = l at *
      have hcase : p < 1 ∨ 12 < p ∨ p = 6 ∨ p = 12 ∨ p = 1 ∨ p = 2 ∨ p = 3 ∨ p = 4 ∨ p = 5 ∨ p = 7 ∨ p = 8 ∨ p = 9 ∨ p = 10 ∨ p = 11 := by omega
      rcases hcase with h | h | rfl | rfl | rfl | rfl | rfl | rfl | rfl | rfl | rfl | rfl | rfl | rfl
      · have HS : Hid (cnt1 l p = l) := cnt1_out l (by omega)
        have n1 : (p == 1) = false := by rw [beq_eq_false_iff_ne]; omega
        have n2 : (p == 2) = false := by rw [beq_eq_false_iff_ne]; omega
        have n3 : (p == 3) = false := by rw [beq_eq_false_iff_ne]; omega
        have n4 : (p == 4) = false := by rw [beq_eq_false_iff_ne]; omega
        have n5 : (p == 5) = false := by rw [beq_eq_false_iff_ne]; omega
        have n7 : (p == 7) = false := by rw [beq_eq_false_iff_ne]; omega
        have n8 : (p == 8) = false := by rw [beq_eq_false_iff_ne]; omega
        have n9 : (p == 9) = false := by rw [beq_eq_false_iff_ne]; omega
        have n10 : (p == 10) = false := by rw [beq_eq_false_iff_ne]; omega
        have n11 : (p == 11) = false := by rw [beq_eq_false_iff_ne]; omega
        go_wp2_with fail
        refine wp_loop_rounds 6 ?_
        rw [rounds_succ]
        go_wp2_with fail
        rw [rounds_succ]
        go_wp2_with fail
        rw [rounds_succ]
        go_wp2_with fail
        rw [rounds_succ]
        go_wp2_with fail
        rw [rounds_succ]
        go_wp2_with fail
        rw [rounds_succ]
        go_wp2_with fail
        go_roundw
        case rel => exact ⟨k + 1, by omega, by go_num, hB, hr, by rw [HN.out, HS.out]; exact hv, hbl⟩
        case measure => simp [intOf]; omega
      · have HS : Hid (cnt1 l p = l) := cnt1_out l (by omega)
        have n1 : (p == 1) = false := by rw [beq_eq_false_iff_ne]; omega
        have n2 : (p == 2) = false := by rw [beq_eq_false_iff_ne]; omega
        have n3 : (p == 3) = false := by rw [beq_eq_false_iff_ne]; omega
        have n4 : (p == 4) = false := by rw [beq_eq_false_iff_ne]; omega
        have n5 : (p == 5) = false := by rw [beq_eq_false_iff_ne]; omega
        have n7 : (p == 7) = false := by rw [beq_eq_false_iff_ne]; omega
        have n8 : (p == 8) = false := by rw [beq_eq_false_iff_ne]; omega
        have n9 : (p == 9) = false := by rw [beq_eq_false_iff_ne]; omega
        have n10 : (p == 10) = false := by rw [beq_eq_false_iff_ne]; omega
        have n11 : (p == 11) = false := by rw [beq_eq_false_iff_ne]; omega
        go_wp2_with fail
        refine wp_loop_rounds 6 ?_
        rw [rounds_succ]
        go_wp2_with fail
        rw [rounds_succ]
        go_wp2_with fail
        rw [rounds_succ]
        go_wp2_with fail
        rw [rounds_succ]
        go_wp2_with fail
        rw [rounds_succ]
        go_wp2_with fail
        rw [rounds_succ]
        go_wp2_with fail
        go_roundw
        case rel => exact ⟨k + 1, by omega, by go_num, hB, hr, by rw [HN.out, HS.out]; exact hv, hbl⟩
        case measure => simp [intOf]; omega
      · have HS : Hid (cnt1 l 6 = l) := rfl
        go_wp2_with fail
        refine wp_loop_rounds 6 ?_
        rw [rounds_succ]
        go_wp2_with fail
        rw [rounds_succ]
        go_wp2_with fail
        rw [rounds_succ]
        go_wp2_with fail
        rw [rounds_succ]
        go_wp2_with fail
        rw [rounds_succ]
        go_wp2_with fail
        rw [rounds_succ]
        go_wp2_with fail
        go_roundw
        case rel => exact ⟨k + 1, by omega, by go_num, hB, hr, by rw [HN.out, HS.out]; exact hv, hbl⟩
        case measure => simp [intOf]; omega
      · have HS : Hid (cnt1 l 12 = l) := rfl
        go_wp2_with fail
        refine wp_loop_rounds 6 ?_
        rw [rounds_succ]
        go_wp2_with fail
        rw [rounds_succ]
        go_wp2_with fail
        rw [rounds_succ]
        go_wp2_with fail
        rw [rounds_succ]
        go_wp2_with fail
        rw [rounds_succ]
        go_wp2_with fail
        rw [rounds_succ]
        go_wp2_with fail
        go_roundw
        case rel => exact ⟨k + 1, by omega, by go_num, hB, hr, by rw [HN.out, HS.out]; exact hv, hbl⟩
        case measure => simp [intOf]; omega
      · have HS : Hid (cnt1 l 1 = l.set 0 (l.getD 0 0 + 1)) := rfl
        have c2 : wr.cell? ⟨w.heap.size + 1 + 1, 0, none⟩ = some (.int .i64 (l.getD 0 0)) := hv.cell 0 (by omega)
        have c3 : wr.frozen? ⟨w.heap.size + 1 + 1, 0, none⟩ = false := hv.frozen 0
        obtain ⟨b1, b2⟩ := hbd 0
        have HV := Lib.hid (hv.set 0 (l.getD 0 0 + 1))
        generalize l.getD 0 0 = q at *
        go_wp2_with fail
        refine wp_loop_rounds 6 ?_
        rw [rounds_succ]
        go_wp2_with fail
        rw [rounds_succ]
        go_wp2_with fail
        rw [rounds_succ]
        go_wp2_with fail
        rw [rounds_succ]
        go_wp2_with fail
        rw [rounds_succ]
        go_wp2_with fail
        rw [rounds_succ]
        go_wp2_with fail
        go_roundw
        case rel => exact ⟨k + 1, by omega, by go_num, hB.setOther _ (by simp; omega), hr.setOther _ (by simp), by rw [HN.out, HS.out]; exact HV.out, hbl.setCell (by simp; omega) _⟩
        case measure => simp [intOf]; omega
      · have HS : Hid (cnt1 l 2 = l.set 1 (l.getD 1 0 + 1)) := rfl
        have c2 : wr.cell? ⟨w.heap.size + 1 + 1, 1, none⟩ = some (.int .i64 (l.getD 1 0)) := hv.cell 1 (by omega)
        have c3 : wr.frozen? ⟨w.heap.size + 1 + 1, 1, none⟩ = false := hv.frozen 1
        obtain ⟨b1, b2⟩ := hbd 1
        have HV := Lib.hid (hv.set 1 (l.getD 1 0 + 1))
        generalize l.getD 1 0 = q at *
        go_wp2_with fail
        refine wp_loop_rounds 6 ?_
        rw [rounds_succ]
        go_wp2_with fail
        rw [rounds_succ]
        go_wp2_with fail
        rw [rounds_succ]
        go_wp2_with fail
        rw [rounds_succ]
        go_wp2_with fail
        rw [rounds_succ]
        go_wp2_with fail
        rw [rounds_succ]
        go_wp2_with fail
        go_roundw
        case rel => exact ⟨k + 1, by omega, by go_num, hB.setOther _ (by simp; omega), hr.setOther _ (by simp), by rw [HN.out, HS.out]; exact HV.out, hbl.setCell (by simp; omega) _⟩
        case measure => simp [intOf]; omega
      · have HS : Hid (cnt1 l 3 = l.set 2 (l.getD 2 0 + 1)) := rfl
        have c2 : wr.cell? ⟨w.heap.size + 1 + 1, 2, none⟩ = some (.int .i64 (l.getD 2 0)) := hv.cell 2 (by omega)
        have c3 : wr.frozen? ⟨w.heap.size + 1 + 1, 2, none⟩ = false := hv.frozen 2
        obtain ⟨b1, b2⟩ := hbd 2
        have HV := Lib.hid (hv.set 2 (l.getD 2 0 + 1))
        generalize l.getD 2 0 = q at *
        go_wp2_with fail
        refine wp_loop_rounds 6 ?_
        rw [rounds_succ]
        go_wp2_with fail
        rw [rounds_succ]
        go_wp2_with fail
        rw [rounds_succ]
        go_wp2_with fail
        rw [rounds_succ]
        go_wp2_with fail
        rw [rounds_succ]
        go_wp2_with fail
        rw [rounds_succ]
        go_wp2_with fail
        go_roundw
        case rel => exact ⟨k + 1, by omega, by go_num, hB.setOther _ (by simp; omega), hr.setOther _ (by simp), by rw [HN.out, HS.out]; exact HV.out, hbl.setCell (by simp; omega) _⟩
        case measure => simp [intOf]; omega
      · have HS : Hid (cnt1 l 4 = l.set 3 (l.getD 3 0 + 1)) := rfl
        have c2 : wr.cell? ⟨w.heap.size + 1 + 1, 3, none⟩ = some (.int .i64 (l.getD 3 0)) := hv.cell 3 (by omega)
        have c3 : wr.frozen? ⟨w.heap.size + 1 + 1, 3, none⟩ = false := hv.frozen 3
        obtain ⟨b1, b2⟩ := hbd 3
        have HV := Lib.hid (hv.set 3 (l.getD 3 0 + 1))
        generalize l.getD 3 0 = q at *
        go_wp2_with fail
        refine wp_loop_rounds 6 ?_
        rw [rounds_succ]
        go_wp2_with fail
        rw [rounds_succ]
        go_wp2_with fail
        rw [rounds_succ]
        go_wp2_with fail
        rw [rounds_succ]
        go_wp2_with fail
        rw [rounds_succ]
        go_wp2_with fail
        rw [rounds_succ]
        go_wp2_with fail
        go_roundw
        case rel => exact ⟨k + 1, by omega, by go_num, hB.setOther _ (by simp; omega), hr.setOther _ (by simp), by rw [HN.out, HS.out]; exact HV.out, hbl.setCell (by simp; omega) _⟩
        case measure => simp [intOf]; omega
      · have HS : Hid (cnt1 l 5 = l.set 4 (l.getD 4 0 + 1)) := rfl
        have c2 : wr.cell? ⟨w.heap.size + 1 + 1, 4, none⟩ = some (.int .i64 (l.getD 4 0)) := hv.cell 4 (by omega)
        have c3 : wr.frozen? ⟨w.heap.size + 1 + 1, 4, none⟩ = false := hv.frozen 4
        obtain ⟨b1, b2⟩ := hbd 4
        have HV := Lib.hid (hv.set 4 (l.getD 4 0 + 1))
        generalize l.getD 4 0 = q at *
        go_wp2_with fail
        refine wp_loop_rounds 6 ?_
        rw [rounds_succ]
        go_wp2_with fail
        rw [rounds_succ]
        go_wp2_with fail
        rw [rounds_succ]
        go_wp2_with fail
        rw [rounds_succ]
        go_wp2_with fail
        rw [rounds_succ]
        go_wp2_with fail
        rw [rounds_succ]
        go_wp2_with fail
        go_roundw
        case rel => exact ⟨k + 1, by omega, by go_num, hB.setOther _ (by simp; omega), hr.setOther _ (by simp), by rw [HN.out, HS.out]; exact HV.out, hbl.setCell (by simp; omega) _⟩
        case measure => simp [intOf]; omega
      · have HS : Hid (cnt1 l 7 = l.set 5 (l.getD 5 0 + 1)) := rfl
        have c2 : wr.cell? ⟨w.heap.size + 1 + 1, 5, none⟩ = some (.int .i64 (l.getD 5 0)) := hv.cell 5 (by omega)
        have c3 : wr.frozen? ⟨w.heap.size + 1 + 1, 5, none⟩ = false := hv.frozen 5
        obtain ⟨b1, b2⟩ := hbd 5
        have HV := Lib.hid (hv.set 5 (l.getD 5 0 + 1))
        generalize l.getD 5 0 = q at *
        go_wp2_with fail
        refine wp_loop_rounds 6 ?_
        rw [rounds_succ]
        go_wp2_with fail
        rw [rounds_succ]
        go_wp2_with fail
        rw [rounds_succ]
        go_wp2_with fail
        rw [rounds_succ]
        go_wp2_with fail
        rw [rounds_succ]
        go_wp2_with fail
        rw [rounds_succ]
        go_wp2_with fail
        go_roundw
        case rel => exact ⟨k + 1, by omega, by go_num, hB.setOther _ (by simp; omega), hr.setOther _ (by simp), by rw [HN.out, HS.out]; exact HV.out, hbl.setCell (by simp; omega) _⟩
        case measure => simp [intOf]; omega
      · have HS : Hid (cnt1 l 8 = l.set 6 (l.getD 6 0 + 1)) := rfl
        have c2 : wr.cell? ⟨w.heap.size + 1 + 1, 6, none⟩ = some (.int .i64 (l.getD 6 0)) := hv.cell 6 (by omega)
        have c3 : wr.frozen? ⟨w.heap.size + 1 + 1, 6, none⟩ = false := hv.frozen 6
        obtain ⟨b1, b2⟩ := hbd 6
        have HV := Lib.hid (hv.set 6 (l.getD 6 0 + 1))
        generalize l.getD 6 0 = q at *
        go_wp2_with fail
        refine wp_loop_rounds 6 ?_
        rw [rounds_succ]
        go_wp2_with fail
        rw [rounds_succ]
        go_wp2_with fail
        rw [rounds_succ]
        go_wp2_with fail
        rw [rounds_succ]
        go_wp2_with fail
        rw [rounds_succ]
        go_wp2_with fail
        rw [rounds_succ]
        go_wp2_with fail
        go_roundw
        case rel => exact ⟨k + 1, by omega, by go_num, hB.setOther _ (by simp; omega), hr.setOther _ (by simp), by rw [HN.out, HS.out]; exact HV.out, hbl.setCell (by simp; omega) _⟩
        case measure => simp [intOf]; omega
      · have HS : Hid (cnt1 l 9 = l.set 7 (l.getD 7 0 + 1)) := rfl
        have c2 : wr.cell? ⟨w.heap.size + 1 + 1, 7, none⟩ = some (.int .i64 (l.getD 7 0)) := hv.cell 7 (by omega)
        have c3 : wr.frozen? ⟨w.heap.size + 1 + 1, 7, none⟩ = false := hv.frozen 7
        obtain ⟨b1, b2⟩ := hbd 7
        have HV := Lib.hid (hv.set 7 (l.getD 7 0 + 1))
        generalize l.getD 7 0 = q at *
        go_wp2_with fail
        refine wp_loop_rounds 6 ?_
        rw [rounds_succ]
        go_wp2_with fail
        rw [rounds_succ]
        go_wp2_with fail
        rw [rounds_succ]
        go_wp2_with fail
        rw [rounds_succ]
        go_wp2_with fail
        rw [rounds_succ]
        go_wp2_with fail
        rw [rounds_succ]
        go_wp2_with fail
        go_roundw
        case rel => exact ⟨k + 1, by omega, by go_num, hB.setOther _ (by simp; omega), hr.setOther _ (by simp), by rw [HN.out, HS.out]; exact HV.out, hbl.setCell (by simp; omega) _⟩
        case measure => simp [intOf]; omega
      · have HS : Hid (cnt1 l 10 = l.set 8 (l.getD 8 0 + 1)) := rfl
        have c2 : wr.cell? ⟨w.heap.size + 1 + 1, 8, none⟩ = some (.int .i64 (l.getD 8 0)) := hv.cell 8 (by omega)
        have c3 : wr.frozen? ⟨w.heap.size + 1 + 1, 8, none⟩ = false := hv.frozen 8
        obtain ⟨b1, b2⟩ := hbd 8
        have HV := Lib.hid (hv.set 8 (l.getD 8 0 + 1))
        generalize l.getD 8 0 = q at *
        go_wp2_with fail
        refine wp_loop_rounds 6 ?_
        rw [rounds_succ]
        go_wp2_with fail
        rw [rounds_succ]
        go_wp2_with fail
        rw [rounds_succ]
        go_wp2_with fail
        rw [rounds_succ]
        go_wp2_with fail
        rw [rounds_succ]
        go_wp2_with fail
        rw [rounds_succ]
        go_wp2_with fail
        go_roundw
        case rel => exact ⟨k + 1, by omega, by go_num, hB.setOther _ (by simp; omega), hr.setOther _ (by simp), by rw [HN.out, HS.out]; exact HV.out, hbl.setCell (by simp; omega) _⟩
        case measure => simp [intOf]; omega
      · have HS : Hid (cnt1 l 11 = l.set 9 (l.getD 9 0 + 1)) := rfl
        have c2 : wr.cell? ⟨w.heap.size + 1 + 1, 9, none⟩ = some (.int .i64 (l.getD 9 0)) := hv.cell 9 (by omega)
        have c3 : wr.frozen? ⟨w.heap.size + 1 + 1, 9, none⟩ = false := hv.frozen 9
        obtain ⟨b1, b2⟩ := hbd 9
        have HV := Lib.hid (hv.set 9 (l.getD 9 0 + 1))
        generalize l.getD 9 0 = q at *
        go_wp2_with fail
        refine wp_loop_rounds 6 ?_
        rw [rounds_succ]
        go_wp2_with fail
        rw [rounds_succ]
        go_wp2_with fail
        rw [rounds_succ]
        go_wp2_with fail
        rw [rounds_succ]
        go_wp2_with fail
        rw [rounds_succ]
        go_wp2_with fail
        rw [rounds_succ]
        go_wp2_with fail
        go_roundw
        case rel => exact ⟨k + 1, by omega, by go_num, hB.setOther _ (by simp; omega), hr.setOther _ (by simp), by rw [HN.out, HS.out]; exact HV.out, hbl.setCell (by simp; omega) _⟩
        case measure => simp [intOf]; omega
    · have hk : k = 64 := by omega
      subst hk
      have hlen : (cnt zero10 (b.take 64)).length = 10 := cnt_len _ _
      have HN : Hid (cnt zero10 (b.take 64) = matV b) := by show _ = _; rw [List.take_of_length_le (by omega)]; rfl
      generalize cnt zero10 (b.take 64) = l at *
      go_wp2_with (first
        | (with_reducible refine wpl_loadS (g := w.heap.size + 1 + 1) (k := .i64) (t := 28) (l := l) hv rfl 28 _ rfl rfl Tryd.underlying28 ?hi ?_)
        | (with_reducible refine wpl_store (g := w.heap.size + 1) (k := .i64) (t := 28) (l := zero10) hr rfl 28 _ _ rfl rfl l rfl ?hl ?hj ?_))
      case hi => rw [hlen]; kernel_rfl
      case hl => exact hlen
      case hj => kernel_rfl
      refine bodyPost_ret (results_cell_row rfl _ _ (w.heap.size + 1) 28 (ints l) (0, 0) _ rfl (hr.setRow l) Tryd.underlying28 rfl (by rw [intsK_size, hlen]; kernel_rfl)) rfl ?_
      exact ⟨by rw [HN.out], below_setRow hbl (by omega) _⟩
end Go.Proofs.YtcnflmbnnobocaaDoor
