/- The contract of material.Of: the numbers of the pieces. Conditions: the table material.places lies in memory as the program lays it. -/
import Derived.Test.YtcnflmbnnobocaaDoorArr
namespace Go.Proofs.YtcnflmbnnobocaaDoor
open Go Go.RowKit

/-- The place of a piece in a vector, from 1; 0: none. -/
def plc (p : Int) : Int := if 1 ≤ p ∧ p ≤ 5 then p else if 7 ≤ p ∧ p ≤ 11 then p - 1 else 0
/-- One piece is counted. -/
def cnt1 (l : List Int) (p : Int) : List Int := if plc p = 0 then l else l.set (plc p - 1).toNat (l.getD (plc p - 1).toNat 0 + 1)
/-- The material of a list of squares. -/
def cnt (l : List Int) (b : List Int) : List Int := b.foldl cnt1 l
theorem cnt1_out (l : List Int) {p : Int} (h : p < 1 ∨ 12 < p) : cnt1 l p = l := by
  have : plc p = 0 := by unfold plc; rw [if_neg (by omega), if_neg (by omega)]
  unfold cnt1; rw [if_pos this]
theorem cnt_snoc (l b : List Int) (p : Int) : cnt l (b ++ [p]) = cnt1 (cnt l b) p := by simp [cnt]
theorem cnt1_len (l : List Int) (p : Int) : (cnt1 l p).length = l.length := by unfold cnt1; split <;> simp
theorem cnt_len (l : List Int) (b : List Int) : (cnt l b).length = l.length := by
  induction b generalizing l with
  | nil => rfl
  | cons p b ih => show (cnt (cnt1 l p) b).length = _; rw [ih, cnt1_len]
def zero10 : List Int := [0, 0, 0, 0, 0, 0, 0, 0, 0, 0]
def matV (b : List Int) : List Int := cnt zero10 b
theorem take_snoc' (b : List Int) (k : Nat) (h : k < b.length) : b.take (k + 1) = b.take k ++ [b.getD k 0] := by
  rw [List.take_succ_eq_append_getElem h]; simp [h]
theorem cnt1_bd {l : List Int} {m : Int} (hm : 0 ≤ m) (h : ∀ j, 0 ≤ l.getD j 0 ∧ l.getD j 0 ≤ m) (p : Int) : ∀ j, 0 ≤ (cnt1 l p).getD j 0 ∧ (cnt1 l p).getD j 0 ≤ m + 1 := by
  intro j
  unfold cnt1
  split
  · have := h j; omega
  · have h1 := h j
    have h2 := h (plc p - 1).toNat
    generalize (plc p - 1).toNat = q at *
    simp only [List.getD_eq_getElem?_getD, List.getElem?_set] at *
    split
    · split
      · simp; omega
      · simp; omega
    · omega
/-- After k squares each number is from 0 to k. -/
theorem cnt_bd (b : List Int) (k : Nat) (hk : k ≤ b.length) : ∀ j, 0 ≤ (cnt zero10 (b.take k)).getD j 0 ∧ (cnt zero10 (b.take k)).getD j 0 ≤ k := by
  induction k with
  | zero => intro j; rcases j with _ | _ | _ | _ | _ | _ | _ | _ | _ | _ | j <;> simp [cnt, zero10]
  | succ k ih =>
    intro j
    rw [take_snoc' b k (by omega), cnt_snoc]
    have := cnt1_bd (m := k) (by omega) (ih (by omega)) (b.getD k 0) j
    omega

def plcL : List Int := [0, 1, 2, 3, 4, 5, 0, 6, 7, 8, 9, 10, 0]
def Places (w : World) : Prop := 0 < w.heap.size ∧ ∀ i, i < 13 → w.cell? ⟨0, i, none⟩ = some (.int .i64 (plcL.getD i 0))
theorem Places.cell {w : World} (h : Places w) (i : Nat) (hi : i < 13) : w.cell? ⟨0, i, none⟩ = some (.int .i64 (plcL.getD i 0)) := h.2 i hi
theorem Places.below {w w' : World} (h : Places w) (hb : Below w.heap.size w w') : Places w' := ⟨Nat.lt_of_lt_of_le h.1 hb.size, fun i hi => (hb.cell (p := ⟨0, i, none⟩) h.1).trans (h.2 i hi)⟩

set_option maxRecDepth 100000 in
set_option maxHeartbeats 2000000 in
theorem of_walk (b : List Int) (hb : b.length = 64) (w : World) (hp : Places w) :
    Calls Tryd.prog 11 #[.agg (ints b)] w fun e w' => e = .returned (.agg (ints (matV b))) ∧ Below w.heap.size w w' := by
  go_enter Tryd.func11, Tryd.ntmps11
  go_wp2_with (with_reducible refine wpl_load (g := w.heap.size) (k := .i64) (t := 23) (l := b) ?hg rfl 23 _ rfl rfl Tryd.underlying23 ?hi ?_)
  case hg => exact ((Holds.new w .i64 23 b).alloc _).alloc _
  case hi => rw [hb]; kernel_rfl
  go_loopw [7] (fun i wr => ∃ k : Nat, k ≤ 64 ∧ i = .int .i64 k ∧ Holds wr (w.heap.size + 1) .i64 25 zero10 ∧ Holds wr (w.heap.size + 1 + 1) .i64 25 (cnt zero10 (b.take k)) ∧ Below w.heap.size w wr) (fun i _ => 64 - (intOf i).toNat)
  case atStart => exact ⟨0, by omega, rfl, (Holds.newAt .i64 25 zero10 (by simp)).alloc _, Holds.newAt .i64 25 zero10 (by simp), by go_grown⟩
  case round =>
    obtain ⟨k, hk, rfl, hr, hv, hbl⟩ := hrel
    by_cases hlt : k < 64
    · have hix : (Instr.index 23 (.agg (intsK .i64 b)) (.int .i64 k)).run Tryd.prog wr = .ok (.int .i64 (b.getD k 0)) wr := run_index_ints k Tryd.underlying23 Tryd.underlying3 (by kernel_rfl) hb hlt
      have hp' := hp.below hbl
      have hbd := cnt_bd b k (by omega)
      have hlen : (cnt zero10 (b.take k)).length = 10 := cnt_len _ _
      have HN : Hid (cnt zero10 (b.take (k + 1)) = cnt1 (cnt zero10 (b.take k)) (b.getD k 0)) := by show _ = _; rw [take_snoc' b k (by omega), cnt_snoc]
      generalize b.getD k 0 = p at *
      generalize cnt zero10 (b.take k) = l at *
      have hcase : p < 1 ∨ 12 < p ∨ p = 6 ∨ p = 12 ∨ p = 1 ∨ p = 2 ∨ p = 3 ∨ p = 4 ∨ p = 5 ∨ p = 7 ∨ p = 8 ∨ p = 9 ∨ p = 10 ∨ p = 11 := by omega
      rcases hcase with h | h | rfl | rfl | rfl | rfl | rfl | rfl | rfl | rfl | rfl | rfl | rfl | rfl
      · have HS : Hid (cnt1 l p = l) := cnt1_out l (by omega)
        go_wp2_with fail
        go_roundw
        case rel => exact ⟨k + 1, by omega, by go_num, hr, by rw [HN.out, HS.out]; exact hv, hbl⟩
        case measure => simp [intOf]; omega
      · have HS : Hid (cnt1 l p = l) := cnt1_out l (by omega)
        have hd : decide (p < 13) = false := by simp; omega
        go_wp2_with fail
        go_roundw
        case rel => exact ⟨k + 1, by omega, by go_num, hr, by rw [HN.out, HS.out]; exact hv, hbl⟩
        case measure => simp [intOf]; omega
      · have HS : Hid (cnt1 l 6 = l) := rfl
        have c1 : wr.cell? ⟨0, 6, none⟩ = some (.int .i64 0) := hp'.cell 6 (by decide)
        go_wp2_with fail
        go_roundw
        case rel => exact ⟨k + 1, by omega, by go_num, hr, by rw [HN.out, HS.out]; exact hv, hbl⟩
        case measure => simp [intOf]; omega
      · have HS : Hid (cnt1 l 12 = l) := rfl
        have c1 : wr.cell? ⟨0, 12, none⟩ = some (.int .i64 0) := hp'.cell 12 (by decide)
        go_wp2_with fail
        go_roundw
        case rel => exact ⟨k + 1, by omega, by go_num, hr, by rw [HN.out, HS.out]; exact hv, hbl⟩
        case measure => simp [intOf]; omega
      · have HS : Hid (cnt1 l 1 = l.set 0 (l.getD 0 0 + 1)) := rfl
        have c1 : wr.cell? ⟨0, 1, none⟩ = some (.int .i64 1) := hp'.cell 1 (by decide)
        have c2 : wr.cell? ⟨w.heap.size + 1 + 1, 0, none⟩ = some (.int .i64 (l.getD 0 0)) := hv.cell 0 (by omega)
        have c3 : wr.frozen? ⟨w.heap.size + 1 + 1, 0, none⟩ = false := hv.frozen 0
        obtain ⟨b1, b2⟩ := hbd 0
        have HV := Lib.hid (hv.set 0 (l.getD 0 0 + 1))
        generalize l.getD 0 0 = q at *
        go_wp2_with fail
        go_roundw
        case rel => exact ⟨k + 1, by omega, by go_num, hr.setOther _ (by simp), by rw [HN.out, HS.out]; exact HV.out, hbl.setCell (by simp; omega) _⟩
        case measure => simp [intOf]; omega
      · have HS : Hid (cnt1 l 2 = l.set 1 (l.getD 1 0 + 1)) := rfl
        have c1 : wr.cell? ⟨0, 2, none⟩ = some (.int .i64 2) := hp'.cell 2 (by decide)
        have c2 : wr.cell? ⟨w.heap.size + 1 + 1, 1, none⟩ = some (.int .i64 (l.getD 1 0)) := hv.cell 1 (by omega)
        have c3 : wr.frozen? ⟨w.heap.size + 1 + 1, 1, none⟩ = false := hv.frozen 1
        obtain ⟨b1, b2⟩ := hbd 1
        have HV := Lib.hid (hv.set 1 (l.getD 1 0 + 1))
        generalize l.getD 1 0 = q at *
        go_wp2_with fail
        go_roundw
        case rel => exact ⟨k + 1, by omega, by go_num, hr.setOther _ (by simp), by rw [HN.out, HS.out]; exact HV.out, hbl.setCell (by simp; omega) _⟩
        case measure => simp [intOf]; omega
      · have HS : Hid (cnt1 l 3 = l.set 2 (l.getD 2 0 + 1)) := rfl
        have c1 : wr.cell? ⟨0, 3, none⟩ = some (.int .i64 3) := hp'.cell 3 (by decide)
        have c2 : wr.cell? ⟨w.heap.size + 1 + 1, 2, none⟩ = some (.int .i64 (l.getD 2 0)) := hv.cell 2 (by omega)
        have c3 : wr.frozen? ⟨w.heap.size + 1 + 1, 2, none⟩ = false := hv.frozen 2
        obtain ⟨b1, b2⟩ := hbd 2
        have HV := Lib.hid (hv.set 2 (l.getD 2 0 + 1))
        generalize l.getD 2 0 = q at *
        go_wp2_with fail
        go_roundw
        case rel => exact ⟨k + 1, by omega, by go_num, hr.setOther _ (by simp), by rw [HN.out, HS.out]; exact HV.out, hbl.setCell (by simp; omega) _⟩
        case measure => simp [intOf]; omega
      · have HS : Hid (cnt1 l 4 = l.set 3 (l.getD 3 0 + 1)) := rfl
        have c1 : wr.cell? ⟨0, 4, none⟩ = some (.int .i64 4) := hp'.cell 4 (by decide)
        have c2 : wr.cell? ⟨w.heap.size + 1 + 1, 3, none⟩ = some (.int .i64 (l.getD 3 0)) := hv.cell 3 (by omega)
        have c3 : wr.frozen? ⟨w.heap.size + 1 + 1, 3, none⟩ = false := hv.frozen 3
        obtain ⟨b1, b2⟩ := hbd 3
        have HV := Lib.hid (hv.set 3 (l.getD 3 0 + 1))
        generalize l.getD 3 0 = q at *
        go_wp2_with fail
        go_roundw
        case rel => exact ⟨k + 1, by omega, by go_num, hr.setOther _ (by simp), by rw [HN.out, HS.out]; exact HV.out, hbl.setCell (by simp; omega) _⟩
        case measure => simp [intOf]; omega
      · have HS : Hid (cnt1 l 5 = l.set 4 (l.getD 4 0 + 1)) := rfl
        have c1 : wr.cell? ⟨0, 5, none⟩ = some (.int .i64 5) := hp'.cell 5 (by decide)
        have c2 : wr.cell? ⟨w.heap.size + 1 + 1, 4, none⟩ = some (.int .i64 (l.getD 4 0)) := hv.cell 4 (by omega)
        have c3 : wr.frozen? ⟨w.heap.size + 1 + 1, 4, none⟩ = false := hv.frozen 4
        obtain ⟨b1, b2⟩ := hbd 4
        have HV := Lib.hid (hv.set 4 (l.getD 4 0 + 1))
        generalize l.getD 4 0 = q at *
        go_wp2_with fail
        go_roundw
        case rel => exact ⟨k + 1, by omega, by go_num, hr.setOther _ (by simp), by rw [HN.out, HS.out]; exact HV.out, hbl.setCell (by simp; omega) _⟩
        case measure => simp [intOf]; omega
      · have HS : Hid (cnt1 l 7 = l.set 5 (l.getD 5 0 + 1)) := rfl
        have c1 : wr.cell? ⟨0, 7, none⟩ = some (.int .i64 6) := hp'.cell 7 (by decide)
        have c2 : wr.cell? ⟨w.heap.size + 1 + 1, 5, none⟩ = some (.int .i64 (l.getD 5 0)) := hv.cell 5 (by omega)
        have c3 : wr.frozen? ⟨w.heap.size + 1 + 1, 5, none⟩ = false := hv.frozen 5
        obtain ⟨b1, b2⟩ := hbd 5
        have HV := Lib.hid (hv.set 5 (l.getD 5 0 + 1))
        generalize l.getD 5 0 = q at *
        go_wp2_with fail
        go_roundw
        case rel => exact ⟨k + 1, by omega, by go_num, hr.setOther _ (by simp), by rw [HN.out, HS.out]; exact HV.out, hbl.setCell (by simp; omega) _⟩
        case measure => simp [intOf]; omega
      · have HS : Hid (cnt1 l 8 = l.set 6 (l.getD 6 0 + 1)) := rfl
        have c1 : wr.cell? ⟨0, 8, none⟩ = some (.int .i64 7) := hp'.cell 8 (by decide)
        have c2 : wr.cell? ⟨w.heap.size + 1 + 1, 6, none⟩ = some (.int .i64 (l.getD 6 0)) := hv.cell 6 (by omega)
        have c3 : wr.frozen? ⟨w.heap.size + 1 + 1, 6, none⟩ = false := hv.frozen 6
        obtain ⟨b1, b2⟩ := hbd 6
        have HV := Lib.hid (hv.set 6 (l.getD 6 0 + 1))
        generalize l.getD 6 0 = q at *
        go_wp2_with fail
        go_roundw
        case rel => exact ⟨k + 1, by omega, by go_num, hr.setOther _ (by simp), by rw [HN.out, HS.out]; exact HV.out, hbl.setCell (by simp; omega) _⟩
        case measure => simp [intOf]; omega
      · have HS : Hid (cnt1 l 9 = l.set 7 (l.getD 7 0 + 1)) := rfl
        have c1 : wr.cell? ⟨0, 9, none⟩ = some (.int .i64 8) := hp'.cell 9 (by decide)
        have c2 : wr.cell? ⟨w.heap.size + 1 + 1, 7, none⟩ = some (.int .i64 (l.getD 7 0)) := hv.cell 7 (by omega)
        have c3 : wr.frozen? ⟨w.heap.size + 1 + 1, 7, none⟩ = false := hv.frozen 7
        obtain ⟨b1, b2⟩ := hbd 7
        have HV := Lib.hid (hv.set 7 (l.getD 7 0 + 1))
        generalize l.getD 7 0 = q at *
        go_wp2_with fail
        go_roundw
        case rel => exact ⟨k + 1, by omega, by go_num, hr.setOther _ (by simp), by rw [HN.out, HS.out]; exact HV.out, hbl.setCell (by simp; omega) _⟩
        case measure => simp [intOf]; omega
      · have HS : Hid (cnt1 l 10 = l.set 8 (l.getD 8 0 + 1)) := rfl
        have c1 : wr.cell? ⟨0, 10, none⟩ = some (.int .i64 9) := hp'.cell 10 (by decide)
        have c2 : wr.cell? ⟨w.heap.size + 1 + 1, 8, none⟩ = some (.int .i64 (l.getD 8 0)) := hv.cell 8 (by omega)
        have c3 : wr.frozen? ⟨w.heap.size + 1 + 1, 8, none⟩ = false := hv.frozen 8
        obtain ⟨b1, b2⟩ := hbd 8
        have HV := Lib.hid (hv.set 8 (l.getD 8 0 + 1))
        generalize l.getD 8 0 = q at *
        go_wp2_with fail
        go_roundw
        case rel => exact ⟨k + 1, by omega, by go_num, hr.setOther _ (by simp), by rw [HN.out, HS.out]; exact HV.out, hbl.setCell (by simp; omega) _⟩
        case measure => simp [intOf]; omega
      · have HS : Hid (cnt1 l 11 = l.set 9 (l.getD 9 0 + 1)) := rfl
        have c1 : wr.cell? ⟨0, 11, none⟩ = some (.int .i64 10) := hp'.cell 11 (by decide)
        have c2 : wr.cell? ⟨w.heap.size + 1 + 1, 9, none⟩ = some (.int .i64 (l.getD 9 0)) := hv.cell 9 (by omega)
        have c3 : wr.frozen? ⟨w.heap.size + 1 + 1, 9, none⟩ = false := hv.frozen 9
        obtain ⟨b1, b2⟩ := hbd 9
        have HV := Lib.hid (hv.set 9 (l.getD 9 0 + 1))
        generalize l.getD 9 0 = q at *
        go_wp2_with fail
        go_roundw
        case rel => exact ⟨k + 1, by omega, by go_num, hr.setOther _ (by simp), by rw [HN.out, HS.out]; exact HV.out, hbl.setCell (by simp; omega) _⟩
        case measure => simp [intOf]; omega
    · have hk : k = 64 := by omega
      subst hk
      have hlen : (cnt zero10 (b.take 64)).length = 10 := cnt_len _ _
      have HN : Hid (cnt zero10 (b.take 64) = matV b) := by show _ = _; rw [List.take_of_length_le (by omega)]; rfl
      generalize cnt zero10 (b.take 64) = l at *
      go_wp2_with (first
        | (with_reducible refine wpl_load (g := w.heap.size + 1 + 1) (k := .i64) (t := 25) (l := l) hv rfl 25 _ rfl rfl Tryd.underlying25 ?hi ?_)
        | (with_reducible refine wpl_store (g := w.heap.size + 1) (k := .i64) (t := 25) (l := zero10) hr rfl 25 _ _ rfl rfl l rfl ?hl ?hj ?_))
      case hi => rw [hlen]; kernel_rfl
      case hl => exact hlen
      case hj => kernel_rfl
      refine bodyPost_ret (results_cell_row rfl _ _ (w.heap.size + 1) 25 (ints l) (0, 0) _ rfl (hr.setRow l) Tryd.underlying25 rfl (by rw [intsK_size, hlen]; kernel_rfl)) rfl ?_
      exact ⟨by rw [HN.out], below_setRow hbl (by omega) _⟩
end Go.Proofs.YtcnflmbnnobocaaDoor
