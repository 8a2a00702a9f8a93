/- The contract of filled: a board with such material. No condition. -/
import Derived.Test.YtcnflmbnnobocaaDoorMpc
import Derived.Test.YtcnflmbnnobocaaDoorMpt
namespace Go.Proofs.YtcnflmbnnobocaaDoor
open Go Go.RowKit
/-- What filled gives back. -/
def IsFilled (w : World) (l : List Int) (fr st : Int) (e : Ending) (w' : World) : Prop :=
  ∃ (b : List Int) (at_ : Int) (m : Nat), Fl fr st b at_ m (fun j => l.getD j 0) ∧ (m : Int) ≤ 32 ∧ e = .returned (.agg (ints b)) ∧ Below w.heap.size w w'
/-- The board under way in memory: the block of the material, the step, the result, the board, the place. -/
def FlW (w : World) (l : List Int) (fr st : Int) (q i k : Nat) (w' : World) : Prop :=
  ∃ (b : List Int) (at_ : Int) (m : Nat), Fl fr st b at_ m (cAt l i k) ∧ (m : Int) ≤ q + sumTo l i + k ∧ Holds w' w.heap.size .i64 25 l ∧ Holds w' (w.heap.size + 1) .u8 5 [st] ∧ Holds w' (w.heap.size + 1 + 1) .i64 23 zero64 ∧ Holds w' (w.heap.size + 1 + 1 + 1) .i64 23 b ∧ Holds w' (w.heap.size + 1 + 1 + 1 + 1) .i64 3 [at_] ∧ Below w.heap.size w w'
theorem put_FlW {w w1 : World} {l : List Int} {fr st : Int} {q q' i k k' : Nat} (h : FlW w l fr st q i k w1) (s0 : 0 ≤ st) (s1 : st ≤ 255) (hS : (q : Int) + sumTo l i + k < 64) (p : Int) (p0 : 1 ≤ p) (p1 : p ≤ 12)
    (hc : ∀ j, j < 10 → cAt l i k' j = cAt l i k j + if plc p = (j : Int) + 1 then 1 else 0) (hk : q + k + 1 = q' + k') :
    Calls Tryd.prog 33 #[.int .i64 p, .pointer (some ⟨w.heap.size + 1 + 1 + 1, 0, none⟩), .pointer (some ⟨w.heap.size + 1 + 1 + 1 + 1, 0, none⟩), .pointer (some ⟨w.heap.size + 1, 0, none⟩)] w1 fun e w2 => e = .returned (.tuple #[]) ∧ FlW w l fr st q' i k' w2 := by
  obtain ⟨b, at_, m, hF, hm, h0, h1, h2, h3, h4, hb⟩ := h
  obtain ⟨f, hf, hfree⟩ := hF.free (by omega)
  have a0 := hF.at0
  have a1 := hF.at1
  refine (put_any b hF.len at_ st p a0 (by omega) s0 s1 _ _ _ (by omega) (by omega) (by omega) f hf hfree w1 h3 h4 h1).mono ?_
  rintro e w2 ⟨d, hd, hz, hn, rfl, hB, hA, hT⟩
  exact ⟨rfl, _, _, m + 1, hF.put s0 s1 (by omega) hd hz hn p p0 p1 hc, by omega, hT.holds h0 (by omega) (by omega), hT.holds h1 (by omega) (by omega), hT.holds h2 (by omega) (by omega), hB, hA, hb.trans (hT.below _ (by omega) (by omega))⟩
set_option maxRecDepth 100000 in
set_option maxHeartbeats 2000000 in
theorem filled_any (l : List Int) (hl : l.length = 10) (hp : ∀ i, 0 ≤ l.getD i 0 ∧ l.getD i 0 ≤ 15) (hs : ∀ i, i ≤ 10 → sumTo l i ≤ 30) (fr st : Int) (f0 : 0 ≤ fr) (f1 : fr ≤ 255) (s0 : 0 ≤ st) (s1 : st ≤ 255) (w : World) :
    Calls Tryd.prog 25 #[.agg (ints l), .int .u8 fr, .int .u8 st] w (IsFilled w l fr st) := by
  have HS := Lib.hid hs
  have HP := Lib.hid hp
  clear hs hp
  go_enter Tryd.func25, Tryd.ntmps25
  go_wp2_with fail
  have z0 : sumTo l 0 = 0 := rfl
  have hF0 : FlW w l fr st 0 0 0 (((((w.alloc (.cells (intsK .i64 l) 25)).alloc (.cells #[.int .u8 st] 5)).alloc (.cells (intsK .i64 zero64) 23)).alloc (.cells (intsK .i64 zero64) 23)).alloc (.cells #[.int .i64 fr] 3)) := by
    refine ⟨zero64, fr, 0, ?_, by rw [z0]; decide, ?_, ?_, ?_, ?_, ?_, by go_grown⟩
    · have h := Fl.start fr st f0 f1
      exact ⟨h.len, h.rng, h.nz, fun j hj => by rw [h.cnt j hj]; unfold cAt; rw [if_neg (by omega)]; split <;> rfl, h.at0, h.at1, h.one⟩
    · exact ((((Holds.new w .i64 25 l).alloc _).alloc _).alloc _).alloc _
    · exact (((Holds.newAt (n := w.heap.size + 1) .u8 5 [st] (by simp)).alloc _).alloc _).alloc _
    · exact ((Holds.newAt (n := w.heap.size + 1 + 1) .i64 23 zero64 (by simp)).alloc _).alloc _
    · exact (Holds.newAt (n := w.heap.size + 1 + 1 + 1) .i64 23 zero64 (by simp)).alloc _
    · exact Holds.newAt (n := w.heap.size + 1 + 1 + 1 + 1) .i64 3 [fr] (by simp)
  refine (put_FlW (q' := 1) (k' := 0) hF0 s0 s1 (by rw [z0]; decide) 6 (by omega) (by omega) (fun j hj => by rw [if_neg (by rw [show plc 6 = 0 by decide]; omega)]; omega) rfl).mono ?_
  rintro e w1 ⟨rfl, hF1⟩
  clear hF0
  go_wp2_with fail
  refine (put_FlW (q' := 2) (k' := 0) hF1 s0 s1 (by rw [z0]; decide) 12 (by omega) (by omega) (fun j hj => by rw [if_neg (by rw [show plc 12 = 0 by decide]; omega)]; omega) rfl).mono ?_
  rintro e w2 ⟨rfl, hF2⟩
  clear hF1
  go_wp2_with fail
  go_loopw [10] (fun v wr => ∃ i : Nat, i ≤ 10 ∧ v = .int .i64 i ∧ FlW w l fr st 2 i 0 wr) (fun v _ => 10 - (intOf v).toNat)
  case atStart => exact ⟨0, by omega, rfl, hF2⟩
  case round =>
    obtain ⟨i, hi, rfl, hW⟩ := hrel
    clear hF2
    by_cases hlt : i < 10
    · have d1 : 0 ≤ (i : Int) % 5 := by omega
      have d2 : (i : Int) % 5 < 5 := by omega
      have d3 : 0 ≤ (i : Int) / 5 := by omega
      have d4 : (i : Int) / 5 < 2 := by omega
      have HI := Lib.hid hlt
      have hdi : decide ((i : Int) < 10) = true := by simp; omega
      go_wp2_with fail
      go_loopg [11] 16 (fun m v wr => ∃ k : Nat, m = 16 - k ∧ (k : Int) ≤ l.getD i 0 ∧ v = .int .i64 k ∧ FlW w l fr st 2 i k wr)
      case atStart => exact ⟨0, rfl, (HP.out i).1, rfl, hW⟩
      case round =>
        obtain ⟨k, hkm, hk, rfl, hW2⟩ := hrel
        have HK := Lib.hid hkm
        clear hkm
        clear hW
        have hp2 := (HP.out i).2
        have c1 : wr.cell? ⟨w.heap.size, i, none⟩ = some (.int .i64 (l.getD i 0)) := by
          obtain ⟨b, at_, m, _, _, h0, _⟩ := hW2
          exact h0.cell i (by omega)
        by_cases hkl : (k : Int) < l.getD i 0
        · have hs1 : sumTo l i + k < 60 := by
            have := HS.out (i + 1) (by omega)
            rw [show sumTo l (i + 1) = sumTo l i + l.getD i 0 from rfl] at this
            omega
          obtain ⟨p1, p2, p3⟩ := plc_of i HI.out
          have HC : Hid (Calls Tryd.prog 33 #[.int .i64 (1 + (i : Int) % 5 + 6 * ((i : Int) / 5)), .pointer (some ⟨w.heap.size + 1 + 1 + 1, 0, none⟩), .pointer (some ⟨w.heap.size + 1 + 1 + 1 + 1, 0, none⟩), .pointer (some ⟨w.heap.size + 1, 0, none⟩)] wr fun e w2 => e = .returned (.tuple #[]) ∧ FlW w l fr st 2 i (k + 1) w2) :=
            put_FlW hW2 s0 s1 (by omega) _ p2 p3 (cAt_put l i k HI.out) (by omega)
          generalize l.getD i 0 = z at *
          clear hs1 p1 hW2
          go_wp2_with (go_at_call 33; refine HC.out.mono ?_; rintro e w3 ⟨rfl, hW3⟩)
          go_roundg (16 - (k + 1))
          case measure => have := HK.out; omega
          case rel => exact ⟨k + 1, rfl, by omega, by go_num, hW3⟩
        · have hkz : l.getD i 0 = k := by omega
          have HW : Hid (FlW w l fr st 2 (i + 1) 0 wr) := by
            obtain ⟨b, at_, m, hF, hm, hr⟩ := hW2
            refine Lib.hid ⟨b, at_, m, ?_, ?_, hr⟩
            · rw [← cAt_next l i k hkz]; exact hF
            · rw [show sumTo l (i + 1) = sumTo l i + l.getD i 0 from rfl]; omega
          clear hkz hW2
          generalize l.getD i 0 = z at *
          go_wp2_with fail
          go_roundw
          case rel => exact ⟨i + 1, by have := HI.out; omega, by go_num, HW.out⟩
          case measure => have := HI.out; simp [intOf]; omega
    · have : i = 10 := by omega
      subst this
      obtain ⟨b, at_, m, hF, hm, h0, h1, h2, h3, h4, hb⟩ := hW
      have hlen := hF.len
      have hF' : Fl fr st b at_ m (fun j => l.getD j 0) := ⟨hF.len, hF.rng, hF.nz, fun j hj => by rw [hF.cnt j hj]; unfold cAt; rw [if_pos (by omega)], hF.at0, hF.at1, hF.one⟩
      have hm' : (m : Int) ≤ 32 := by have := HS.out 10 (by omega); omega
      have HH := Lib.hid (And.intro hF' (And.intro hm' hb))
      clear hF hF' hm hm' hb
      go_wp2_with (first
        | (with_reducible refine wpl_load (g := w.heap.size + 1 + 1 + 1) (k := .i64) (t := 23) (l := b) h3 rfl 23 _ rfl rfl Tryd.underlying23 ?hi ?_)
        | (with_reducible refine wpl_store (g := w.heap.size + 1 + 1) (k := .i64) (t := 23) (l := zero64) h2 rfl 23 _ _ rfl rfl b rfl ?hl ?hj ?_))
      case hi => rw [hlen]; kernel_rfl
      case hl => exact hlen
      case hj => kernel_rfl
      refine bodyPost_ret (results_cell_row rfl _ _ (w.heap.size + 1 + 1) 23 (ints b) (0, 0) _ rfl (h2.setRow b) Tryd.underlying23 rfl (by rw [intsK_size, hlen]; kernel_rfl)) rfl ?_
      obtain ⟨hF, hm, hb⟩ := HH.out
      exact ⟨b, at_, m, hF, hm, rfl, below_setRow hb (by omega) _⟩
end Go.Proofs.YtcnflmbnnobocaaDoor
