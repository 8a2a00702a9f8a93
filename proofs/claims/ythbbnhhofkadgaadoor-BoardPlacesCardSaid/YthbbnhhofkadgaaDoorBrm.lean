/- The contract of the reference's Move. No condition. -/
import Derived.Test.YthbbnhhofkadgaaDoorBrf
namespace Go.Proofs.YthbbnhhofkadgaaDoor
open Go Go.RowKit
set_option maxRecDepth 100000 in
set_option maxHeartbeats 600000 in
theorem rmv_c0 (b : List Int) (hb : b.length = 64) (f t : Int) (w : World) (h : ¬ okB b) :
    Calls Tryd.prog 32 #[.agg (ints b), .int .i64 f, .int .i64 t] w fun e w' => e = .returned (.tuple #[.agg (ints (mvV b f t)), .int .i64 (mvE b f t)]) ∧ Below w.heap.size w w' := by
  have hi : (Tryd.prog.info? 24).map (·.size) = some b.length := by rw [hb]; kernel_rfl
  have hg : Holds ((w.alloc (.cells (intsK .i64 b) 24)).alloc (.cells (intsK .i64 zero64) 24)) w.heap.size .i64 24 b := (Holds.new w .i64 24 b).alloc _
  have hz : Holds ((w.alloc (.cells (intsK .i64 b) 24)).alloc (.cells (intsK .i64 zero64) 24)) (w.heap.size + 1) .i64 24 zero64 := Holds.newAt .i64 24 zero64 (by simp)
  have hB : Below w.heap.size w ((w.alloc (.cells (intsK .i64 b) 24)).alloc (.cells (intsK .i64 zero64) 24)) := ((Below.refl _ _).alloc (Nat.le_refl _) _).alloc (by simp) _
  have HC := Lib.hid (chkB_f h)
  have HE : Hid (mvE b f t = 2) := Lib.hid (mv2 (.inl h))
  have HV := Lib.hid (mvV_f HE.out (by decide))
  clear h
  go_enter Tryd.func32, Tryd.ntmps32
  go_wp2_with (first
    | (with_reducible refine wpl_load (g := w.heap.size) (k := .i64) (t := 24) (l := b) ?hg rfl 24 _ rfl rfl Tryd.underlying24 hi ?_)
    | (go_at_call 23; refine (checkr_any b hb _).mono ?_; rintro e w1 ⟨rfl, hb1⟩; rw [HC.out]; have hg1 := hg.below hb1 (by simp; omega); have hz1 := hz.below hb1 (by simp); have hB1 := hB.trans (hb1.mono hB.size))
    | (with_reducible refine wpl_store (g := w.heap.size + 1) (k := .i64) (t := 24) (l := zero64) hz1 rfl 24 _ _ rfl rfl zero64 rfl ?hl ?hj ?_))
  case hg => exact (Holds.new w .i64 24 b).alloc _
  case hl => rfl
  case hj => exact z64_info
  refine bodyPost_ret (results_row2 rfl _ _ (w.heap.size + 1) (l := zero64) rfl (hz1.setRow _) Tryd.underlying24 rfl z64_info) rfl ?_
  exact ⟨by rw [HE.out, HV.out]; rfl, below_setRow hB1 (by omega) _⟩
set_option maxRecDepth 100000 in
set_option maxHeartbeats 600000 in
theorem rmv_c1 (b : List Int) (hb : b.length = 64) (f t : Int) (w : World) (h : okB b ∧ f = t) :
    Calls Tryd.prog 32 #[.agg (ints b), .int .i64 f, .int .i64 t] w fun e w' => e = .returned (.tuple #[.agg (ints (mvV b f t)), .int .i64 (mvE b f t)]) ∧ Below w.heap.size w w' := by
  have hi : (Tryd.prog.info? 24).map (·.size) = some b.length := by rw [hb]; kernel_rfl
  have hg : Holds ((w.alloc (.cells (intsK .i64 b) 24)).alloc (.cells (intsK .i64 zero64) 24)) w.heap.size .i64 24 b := (Holds.new w .i64 24 b).alloc _
  have hz : Holds ((w.alloc (.cells (intsK .i64 b) 24)).alloc (.cells (intsK .i64 zero64) 24)) (w.heap.size + 1) .i64 24 zero64 := Holds.newAt .i64 24 zero64 (by simp)
  have hB : Below w.heap.size w ((w.alloc (.cells (intsK .i64 b) 24)).alloc (.cells (intsK .i64 zero64) 24)) := ((Below.refl _ _).alloc (Nat.le_refl _) _).alloc (by simp) _
  obtain ⟨h, rfl⟩ := h
  have HC := Lib.hid (chkB_t h)
  have HE : Hid (mvE b f f = 2) := Lib.hid (mv2 (.inr rfl))
  have HV := Lib.hid (mvV_f HE.out (by decide))
  clear h
  go_enter Tryd.func32, Tryd.ntmps32
  go_wp2_with (first
    | (with_reducible refine wpl_load (g := w.heap.size) (k := .i64) (t := 24) (l := b) ?hg rfl 24 _ rfl rfl Tryd.underlying24 hi ?_)
    | (go_at_call 23; refine (checkr_any b hb _).mono ?_; rintro e w1 ⟨rfl, hb1⟩; rw [HC.out]; have hg1 := hg.below hb1 (by simp; omega); have hz1 := hz.below hb1 (by simp); have hB1 := hB.trans (hb1.mono hB.size))
    | (with_reducible refine wpl_store (g := w.heap.size + 1) (k := .i64) (t := 24) (l := zero64) hz1 rfl 24 _ _ rfl rfl zero64 rfl ?hl ?hj ?_))
  case hg => exact (Holds.new w .i64 24 b).alloc _
  case hl => rfl
  case hj => exact z64_info
  refine bodyPost_ret (results_row2 rfl _ _ (w.heap.size + 1) (l := zero64) rfl (hz1.setRow _) Tryd.underlying24 rfl z64_info) rfl ?_
  exact ⟨by rw [HE.out, HV.out]; rfl, below_setRow hB1 (by omega) _⟩
set_option maxRecDepth 100000 in
set_option maxHeartbeats 600000 in
theorem rmv_c2 (b : List Int) (hb : b.length = 64) (f t : Int) (w : World) (h : okB b ∧ f ≠ t ∧ f < 0) :
    Calls Tryd.prog 32 #[.agg (ints b), .int .i64 f, .int .i64 t] w fun e w' => e = .returned (.tuple #[.agg (ints (mvV b f t)), .int .i64 (mvE b f t)]) ∧ Below w.heap.size w w' := by
  have hi : (Tryd.prog.info? 24).map (·.size) = some b.length := by rw [hb]; kernel_rfl
  have hg : Holds ((w.alloc (.cells (intsK .i64 b) 24)).alloc (.cells (intsK .i64 zero64) 24)) w.heap.size .i64 24 b := (Holds.new w .i64 24 b).alloc _
  have hz : Holds ((w.alloc (.cells (intsK .i64 b) 24)).alloc (.cells (intsK .i64 zero64) 24)) (w.heap.size + 1) .i64 24 zero64 := Holds.newAt .i64 24 zero64 (by simp)
  have hB : Below w.heap.size w ((w.alloc (.cells (intsK .i64 b) 24)).alloc (.cells (intsK .i64 zero64) 24)) := ((Below.refl _ _).alloc (Nat.le_refl _) _).alloc (by simp) _
  obtain ⟨h, hn, h3⟩ := h
  have HC := Lib.hid (chkB_t h)
  have HE : Hid (mvE b f t = 3) := Lib.hid (mv3 h hn (.inl (fun q => by unfold inS at q; omega)))
  have HV := Lib.hid (mvV_f HE.out (by decide))
  have hne : (f == t) = false := by simpa using hn
  clear h hn

  go_enter Tryd.func32, Tryd.ntmps32
  go_wp2_with (first
    | (with_reducible refine wpl_load (g := w.heap.size) (k := .i64) (t := 24) (l := b) ?hg rfl 24 _ rfl rfl Tryd.underlying24 hi ?_)
    | (go_at_call 23; refine (checkr_any b hb _).mono ?_; rintro e w1 ⟨rfl, hb1⟩; rw [HC.out]; have hg1 := hg.below hb1 (by simp; omega); have hz1 := hz.below hb1 (by simp); have hB1 := hB.trans (hb1.mono hB.size))
    | (with_reducible refine wpl_store (g := w.heap.size + 1) (k := .i64) (t := 24) (l := zero64) hz1 rfl 24 _ _ rfl rfl zero64 rfl ?hl ?hj ?_))
  case hg => exact (Holds.new w .i64 24 b).alloc _
  case hl => rfl
  case hj => exact z64_info
  refine bodyPost_ret (results_row2 rfl _ _ (w.heap.size + 1) (l := zero64) rfl (hz1.setRow _) Tryd.underlying24 rfl z64_info) rfl ?_
  exact ⟨by rw [HE.out, HV.out]; rfl, below_setRow hB1 (by omega) _⟩
set_option maxRecDepth 100000 in
set_option maxHeartbeats 600000 in
theorem rmv_c3 (b : List Int) (hb : b.length = 64) (f t : Int) (w : World) (h : okB b ∧ f ≠ t ∧ 0 ≤ f ∧ 63 < f) :
    Calls Tryd.prog 32 #[.agg (ints b), .int .i64 f, .int .i64 t] w fun e w' => e = .returned (.tuple #[.agg (ints (mvV b f t)), .int .i64 (mvE b f t)]) ∧ Below w.heap.size w w' := by
  have hi : (Tryd.prog.info? 24).map (·.size) = some b.length := by rw [hb]; kernel_rfl
  have hg : Holds ((w.alloc (.cells (intsK .i64 b) 24)).alloc (.cells (intsK .i64 zero64) 24)) w.heap.size .i64 24 b := (Holds.new w .i64 24 b).alloc _
  have hz : Holds ((w.alloc (.cells (intsK .i64 b) 24)).alloc (.cells (intsK .i64 zero64) 24)) (w.heap.size + 1) .i64 24 zero64 := Holds.newAt .i64 24 zero64 (by simp)
  have hB : Below w.heap.size w ((w.alloc (.cells (intsK .i64 b) 24)).alloc (.cells (intsK .i64 zero64) 24)) := ((Below.refl _ _).alloc (Nat.le_refl _) _).alloc (by simp) _
  obtain ⟨h, hn, h3⟩ := h
  have HC := Lib.hid (chkB_t h)
  have HE : Hid (mvE b f t = 3) := Lib.hid (mv3 h hn (.inl (fun q => by unfold inS at q; omega)))
  have HV := Lib.hid (mvV_f HE.out (by decide))
  have hne : (f == t) = false := by simpa using hn
  clear h hn
  obtain ⟨h4, h5⟩ := h3
  have d1 : decide (f < 0) = false := by simp; omega
  go_enter Tryd.func32, Tryd.ntmps32
  go_wp2_with (first
    | (with_reducible refine wpl_load (g := w.heap.size) (k := .i64) (t := 24) (l := b) ?hg rfl 24 _ rfl rfl Tryd.underlying24 hi ?_)
    | (go_at_call 23; refine (checkr_any b hb _).mono ?_; rintro e w1 ⟨rfl, hb1⟩; rw [HC.out]; have hg1 := hg.below hb1 (by simp; omega); have hz1 := hz.below hb1 (by simp); have hB1 := hB.trans (hb1.mono hB.size))
    | (with_reducible refine wpl_store (g := w.heap.size + 1) (k := .i64) (t := 24) (l := zero64) hz1 rfl 24 _ _ rfl rfl zero64 rfl ?hl ?hj ?_))
  case hg => exact (Holds.new w .i64 24 b).alloc _
  case hl => rfl
  case hj => exact z64_info
  refine bodyPost_ret (results_row2 rfl _ _ (w.heap.size + 1) (l := zero64) rfl (hz1.setRow _) Tryd.underlying24 rfl z64_info) rfl ?_
  exact ⟨by rw [HE.out, HV.out]; rfl, below_setRow hB1 (by omega) _⟩
set_option maxRecDepth 100000 in
set_option maxHeartbeats 600000 in
theorem rmv_c4 (b : List Int) (hb : b.length = 64) (f t : Int) (w : World) (h : okB b ∧ f ≠ t ∧ 0 ≤ f ∧ f ≤ 63 ∧ t < 0) :
    Calls Tryd.prog 32 #[.agg (ints b), .int .i64 f, .int .i64 t] w fun e w' => e = .returned (.tuple #[.agg (ints (mvV b f t)), .int .i64 (mvE b f t)]) ∧ Below w.heap.size w w' := by
  have hi : (Tryd.prog.info? 24).map (·.size) = some b.length := by rw [hb]; kernel_rfl
  have hg : Holds ((w.alloc (.cells (intsK .i64 b) 24)).alloc (.cells (intsK .i64 zero64) 24)) w.heap.size .i64 24 b := (Holds.new w .i64 24 b).alloc _
  have hz : Holds ((w.alloc (.cells (intsK .i64 b) 24)).alloc (.cells (intsK .i64 zero64) 24)) (w.heap.size + 1) .i64 24 zero64 := Holds.newAt .i64 24 zero64 (by simp)
  have hB : Below w.heap.size w ((w.alloc (.cells (intsK .i64 b) 24)).alloc (.cells (intsK .i64 zero64) 24)) := ((Below.refl _ _).alloc (Nat.le_refl _) _).alloc (by simp) _
  obtain ⟨h, hn, h3⟩ := h
  have HC := Lib.hid (chkB_t h)
  have HE : Hid (mvE b f t = 3) := Lib.hid (mv3 h hn (.inr (fun q => by unfold inS at q; omega)))
  have HV := Lib.hid (mvV_f HE.out (by decide))
  have hne : (f == t) = false := by simpa using hn
  clear h hn
  obtain ⟨h4, h5, h6⟩ := h3
  have d1 : decide (f < 0) = false := by simp; omega
  have d2 : decide (63 < f) = false := by simp; omega
  go_enter Tryd.func32, Tryd.ntmps32
  go_wp2_with (first
    | (with_reducible refine wpl_load (g := w.heap.size) (k := .i64) (t := 24) (l := b) ?hg rfl 24 _ rfl rfl Tryd.underlying24 hi ?_)
    | (go_at_call 23; refine (checkr_any b hb _).mono ?_; rintro e w1 ⟨rfl, hb1⟩; rw [HC.out]; have hg1 := hg.below hb1 (by simp; omega); have hz1 := hz.below hb1 (by simp); have hB1 := hB.trans (hb1.mono hB.size))
    | (with_reducible refine wpl_store (g := w.heap.size + 1) (k := .i64) (t := 24) (l := zero64) hz1 rfl 24 _ _ rfl rfl zero64 rfl ?hl ?hj ?_))
  case hg => exact (Holds.new w .i64 24 b).alloc _
  case hl => rfl
  case hj => exact z64_info
  refine bodyPost_ret (results_row2 rfl _ _ (w.heap.size + 1) (l := zero64) rfl (hz1.setRow _) Tryd.underlying24 rfl z64_info) rfl ?_
  exact ⟨by rw [HE.out, HV.out]; rfl, below_setRow hB1 (by omega) _⟩
set_option maxRecDepth 100000 in
set_option maxHeartbeats 600000 in
theorem rmv_c5 (b : List Int) (hb : b.length = 64) (f t : Int) (w : World) (h : okB b ∧ f ≠ t ∧ 0 ≤ f ∧ f ≤ 63 ∧ 0 ≤ t ∧ 63 < t) :
    Calls Tryd.prog 32 #[.agg (ints b), .int .i64 f, .int .i64 t] w fun e w' => e = .returned (.tuple #[.agg (ints (mvV b f t)), .int .i64 (mvE b f t)]) ∧ Below w.heap.size w w' := by
  have hi : (Tryd.prog.info? 24).map (·.size) = some b.length := by rw [hb]; kernel_rfl
  have hg : Holds ((w.alloc (.cells (intsK .i64 b) 24)).alloc (.cells (intsK .i64 zero64) 24)) w.heap.size .i64 24 b := (Holds.new w .i64 24 b).alloc _
  have hz : Holds ((w.alloc (.cells (intsK .i64 b) 24)).alloc (.cells (intsK .i64 zero64) 24)) (w.heap.size + 1) .i64 24 zero64 := Holds.newAt .i64 24 zero64 (by simp)
  have hB : Below w.heap.size w ((w.alloc (.cells (intsK .i64 b) 24)).alloc (.cells (intsK .i64 zero64) 24)) := ((Below.refl _ _).alloc (Nat.le_refl _) _).alloc (by simp) _
  obtain ⟨h, hn, h3⟩ := h
  have HC := Lib.hid (chkB_t h)
  have HE : Hid (mvE b f t = 3) := Lib.hid (mv3 h hn (.inr (fun q => by unfold inS at q; omega)))
  have HV := Lib.hid (mvV_f HE.out (by decide))
  have hne : (f == t) = false := by simpa using hn
  clear h hn
  obtain ⟨h4, h5, h6, h7⟩ := h3
  have d1 : decide (f < 0) = false := by simp; omega
  have d2 : decide (63 < f) = false := by simp; omega
  have d3 : decide (t < 0) = false := by simp; omega
  go_enter Tryd.func32, Tryd.ntmps32
  go_wp2_with (first
    | (with_reducible refine wpl_load (g := w.heap.size) (k := .i64) (t := 24) (l := b) ?hg rfl 24 _ rfl rfl Tryd.underlying24 hi ?_)
    | (go_at_call 23; refine (checkr_any b hb _).mono ?_; rintro e w1 ⟨rfl, hb1⟩; rw [HC.out]; have hg1 := hg.below hb1 (by simp; omega); have hz1 := hz.below hb1 (by simp); have hB1 := hB.trans (hb1.mono hB.size))
    | (with_reducible refine wpl_store (g := w.heap.size + 1) (k := .i64) (t := 24) (l := zero64) hz1 rfl 24 _ _ rfl rfl zero64 rfl ?hl ?hj ?_))
  case hg => exact (Holds.new w .i64 24 b).alloc _
  case hl => rfl
  case hj => exact z64_info
  refine bodyPost_ret (results_row2 rfl _ _ (w.heap.size + 1) (l := zero64) rfl (hz1.setRow _) Tryd.underlying24 rfl z64_info) rfl ?_
  exact ⟨by rw [HE.out, HV.out]; rfl, below_setRow hB1 (by omega) _⟩
set_option maxRecDepth 100000 in
set_option maxHeartbeats 600000 in
theorem rmv_c6 (b : List Int) (hb : b.length = 64) (f t : Int) (w : World) (h : okB b ∧ f ≠ t ∧ inS f ∧ inS t ∧ b.getD f.toNat 0 = 0) :
    Calls Tryd.prog 32 #[.agg (ints b), .int .i64 f, .int .i64 t] w fun e w' => e = .returned (.tuple #[.agg (ints (mvV b f t)), .int .i64 (mvE b f t)]) ∧ Below w.heap.size w w' := by
  have hi : (Tryd.prog.info? 24).map (·.size) = some b.length := by rw [hb]; kernel_rfl
  have hg : Holds ((w.alloc (.cells (intsK .i64 b) 24)).alloc (.cells (intsK .i64 zero64) 24)) w.heap.size .i64 24 b := (Holds.new w .i64 24 b).alloc _
  have hz : Holds ((w.alloc (.cells (intsK .i64 b) 24)).alloc (.cells (intsK .i64 zero64) 24)) (w.heap.size + 1) .i64 24 zero64 := Holds.newAt .i64 24 zero64 (by simp)
  have hB : Below w.heap.size w ((w.alloc (.cells (intsK .i64 b) 24)).alloc (.cells (intsK .i64 zero64) 24)) := ((Below.refl _ _).alloc (Nat.le_refl _) _).alloc (by simp) _
  obtain ⟨h, hn, h3, h4, h5⟩ := h
  have HC := Lib.hid (chkB_t h)
  have HE : Hid (mvE b f t = 5) := Lib.hid (mv5 h hn h3 h4 h5)
  have HV := Lib.hid (mvV_f HE.out (by decide))
  have H5 := Lib.hid h5
  have hne : (f == t) = false := by simpa using hn
  obtain ⟨f0, f1⟩ := h3
  obtain ⟨t0, t1⟩ := h4
  clear h hn h5
  have d1 : decide (f < 0) = false := by simp; omega
  have d2 : decide (63 < f) = false := by simp; omega
  have d3 : decide (t < 0) = false := by simp; omega
  have d4 : decide (63 < t) = false := by simp; omega
  go_enter Tryd.func32, Tryd.ntmps32
  go_wp2_with (first
    | (with_reducible refine wpl_load (g := w.heap.size) (k := .i64) (t := 24) (l := b) ?hg rfl 24 _ rfl rfl Tryd.underlying24 hi ?_)
    | (go_at_call 23; refine (checkr_any b hb _).mono ?_; rintro e w1 ⟨rfl, hb1⟩; rw [HC.out]; have hg1 := hg.below hb1 (by simp; omega); have hz1 := hz.below hb1 (by simp); have hB1 := hB.trans (hb1.mono hB.size); have c1 := hg1.cell f.toNat (by omega); rw [H5.out] at c1)
    | (with_reducible refine wpl_store (g := w.heap.size + 1) (k := .i64) (t := 24) (l := zero64) hz1 rfl 24 _ _ rfl rfl zero64 rfl ?hl ?hj ?_))
  case hg => exact (Holds.new w .i64 24 b).alloc _
  case hl => rfl
  case hj => exact z64_info
  refine bodyPost_ret (results_row2 rfl _ _ (w.heap.size + 1) (l := zero64) rfl (hz1.setRow _) Tryd.underlying24 rfl z64_info) rfl ?_
  exact ⟨by rw [HE.out, HV.out]; rfl, below_setRow hB1 (by omega) _⟩
set_option maxRecDepth 100000 in
set_option maxHeartbeats 600000 in
theorem rmv_c7 (b : List Int) (hb : b.length = 64) (f t : Int) (w : World) (h : okB b ∧ f ≠ t ∧ inS f ∧ inS t ∧ b.getD f.toNat 0 ≠ 0) :
    Calls Tryd.prog 32 #[.agg (ints b), .int .i64 f, .int .i64 t] w fun e w' => e = .returned (.tuple #[.agg (ints (mvV b f t)), .int .i64 (mvE b f t)]) ∧ Below w.heap.size w w' := by
  have hi : (Tryd.prog.info? 24).map (·.size) = some b.length := by rw [hb]; kernel_rfl
  have hg : Holds ((w.alloc (.cells (intsK .i64 b) 24)).alloc (.cells (intsK .i64 zero64) 24)) w.heap.size .i64 24 b := (Holds.new w .i64 24 b).alloc _
  have hz : Holds ((w.alloc (.cells (intsK .i64 b) 24)).alloc (.cells (intsK .i64 zero64) 24)) (w.heap.size + 1) .i64 24 zero64 := Holds.newAt .i64 24 zero64 (by simp)
  have hB : Below w.heap.size w ((w.alloc (.cells (intsK .i64 b) 24)).alloc (.cells (intsK .i64 zero64) 24)) := ((Below.refl _ _).alloc (Nat.le_refl _) _).alloc (by simp) _
  obtain ⟨h, hn, h3, h4, h5⟩ := h
  have HC := Lib.hid (chkB_t h)
  have HE : Hid (mvE b f t = 0) := Lib.hid (mv0 h hn h3 h4 h5)
  have HV := Lib.hid (mvV_t HE.out)
  have hne : (f == t) = false := by simpa using hn
  obtain ⟨f0, f1⟩ := h3
  obtain ⟨t0, t1⟩ := h4
  have hnt : t.toNat ≠ f.toNat := by omega
  have h5' : (b.getD f.toNat 0 == 0) = false := by simpa using h5
  have hl1 : ((b.set t.toNat (b.getD f.toNat 0)).set f.toNat 0).length = zero64.length := by simp [hb]; rfl
  have il : (Tryd.prog.info? 24).map (·.size) = some ((b.set t.toNat (b.getD f.toNat 0)).set f.toNat 0).length := by rw [hl1]; exact z64_info
  obtain ⟨x, hx⟩ : ∃ x, b.getD f.toNat 0 = x := ⟨_, rfl⟩
  rw [hx] at h5' hl1 il
  have HX := Lib.hid hx
  clear h hn h5 hx
  have d1 : decide (f < 0) = false := by simp; omega
  have d2 : decide (63 < f) = false := by simp; omega
  have d3 : decide (t < 0) = false := by simp; omega
  have d4 : decide (63 < t) = false := by simp; omega
  go_enter Tryd.func32, Tryd.ntmps32
  go_upto_region 7 with (first
    | (with_reducible refine wpl_load (g := w.heap.size) (k := .i64) (t := 24) (l := b) ?hg rfl 24 _ rfl rfl Tryd.underlying24 hi ?_)
    | (go_at_call 23; refine (checkr_any b hb _).mono ?_; rintro e w1 ⟨rfl, hb1⟩; rw [HC.out]; have hg1 := hg.below hb1 (by simp; omega); have hz1 := hz.below hb1 (by simp); have hB1 := hB.trans (hb1.mono hB.size); have c1 : w1.cell? ⟨w.heap.size, f.toNat, none⟩ = some (.int .i64 x) := by rw [hg1.cell f.toNat (by omega), HX.out]))
  case hg => exact (Holds.new w .i64 24 b).alloc _
  have c2 := hg1.cell t.toNat (by omega)
  have c3 := hg1.frozen t.toNat
  have hg2 := hg1.set t.toNat x
  have c4 := hg2.cell f.toNat (by rw [List.length_set]; omega)
  have c5 := hg2.frozen f.toNat
  have hg3 := hg2.set f.toNat 0
  have hz3 := (hz1.setOther (a := ⟨w.heap.size, t.toNat, none⟩) (.int .i64 x) (by simp)).setOther (a := ⟨w.heap.size, f.toNat, none⟩) (.int .i64 0) (by simp)
  have hB3 := (hB1.setCell (p := ⟨w.heap.size, t.toNat, none⟩) (Nat.le_refl _) (.int .i64 x)).setCell (p := ⟨w.heap.size, f.toNat, none⟩) (Nat.le_refl _) (.int .i64 0)
  clear hg2
  go_upto_region 9 with fail
  clear c1 c2 c3 c4 c5 hg1 hz1 hB1
  generalize World.setCell _ _ _ = w3 at *
  go_wp2_with (first
    | (with_reducible refine wpl_load (g := w.heap.size) (k := .i64) (t := 24) hg3 rfl 24 _ rfl rfl Tryd.underlying24 il ?_)
    | (with_reducible refine wpl_store (g := w.heap.size + 1) (k := .i64) (t := 24) (l := zero64) hz3 rfl 24 _ _ rfl rfl _ rfl hl1 z64_info ?_))
  refine bodyPost_ret (results_row2 rfl _ _ (w.heap.size + 1) rfl (hz3.setRow _) Tryd.underlying24 rfl il) rfl ?_
  exact ⟨by rw [HE.out, HV.out, HX.out]; rfl, below_setRow hB3 (by omega) _⟩
theorem mover_any (b : List Int) (hb : b.length = 64) (f t : Int) (w : World) :
    Calls Tryd.prog 32 #[.agg (ints b), .int .i64 f, .int .i64 t] w fun e w' => e = .returned (.tuple #[.agg (ints (mvV b f t)), .int .i64 (mvE b f t)]) ∧ Below w.heap.size w w' := by
  by_cases h1 : okB b
  · by_cases h2 : f = t
    · exact rmv_c1 b hb f t w ⟨h1, h2⟩
    · by_cases h3 : f < 0
      · exact rmv_c2 b hb f t w ⟨h1, h2, h3⟩
      · by_cases h4 : 63 < f
        · exact rmv_c3 b hb f t w ⟨h1, h2, by omega, h4⟩
        · by_cases h5 : t < 0
          · exact rmv_c4 b hb f t w ⟨h1, h2, by omega, by omega, h5⟩
          · by_cases h6 : 63 < t
            · exact rmv_c5 b hb f t w ⟨h1, h2, by omega, by omega, by omega, h6⟩
            · by_cases h7 : b.getD f.toNat 0 = 0
              · exact rmv_c6 b hb f t w ⟨h1, h2, ⟨by omega, by omega⟩, ⟨by omega, by omega⟩, h7⟩
              · exact rmv_c7 b hb f t w ⟨h1, h2, ⟨by omega, by omega⟩, ⟨by omega, by omega⟩, h7⟩
  · exact rmv_c0 b hb f t w h1
end Go.Proofs.YthbbnhhofkadgaaDoor
