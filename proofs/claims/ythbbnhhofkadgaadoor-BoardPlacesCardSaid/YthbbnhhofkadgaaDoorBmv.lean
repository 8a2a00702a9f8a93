/- The contract of board.Move. No condition. -/
import Derived.Test.YthbbnhhofkadgaaDoorBck
import Derived.Deep.DeepCutAuto
import Derived.Deep.RegionWith
namespace Go.Proofs.YthbbnhhofkadgaaDoor
open Go Go.RowKit
def inS (p : Int) : Prop := 0 ≤ p ∧ p < 64
instance (p : Int) : Decidable (inS p) := by unfold inS; infer_instance
set_option maxHeartbeats 400000 in
theorem ex_t (p : Int) (w : World) (h : inS p) : Calls Tryd.prog 50 #[.int .i64 p] w fun e w' => e = .returned (.bool true) ∧ w = w' := by
  obtain ⟨h1, h2⟩ := h
  go_enter Tryd.func50, Tryd.ntmps50
  go_wp2
  go_ret
  exact ⟨rfl, rfl⟩
set_option maxHeartbeats 400000 in
theorem ex_f (p : Int) (w : World) (h : ¬ inS p) : Calls Tryd.prog 50 #[.int .i64 p] w fun e w' => e = .returned (.bool false) ∧ w = w' := by
  have h' : p < 0 ∨ (0 ≤ p ∧ 64 ≤ p) := by unfold inS at h; omega
  clear h
  rcases h' with h1 | ⟨h0, h1⟩
  · go_enter Tryd.func50, Tryd.ntmps50
    go_wp2
    go_ret
    exact ⟨rfl, rfl⟩
  · have hd : decide (p < 64) = false := by simp; omega
    go_enter Tryd.func50, Tryd.ntmps50
    go_wp2
    go_ret
    exact ⟨rfl, rfl⟩
def zero64 : List Int := [0, 0, 0, 0, 0, 0, 0, 0, 0, 0, 0, 0, 0, 0, 0, 0, 0, 0, 0, 0, 0, 0, 0, 0, 0, 0, 0, 0, 0, 0, 0, 0, 0, 0, 0, 0, 0, 0, 0, 0, 0, 0, 0, 0, 0, 0, 0, 0, 0, 0, 0, 0, 0, 0, 0, 0, 0, 0, 0, 0, 0, 0, 0, 0]
def mvE (b : List Int) (f t : Int) : Int := if ¬ okB b ∨ f = t then 2 else if ¬ inS f ∨ ¬ inS t then 3 else if b.getD f.toNat 0 = 0 then 5 else 0
def mvV (b : List Int) (f t : Int) : List Int := if mvE b f t = 0 then (b.set t.toNat (b.getD f.toNat 0)).set f.toNat 0 else zero64
theorem mvV_len (b : List Int) (hb : b.length = 64) (f t : Int) : (mvV b f t).length = 64 := by
  unfold mvV; split
  · simpa using hb
  · rfl
theorem mv2 {b : List Int} {f t : Int} (h : ¬ okB b ∨ f = t) : mvE b f t = 2 := if_pos h
theorem mv3 {b : List Int} {f t : Int} (h : okB b) (hn : f ≠ t) (h3 : ¬ inS f ∨ ¬ inS t) : mvE b f t = 3 := by unfold mvE; rw [if_neg (by simp [h, hn]), if_pos h3]
theorem mv5 {b : List Int} {f t : Int} (h : okB b) (hn : f ≠ t) (h1 : inS f) (h2 : inS t) (h5 : b.getD f.toNat 0 = 0) : mvE b f t = 5 := by unfold mvE; rw [if_neg (by simp [h, hn]), if_neg (by simp [h1, h2]), if_pos h5]
theorem mv0 {b : List Int} {f t : Int} (h : okB b) (hn : f ≠ t) (h1 : inS f) (h2 : inS t) (h5 : b.getD f.toNat 0 ≠ 0) : mvE b f t = 0 := by unfold mvE; rw [if_neg (by simp [h, hn]), if_neg (by simp [h1, h2]), if_neg h5]
theorem mvV_f {b : List Int} {f t : Int} {e : Int} (h : mvE b f t = e) (he : e ≠ 0) : mvV b f t = zero64 := if_neg (by rw [h]; exact he)
theorem mvV_t {b : List Int} {f t : Int} (h : mvE b f t = 0) : mvV b f t = (b.set t.toNat (b.getD f.toNat 0)).set f.toNat 0 := if_pos h
/-- A whole array is stored, in a variable that holds zeros. -/
theorem z64_info : (Tryd.prog.info? 24).map (·.size) = some zero64.length := by kernel_rfl
set_option maxRecDepth 100000 in
set_option maxHeartbeats 600000 in
theorem mv_c0 (b : List Int) (hb : b.length = 64) (f t : Int) (w : World) (h : ¬ okB b) :
    Calls Tryd.prog 19 #[.agg (ints b), .int .i64 f, .int .i64 t] w fun e w' => e = .returned (.tuple #[.agg (ints (mvV b f t)), .int .i64 (mvE b f t)]) ∧ Below w.heap.size w w' := by
  have hi : (Tryd.prog.info? 24).map (·.size) = some b.length := by rw [hb]; kernel_rfl
  have hg : Holds ((w.alloc (.cells (intsK .i64 b) 24)).alloc (.cells (intsK .i64 zero64) 24)) w.heap.size .i64 24 b := (Holds.new w .i64 24 b).alloc _
  have hz : Holds ((w.alloc (.cells (intsK .i64 b) 24)).alloc (.cells (intsK .i64 zero64) 24)) (w.heap.size + 1) .i64 24 zero64 := Holds.newAt .i64 24 zero64 (by simp)
  have hB : Below w.heap.size w ((w.alloc (.cells (intsK .i64 b) 24)).alloc (.cells (intsK .i64 zero64) 24)) := ((Below.refl _ _).alloc (Nat.le_refl _) _).alloc (by simp) _
  have HC := Lib.hid (chkB_f h)
  have HE : Hid (mvE b f t = 2) := Lib.hid (mv2 (.inl h))
  have HV := Lib.hid (mvV_f HE.out (by decide))
  clear h
  go_enter Tryd.func19, Tryd.ntmps19
  go_wp2_with (first
    | (with_reducible refine wpl_load (g := w.heap.size) (k := .i64) (t := 24) (l := b) ?hg rfl 24 _ rfl rfl Tryd.underlying24 hi ?_)
    | (go_at_call 17; refine (check_any b hb _).mono ?_; rintro e w1 ⟨rfl, hb1⟩; rw [HC.out]; have hg1 := hg.below hb1 (by simp; omega); have hz1 := hz.below hb1 (by simp); have hB1 := hB.trans (hb1.mono hB.size))
    | (with_reducible refine wpl_store (g := w.heap.size + 1) (k := .i64) (t := 24) (l := zero64) hz1 rfl 24 _ _ rfl rfl zero64 rfl ?hl ?hj ?_))
  case hg => exact (Holds.new w .i64 24 b).alloc _
  case hl => rfl
  case hj => exact z64_info
  refine bodyPost_ret (results_row2 rfl _ _ (w.heap.size + 1) (l := zero64) rfl (hz1.setRow _) Tryd.underlying24 rfl z64_info) rfl ?_
  exact ⟨by rw [HE.out, HV.out]; rfl, below_setRow hB1 (by omega) _⟩

set_option maxRecDepth 100000 in
set_option maxHeartbeats 600000 in
theorem mv_c1 (b : List Int) (hb : b.length = 64) (f t : Int) (w : World) (h : okB b ∧ f = t) :
    Calls Tryd.prog 19 #[.agg (ints b), .int .i64 f, .int .i64 t] w fun e w' => e = .returned (.tuple #[.agg (ints (mvV b f t)), .int .i64 (mvE b f t)]) ∧ Below w.heap.size w w' := by
  have hi : (Tryd.prog.info? 24).map (·.size) = some b.length := by rw [hb]; kernel_rfl
  have hg : Holds ((w.alloc (.cells (intsK .i64 b) 24)).alloc (.cells (intsK .i64 zero64) 24)) w.heap.size .i64 24 b := (Holds.new w .i64 24 b).alloc _
  have hz : Holds ((w.alloc (.cells (intsK .i64 b) 24)).alloc (.cells (intsK .i64 zero64) 24)) (w.heap.size + 1) .i64 24 zero64 := Holds.newAt .i64 24 zero64 (by simp)
  have hB : Below w.heap.size w ((w.alloc (.cells (intsK .i64 b) 24)).alloc (.cells (intsK .i64 zero64) 24)) := ((Below.refl _ _).alloc (Nat.le_refl _) _).alloc (by simp) _
  obtain ⟨h, rfl⟩ := h
  have HC := Lib.hid (chkB_t h)
  have HE : Hid (mvE b f f = 2) := Lib.hid (mv2 (.inr rfl))
  have HV := Lib.hid (mvV_f HE.out (by decide))
  clear h
  go_enter Tryd.func19, Tryd.ntmps19
  go_wp2_with (first
    | (with_reducible refine wpl_load (g := w.heap.size) (k := .i64) (t := 24) (l := b) ?hg rfl 24 _ rfl rfl Tryd.underlying24 hi ?_)
    | (go_at_call 17; refine (check_any b hb _).mono ?_; rintro e w1 ⟨rfl, hb1⟩; rw [HC.out]; have hg1 := hg.below hb1 (by simp; omega); have hz1 := hz.below hb1 (by simp); have hB1 := hB.trans (hb1.mono hB.size))
    | (with_reducible refine wpl_store (g := w.heap.size + 1) (k := .i64) (t := 24) (l := zero64) hz1 rfl 24 _ _ rfl rfl zero64 rfl ?hl ?hj ?_))
  case hg => exact (Holds.new w .i64 24 b).alloc _
  case hl => rfl
  case hj => exact z64_info
  refine bodyPost_ret (results_row2 rfl _ _ (w.heap.size + 1) (l := zero64) rfl (hz1.setRow _) Tryd.underlying24 rfl z64_info) rfl ?_
  exact ⟨by rw [HE.out, HV.out]; rfl, below_setRow hB1 (by omega) _⟩

set_option maxRecDepth 100000 in
set_option maxHeartbeats 600000 in
theorem mv_c2 (b : List Int) (hb : b.length = 64) (f t : Int) (w : World) (h : okB b ∧ f ≠ t ∧ ¬ inS f) :
    Calls Tryd.prog 19 #[.agg (ints b), .int .i64 f, .int .i64 t] w fun e w' => e = .returned (.tuple #[.agg (ints (mvV b f t)), .int .i64 (mvE b f t)]) ∧ Below w.heap.size w w' := by
  have hi : (Tryd.prog.info? 24).map (·.size) = some b.length := by rw [hb]; kernel_rfl
  have hg : Holds ((w.alloc (.cells (intsK .i64 b) 24)).alloc (.cells (intsK .i64 zero64) 24)) w.heap.size .i64 24 b := (Holds.new w .i64 24 b).alloc _
  have hz : Holds ((w.alloc (.cells (intsK .i64 b) 24)).alloc (.cells (intsK .i64 zero64) 24)) (w.heap.size + 1) .i64 24 zero64 := Holds.newAt .i64 24 zero64 (by simp)
  have hB : Below w.heap.size w ((w.alloc (.cells (intsK .i64 b) 24)).alloc (.cells (intsK .i64 zero64) 24)) := ((Below.refl _ _).alloc (Nat.le_refl _) _).alloc (by simp) _
  obtain ⟨h, hn, h3⟩ := h
  have HC := Lib.hid (chkB_t h)
  have HE : Hid (mvE b f t = 3) := Lib.hid (mv3 h hn (.inl h3))
  have HV := Lib.hid (mvV_f HE.out (by decide))
  have hne : (f == t) = false := by simpa using hn
  clear h hn
  go_enter Tryd.func19, Tryd.ntmps19
  go_wp2_with (first
    | (with_reducible refine wpl_load (g := w.heap.size) (k := .i64) (t := 24) (l := b) ?hg rfl 24 _ rfl rfl Tryd.underlying24 hi ?_)
    | (go_at_call 17; refine (check_any b hb _).mono ?_; rintro e w1 ⟨rfl, hb1⟩; rw [HC.out]; have hg1 := hg.below hb1 (by simp; omega); have hz1 := hz.below hb1 (by simp); have hB1 := hB.trans (hb1.mono hB.size))
    | (go_at_call 50; refine (ex_f f _ h3).mono ?_; rintro e w' ⟨rfl, rfl⟩)
    | (with_reducible refine wpl_store (g := w.heap.size + 1) (k := .i64) (t := 24) (l := zero64) hz1 rfl 24 _ _ rfl rfl zero64 rfl ?hl ?hj ?_))
  case hg => exact (Holds.new w .i64 24 b).alloc _
  case hl => rfl
  case hj => exact z64_info
  refine bodyPost_ret (results_row2 rfl _ _ (w.heap.size + 1) (l := zero64) rfl (hz1.setRow _) Tryd.underlying24 rfl z64_info) rfl ?_
  exact ⟨by rw [HE.out, HV.out]; rfl, below_setRow hB1 (by omega) _⟩

set_option maxRecDepth 100000 in
set_option maxHeartbeats 600000 in
theorem mv_c3 (b : List Int) (hb : b.length = 64) (f t : Int) (w : World) (h : okB b ∧ f ≠ t ∧ inS f ∧ ¬ inS t) :
    Calls Tryd.prog 19 #[.agg (ints b), .int .i64 f, .int .i64 t] w fun e w' => e = .returned (.tuple #[.agg (ints (mvV b f t)), .int .i64 (mvE b f t)]) ∧ Below w.heap.size w w' := by
  have hi : (Tryd.prog.info? 24).map (·.size) = some b.length := by rw [hb]; kernel_rfl
  have hg : Holds ((w.alloc (.cells (intsK .i64 b) 24)).alloc (.cells (intsK .i64 zero64) 24)) w.heap.size .i64 24 b := (Holds.new w .i64 24 b).alloc _
  have hz : Holds ((w.alloc (.cells (intsK .i64 b) 24)).alloc (.cells (intsK .i64 zero64) 24)) (w.heap.size + 1) .i64 24 zero64 := Holds.newAt .i64 24 zero64 (by simp)
  have hB : Below w.heap.size w ((w.alloc (.cells (intsK .i64 b) 24)).alloc (.cells (intsK .i64 zero64) 24)) := ((Below.refl _ _).alloc (Nat.le_refl _) _).alloc (by simp) _
  obtain ⟨h, hn, h3, h4⟩ := h
  have HC := Lib.hid (chkB_t h)
  have HE : Hid (mvE b f t = 3) := Lib.hid (mv3 h hn (.inr h4))
  have HV := Lib.hid (mvV_f HE.out (by decide))
  have hne : (f == t) = false := by simpa using hn
  have H3 := Lib.hid h3
  have H4 := Lib.hid h4
  clear h hn h3 h4
  go_enter Tryd.func19, Tryd.ntmps19
  go_wp2_with (first
    | (with_reducible refine wpl_load (g := w.heap.size) (k := .i64) (t := 24) (l := b) ?hg rfl 24 _ rfl rfl Tryd.underlying24 hi ?_)
    | (go_at_call 17; refine (check_any b hb _).mono ?_; rintro e w1 ⟨rfl, hb1⟩; rw [HC.out]; have hg1 := hg.below hb1 (by simp; omega); have hz1 := hz.below hb1 (by simp); have hB1 := hB.trans (hb1.mono hB.size))
    | (go_at_call_of 50 (Value.int .i64 f); refine (ex_t f _ H3.out).mono ?_; rintro e w' ⟨rfl, rfl⟩)
    | (go_at_call_of 50 (Value.int .i64 t); refine (ex_f t _ H4.out).mono ?_; rintro e w' ⟨rfl, rfl⟩)
    | (with_reducible refine wpl_store (g := w.heap.size + 1) (k := .i64) (t := 24) (l := zero64) hz1 rfl 24 _ _ rfl rfl zero64 rfl ?hl ?hj ?_))
  case hg => exact (Holds.new w .i64 24 b).alloc _
  case hl => rfl
  case hj => exact z64_info
  refine bodyPost_ret (results_row2 rfl _ _ (w.heap.size + 1) (l := zero64) rfl (hz1.setRow _) Tryd.underlying24 rfl z64_info) rfl ?_
  exact ⟨by rw [HE.out, HV.out]; rfl, below_setRow hB1 (by omega) _⟩

set_option maxRecDepth 100000 in
set_option maxHeartbeats 600000 in
theorem mv_c4 (b : List Int) (hb : b.length = 64) (f t : Int) (w : World) (h : okB b ∧ f ≠ t ∧ inS f ∧ inS t) (h0 : b.getD f.toNat 0 = 0) :
    Calls Tryd.prog 19 #[.agg (ints b), .int .i64 f, .int .i64 t] w fun e w' => e = .returned (.tuple #[.agg (ints (mvV b f t)), .int .i64 (mvE b f t)]) ∧ Below w.heap.size w w' := by
  have hi : (Tryd.prog.info? 24).map (·.size) = some b.length := by rw [hb]; kernel_rfl
  have hg : Holds ((w.alloc (.cells (intsK .i64 b) 24)).alloc (.cells (intsK .i64 zero64) 24)) w.heap.size .i64 24 b := (Holds.new w .i64 24 b).alloc _
  have hz : Holds ((w.alloc (.cells (intsK .i64 b) 24)).alloc (.cells (intsK .i64 zero64) 24)) (w.heap.size + 1) .i64 24 zero64 := Holds.newAt .i64 24 zero64 (by simp)
  have hB : Below w.heap.size w ((w.alloc (.cells (intsK .i64 b) 24)).alloc (.cells (intsK .i64 zero64) 24)) := ((Below.refl _ _).alloc (Nat.le_refl _) _).alloc (by simp) _
  obtain ⟨h, hn, h3, h4⟩ := h
  have HC := Lib.hid (chkB_t h)
  have H3 := Lib.hid h3
  have H4 := Lib.hid h4
  have hne : (f == t) = false := by simpa using hn
  obtain ⟨f0, f1⟩ := h3
  obtain ⟨t0, t1⟩ := h4
  have h5 := h0
  have HE : Hid (mvE b f t = 5) := Lib.hid (mv5 h hn H3.out H4.out h5)
  have HV := Lib.hid (mvV_f HE.out (by decide))
  have H5 := Lib.hid h5
  clear h hn h5
  go_enter Tryd.func19, Tryd.ntmps19
  go_wp2_with (first
    | (with_reducible refine wpl_load (g := w.heap.size) (k := .i64) (t := 24) (l := b) ?hg rfl 24 _ rfl rfl Tryd.underlying24 hi ?_)
    | (go_at_call 17; refine (check_any b hb _).mono ?_; rintro e w1 ⟨rfl, hb1⟩; rw [HC.out]; have hg1 := hg.below hb1 (by simp; omega); have hz1 := hz.below hb1 (by simp); have hB1 := hB.trans (hb1.mono hB.size); have c1 := hg1.cell f.toNat (by omega); rw [H5.out] at c1)
    | (go_at_call_of 50 (Value.int .i64 f); refine (ex_t f _ H3.out).mono ?_; rintro e w' ⟨rfl, rfl⟩)
    | (go_at_call_of 50 (Value.int .i64 t); refine (ex_t t _ H4.out).mono ?_; rintro e w' ⟨rfl, rfl⟩)
    | (with_reducible refine wpl_store (g := w.heap.size + 1) (k := .i64) (t := 24) (l := zero64) hz1 rfl 24 _ _ rfl rfl zero64 rfl ?hl ?hj ?_))
  case hg => exact (Holds.new w .i64 24 b).alloc _
  case hl => rfl
  case hj => exact z64_info
  refine bodyPost_ret (results_row2 rfl _ _ (w.heap.size + 1) (l := zero64) rfl (hz1.setRow _) Tryd.underlying24 rfl z64_info) rfl ?_
  exact ⟨by rw [HE.out, HV.out]; rfl, below_setRow hB1 (by omega) _⟩
set_option maxRecDepth 100000 in
set_option maxHeartbeats 600000 in
theorem mv_c5 (b : List Int) (hb : b.length = 64) (f t : Int) (w : World) (h : okB b ∧ f ≠ t ∧ inS f ∧ inS t) (h0 : b.getD f.toNat 0 ≠ 0) :
    Calls Tryd.prog 19 #[.agg (ints b), .int .i64 f, .int .i64 t] w fun e w' => e = .returned (.tuple #[.agg (ints (mvV b f t)), .int .i64 (mvE b f t)]) ∧ Below w.heap.size w w' := by
  have hi : (Tryd.prog.info? 24).map (·.size) = some b.length := by rw [hb]; kernel_rfl
  have hg : Holds ((w.alloc (.cells (intsK .i64 b) 24)).alloc (.cells (intsK .i64 zero64) 24)) w.heap.size .i64 24 b := (Holds.new w .i64 24 b).alloc _
  have hz : Holds ((w.alloc (.cells (intsK .i64 b) 24)).alloc (.cells (intsK .i64 zero64) 24)) (w.heap.size + 1) .i64 24 zero64 := Holds.newAt .i64 24 zero64 (by simp)
  have hB : Below w.heap.size w ((w.alloc (.cells (intsK .i64 b) 24)).alloc (.cells (intsK .i64 zero64) 24)) := ((Below.refl _ _).alloc (Nat.le_refl _) _).alloc (by simp) _
  obtain ⟨h, hn, h3, h4⟩ := h
  have HC := Lib.hid (chkB_t h)
  have H3 := Lib.hid h3
  have H4 := Lib.hid h4
  have hne : (f == t) = false := by simpa using hn
  obtain ⟨f0, f1⟩ := h3
  obtain ⟨t0, t1⟩ := h4
  have h5 := h0
  have HE : Hid (mvE b f t = 0) := Lib.hid (mv0 h hn H3.out H4.out h5)
  have HV := Lib.hid (mvV_t HE.out)
  have hnt : t.toNat ≠ f.toNat := by omega
  have h5' : (b.getD f.toNat 0 == 0) = false := by simpa using h5
  clear h hn h5
  obtain ⟨x, hx⟩ : ∃ x, b.getD f.toNat 0 = x := ⟨_, rfl⟩
  rw [hx] at HV h5'
  have HX := Lib.hid hx
  clear hx
  have l1 : ((b.set t.toNat x).set f.toNat 0).length = 64 := by simpa using hb
  have il : (Tryd.prog.info? 24).map (·.size) = some ((b.set t.toNat x).set f.toNat 0).length := by rw [l1]; kernel_rfl
  have hl1 : ((b.set t.toNat x).set f.toNat 0).length = zero64.length := l1
  have HS := Lib.hid hnt
  go_enter Tryd.func19, Tryd.ntmps19
  go_upto_region 7 with (first
    | (with_reducible refine wpl_load (g := w.heap.size) (k := .i64) (t := 24) (l := b) ?hg rfl 24 _ rfl rfl Tryd.underlying24 hi ?_)
    | (go_at_call 17; refine (check_any b hb _).mono ?_; rintro e w1 ⟨rfl, hb1⟩; rw [HC.out]; have hg1 := hg.below hb1 (by simp; omega); have hz1 := hz.below hb1 (by simp); have hB1 := hB.trans (hb1.mono hB.size); have c1 : w1.cell? ⟨w.heap.size, f.toNat, none⟩ = some (.int .i64 x) := by rw [hg1.cell f.toNat (by omega), HX.out])
    | (go_at_call_of 50 (Value.int .i64 f); refine (ex_t f _ H3.out).mono ?_; rintro e w' ⟨rfl, rfl⟩)
    | (go_at_call_of 50 (Value.int .i64 t); refine (ex_t t _ H4.out).mono ?_; rintro e w' ⟨rfl, rfl⟩))
  case hg => exact (Holds.new w .i64 24 b).alloc _
  have c2 := hg1.cell t.toNat (by omega)
  have c3 := hg1.frozen t.toNat
  have hg2 := hg1.set t.toNat x
  have c4 := hg2.cell f.toNat (by rw [List.length_set]; omega)
  have c5 := hg2.frozen f.toNat
  have hg3 := hg2.set f.toNat 0
  have hz3 := (hz1.setOther (a := ⟨w.heap.size, t.toNat, none⟩) (.int .i64 x) (by simp)).setOther (a := ⟨w.heap.size, f.toNat, none⟩) (.int .i64 0) (by simp)
  have hB3 := (hB1.setCell (p := ⟨w.heap.size, t.toNat, none⟩) (Nat.le_refl _) (.int .i64 x)).setCell (p := ⟨w.heap.size, f.toNat, none⟩) (Nat.le_refl _) (.int .i64 0)
  clear hg2
  go_upto_region 8 with fail
  clear c1 c2 c3 c4 c5 hg1 hz1 hB1
  generalize World.setCell _ _ _ = w3 at *
  go_wp2_with (first
    | (with_reducible refine wpl_load (g := w.heap.size) (k := .i64) (t := 24) hg3 rfl 24 _ rfl rfl Tryd.underlying24 il ?_)
    | (with_reducible refine wpl_store (g := w.heap.size + 1) (k := .i64) (t := 24) (l := zero64) hz3 rfl 24 _ _ rfl rfl _ rfl hl1 z64_info ?_))
  refine bodyPost_ret (results_row2 rfl _ _ (w.heap.size + 1) rfl (hz3.setRow _) Tryd.underlying24 rfl il) rfl ?_
  exact ⟨by rw [HE.out, HV.out]; rfl, below_setRow hB3 (by omega) _⟩
theorem move_any (b : List Int) (hb : b.length = 64) (f t : Int) (w : World) :
    Calls Tryd.prog 19 #[.agg (ints b), .int .i64 f, .int .i64 t] w fun e w' => e = .returned (.tuple #[.agg (ints (mvV b f t)), .int .i64 (mvE b f t)]) ∧ Below w.heap.size w w' := by
  by_cases h1 : okB b
  · by_cases h2 : f = t
    · exact mv_c1 b hb f t w ⟨h1, h2⟩
    · by_cases h3 : inS f
      · by_cases h4 : inS t
        · by_cases h5 : b.getD f.toNat 0 = 0
          · exact mv_c4 b hb f t w ⟨h1, h2, h3, h4⟩ h5
          · exact mv_c5 b hb f t w ⟨h1, h2, h3, h4⟩ h5
        · exact mv_c3 b hb f t w ⟨h1, h2, h3, h4⟩
      · exact mv_c2 b hb f t w ⟨h1, h2, h3⟩
  · exact mv_c0 b hb f t w h1
end Go.Proofs.YthbbnhhofkadgaaDoor
