/- The contract of the law's function works. -/
import Derived.Test.YtjjnjglbmneecaaDoorSsm
namespace Go.Proofs.YtjjnjglbmneecaaDoor
open Go Go.RowKit
theorem wk1 {w : World} (hw : EnvS w) : Calls Tryd.prog 20 #[.agg #[.int .i64 1, .int .i64 0, .string ⟨#[97, 10, 98]⟩]] w fun e w' => e = .returned (.tuple #[.string ⟨#[105, 110, 103, 101, 115, 116, 32, 97, 92, 110, 98]⟩, .int .i64 0]) ∧ Below w.heap.size w w' := by
  have h := print_any hw 1 0 ⟨#[97, 10, 98]⟩ (by decide) (by decide) (by decide)
  rw [show prS 1 0 (⟨#[97, 10, 98]⟩ : ByteArray).data.toList = [105, 110, 103, 101, 115, 116, 32, 97, 92, 110, 98] by decide +kernel, show chkZ 1 0 (⟨#[97, 10, 98]⟩ : ByteArray).data.toList = 0 by decide +kernel] at h
  exact h
theorem wk2 {w : World} (hw : EnvS w) : Calls Tryd.prog 20 #[.agg #[.int .i64 8, .int .i64 7, .string ⟨#[48, 44, 49, 50, 56]⟩]] w fun e w' => e = .returned (.tuple #[.string ⟨#[99, 114, 97, 115, 104, 32, 55, 32, 48, 44, 49, 50, 56]⟩, .int .i64 0]) ∧ Below w.heap.size w w' := by
  have h := print_any hw 8 7 ⟨#[48, 44, 49, 50, 56]⟩ (by decide) (by decide) (by decide)
  rw [show prS 8 7 (⟨#[48, 44, 49, 50, 56]⟩ : ByteArray).data.toList = [99, 114, 97, 115, 104, 32, 55, 32, 48, 44, 49, 50, 56] by decide +kernel, show chkZ 8 7 (⟨#[48, 44, 49, 50, 56]⟩ : ByteArray).data.toList = 0 by decide +kernel] at h
  exact h
theorem wk3 {w : World} (hw : EnvS w) : Calls Tryd.prog 25 #[.agg #[.int .i64 8, .int .i64 7, .string ⟨#[48, 44, 49, 50, 56]⟩]] w fun e w' => (∃ g cap, e = .returned (.tuple #[.agg #[.int .i64 7, .slice (some ⟨g, 0, none⟩) 2 cap], .int .i64 0]) ∧ g < w'.heap.size ∧ 2 ≤ cap ∧ Nums w' g [0, 128]) ∧ Below w.heap.size w w' :=
  (splan_ok hw 7 ⟨#[48, 44, 49, 50, 56]⟩ (by decide) (by decide +kernel) (l := [0, 128]) (by decide +kernel)).mono fun _ _ ⟨⟨g, cap, a, _, b, c, d⟩, h⟩ => ⟨⟨g, cap, a, b, c, d⟩, h⟩
theorem wk4 {w : World} (hw : EnvS w) : Calls Tryd.prog 13 #[.string ⟨#[103, 97, 109, 101, 32, 49, 55]⟩] w fun e w' => e = .returned (.tuple #[.agg #[.int .i64 2, .int .i64 17, .string ⟨#[]⟩], .int .i64 0]) ∧ Below w.heap.size w w' := by
  have h := parse_any hw ⟨#[103, 97, 109, 101, 32, 49, 55]⟩ (by decide)
  unfold parV parE at h
  rw [show parO (⟨#[103, 97, 109, 101, 32, 49, 55]⟩ : ByteArray).data.toList = some (2, 17, []) by decide +kernel] at h
  exact h
theorem wk5 {w : World} (hw : EnvS w) : Calls Tryd.prog 13 #[.string ⟨#[103, 97, 109, 101, 32, 48, 49, 55]⟩] w fun e w' => e = .returned (.tuple #[.agg #[.int .i64 0, .int .i64 0, .string ⟨#[]⟩], .int .i64 8]) ∧ Below w.heap.size w w' := by
  have h := parse_any hw ⟨#[103, 97, 109, 101, 32, 48, 49, 55]⟩ (by decide)
  unfold parV parE at h
  rw [show parO (⟨#[103, 97, 109, 101, 32, 48, 49, 55]⟩ : ByteArray).data.toList = none by decide +kernel] at h
  exact h
theorem wk6 (w : World) : Calls Tryd.prog 15 #[.string ⟨#[92, 120, 52, 49]⟩] w fun e w' => e = .returned (.tuple #[.string ⟨#[]⟩, .int .i64 8]) ∧ Below w.heap.size w w' := by
  have h := unquote_any ⟨#[92, 120, 52, 49]⟩ (by decide) w
  unfold unqR at h
  rw [show unq (⟨#[92, 120, 52, 49]⟩ : ByteArray).data.toList = none by decide +kernel] at h
  exact h
theorem wk7 {w : World} (hw : EnvS w) : Calls Tryd.prog 24 #[.string ⟨#[35, 32, 97, 10, 98, 111, 111, 107, 10, 10, 114, 101, 111, 112, 101, 110, 10]⟩] w fun e w' => (∃ v, e = .returned (.tuple #[v, .int .i64 0, .int .i64 0]) ∧ IsOps w' v [(6, 0, []), (9, 0, [])]) ∧ Below w.heap.size w w' := by
  have h := pa_any hw ⟨#[35, 32, 97, 10, 98, 111, 111, 107, 10, 10, 114, 101, 111, 112, 101, 110, 10]⟩ (by decide)
  rw [show paA (⟨#[35, 32, 97, 10, 98, 111, 111, 107, 10, 10, 114, 101, 111, 112, 101, 110, 10]⟩ : ByteArray).data.toList = ([(6, 0, []), (9, 0, [])], 0, 0) by decide +kernel] at h
  exact h.mono fun _ _ ⟨v, a, b⟩ => ⟨⟨v, a, b.isOps⟩, b.bel⟩
theorem wk8 {w : World} (hw : EnvS w) : Calls Tryd.prog 24 #[.string ⟨#[98, 111, 111, 107, 10, 98, 111, 111]⟩] w fun e w' => (∃ v, e = .returned (.tuple #[v, .int .i64 2, .int .i64 8])) ∧ Below w.heap.size w w' := by
  have h := pa_any hw ⟨#[98, 111, 111, 107, 10, 98, 111, 111]⟩ (by decide)
  rw [show paA (⟨#[98, 111, 111, 107, 10, 98, 111, 111]⟩ : ByteArray).data.toList = ([], 2, 8) by decide +kernel] at h
  exact h.mono fun _ _ ⟨v, a, b⟩ => ⟨⟨v, a⟩, b.bel⟩
theorem wk9 (w : World) : Calls Tryd.prog 17 #[.string ⟨#[0, 9, 92, 255]⟩] w fun e w' => e = .returned (.string ⟨#[92, 120, 48, 48, 92, 116, 92, 92, 92, 120, 102, 102]⟩) ∧ Below w.heap.size w w' := by
  have h := quote_any ⟨#[0, 9, 92, 255]⟩ (by decide) w
  rw [show qL (⟨#[0, 9, 92, 255]⟩ : ByteArray).data.toList = [92, 120, 48, 48, 92, 116, 92, 92, 92, 120, 102, 102] by decide +kernel] at h
  exact h
def wkL : List Opx := [(6, 0, []), (9, 0, [])]
theorem wk_two (w : World) : IsOps (w.alloc (.cells #[.int .i64 6, .int .i64 0, .string ⟨#[]⟩, .int .i64 9, .int .i64 0, .string ⟨#[]⟩] 24)) (.slice (some ⟨w.heap.size, 0, none⟩) 2 2) [(6, 0, []), (9, 0, [])] := by
  refine .inr ⟨w.heap.size, 2, rfl, by simp, by decide, fun i hi => ?_⟩
  have hi' : i = 0 ∨ i = 1 := by simp at hi; omega
  rcases hi' with rfl | rfl <;> refine ⟨?_, ?_, ?_⟩ <;> (rw [Lib.cell_of_heap (heap_alloc_new _ _)]; rfl)
def Stop (p : Prop) : Prop := p
theorem stop_of {p : Prop} (h : Stop p) : p := h
/-- What is carried through works. -/
def Wc (w0 w : World) : Prop := EnvS w ∧ Below w0.heap.size w0 w
theorem Wc.grow {w0 w w' : World} (h : Wc w0 w) (hb : Below w.heap.size w w') : Wc w0 w' := ⟨h.1.below hb, h.2.trans (below_le hb h.2.size)⟩
theorem Wc.al {w0 w : World} (h : Wc w0 w) (o : Obj) : Wc w0 (w.alloc o) := h.grow (below_al _ _)
set_option maxRecDepth 100000 in
set_option maxHeartbeats 8000000 in
theorem works_any {w : World} (hw : EnvS w) : Calls Tryd.prog 12 #[] w fun e w' => e = .returned (.bool true) ∧ Below w.heap.size w w' := by
  have hC := Lib.hid (show Wc w w from ⟨hw, Below.refl _ _⟩)
  go_enter Tryd.func12, Tryd.ntmps12
  have m1 := trivial
  have m2 := trivial
  go_upto_region 8 with (first
    | (have _t := m1; go_at_call 20; refine (wk1 hC.out.1).mono ?_; clear m1 _t; rintro e w1 ⟨rfl, hE⟩; have hC1 := Lib.hid (hC.out.grow hE); clear hC hE)
    | (go_at_call 20; refine (wk2 hC1.out.1).mono ?_; rintro e w2 ⟨rfl, hE⟩; have hC2 := Lib.hid (hC1.out.grow hE); clear hC1 hE)
    | (go_at_call 25; refine (wk3 hC2.out.1).mono ?_; rintro e w3 ⟨⟨g, cap, rfl, hg, hcp, hN⟩, hE⟩; have hC3 := Lib.hid ((hC2.out.grow hE).al (.cells #[.int .i64 7, .slice (some ⟨g, 0, none⟩) 2 cap] 50)); have hP3 := Lib.hid (Rw.new w3 50 #[.int .i64 7, .slice (some ⟨g, 0, none⟩) 2 cap]); have hN3 := Lib.hid (hN.below (below_al w3 (.cells #[.int .i64 7, .slice (some ⟨g, 0, none⟩) 2 cap] 50)) hg)
       have hg3 : g < (w3.alloc (.cells #[.int .i64 7, .slice (some ⟨g, 0, none⟩) 2 cap] 50)).heap.size := by simp; omega
       clear hC2 hE hN hg)
    | (have _t := m2; go_at_call 13; refine (wk4 hC3.out.1).mono ?_; clear m2 _t; rintro e w4 ⟨rfl, hE⟩
       have hb4 := hE.trans (below_le (below_al w4 (.cells #[.int .i64 2, .int .i64 17, .string ⟨#[]⟩] 24)) hE.size)
       have hC4 := Lib.hid (hC3.out.grow hb4); have hP4 := Lib.hid (hP3.out.below hb4 hP3.out.lt); have hN4 := Lib.hid (hN3.out.below hb4 hg3); have hQ4 := Lib.hid (Rw.new w4 24 #[.int .i64 2, .int .i64 17, .string ⟨#[]⟩])
       have hg4 : g < (w4.alloc (.cells #[.int .i64 2, .int .i64 17, .string ⟨#[]⟩] 24)).heap.size := Nat.lt_of_lt_of_le hg3 hb4.size
       clear hC3 hP3 hN3 hg3 hE hb4)
    | (go_at_call 13; refine (wk5 hC4.out.1).mono ?_; rintro e w5 ⟨rfl, hE⟩
       have hb5 := hE.trans (below_le (below_al w5 (.cells #[.int .i64 0, .int .i64 0, .string ⟨#[]⟩] 24)) hE.size)
       have hC5 := Lib.hid (hC4.out.grow hb5); have hP5 := Lib.hid (hP4.out.below hb5 hP4.out.lt); have hN5 := Lib.hid (hN4.out.below hb5 hg4); have hQ5 := Lib.hid (hQ4.out.below hb5 hQ4.out.lt)
       have hg5 : g < (w5.alloc (.cells #[.int .i64 0, .int .i64 0, .string ⟨#[]⟩] 24)).heap.size := Nat.lt_of_lt_of_le hg4 hb5.size
       clear hC4 hP4 hN4 hQ4 hg4 hE hb5)
    | (go_at_call 15; refine (wk6 _).mono ?_; rintro e w6 ⟨rfl, hE⟩
       have hC6 := Lib.hid (hC5.out.grow hE); have hP6 := Lib.hid (hP5.out.below hE hP5.out.lt); have hN6 := Lib.hid (hN5.out.below hE hg5); have hQ6 := Lib.hid (hQ5.out.below hE hQ5.out.lt)
       have hg6 : g < w6.heap.size := Nat.lt_of_lt_of_le hg5 hE.size
       clear hC5 hP5 hN5 hQ5 hg5 hE)
    | (go_at_call 24; refine (wk7 hC6.out.1).mono ?_; rintro e w7 ⟨⟨v, rfl, hV⟩, hE⟩
       have hC7 := Lib.hid (hC6.out.grow hE); have hP7 := Lib.hid (hP6.out.below hE hP6.out.lt); have hN7 := Lib.hid (hN6.out.below hE hg6); have hQ7 := Lib.hid (hQ6.out.below hE hQ6.out.lt); have hV7 := Lib.hid hV
       have hg7 : g < w7.heap.size := Nat.lt_of_lt_of_le hg6 hE.size
       clear hC6 hP6 hN6 hQ6 hg6 hE hV))
  go_wp2_with (first
    | (go_at_call 24; refine (wk8 hC7.out.1).mono ?_; rintro e w8 ⟨⟨u, rfl⟩, hE⟩
       have hC8 := Lib.hid (hC7.out.grow hE); have hP8 := Lib.hid (hP7.out.below hE hP7.out.lt); have hN8 := Lib.hid (hN7.out.below hE hg7); have hQ8 := Lib.hid (hQ7.out.below hE hQ7.out.lt); have hV8 := Lib.hid (hV7.out.below hE)
       clear hC7 hP7 hN7 hQ7 hg7 hE hV7; refine stop_of ?_))
  unfold Stop
  iterate 25 go_step
  simp only [List.append]
  obtain ⟨d0, d1, _, _⟩ := hP8.out.facts2
  obtain ⟨q0, q1, q2, _, _, _⟩ := hQ8.out.facts
  have n1 : w8.cell? ⟨g, 1, none⟩ = some (.int .i64 128) := hN8.out 1 (by decide)
  go_wp2_with (first
    | (go_at_call 36; refine (same_any [(6, 0, []), (9, 0, [])] [(6, 0, []), (9, 0, [])] v (.slice (some ⟨w8.heap.size, 0, none⟩) 2 2) (by decide) (hV8.out.below (below_al _ _)) (wk_two w8)).mono ?_; rintro e w9 ⟨rfl, hE⟩; have hC9 := Lib.hid ((hC8.out.al (.cells #[.int .i64 6, .int .i64 0, .string ⟨#[]⟩, .int .i64 9, .int .i64 0, .string ⟨#[]⟩] 24)).grow hE); clear hE)
    | (go_at_call 17; refine (wk9 _).mono ?_; rintro e w10 ⟨rfl, hE⟩; have hC10 := Lib.hid (hC9.out.grow hE); clear hE))
  go_ret
  exact ⟨rfl, hC10.out.2⟩
end Go.Proofs.YtjjnjglbmneecaaDoor
