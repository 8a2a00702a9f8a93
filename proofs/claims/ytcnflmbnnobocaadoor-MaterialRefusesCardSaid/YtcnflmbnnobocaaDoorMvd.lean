/- The contract of valid: material of ten numbers. No condition. -/
import Derived.Test.YtcnflmbnnobocaaDoorMck
namespace Go.Proofs.YtcnflmbnnobocaaDoor
open Go Go.RowKit
def zero10v : List Int := [0, 0, 0, 0, 0, 0, 0, 0, 0, 0]
def IsValid (w : World) (e : Ending) (w' : World) : Prop :=
  ∃ v0 v1 v2 v3 v4 v5 v6 v7 v8 v9 : Int, okM v0 v1 v2 v3 v4 v5 v6 v7 v8 v9 ∧ e = .returned (.agg (ints [v0, v1, v2, v3, v4, v5, v6, v7, v8, v9])) ∧ Below w.heap.size w w'
theorem mod_to (a m : Int) (h : 0 ≤ m) : ∃ v, a % (m + 1) = v ∧ 0 ≤ v ∧ v ≤ m := ⟨a % (m + 1), rfl, Int.emod_nonneg _ (by omega), by have := Int.emod_lt_of_pos a (show 0 < m + 1 by omega); omega⟩
set_option maxRecDepth 100000 in
set_option maxHeartbeats 4000000 in
theorem valid_any (a0 a1 a2 a3 a4 a5 a6 a7 a8 a9 : Int) (h0 : 0 ≤ a0 ∧ a0 ≤ 255) (h1 : 0 ≤ a1 ∧ a1 ≤ 255) (h2 : 0 ≤ a2 ∧ a2 ≤ 255) (h3 : 0 ≤ a3 ∧ a3 ≤ 255) (h4 : 0 ≤ a4 ∧ a4 ≤ 255) (h5 : 0 ≤ a5 ∧ a5 ≤ 255) (h6 : 0 ≤ a6 ∧ a6 ≤ 255) (h7 : 0 ≤ a7 ∧ a7 ≤ 255) (h8 : 0 ≤ a8 ∧ a8 ≤ 255) (h9 : 0 ≤ a9 ∧ a9 ≤ 255) (w : World) :
    Calls Tryd.prog 24 #[.agg #[.int .u8 a0, .int .u8 a1, .int .u8 a2, .int .u8 a3, .int .u8 a4, .int .u8 a5, .int .u8 a6, .int .u8 a7, .int .u8 a8, .int .u8 a9]] w (IsValid w) := by
  obtain ⟨p0, q0⟩ := h0
  obtain ⟨p1, q1⟩ := h1
  obtain ⟨p2, q2⟩ := h2
  obtain ⟨p3, q3⟩ := h3
  obtain ⟨p4, q4⟩ := h4
  obtain ⟨p5, q5⟩ := h5
  obtain ⟨p6, q6⟩ := h6
  obtain ⟨p7, q7⟩ := h7
  obtain ⟨p8, q8⟩ := h8
  obtain ⟨p9, q9⟩ := h9
  obtain ⟨v0, e0, b0, c0⟩ := mod_to a0 8 (by omega)
  obtain ⟨v1, e1, b1, c1⟩ := mod_to a1 (15 - v0) (by omega)
  obtain ⟨v2, e2, b2, c2⟩ := mod_to a2 (15 - v0 - v1) (by omega)
  obtain ⟨v3, e3, b3, c3⟩ := mod_to a3 (15 - v0 - v1 - v2) (by omega)
  obtain ⟨v4, e4, b4, c4⟩ := mod_to a4 (15 - v0 - v1 - v2 - v3) (by omega)
  obtain ⟨v5, e5, b5, c5⟩ := mod_to a5 8 (by omega)
  obtain ⟨v6, e6, b6, c6⟩ := mod_to a6 (15 - v5) (by omega)
  obtain ⟨v7, e7, b7, c7⟩ := mod_to a7 (15 - v5 - v6) (by omega)
  obtain ⟨v8, e8, b8, c8⟩ := mod_to a8 (15 - v5 - v6 - v7) (by omega)
  obtain ⟨v9, e9, b9, c9⟩ := mod_to a9 (15 - v5 - v6 - v7 - v8) (by omega)
  simp only [show (8 : Int) + 1 = 9 from rfl] at e0 e5
  have u1 : 15 - v0 + 1 ≠ 0 := by omega
  have u2 : 15 - v0 - v1 + 1 ≠ 0 := by omega
  have u3 : 15 - v0 - v1 - v2 + 1 ≠ 0 := by omega
  have u4 : 15 - v0 - v1 - v2 - v3 + 1 ≠ 0 := by omega
  have u6 : 15 - v5 + 1 ≠ 0 := by omega
  have u7 : 15 - v5 - v6 + 1 ≠ 0 := by omega
  have u8 : 15 - v5 - v6 - v7 + 1 ≠ 0 := by omega
  have u9 : 15 - v5 - v6 - v7 - v8 + 1 ≠ 0 := by omega
  go_enter Tryd.func24, Tryd.ntmps24
  go_wp2_with fail
  have hok := Lib.hid (show okM v0 v1 v2 v3 v4 v5 v6 v7 v8 v9 by unfold okM; omega)
  refine wp_loop_rounds 3 ?_
  rw [rounds_succ]
  go_wp2_with fail
  refine wp_loop_rounds 6 ?_
  rw [rounds_succ]
  go_wp2_with fail
  rw [rounds_succ]
  go_wp2_with fail
  rw [rounds_succ]
  go_wp2_with fail
  rw [rounds_succ]
  go_wp2_with fail
  rw [rounds_succ]
  go_wp2_with fail
  rw [rounds_succ]
  go_wp2_with fail
  rw [rounds_succ]
  go_wp2_with fail
  refine wp_loop_rounds 6 ?_
  rw [rounds_succ]
  go_wp2_with fail
  rw [rounds_succ]
  go_wp2_with fail
  rw [rounds_succ]
  go_wp2_with fail
  rw [rounds_succ]
  go_wp2_with fail
  rw [rounds_succ]
  go_wp2_with fail
  rw [rounds_succ]
  go_wp2_with fail
  rw [rounds_succ]
  go_wp2_with (first
    | (with_reducible refine wpl_load (g := w.heap.size + 1 + 1) (k := .i64) (t := 25) (l := [v0, v1, v2, v3, v4, v5, v6, v7, v8, v9]) (w := (((w.alloc (.cells #[.int .u8 a0, .int .u8 a1, .int .u8 a2, .int .u8 a3, .int .u8 a4, .int .u8 a5, .int .u8 a6, .int .u8 a7, .int .u8 a8, .int .u8 a9] 50)).alloc (.cells #[.int .i64 0, .int .i64 0, .int .i64 0, .int .i64 0, .int .i64 0, .int .i64 0, .int .i64 0, .int .i64 0, .int .i64 0, .int .i64 0] 25)).alloc (.cells #[.int .i64 v0, .int .i64 v1, .int .i64 v2, .int .i64 v3, .int .i64 v4, .int .i64 v5, .int .i64 v6, .int .i64 v7, .int .i64 v8, .int .i64 v9] 25))) ?hg rfl 25 _ rfl rfl Tryd.underlying25 ?hi ?_)
    | (with_reducible refine wpl_store (g := w.heap.size + 1) (k := .i64) (t := 25) (l := zero10v) (w := (((w.alloc (.cells #[.int .u8 a0, .int .u8 a1, .int .u8 a2, .int .u8 a3, .int .u8 a4, .int .u8 a5, .int .u8 a6, .int .u8 a7, .int .u8 a8, .int .u8 a9] 50)).alloc (.cells #[.int .i64 0, .int .i64 0, .int .i64 0, .int .i64 0, .int .i64 0, .int .i64 0, .int .i64 0, .int .i64 0, .int .i64 0, .int .i64 0] 25)).alloc (.cells #[.int .i64 v0, .int .i64 v1, .int .i64 v2, .int .i64 v3, .int .i64 v4, .int .i64 v5, .int .i64 v6, .int .i64 v7, .int .i64 v8, .int .i64 v9] 25))) ?hh rfl 25 _ _ rfl rfl [v0, v1, v2, v3, v4, v5, v6, v7, v8, v9] rfl ?hl ?hj ?_))
  case hg => exact Holds.newAt .i64 25 [v0, v1, v2, v3, v4, v5, v6, v7, v8, v9] (by simp)
  case hi => kernel_rfl
  case hh => exact (Holds.newAt .i64 25 zero10v (by simp)).alloc _
  case hl => rfl
  case hj => kernel_rfl
  refine bodyPost_ret (results_cell_row rfl _ _ (w.heap.size + 1) 25 (ints [v0, v1, v2, v3, v4, v5, v6, v7, v8, v9]) (0, 0) _ rfl (Holds.setRow (l := zero10v) ((Holds.newAt .i64 25 zero10v (by simp)).alloc _) [v0, v1, v2, v3, v4, v5, v6, v7, v8, v9]) Tryd.underlying25 rfl (by kernel_rfl)) rfl ?_
  exact ⟨v0, v1, v2, v3, v4, v5, v6, v7, v8, v9, hok.out, rfl, below_setRow ((((Below.refl _ _).alloc (Nat.le_refl _) _).alloc (by simp) _).alloc (by simp; omega) _) (by omega) _⟩
end Go.Proofs.YtcnflmbnnobocaaDoor
