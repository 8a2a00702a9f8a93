/- The contracts of material.Check and of its reference: the same numbers are refused. No condition. -/
import Derived.Test.YtcnflmbnnobocaaDoorArr
namespace Go.Proofs.YtcnflmbnnobocaaDoor
open Go Go.RowKit

def okM (a0 a1 a2 a3 a4 a5 a6 a7 a8 a9 : Int) : Prop := 0 ≤ a0 ∧ a0 ≤ 8 ∧ 0 ≤ a1 ∧ 0 ≤ a2 ∧ 0 ≤ a3 ∧ 0 ≤ a4 ∧ a0 + a1 + a2 + a3 + a4 ≤ 15 ∧ 0 ≤ a5 ∧ a5 ≤ 8 ∧ 0 ≤ a6 ∧ 0 ≤ a7 ∧ 0 ≤ a8 ∧ 0 ≤ a9 ∧ a5 + a6 + a7 + a8 + a9 ≤ 15
instance (a0 a1 a2 a3 a4 a5 a6 a7 a8 a9 : Int) : Decidable (okM a0 a1 a2 a3 a4 a5 a6 a7 a8 a9) := by unfold okM; infer_instance
def chkE (a0 a1 a2 a3 a4 a5 a6 a7 a8 a9 : Int) : Int := if okM a0 a1 a2 a3 a4 a5 a6 a7 a8 a9 then 0 else 2
theorem chkE_t {a0 a1 a2 a3 a4 a5 a6 a7 a8 a9 : Int} (h : okM a0 a1 a2 a3 a4 a5 a6 a7 a8 a9) : chkE a0 a1 a2 a3 a4 a5 a6 a7 a8 a9 = 0 := if_pos h
theorem chkE_f {a0 a1 a2 a3 a4 a5 a6 a7 a8 a9 : Int} (h : ¬ okM a0 a1 a2 a3 a4 a5 a6 a7 a8 a9) : chkE a0 a1 a2 a3 a4 a5 a6 a7 a8 a9 = 2 := if_neg h

set_option maxRecDepth 100000 in
set_option maxHeartbeats 4000000 in
theorem check_any (a0 a1 a2 a3 a4 a5 a6 a7 a8 a9 : Int) (w : World) :
    Calls Tryd.prog 18 #[.agg #[.int .i64 a0, .int .i64 a1, .int .i64 a2, .int .i64 a3, .int .i64 a4, .int .i64 a5, .int .i64 a6, .int .i64 a7, .int .i64 a8, .int .i64 a9]] w fun e w' => e = .returned (.int .i64 (chkE a0 a1 a2 a3 a4 a5 a6 a7 a8 a9)) ∧ Below w.heap.size w w' := by
  go_enter Tryd.func18, Tryd.ntmps18
  go_wp2_with fail
  refine wp_loop_rounds 3 ?_
  rw [rounds_succ]
  go_wp2_with fail
  refine wp_loop_rounds 6 ?_
  repeat any_goals (rw [rounds_succ]; go_wp2_with fail)
  any_goals (refine wp_loop_rounds 6 ?_)
  repeat any_goals (rw [rounds_succ]; go_wp2_with fail)

  all_goals go_ret
  all_goals refine ⟨?_, by go_grown⟩
  all_goals first
    | exact ret_int (chkE_f (by unfold okM; omega)).symm
    | exact ret_int (chkE_t (by unfold okM; omega)).symm

set_option maxRecDepth 100000 in
set_option maxHeartbeats 4000000 in
theorem check_ref (a0 a1 a2 a3 a4 a5 a6 a7 a8 a9 : Int) (w : World) :
    Calls Tryd.prog 19 #[.agg #[.int .i64 a0, .int .i64 a1, .int .i64 a2, .int .i64 a3, .int .i64 a4, .int .i64 a5, .int .i64 a6, .int .i64 a7, .int .i64 a8, .int .i64 a9]] w fun e w' => e = .returned (.int .i64 (chkE a0 a1 a2 a3 a4 a5 a6 a7 a8 a9)) ∧ Below w.heap.size w w' := by
  go_enter Tryd.func19, Tryd.ntmps19
  go_wp2_with fail
  refine wp_loop_rounds 3 ?_
  rw [rounds_succ]
  go_wp2_with fail
  refine wp_loop_rounds 6 ?_
  repeat any_goals (rw [rounds_succ]; go_wp2_with fail)
  any_goals (refine wp_loop_rounds 6 ?_)
  repeat any_goals (rw [rounds_succ]; go_wp2_with fail)

  all_goals go_ret
  all_goals refine ⟨?_, by go_grown⟩
  all_goals first
    | exact ret_int (chkE_f (by unfold okM; omega)).symm
    | exact ret_int (chkE_t (by unfold okM; omega)).symm

end Go.Proofs.YtcnflmbnnobocaaDoor
