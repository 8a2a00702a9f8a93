/- The contract of script.Check. -/
import Derived.Test.YtjjnjglbmneecaaDoorSck
namespace Go.Proofs.YtjjnjglbmneecaaDoor
open Go Go.RowKit
set_option maxHeartbeats 1000000 in
theorem check_no (k a : Int) (v : ByteArray) (hk : ¬ (0 < k ∧ k < 10)) (w : World) :
    Calls Tryd.prog 21 #[opV k a v] w fun e w' => e = .returned (.int .i64 2) ∧ Below w.heap.size w w' := by
  have hB := Lib.hid (below_al w (.cells (opC k a v) 24))
  have HK := Lib.hid (fun W : World => known_any k W)
  rw [decide_eq_false hk] at HK
  unfold opV
  clear hk
  go_enter Tryd.func21, Tryd.ntmps21
  go_wp2_with fail
  go_quiet (first | (go_at_call 47; refine (HK.out _).mono ?_; rintro e w' ⟨rfl, rfl⟩; exact ⟨rfl, _, rfl⟩))
  go_wp2_with fail
  go_ret
  exact ⟨rfl, hB.out.trans ⟨rfl, rfl, rfl, Nat.le_refl _, fun _ _ => rfl⟩⟩
end Go.Proofs.YtjjnjglbmneecaaDoor
