/- The contract of script.Print. -/
import Derived.Test.YtjjnjglbmneecaaDoorSen
namespace Go.Proofs.YtjjnjglbmneecaaDoor
open Go Go.RowKit
set_option maxHeartbeats 1000000 in
theorem print_no {w : World} (hw : EnvS w) (k a : Int) (v : ByteArray) (hv : v.size ≤ 900000) (hc : chkZ k a v.data.toList ≠ 0) :
    Calls Tryd.prog 20 #[opV k a v] w fun e w' => e = .returned (.tuple #[.string ⟨#[]⟩, .int .i64 2]) ∧ Below w.heap.size w w' := by
  have hB := Lib.hid (below_al w (.cells (opC k a v) 24))
  have h2 : chkZ k a v.data.toList = 2 := by unfold chkZ at hc ⊢; split at hc <;> simp_all
  have HC := Lib.hid (check_any (hw.below hB.out) k a v hv)
  rw [h2] at HC
  unfold opV at HC ⊢
  clear hc h2
  go_enter Tryd.func20, Tryd.ntmps20
  go_wp2_with (go_at_call 21; refine HC.out.mono ?_; rintro e w' ⟨rfl, hE⟩)
  go_ret2
  exact ⟨rfl, hB.out.trans (below_le hE (by simp))⟩
end Go.Proofs.YtjjnjglbmneecaaDoor
