/- The law BoardParses. Conditions: as in EnvB. -/
import Derived.Test.YthbbnhhofkadgaaDoorBrg
import Derived.Test.YthbbnhhofkadgaaDoorBrq
namespace Go.Proofs.YthbbnhhofkadgaaDoor
open Go Go.RowKit
theorem rparse_R {w0 w : World} {hs : List (Nat × TypeId × List Int)} (h : Rch w0 hs w) (s : ByteArray) (hz : s.size ≤ 100000) : Calls Tryd.prog 13 #[.string s] w fun e w' => e = .returned (.tuple #[.agg (ints (psV s)), .int .i64 (psE s)]) ∧ Rch w0 hs w' := (rparse_any s hz w).mono fun _ _ ⟨a, b⟩ => ⟨by rw [a, (ps_rp s).1, (ps_rp s).2], h.go b⟩
theorem psV_len (s : ByteArray) : (psV s).length = 64 := by
  unfold psV
  cases h : psB s with
  | none => rfl
  | some b =>
    simp only
    split
    · exact (psB_ok h).2
    · rfl
set_option maxRecDepth 100000 in
set_option maxHeartbeats 4000000 in
theorem parses_any (s : ByteArray) (w : World) (hw : EnvB w) :
    Calls Tryd.prog 3 #[.string s] w fun e w' => e = .returned (.bool true) ∧ Below w.heap.size w w' := by
  have hR := Rch.start hw
  clear hw
  by_cases h : 300 < s.size
  · have d1 : decide (300 < (s.size : Int)) = true := by simp; omega
    go_enter Tryd.func3, Tryd.ntmps3
    go_wp2_with (go_at_call 11; refine (works_R hR).mono ?_; clear hR; rintro e w1 ⟨rfl, hR⟩)
    go_ret
    exact ⟨rfl, hR.bel⟩
  · have d1 : decide (300 < (s.size : Int)) = false := by simp; omega
    have hs : s.size ≤ 100000 := by omega
    have lm := psV_len s
    obtain ⟨m, h1⟩ : ∃ m, psV s = m := ⟨_, rfl⟩
    obtain ⟨e1, h2⟩ : ∃ m, psE s = m := ⟨_, rfl⟩
    rw [h1] at lm
    have H1 := Lib.hid h1
    have H2 := Lib.hid h2
    have zm : m.length = zero64.length := lm
    have im := i24 lm
    clear h1 h2 h
    go_enter Tryd.func3, Tryd.ntmps3
    go_wp2_with (first
      | (with_reducible refine wpl_loadG hR.hd (by with_unfolding_all rfl) 24 _ rfl rfl Tryd.underlying24 im ?_)
      | (with_reducible refine wpl_loadG hR.tl.hd (by with_unfolding_all rfl) 24 _ rfl rfl Tryd.underlying24 im ?_)
      | (go_at_call 12; refine (psr_R hR s hs).mono ?_; clear hR; rintro e w1 ⟨rfl, hR⟩; rw [H1.out, H2.out])
      | (go_at_call 13; refine (rparse_R hR s hs).mono ?_; clear hR; rintro e w1 ⟨rfl, hR⟩; rw [H1.out, H2.out])
      | (with_reducible refine wpl_storeNew hR 24 zero64 m (by with_unfolding_all rfl) rfl 24 _ _ rfl rfl rfl zm z64_info ?_; clear hR; intro w2 hR)
      | (with_reducible refine wpl_eqB lm lm rfl (by with_unfolding_all rfl) _ _ _ rfl rfl (by with_unfolding_all rfl) ?_)
      | (go_at_call 11; refine (works_R hR).mono ?_; clear hR; rintro e w1 ⟨rfl, hR⟩))
    go_ret
    exact ⟨rfl, hR.bel⟩
end Go.Proofs.YthbbnhhofkadgaaDoor
