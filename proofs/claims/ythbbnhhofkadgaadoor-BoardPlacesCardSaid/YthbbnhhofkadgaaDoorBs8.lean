/- The law BoardMoves. Conditions: as in EnvB. -/
import Derived.Test.YthbbnhhofkadgaaDoorBcm
import Derived.Test.YthbbnhhofkadgaaDoorBfp
namespace Go.Proofs.YthbbnhhofkadgaaDoor
open Go Go.RowKit
theorem Rch.held_new {w0 w : World} {hs : List (Nat × TypeId × List Int)} (h : Rch w0 hs w) (t : TypeId) (l : List Int) : Rch w0 ((w.heap.size, t, l) :: hs) (w.alloc (.cells (ints l) t)) := by
  have h2 := h.alloc (.cells (ints l) t)
  refine ⟨h2.env, h2.bel, fun x hx => ?_⟩
  rcases List.mem_cons.1 hx with rfl | hx
  · exact Holds.new w .i64 t l
  · exact h2.held x hx
theorem flip_R {w0 w : World} {hs : List (Nat × TypeId × List Int)} (h : Rch w0 hs w) (b : List Int) (hb : b.length = 64) : Calls Tryd.prog 33 #[.agg (ints b)] w fun e w' => e = .returned (.tuple #[.agg (ints (flV b)), .int .i64 (chkB b)]) ∧ Rch w0 hs w' := (flip_any b hb w).mono fun _ _ ⟨a, b⟩ => ⟨a, h.go b⟩
theorem flipr_R {w0 w : World} {hs : List (Nat × TypeId × List Int)} (h : Rch w0 hs w) (b : List Int) (hb : b.length = 64) : Calls Tryd.prog 34 #[.agg (ints b)] w fun e w' => e = .returned (.tuple #[.agg (ints (flV b)), .int .i64 (chkB b)]) ∧ Rch w0 hs w' := (flipr_any b hb w).mono fun _ _ ⟨a, b⟩ => ⟨a, h.go b⟩
set_option maxRecDepth 100000 in
set_option maxHeartbeats 4000000 in
theorem moves_any (b : List Int) (lb : b.length = 64) (f t : Int) (w : World) (hw : EnvB w) :
    Calls Tryd.prog 8 #[.agg (ints b), .int .i64 f, .int .i64 t] w fun e w' => e = .returned (.bool true) ∧ Below w.heap.size w w' := by
  obtain ⟨m, hm⟩ : ∃ m, mvV b f t = m := ⟨_, rfl⟩
  obtain ⟨e1, he1⟩ : ∃ m, mvE b f t = m := ⟨_, rfl⟩
  obtain ⟨k, hk⟩ : ∃ m, flV b = m := ⟨_, rfl⟩
  obtain ⟨e2, he2⟩ : ∃ m, chkB b = m := ⟨_, rfl⟩
  have lm : m.length = 64 := by rw [← hm]; exact mvV_len b lb f t
  have lk : k.length = 64 := by rw [← hk]; exact flV_len b
  have zm : m.length = zero64.length := lm
  have zk : k.length = zero64.length := lk
  have ib := i24 lb
  have im := i24 lm
  have ik := i24 lk
  have H1 := Lib.hid hm
  have H2 := Lib.hid he1
  have H3 := Lib.hid hk
  have H4 := Lib.hid he2
  have hR := (Rch.start hw).held_new 24 b
  clear hm he1 hk he2 hw
  go_enter Tryd.func8, Tryd.ntmps8
  go_wp2_with (first
    | (with_reducible refine wpl_loadG hR.hd (by with_unfolding_all rfl) 24 _ rfl rfl Tryd.underlying24 (by first | exact ib | exact im | exact ik) ?_)
    | (with_reducible refine wpl_loadG hR.tl.hd (by with_unfolding_all rfl) 24 _ rfl rfl Tryd.underlying24 (by first | exact ib | exact im | exact ik) ?_)
    | (with_reducible refine wpl_loadG hR.tl.tl.hd (by with_unfolding_all rfl) 24 _ rfl rfl Tryd.underlying24 (by first | exact ib | exact im | exact ik) ?_)
    | (with_reducible refine wpl_loadG hR.tl.tl.tl.hd (by with_unfolding_all rfl) 24 _ rfl rfl Tryd.underlying24 (by first | exact ib | exact im | exact ik) ?_)
    | (with_reducible refine wpl_loadG hR.tl.tl.tl.tl.hd (by with_unfolding_all rfl) 24 _ rfl rfl Tryd.underlying24 (by first | exact ib | exact im | exact ik) ?_)
    | (go_at_call 19; refine (move_R hR b lb f t).mono ?_; clear hR; rintro e w1 ⟨rfl, hR⟩; rw [H1.out, H2.out])
    | (go_at_call 32; refine (mover_R hR b lb f t).mono ?_; clear hR; rintro e w1 ⟨rfl, hR⟩; rw [H1.out, H2.out])
    | (go_at_call 33; refine (flip_R hR b lb).mono ?_; clear hR; rintro e w1 ⟨rfl, hR⟩; rw [H3.out, H4.out])
    | (go_at_call 34; refine (flipr_R hR b lb).mono ?_; clear hR; rintro e w1 ⟨rfl, hR⟩; rw [H3.out, H4.out])
    | (with_reducible refine wpl_storeNew hR 24 zero64 m (by with_unfolding_all rfl) rfl 24 _ _ rfl rfl rfl zm z64_info ?_; clear hR; intro w2 hR)
    | (with_reducible refine wpl_storeNew hR 24 zero64 k (by with_unfolding_all rfl) rfl 24 _ _ rfl rfl rfl zk z64_info ?_; clear hR; intro w2 hR)
    | (with_reducible refine wpl_eqB lm lm rfl (by with_unfolding_all rfl) _ _ _ rfl rfl (by with_unfolding_all rfl) ?_)
    | (with_reducible refine wpl_eqB lk lk rfl (by with_unfolding_all rfl) _ _ _ rfl rfl (by with_unfolding_all rfl) ?_)
    | (go_at_call 11; refine (works_R hR).mono ?_; clear hR; rintro e w1 ⟨rfl, hR⟩))
  go_ret
  exact ⟨rfl, hR.bel⟩
end Go.Proofs.YthbbnhhofkadgaaDoor
