/- The examples of the chapter. Conditions: as in Env. -/
import Derived.Test.YtcnflmbnnobocaaDoorMrr
import Derived.Test.YtcnflmbnnobocaaDoorMst
import Derived.Test.YtcnflmbnnobocaaDoorMor
import Derived.Test.YtcnflmbnnobocaaDoorEq
import Derived.BigQuiet
import Derived.Deep.QuietTactic
namespace Go.Proofs.YtcnflmbnnobocaaDoor
open Go Go.RowKit

/-- A world reached from w0: nothing old has changed, the variables lie as they should, and these blocks hold these lists. -/
structure Rch (w0 : World) (hs : List (Nat × TypeId × List Int)) (w : World) : Prop where
  env : Env w
  bel : Below w0.heap.size w0 w
  held : ∀ x ∈ hs, Holds w x.1 .i64 x.2.1 x.2.2
section
variable {w0 w : World} {hs : List (Nat × TypeId × List Int)}
theorem Rch.start (h : Env w) : Rch w [] w := ⟨h, Below.refl _ _, fun _ hx => absurd hx (by simp)⟩
theorem Rch.go (h : Rch w0 hs w) {w' : World} (hb : Below w.heap.size w w') : Rch w0 hs w' := ⟨h.env.below hb, h.bel.trans (hb.mono h.bel.size), fun x hx => (h.held x hx).below hb (h.held x hx).lt⟩
theorem Rch.alloc (h : Rch w0 hs w) (o : Obj) : Rch w0 hs (w.alloc o) := h.go ((Below.refl _ _).alloc (Nat.le_refl _) o)
theorem Rch.drew (h : Rch w0 hs w) : Rch w0 hs w.drew := h.go (Below.refl _ _).drew
theorem Rch.drewN (h : Rch w0 hs w) (n : Nat) : Rch w0 hs (w.drewN n) := h.go (below_dn _ n)
theorem Rch.hd {g : Nat} {t : TypeId} {l : List Int} (h : Rch w0 ((g, t, l) :: hs) w) : Holds w g .i64 t l := h.held (g, t, l) (by simp)
theorem Rch.tl {x : Nat × TypeId × List Int} (h : Rch w0 (x :: hs) w) : Rch w0 hs w := ⟨h.env, h.bel, fun y hy => h.held y (by simp [hy])⟩
theorem Rch.new (h : Rch w0 hs w) (t : TypeId) (l l' : List Int) : Rch w0 ((w.heap.size, t, l') :: hs) ((w.alloc (.cells (ints l) t)).setRow w.heap.size (ints l')) := by
  have hb : Below w.heap.size w ((w.alloc (.cells (ints l) t)).setRow w.heap.size (ints l')) := below_setRow ((Below.refl _ _).alloc (Nat.le_refl _) _) (Nat.le_refl _) _
  have h2 := h.go hb
  refine ⟨h2.env, h2.bel, fun x hx => ?_⟩
  rcases List.mem_cons.1 hx with rfl | hx
  · exact (Holds.new w .i64 t l).setRow l'
  · exact h2.held x hx
/-- A whole array is stored into a variable that is new. -/
theorem wpl_storeNew {ops : Array Oper} {rest : List Oper} {o : Oper} {a : Act} {Q : Exit → Act → World → Prop} (h : Rch w0 hs w) (t : TypeId) (l l' : List Int) {cs : Array Value} (hcs : cs = ints l) (hgd : o.guard = none) (ty : TypeId) (x y : Operand) (ho : o.op = .store ty x y)
    (hx : a.eval x = .pointer (some ⟨w.heap.size, 0, none⟩)) (hy : a.eval y = .agg (ints l')) (hl : l'.length = l.length) (hi : (Tryd.prog.info? ty).map (·.size) = some l.length)
    (hK : ∀ w', Rch w0 ((w.heap.size, t, l') :: hs) w' → wpList Tryd.prog ops Q rest (a.put o.dst undef) w') : wpList Tryd.prog ops Q (o :: rest) a (w.alloc (.cells cs t)) := by
  subst hcs
  exact wpl_store (Holds.new w .i64 t l) hgd ty x y ho hx l' hy hl hi (hK _ (h.new t l l'))
end
/-- A whole array is loaded. -/
theorem wpl_loadG {ops : Array Oper} {rest : List Oper} {o : Oper} {a : Act} {w : World} {Q : Exit → Act → World → Prop} {g : Nat} {t : TypeId} {l : List Int} (hg : Holds w g .i64 t l) (hgd : Region.wanted o (yielded ops a.tmps) = true) (ty : TypeId) (x : Operand) (ho : o.op = .load ty x)
    (hx : a.eval x = .pointer (some ⟨g, 0, none⟩)) {n : Nat} {e : TypeId} (hu : Tryd.prog.underlying ty = some (.array n e)) (hi : (Tryd.prog.info? ty).map (·.size) = some l.length)
    (h : wpList Tryd.prog ops Q rest (a.put o.dst (.agg (ints l))) w) : wpList Tryd.prog ops Q (o :: rest) a w :=
  wpList_step fun K hK => by simp only [hgd, if_true]; exact wp_load_row ty x ho g hx t (ints l) (0, 0) _ hg hu rfl (by rw [intsK_size]; exact hi) (hK _ _ h)
@[irreducible] def stB : List Int := stL 8
def stV : List Int := [8, 2, 2, 2, 1, 8, 2, 2, 2, 1]
set_option maxRecDepth 100000 in
theorem stB_mat : matV stB = stV := by unfold stB; decide +kernel
theorem stB_len : stB.length = 64 := by unfold stB; exact stL_len 8
theorem start_R {w0 w : World} {hs : List (Nat × TypeId × List Int)} (h : Rch w0 hs w) : Calls Tryd.prog 26 #[] w fun e w' => e = .returned (.agg (ints stB)) ∧ Rch w0 hs w' := (start_any w).mono fun _ _ ⟨a, b⟩ => ⟨by rw [a]; unfold stB; rfl, h.go b⟩
theorem of_R {w0 w : World} {hs : List (Nat × TypeId × List Int)} (h : Rch w0 hs w) (b : List Int) (hb : b.length = 64) : Calls Tryd.prog 11 #[.agg (ints b)] w fun e w' => e = .returned (.agg (ints (matV b))) ∧ Rch w0 hs w' := (of_walk b hb w h.env.places).mono fun _ _ ⟨a, b⟩ => ⟨a, h.go b⟩
theorem ofr_R {w0 w : World} {hs : List (Nat × TypeId × List Int)} (h : Rch w0 hs w) (b : List Int) (hb : b.length = 64) : Calls Tryd.prog 12 #[.agg (ints b)] w fun e w' => e = .returned (.agg (ints (matV b))) ∧ Rch w0 hs w' := (of_ref b hb w).mono fun _ _ ⟨a, b⟩ => ⟨a, h.go b⟩
theorem ofst_R {w0 w : World} {hs : List (Nat × TypeId × List Int)} (h : Rch w0 hs w) : Calls Tryd.prog 11 #[.agg (ints stB)] w fun e w' => e = .returned (.agg (ints stV)) ∧ Rch w0 hs w' := (of_R h stB stB_len).mono fun _ _ ⟨a, b⟩ => ⟨by rw [a, stB_mat], b⟩
theorem parse_R {w0 w : World} {hs : List (Nat × TypeId × List Int)} (h : Rch w0 hs w) (s : Int) (h0 : 0 ≤ s) (h1 : s ≤ 18446744073709551615) : Calls Tryd.prog 20 #[.int .u64 s] w fun e w' => e = .returned (.tuple #[.agg (ints (prsV s)), .int .i64 (prsE s)]) ∧ Rch w0 hs w' := (parse_any s w h0 h1).mono fun _ _ ⟨a, b⟩ => ⟨a, h.go b⟩
theorem parser_R {w0 w : World} {hs : List (Nat × TypeId × List Int)} (h : Rch w0 hs w) (s : Int) (h0 : 0 ≤ s) (h1 : s ≤ 18446744073709551615) : Calls Tryd.prog 21 #[.int .u64 s] w fun e w' => e = .returned (.tuple #[.agg (ints (prsV s)), .int .i64 (prsE s)]) ∧ Rch w0 hs w' := (parse_ref s w h0 h1).mono fun _ _ ⟨a, b⟩ => ⟨a, h.go b⟩
theorem read_R {w0 w : World} {hs : List (Nat × TypeId × List Int)} (h : Rch w0 hs w) (s : ByteArray) (hz : s.size ≤ 100000) : Calls Tryd.prog 22 #[.string s] w fun e w' => e = .returned (.tuple #[.agg (ints (rdV s)), .int .i64 (rdE s)]) ∧ Rch w0 hs w' := (read_any s hz w h.env).mono fun _ _ ⟨a, b⟩ => ⟨a, h.go b⟩
theorem readr_R {w0 w : World} {hs : List (Nat × TypeId × List Int)} (h : Rch w0 hs w) (s : ByteArray) (hz : s.size ≤ 100000) : Calls Tryd.prog 23 #[.string s] w fun e w' => e = .returned (.tuple #[.agg (ints (rdV s)), .int .i64 (rdE s)]) ∧ Rch w0 hs w' := (read_ref s hz w).mono fun _ _ ⟨a, b⟩ => ⟨a, h.go b⟩
theorem check_R {w0 w : World} {hs : List (Nat × TypeId × List Int)} (h : Rch w0 hs w) (l : List Int) (hl : l.length = 10) : Calls Tryd.prog 18 #[.agg (ints l)] w fun e w' => e = .returned (.int .i64 (chkL l)) ∧ Rch w0 hs w' := (check_L l hl w).mono fun _ _ ⟨a, b⟩ => ⟨a, h.go b⟩
theorem checkr_R {w0 w : World} {hs : List (Nat × TypeId × List Int)} (h : Rch w0 hs w) (l : List Int) (hl : l.length = 10) : Calls Tryd.prog 19 #[.agg (ints l)] w fun e w' => e = .returned (.int .i64 (chkL l)) ∧ Rch w0 hs w' := (check_Lr l hl w).mono fun _ _ ⟨a, b⟩ => ⟨a, h.go b⟩
theorem sign_R {w0 w : World} {hs : List (Nat × TypeId × List Int)} (h : Rch w0 hs w) (l : List Int) (hl : l.length = 10) : Calls Tryd.prog 14 #[.agg (ints l)] w fun e w' => e = .returned (.tuple #[.int .u64 (sgnL l), .int .i64 (chkL l)]) ∧ Rch w0 hs w' := (sign_L l hl w).mono fun _ _ ⟨a, b⟩ => ⟨a, h.go b⟩
theorem signr_R {w0 w : World} {hs : List (Nat × TypeId × List Int)} (h : Rch w0 hs w) (l : List Int) (hl : l.length = 10) : Calls Tryd.prog 15 #[.agg (ints l)] w fun e w' => e = .returned (.tuple #[.int .u64 (sgnL l), .int .i64 (chkL l)]) ∧ Rch w0 hs w' := (sign_Lr l hl w).mono fun _ _ ⟨a, b⟩ => ⟨a, h.go b⟩
theorem text_R {w0 w : World} {hs : List (Nat × TypeId × List Int)} (h : Rch w0 hs w) (l : List Int) (hl : l.length = 10) : Calls Tryd.prog 16 #[.agg (ints l)] w fun e w' => e = .returned (.tuple #[.string (txtL l), .int .i64 (chkL l)]) ∧ Rch w0 hs w' := (text_L l hl w).mono fun _ _ ⟨a, b⟩ => ⟨a, h.go b⟩
theorem textr_R {w0 w : World} {hs : List (Nat × TypeId × List Int)} (h : Rch w0 hs w) (l : List Int) (hl : l.length = 10) : Calls Tryd.prog 17 #[.agg (ints l)] w fun e w' => e = .returned (.tuple #[.string (txtL l), .int .i64 (chkL l)]) ∧ Rch w0 hs w' := (text_Lr l hl w).mono fun _ _ ⟨a, b⟩ => ⟨a, h.go b⟩

theorem stV_chk : chkL stV = 0 := by decide +kernel
theorem stV_sgn : sgnL stV = 0x1222812228 := by decide +kernel
theorem stV_txt : txtL stV = ⟨#[56, 32, 50, 32, 50, 32, 50, 32, 49, 32, 56, 32, 50, 32, 50, 32, 50, 32, 49]⟩ := by decide +kernel
def exV : List Int := [1, 0, 0, 0, 0, 0, 0, 0, 0, 15]
theorem exV_chk : chkL exV = 0 := by decide +kernel
theorem exV_sgn : sgnL exV = 0xF000000001 := by decide +kernel
theorem pr1 : prsE 1099511627776 = 8 := by decide +kernel
theorem pr2 : prsE 9 = 8 := by decide +kernel
theorem rd1 : rdE ⟨#[49, 32, 48, 32, 48, 32, 48, 32, 48, 32, 48, 32, 48, 32, 48, 32, 48]⟩ = 8 := by decide +kernel
theorem rd2 : rdE ⟨#[48, 49, 32, 48, 32, 48, 32, 48, 32, 48, 32, 48, 32, 48, 32, 48, 32, 48, 32, 48]⟩ = 8 := by decide +kernel
theorem ck1 : chkL [9, 0, 0, 0, 0, 0, 0, 0, 0, 0] = 2 := by decide +kernel
theorem ck2 : chkL [8, 8, 0, 0, 0, 0, 0, 0, 0, 0] = 2 := by decide +kernel
theorem prsV_ln (s : Int) : (prsV s).length = 10 := by unfold prsV; split <;> rfl
theorem rdV_ln (s : ByteArray) : (rdV s).length = 10 := by
  unfold rdV
  split
  · rename_i h; rw [List.length_map]; exact h.1
  · rfl
set_option maxRecDepth 100000 in
set_option maxHeartbeats 4000000 in
theorem works_any (w : World) (hw : Env w) : Calls Tryd.prog 13 #[] w fun e w' => e = .returned (.bool true) ∧ Below w.heap.size w w' := by
  have hR := Rch.start hw
  go_enter Tryd.func13, Tryd.ntmps13
  have t1 := trivial
  go_wp2_with (first
    | (go_at_call 26; refine (start_R hR).mono ?_; clear hR; rintro e w' ⟨rfl, hR⟩)
    | (go_at_call 11; refine (ofst_R hR).mono ?_; clear hR; rintro e w1 ⟨rfl, hR⟩)
    | (have _t := t1; with_reducible refine wpl_storeNew hR 25 zero10 stV (by with_unfolding_all rfl) rfl 25 _ _ rfl rfl rfl rfl (by kernel_rfl) ?_; clear hR; intro w2 hR)
    | (have _t := t1; with_reducible refine wpl_loadG hR.hd (by with_unfolding_all rfl) 25 _ rfl rfl Tryd.underlying25 (by kernel_rfl) ?_)
    | (have _t := t1; go_at_call 14; refine (sign_R hR stV rfl).mono ?_; clear hR t1 _t; rintro e w1 ⟨rfl, hR⟩; rw [stV_sgn, stV_chk])
    | (with_reducible refine wpl_loadG hR.hd (by with_unfolding_all rfl) 25 _ rfl rfl Tryd.underlying25 (by kernel_rfl) ?_)
    | (go_at_call 16; refine (text_R hR stV rfl).mono ?_; clear hR; rintro e w1 ⟨rfl, hR⟩; rw [stV_txt, stV_chk]; have t3 := trivial; have t4 := trivial; have t5 := trivial)
    | (go_at_call 14; refine (sign_R hR exV rfl).mono ?_; clear hR; rintro e w1 ⟨rfl, hR⟩; rw [exV_sgn, exV_chk])
    | (have _t := t3; go_at_call 20; refine (parse_R hR 1099511627776 (by omega) (by omega)).mono ?_; clear hR _t t3; rintro e w1 ⟨rfl, hR⟩; rw [pr1])
    | (go_at_call 20; refine (parse_R hR 9 (by omega) (by omega)).mono ?_; clear hR; rintro e w1 ⟨rfl, hR⟩; rw [pr2])
    | (with_reducible refine wpl_storeNew hR 25 zero10 (prsV 1099511627776) (by with_unfolding_all rfl) rfl 25 _ _ rfl rfl rfl (prsV_ln _) (by kernel_rfl) ?_; clear hR; intro w2 hR)
    | (with_reducible refine wpl_storeNew hR 25 zero10 (prsV 9) (by with_unfolding_all rfl) rfl 25 _ _ rfl rfl rfl (prsV_ln _) (by kernel_rfl) ?_; clear hR; intro w2 hR)
    | (have _t := t4; go_at_call 22; refine (read_R hR _ (by decide)).mono ?_; clear hR _t t4; rintro e w1 ⟨rfl, hR⟩; rw [rd1])
    | (go_at_call 22; refine (read_R hR _ (by decide)).mono ?_; clear hR; rintro e w1 ⟨rfl, hR⟩; rw [rd2])
    | (with_reducible refine wpl_storeNew hR 25 zero10 (rdV _) (by with_unfolding_all rfl) rfl 25 _ _ rfl rfl rfl (rdV_ln _) (by kernel_rfl) ?_; clear hR; intro w2 hR)
    | (with_reducible refine wpl_loadG hR.tl.tl.tl.tl.hd (by with_unfolding_all rfl) 25 _ rfl rfl Tryd.underlying25 (by kernel_rfl) ?_)
    | (with_reducible refine wpl_eqG (l := stV) (l' := stV) (by with_unfolding_all rfl) _ _ _ rfl rfl (by with_unfolding_all rfl) Tryd.underlying25 Tryd.underlying3 (by kernel_rfl) (by kernel_rfl) (by kernel_rfl) rfl rfl ?_; rw [decide_eq_true rfl])
    | (have _t := t5; go_at_call 18; refine (check_R hR [9, 0, 0, 0, 0, 0, 0, 0, 0, 0] rfl).mono ?_; clear hR _t t5; rintro e w1 ⟨rfl, hR⟩; rw [ck1])
    | (go_at_call 18; refine (check_R hR [8, 8, 0, 0, 0, 0, 0, 0, 0, 0] rfl).mono ?_; clear hR; rintro e w1 ⟨rfl, hR⟩; rw [ck2]))
  go_ret
  exact ⟨rfl, hR.bel⟩
end Go.Proofs.YtcnflmbnnobocaaDoor
