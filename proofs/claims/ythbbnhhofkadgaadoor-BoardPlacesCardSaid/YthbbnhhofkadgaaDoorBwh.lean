/- What the examples of the chapter need: blocks that are held, concrete values. Conditions: as in EnvB. -/
import Derived.Test.YthbbnhhofkadgaaDoorBps
import Derived.Test.YthbbnhhofkadgaaDoorBkg
import Derived.Test.YthbbnhhofkadgaaDoorBli
import Derived.Test.YthbbnhhofkadgaaDoorBcn
import Derived.Test.YthbbnhhofkadgaaDoorEq
import Derived.BigQuiet
import Derived.Deep.DeepCutAuto
import Derived.Deep.RegionWith
import Derived.Deep.QuietTactic
namespace Go.Proofs.YthbbnhhofkadgaaDoor
open Go Go.RowKit
/-- A world reached from w0: nothing old has changed, the variables lie as they should, and these blocks hold these lists. -/
structure Rch (w0 : World) (hs : List (Nat × TypeId × List Int)) (w : World) : Prop where
  env : EnvB w
  bel : Below w0.heap.size w0 w
  held : ∀ x ∈ hs, Holds w x.1 .i64 x.2.1 x.2.2
section
variable {w0 w : World} {hs : List (Nat × TypeId × List Int)}
theorem Rch.start (h : EnvB w) : Rch w [] w := ⟨h, Below.refl _ _, fun _ hx => absurd hx (by simp)⟩
theorem Rch.go (h : Rch w0 hs w) {w' : World} (hb : Below w.heap.size w w') : Rch w0 hs w' := ⟨h.env.below hb h.env.size, h.bel.trans (hb.mono h.bel.size), fun x hx => (h.held x hx).below hb (h.held x hx).lt⟩
theorem Rch.alloc (h : Rch w0 hs w) (o : Obj) : Rch w0 hs (w.alloc o) := h.go ((Below.refl _ _).alloc (Nat.le_refl _) o)
theorem Rch.drew (h : Rch w0 hs w) : Rch w0 hs w.drew := h.go (Below.refl _ _).drew
theorem Rch.drewN (h : Rch w0 hs w) (n : Nat) : Rch w0 hs (w.drewN n) := h.go (below_dn _ n)
theorem Rch.hd {g : Nat} {t : TypeId} {l : List Int} (h : Rch w0 ((g, t, l) :: hs) w) : Holds w g .i64 t l := h.held (g, t, l) (by simp)
theorem Rch.tl {x : Nat × TypeId × List Int} (h : Rch w0 (x :: hs) w) : Rch w0 hs w := ⟨h.env, h.bel, fun y hy => h.held y (by simp [hy])⟩
theorem Rch.new (h : Rch w0 hs w) (t : TypeId) (l l' : List Int) : Rch w0 ((w.heap.size, t, l') :: hs) ((w.alloc (.cells (ints l) t)).setRow w.heap.size (ints l')) := by
  have hb : Below w.heap.size w ((w.alloc (.cells (ints l) t)).setRow w.heap.size (ints l')) := below_setRow ((Below.refl _ _).alloc (Nat.le_refl _) _) (Nat.le_refl _) _
  have h2 := h.go hb
  refine ⟨h2.env, h2.bel, fun x hx => ?_⟩
  rcases List.mem_cons.1 hx with rfl | hx
  · exact (Holds.new w .i64 t l).setRow l'
  · exact h2.held x hx
/-- A whole array is stored into a variable that is new. -/
theorem wpl_storeNew {ops : Array Oper} {rest : List Oper} {o : Oper} {a : Act} {Q : Exit → Act → World → Prop} (h : Rch w0 hs w) (t : TypeId) (l l' : List Int) {cs : Array Value} (hcs : cs = ints l) (hgd : o.guard = none) (ty : TypeId) (x y : Operand) (ho : o.op = .store ty x y)
    (hx : a.eval x = .pointer (some ⟨w.heap.size, 0, none⟩)) (hy : a.eval y = .agg (ints l')) (hl : l'.length = l.length) (hi : (Tryd.prog.info? ty).map (·.size) = some l.length)
    (hK : ∀ w', Rch w0 ((w.heap.size, t, l') :: hs) w' → wpList Tryd.prog ops Q rest (a.put o.dst undef) w') : wpList Tryd.prog ops Q (o :: rest) a (w.alloc (.cells cs t)) := by
  subst hcs
  exact wpl_store (Holds.new w .i64 t l) hgd ty x y ho hx l' hy hl hi (hK _ (h.new t l l'))
end
/-- A whole array is loaded. -/
theorem wpl_loadG {ops : Array Oper} {rest : List Oper} {o : Oper} {a : Act} {w : World} {Q : Exit → Act → World → Prop} {g : Nat} {t : TypeId} {l : List Int} (hg : Holds w g .i64 t l) (hgd : Region.wanted o (yielded ops a.tmps) = true) (ty : TypeId) (x : Operand) (ho : o.op = .load ty x)
    (hx : a.eval x = .pointer (some ⟨g, 0, none⟩)) {n : Nat} {e : TypeId} (hu : Tryd.prog.underlying ty = some (.array n e)) (hi : (Tryd.prog.info? ty).map (·.size) = some l.length)
    (h : wpList Tryd.prog ops Q rest (a.put o.dst (.agg (ints l))) w) : wpList Tryd.prog ops Q (o :: rest) a w :=
  wpList_step fun K hK => by simp only [hgd, if_true]; exact wp_load_row ty x ho g hx t (ints l) (0, 0) _ hg hu rfl (by rw [intsK_size]; exact hi) (hK _ _ h)
@[irreducible] def strB : List Int := [4, 2, 3, 5, 6, 3, 2, 4, 1, 1, 1, 1, 1, 1, 1, 1, 0, 0, 0, 0, 0, 0, 0, 0, 0, 0, 0, 0, 0, 0, 0, 0, 0, 0, 0, 0, 0, 0, 0, 0, 0, 0, 0, 0, 0, 0, 0, 0, 7, 7, 7, 7, 7, 7, 7, 7, 10, 8, 9, 11, 12, 9, 8, 10]
@[irreducible] def strM : List Int := [4, 2, 3, 5, 6, 3, 2, 4, 1, 1, 1, 1, 0, 1, 1, 1, 0, 0, 0, 0, 0, 0, 0, 0, 0, 0, 0, 0, 1, 0, 0, 0, 0, 0, 0, 0, 0, 0, 0, 0, 0, 0, 0, 0, 0, 0, 0, 0, 7, 7, 7, 7, 7, 7, 7, 7, 10, 8, 9, 11, 12, 9, 8, 10]
def strS : ByteArray := ⟨#[114, 110, 98, 113, 107, 98, 110, 114, 47, 112, 112, 112, 112, 112, 112, 112, 112, 47, 56, 47, 56, 47, 56, 47, 56, 47, 80, 80, 80, 80, 80, 80, 80, 80, 47, 82, 78, 66, 81, 75, 66, 78, 82]⟩
def strT : ByteArray := ⟨#[114, 110, 98, 113, 107, 98, 110, 114, 47, 112, 112, 112, 112, 112, 112, 112, 112, 47, 56, 47, 56, 47, 52, 80, 51, 47, 56, 47, 80, 80, 80, 80, 49, 80, 80, 80, 47, 82, 78, 66, 81, 75, 66, 78, 82]⟩
theorem strB_ln : strB.length = 64 := by unfold strB; rfl
theorem strM_ln : strM.length = 64 := by unfold strM; rfl
theorem strB_lz : strB.length = zero64.length := strB_ln
theorem strM_lz : strM.length = zero64.length := strM_ln
theorem cn_lz : ([32, 8, 2, 2, 2, 1, 1, 8, 2, 2, 2, 1, 1] : List Int).length = zero13.length := rfl
theorem z13_info : (Tryd.prog.info? 48).map (·.size) = some zero13.length := by kernel_rfl
theorem strB_i : (Tryd.prog.info? 24).map (·.size) = some strB.length := by rw [strB_ln]; kernel_rfl
theorem strM_i : (Tryd.prog.info? 24).map (·.size) = some strM.length := by rw [strM_ln]; kernel_rfl
theorem wk_mv1 : mvV strB 12 28 = strM := by decide +kernel
theorem wk_mv2 : mvE strB 12 28 = 0 := by decide +kernel
theorem wk_mv3 : mvE strB 28 36 = 5 := by decide +kernel
theorem wk_mv4 : mvE strB 12 12 = 2 := by decide +kernel
theorem wk_mv5 : mvE strB 12 64 = 3 := by decide +kernel
theorem wk_chk : chkB strM = 0 := by decide +kernel
theorem wk_cn0 : (cnB strB 64) = [32, 8, 2, 2, 2, 1, 1, 8, 2, 2, 2, 1, 1] := by decide +kernel
theorem wk_of : bsum (fun x => x == 1) strB 64 = 65280 := by decide +kernel
theorem wk_kv : kgV strB 1 = 60 := by decide +kernel
theorem wk_kb : kgB strB 1 = true := by decide +kernel
theorem wk_pl : plV strM = strT := by decide +kernel
theorem wk_pl2 : plV strB = strS := by decide +kernel
theorem psr_R {w0 w : World} {hs : List (Nat × TypeId × List Int)} (h : Rch w0 hs w) (s : ByteArray) (hz : s.size ≤ 100000) : Calls Tryd.prog 12 #[.string s] w fun e w' => e = .returned (.tuple #[.agg (ints (psV s)), .int .i64 (psE s)]) ∧ Rch w0 hs w' := (bparse_any s hz w h.env).mono fun _ _ ⟨a, b⟩ => ⟨a, h.go b⟩
theorem king_R {w0 w : World} {hs : List (Nat × TypeId × List Int)} (h : Rch w0 hs w) (b : List Int) (hb : b.length = 64) (c : Int) : Calls Tryd.prog 21 #[.agg (ints b), .int .i64 c] w fun e w' => e = .returned (.tuple #[.int .i64 (kgV b c), .bool (kgB b c)]) ∧ Rch w0 hs w' := (king_any b hb c w h.env.tab).mono fun _ _ ⟨a, b⟩ => ⟨a, h.go b⟩
theorem count_R {w0 w : World} {hs : List (Nat × TypeId × List Int)} (h : Rch w0 hs w) (b : List Int) (hb : b.length = 64) : Calls Tryd.prog 28 #[.agg (ints b)] w fun e w' => e = .returned (.agg (ints (cnB b 64))) ∧ Rch w0 hs w' := (count_any b hb w).mono fun _ _ ⟨a, b⟩ => ⟨a, h.go b⟩
theorem move_R {w0 w : World} {hs : List (Nat × TypeId × List Int)} (h : Rch w0 hs w) (b : List Int) (hb : b.length = 64) (f t : Int) : Calls Tryd.prog 19 #[.agg (ints b), .int .i64 f, .int .i64 t] w fun e w' => e = .returned (.tuple #[.agg (ints (mvV b f t)), .int .i64 (mvE b f t)]) ∧ Rch w0 hs w' := (move_any b hb f t w).mono fun _ _ ⟨a, b⟩ => ⟨a, h.go b⟩
theorem place_R {w0 w : World} {hs : List (Nat × TypeId × List Int)} (h : Rch w0 hs w) (b : List Int) (hb : b.length = 64) : Calls Tryd.prog 15 #[.agg (ints b)] w fun e w' => e = .returned (.tuple #[.string (plV b), .int .i64 (chkB b)]) ∧ Rch w0 hs w' := (place_any b hb w).mono fun _ _ ⟨a, b⟩ => ⟨a, h.go b⟩
theorem of_R {w0 w : World} {hs : List (Nat × TypeId × List Int)} (h : Rch w0 hs w) (b : List Int) (hb : b.length = 64) (p : Int) : Calls Tryd.prog 24 #[.agg (ints b), .int .i64 p] w fun e w' => e = .returned (.int .u64 (bsum (fun x => x == p) b 64 : Nat)) ∧ Rch w0 hs w' := (of_any' b hb p w).mono fun _ _ ⟨a, b⟩ => ⟨a, h.go b⟩
theorem wk_p1 : psB ⟨#[114, 110, 98, 113, 107, 98, 110, 114, 47, 112, 112, 112, 112, 112, 112, 112, 112, 47, 56, 47, 56, 47, 56, 47, 56, 47, 80, 80, 80, 80, 80, 80, 80, 80, 47, 82, 78, 66, 81, 75, 66, 78, 82]⟩ = some strB := by decide +kernel
theorem wk_p2 : psV ⟨#[114, 110, 98, 113, 107, 98, 110, 114, 47, 112, 112, 112, 112, 112, 112, 112, 112, 47, 56, 47, 56, 47, 56, 47, 56, 47, 80, 80, 80, 80, 80, 80, 80, 80, 47, 82, 78, 66, 81, 75, 66, 78, 82]⟩ = strB := (ps_good wk_p1 wk_pl2).1
theorem wk_p3 : psE ⟨#[114, 110, 98, 113, 107, 98, 110, 114, 47, 112, 112, 112, 112, 112, 112, 112, 112, 47, 56, 47, 56, 47, 56, 47, 56, 47, 80, 80, 80, 80, 80, 80, 80, 80, 47, 82, 78, 66, 81, 75, 66, 78, 82]⟩ = 0 := (ps_good wk_p1 wk_pl2).2
theorem wk_q1 : psB ⟨#[56, 47, 56, 47, 56, 47, 56, 47, 56, 47, 56, 47, 56, 47, 52, 52]⟩ = some zero64 := by decide +kernel
theorem wk_q0 : plV zero64 ≠ ⟨#[56, 47, 56, 47, 56, 47, 56, 47, 56, 47, 56, 47, 56, 47, 52, 52]⟩ := by decide +kernel
theorem wk_q2 : psV ⟨#[56, 47, 56, 47, 56, 47, 56, 47, 56, 47, 56, 47, 56, 47, 52, 52]⟩ = zero64 := (ps_bad wk_q1 wk_q0).1
theorem wk_q3 : psE ⟨#[56, 47, 56, 47, 56, 47, 56, 47, 56, 47, 56, 47, 56, 47, 52, 52]⟩ = 15 := (ps_bad wk_q1 wk_q0).2
theorem mvz3 : mvV strB 28 36 = zero64 := mvV_f wk_mv3 (by decide)
theorem mvz4 : mvV strB 12 12 = zero64 := mvV_f wk_mv4 (by decide)
theorem mvz5 : mvV strB 12 64 = zero64 := mvV_f wk_mv5 (by decide)
theorem eq_pawns {w0 w : World} {hs : List (Nat × TypeId × List Int)} (h : Rch w0 hs w) (g cap : Nat) (_ : g < w.heap.size) (hc : ∀ j, j < 8 → w.cell? ⟨g, 0 + j, none⟩ = some (.int .i64 (([8, 9, 10, 11, 12, 13, 14, 15] : List Int).getD j 0))) (t : TypeId) (W : World) (hW : W = w.alloc (.cells (ints [8, 9, 10, 11, 12, 13, 14, 15]) t)) :
    Calls Tryd.prog 37 #[.slice (some ⟨g, 0, none⟩) 8 cap, .slice (some ⟨w.heap.size, 0, none⟩) 8 8] W fun e w' => e = .returned (.bool true) ∧ Rch w0 hs w' := by
  subst hW
  refine (Tryd.slices_Equal_int g 0 8 cap w.heap.size 0 8 8 [8, 9, 10, 11, 12, 13, 14, 15] [8, 9, 10, 11, 12, 13, 14, 15] _ (by decide) (by decide) (by decide) (by decide) (fun j hj => cell_alloc_l _ (hc j hj)) (fun j hj => ?_)).mono ?_
  · have := (Holds.new w .i64 t [8, 9, 10, 11, 12, 13, 14, 15]).cell j hj
    rw [Nat.zero_add]; exact this
  · rintro e w' ⟨rfl, q, rfl⟩
    exact ⟨rfl, (h.alloc _).drewN q⟩
theorem wpl_loadC {ops : Array Oper} {rest : List Oper} {o : Oper} {a : Act} {w : World} {Q : Exit → Act → World → Prop} {g i : Nat} {v : Int} (hc : w.cell? ⟨g, i, none⟩ = some (.int .i64 v)) (hgd : Region.wanted o (yielded ops a.tmps) = true) (x : Operand) (ho : o.op = .load 3 x)
    (hx : a.eval x = .pointer (some ⟨g, i, none⟩)) (h : wpList Tryd.prog ops Q rest (a.put o.dst (.int .i64 v)) w) : wpList Tryd.prog ops Q (o :: rest) a w :=
  wpList_step fun K hK => by
    simp only [hgd, if_true]
    unfold Oper.wp execOp
    simp only [ho, hx]
    simp [go_sem, hc]
    exact hK _ _ h
theorem strB_c {w : World} {g : Nat} {t : TypeId} (h : Holds w g .i64 t strB) : w.cell? ⟨g, 0, none⟩ = some (.int .i64 4) ∧ w.cell? ⟨g, 4, none⟩ = some (.int .i64 6) ∧ w.cell? ⟨g, 12, none⟩ = some (.int .i64 1) ∧ w.cell? ⟨g, 60, none⟩ = some (.int .i64 12) ∧ w.cell? ⟨g, 28, none⟩ = some (.int .i64 0) :=
  ⟨(h.cell 0 (by rw [strB_ln]; decide)).trans (by unfold strB; rfl), (h.cell 4 (by rw [strB_ln]; decide)).trans (by unfold strB; rfl), (h.cell 12 (by rw [strB_ln]; decide)).trans (by unfold strB; rfl), (h.cell 60 (by rw [strB_ln]; decide)).trans (by unfold strB; rfl), (h.cell 28 (by rw [strB_ln]; decide)).trans (by unfold strB; rfl)⟩
theorem cn_c {w : World} {g : Nat} {t : TypeId} (h : Holds w g .i64 t [32, 8, 2, 2, 2, 1, 1, 8, 2, 2, 2, 1, 1]) : w.cell? ⟨g, 0, none⟩ = some (.int .i64 32) ∧ w.cell? ⟨g, 7, none⟩ = some (.int .i64 8) ∧ w.cell? ⟨g, 12, none⟩ = some (.int .i64 1) :=
  ⟨h.cell 0 (by decide), h.cell 7 (by decide), h.cell 12 (by decide)⟩
theorem pawns_R {w0 w : World} {hs : List (Nat × TypeId × List Int)} (h : Rch w0 hs w) : Calls Tryd.prog 24 #[.agg (ints strB), .int .i64 1] w fun e w' => e = .returned (.int .u64 65280) ∧ Rch w0 hs w' := (of_R h strB strB_ln 1).mono fun _ _ ⟨a, b⟩ => ⟨by rw [a, wk_of]; rfl, b⟩
theorem list_R {w0 w : World} {hs : List (Nat × TypeId × List Int)} (h : Rch w0 hs w) : Calls Tryd.prog 38 #[.int .u64 65280] w fun e W' => ∃ g cap, e = .returned (.slice (some ⟨g, 0, none⟩) 8 cap) ∧ (∀ j, j < 8 → W'.cell? ⟨g, 0 + j, none⟩ = some (.int .i64 (([8, 9, 10, 11, 12, 13, 14, 15] : List Int).getD j 0))) ∧ g < W'.heap.size ∧ Rch w0 hs W' := (list_pawns w h.env.tab).mono fun _ _ ⟨g, cap, a, b, c, d⟩ => ⟨g, cap, a, b, c, h.go d⟩
/-- A mark that stops a walk. -/
def Stop (p : Prop) : Prop := p
theorem stop_of {p : Prop} (h : Stop p) : p := h
end Go.Proofs.YthbbnhhofkadgaaDoor
