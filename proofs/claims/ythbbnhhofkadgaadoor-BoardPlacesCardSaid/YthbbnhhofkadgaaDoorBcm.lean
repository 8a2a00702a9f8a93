/- Words that the laws of boards use. Conditions: as in EnvB. -/
import Derived.Test.YthbbnhhofkadgaaDoorBwk
import Derived.Test.YthbbnhhofkadgaaDoorBmd
import Derived.Test.YthbbnhhofkadgaaDoorBrm
namespace Go.Proofs.YthbbnhhofkadgaaDoor
open Go Go.RowKit
section
variable {w0 w : World} {hs : List (Nat × TypeId × List Int)}
theorem Rch.set0 {g : Nat} {t : TypeId} {l : List Int} (h : Rch w0 ((g, t, l) :: hs) w) (e0 : EnvB w0) (hg : w0.heap.size ≤ g) (ha : ∀ x ∈ hs, x.1 ≠ g) (l' : List Int) : Rch w0 ((g, t, l') :: hs) (w.setRow g (ints l')) := by
  have hb := below_setRow h.bel hg (ints l')
  refine ⟨e0.below hb e0.size, hb, fun x hx => ?_⟩
  rcases List.mem_cons.1 hx with rfl | hx
  · exact h.hd.setRow l'
  · exact (h.tl.held x hx).setRowOther g (ints l') (ha x hx)
theorem Rch.swap {x y : Nat × TypeId × List Int} (h : Rch w0 (x :: y :: hs) w) : Rch w0 (y :: x :: hs) w := ⟨h.env, h.bel, fun z hz => h.held z (by simp at hz ⊢; rcases hz with h | h | h <;> simp [h])⟩
theorem Rch.setc {g : Nat} {t : TypeId} {l : List Int} (h : Rch w0 ((g, t, l) :: hs) w) (e0 : EnvB w0) (hg : w0.heap.size ≤ g) (ha : ∀ x ∈ hs, x.1 ≠ g) (i : Nat) (x : Int) : Rch w0 ((g, t, l.set i x) :: hs) (w.setCell ⟨g, i, none⟩ (.int .i64 x)) := by
  have hb := h.bel.setCell (p := ⟨g, i, none⟩) hg (.int .i64 x)
  refine ⟨e0.below hb e0.size, hb, fun y hy => ?_⟩
  rcases List.mem_cons.1 hy with rfl | hy
  · exact h.hd.set i x
  · exact (h.tl.held y hy).setOther _ (ha y hy)
end
/-- A whole array is stored into a variable that is new; where it lies, against the others. -/
theorem wpl_storeAt' {w0 w : World} {hs : List (Nat × TypeId × List Int)} {ops : Array Oper} {rest : List Oper} {o : Oper} {a : Act} {Q : Exit → Act → World → Prop} (h : Rch w0 hs w) (t : TypeId) (l l' : List Int) {cs : Array Value} (hcs : cs = ints l) {g : Nat} (hg : g = w.heap.size) (hgd : o.guard = none) (ty : TypeId) (x y : Operand) (ho : o.op = .store ty x y)
    (hx : a.eval x = .pointer (some ⟨g, 0, none⟩)) (hy : a.eval y = .agg (ints l')) (hl : l'.length = l.length) (hi : (Tryd.prog.info? ty).map (·.size) = some l.length)
    (hK : ∀ w', w0.heap.size ≤ g → (∀ x ∈ hs, x.1 ≠ g) → Rch w0 ((g, t, l') :: hs) w' → wpList Tryd.prog ops Q rest (a.put o.dst undef) w') : wpList Tryd.prog ops Q (o :: rest) a (w.alloc (.cells cs t)) := by
  subst hg
  exact wpl_storeNew h t l l' hcs hgd ty x y ho hx hy hl hi fun w' hR => hK w' h.bel.size (fun x hx e => by have := (h.held x hx).lt; omega) hR
theorem works_R {w0 w : World} {hs : List (Nat × TypeId × List Int)} (h : Rch w0 hs w) : Calls Tryd.prog 11 #[] w fun e w' => e = .returned (.bool true) ∧ Rch w0 hs w' := (works_any w h.env).mono fun _ _ ⟨a, b⟩ => ⟨a, h.go b⟩
theorem made_R {w0 w : World} {hs : List (Nat × TypeId × List Int)} (h : Rch w0 hs w) {n : List Int} (hn : n.length = 64) (h8 : u8s n) : Calls Tryd.prog 14 #[.agg (intsK .u8 n)] w fun e w' => e = .returned (.agg (ints (mdV n))) ∧ Rch w0 hs w' := (made_any n hn h8 w).mono fun _ _ ⟨a, b⟩ => ⟨a, h.go b⟩
theorem mover_R {w0 w : World} {hs : List (Nat × TypeId × List Int)} (h : Rch w0 hs w) (b : List Int) (hb : b.length = 64) (f t : Int) : Calls Tryd.prog 32 #[.agg (ints b), .int .i64 f, .int .i64 t] w fun e w' => e = .returned (.tuple #[.agg (ints (mvV b f t)), .int .i64 (mvE b f t)]) ∧ Rch w0 hs w' := (mover_any b hb f t w).mono fun _ _ ⟨a, b⟩ => ⟨a, h.go b⟩
theorem check_R {w0 w : World} {hs : List (Nat × TypeId × List Int)} (h : Rch w0 hs w) (b : List Int) (hb : b.length = 64) : Calls Tryd.prog 17 #[.agg (ints b)] w fun e w' => e = .returned (.int .i64 (chkB b)) ∧ Rch w0 hs w' := (check_any b hb w).mono fun _ _ ⟨a, b⟩ => ⟨a, h.go b⟩
theorem checkr_R {w0 w : World} {hs : List (Nat × TypeId × List Int)} (h : Rch w0 hs w) (b : List Int) (hb : b.length = 64) : Calls Tryd.prog 23 #[.agg (ints b)] w fun e w' => e = .returned (.int .i64 (chkB b)) ∧ Rch w0 hs w' := (checkr_any b hb w).mono fun _ _ ⟨a, b⟩ => ⟨a, h.go b⟩
theorem countr_R {w0 w : World} {hs : List (Nat × TypeId × List Int)} (h : Rch w0 hs w) (b : List Int) (hb : b.length = 64) : Calls Tryd.prog 29 #[.agg (ints b)] w fun e w' => e = .returned (.agg (ints (cnB b 64))) ∧ Rch w0 hs w' := (countr_any b hb w).mono fun _ _ ⟨a, b⟩ => ⟨a, h.go b⟩
theorem color_R {w0 w : World} {hs : List (Nat × TypeId × List Int)} (h : Rch w0 hs w) (b : List Int) (hb : b.length = 64) (p : Int) : Calls Tryd.prog 26 #[.agg (ints b), .int .i64 p] w fun e w' => e = .returned (.int .u64 (bsum (fun x => isB x p) b 64 : Nat)) ∧ Rch w0 hs w' := (color_any b hb p w).mono fun _ _ ⟨a, b⟩ => ⟨a, h.go b⟩
/-- Two boards are compared. -/
theorem wpl_eqB {ops : Array Oper} {rest : List Oper} {o : Oper} {a : Act} {w : World} {Q : Exit → Act → World → Prop} {l l' : List Int} (hl : l.length = 64) (hl' : l'.length = 64) (he : l = l') (hgd : Region.wanted o (yielded ops a.tmps) = true) (x y : Operand) (u : TypeId) (ho : o.op = .binOp .eql 24 x y u)
    (hx : a.eval x = .agg (ints l)) (hy : a.eval y = .agg (ints l')) (h : wpList Tryd.prog ops Q rest (a.put o.dst (.bool true)) w) : wpList Tryd.prog ops Q (o :: rest) a w :=
  wpl_eqG (l := l) (l' := l') hgd x y u ho hx hy Tryd.underlying24 Tryd.underlying3 (by kernel_rfl) (by kernel_rfl) (by kernel_rfl) hl hl' (by rw [decide_eq_true he]; exact h)
theorem wpl_eqBn {ops : Array Oper} {rest : List Oper} {o : Oper} {a : Act} {w : World} {Q : Exit → Act → World → Prop} {l l' : List Int} (hl : l.length = 64) (hl' : l'.length = 64) (he : l ≠ l') (hgd : Region.wanted o (yielded ops a.tmps) = true) (x y : Operand) (u : TypeId) (ho : o.op = .binOp .eql 24 x y u)
    (hx : a.eval x = .agg (ints l)) (hy : a.eval y = .agg (ints l')) (h : wpList Tryd.prog ops Q rest (a.put o.dst (.bool false)) w) : wpList Tryd.prog ops Q (o :: rest) a w :=
  wpl_eqG (l := l) (l' := l') hgd x y u ho hx hy Tryd.underlying24 Tryd.underlying3 (by kernel_rfl) (by kernel_rfl) (by kernel_rfl) hl hl' (by rw [decide_eq_false he]; exact h)
theorem i24 {l : List Int} (h : l.length = 64) : (Tryd.prog.info? 24).map (·.size) = some l.length := by rw [h]; kernel_rfl
theorem i29 {l : List Int} (h : l.length = 64) : (Tryd.prog.info? 29).map (·.size) = some l.length := by rw [h]; kernel_rfl
theorem z64_ln : zero64.length = 64 := rfl
end Go.Proofs.YthbbnhhofkadgaaDoor
