/- Words that the last laws of material use. Conditions: as in Env. -/
import Derived.Test.YtcnflmbnnobocaaDoorMrs
import Derived.Test.YtcnflmbnnobocaaDoorMpl
import Derived.Test.YtcnflmbnnobocaaDoorMvd
import Derived.Test.YtcnflmbnnobocaaDoorMfl
namespace Go.Proofs.YtcnflmbnnobocaaDoor
open Go Go.RowKit
section
variable {w0 w : World} {hs : List (Nat × TypeId × List Int)}
theorem gen_new {C : Nat → World → Prop} (h : Rch w0 hs w) (hC : ∀ g wn, w0.heap.size ≤ g → (∀ x ∈ hs, x.1 ≠ g) → Rch w0 ((g, 25, zero10) :: hs) wn → C g wn) : C w.heap.size (w.alloc (.cells (ints zero10) 25)) :=
  hC _ _ h.bel.size (fun x hx e => by have := (h.held x hx).lt; omega) (h.held_new 25 zero10)
theorem Rch.set0 {g : Nat} {t : TypeId} {l : List Int} (h : Rch w0 ((g, t, l) :: hs) w) (e0 : Env w0) (hg : w0.heap.size ≤ g) (ha : ∀ x ∈ hs, x.1 ≠ g) (l' : List Int) : Rch w0 ((g, t, l') :: hs) (w.setRow g (ints l')) := by
  have hb := below_setRow h.bel hg (ints l')
  refine ⟨e0.below hb, hb, fun x hx => ?_⟩
  rcases List.mem_cons.1 hx with rfl | hx
  · exact h.hd.setRow l'
  · exact (h.tl.held x hx).setRowOther g (ints l') (ha x hx)
theorem Rch.swap {x y : Nat × TypeId × List Int} (h : Rch w0 (x :: y :: hs) w) : Rch w0 (y :: x :: hs) w := ⟨h.env, h.bel, fun z hz => h.held z (by simp at hz ⊢; rcases hz with h | h | h <;> simp [h])⟩
end
/-- Ten small numbers. -/
def Ten (n : List Int) : Prop := n.length = 10 ∧ ∀ x ∈ n, 0 ≤ x ∧ x ≤ 255
theorem valid_P {w0 w : World} {hs : List (Nat × TypeId × List Int)} (h : Rch w0 hs w) {n : List Int} (hn : Ten n) :
    Calls Tryd.prog 24 #[.agg (intsK .u8 n)] w fun e w' => ∃ v : List Int, v.length = 10 ∧ okL v ∧ e = .returned (.agg (ints v)) ∧ Rch w0 hs w' := by
  obtain ⟨hl, hb⟩ := hn
  obtain ⟨a0, a1, a2, a3, a4, a5, a6, a7, a8, a9, rfl⟩ := list10 n hl
  refine (valid_any a0 a1 a2 a3 a4 a5 a6 a7 a8 a9 (hb _ (by simp)) (hb _ (by simp)) (hb _ (by simp)) (hb _ (by simp)) (hb _ (by simp)) (hb _ (by simp)) (hb _ (by simp)) (hb _ (by simp)) (hb _ (by simp)) (hb _ (by simp)) w).mono ?_
  rintro e w' ⟨v0, v1, v2, v3, v4, v5, v6, v7, v8, v9, hk, rfl, hB⟩
  exact ⟨[v0, v1, v2, v3, v4, v5, v6, v7, v8, v9], rfl, hk, rfl, h.go hB⟩
theorem txtL_size {l : List Int} (hl : l.length = 10) (h : okL l) : (txtL l).size ≤ 1000 := by
  have hm := okL_mem hl h
  have e : txtL l = txtN (l.map Int.toNat) := by
    obtain ⟨a0, a1, a2, a3, a4, a5, a6, a7, a8, a9, rfl⟩ := list10 l hl
    exact txtM_t h
  rw [e]
  have := txtN_size (l.map Int.toNat) (by
    intro n hn
    simp only [List.mem_map] at hn
    obtain ⟨x, hx, rfl⟩ := hn
    have := hm x hx
    omega)
  rw [List.length_map, hl] at this
  omega
theorem wpl_eqNot {ops : Array Oper} {rest : List Oper} {o : Oper} {a : Act} {w : World} {Q : Exit → Act → World → Prop} {l l' : List Int} (hl : l.length = 10) (hl' : l'.length = 10) (hne : l ≠ l') (hgd : Region.wanted o (yielded ops a.tmps) = true) (x y : Operand) (u : TypeId) (ho : o.op = .binOp .eql 25 x y u)
    (hx : a.eval x = .agg (ints l)) (hy : a.eval y = .agg (ints l')) (h : wpList Tryd.prog ops Q rest (a.put o.dst (.bool false)) w) : wpList Tryd.prog ops Q (o :: rest) a w :=
  wpl_eqG (l := l) (l' := l') hgd x y u ho hx hy Tryd.underlying25 Tryd.underlying3 (by kernel_rfl) (by kernel_rfl) (by kernel_rfl) hl hl' (by rw [decide_eq_false hne]; exact h)
theorem okL_get {l : List Int} (hl : l.length = 10) (h : okL l) : ∀ i, 0 ≤ l.getD i 0 ∧ l.getD i 0 ≤ 15 := fun i => by
  by_cases hi : i < 10
  · have := okL_mem hl h (l.getD i 0) (List.mem_of_getElem? (i := i) (by simp [hl, hi]))
    exact this
  · rw [List.getD_eq_getElem?_getD, List.getElem?_eq_none (by omega)]; decide
theorem okL_sum {l : List Int} (hl : l.length = 10) (h : okL l) : ∀ i, i ≤ 10 → sumTo l i ≤ 30 := by
  obtain ⟨a0, a1, a2, a3, a4, a5, a6, a7, a8, a9, rfl⟩ := list10 l hl
  obtain ⟨h0, h0', h1, h2, h3, h4, hs, h5, h5', h6, h7, h8, h9, hs'⟩ := h
  simp only [List.getD_cons_zero, List.getD_cons_succ] at *
  intro i hi
  have hc : i = 0 ∨ i = 1 ∨ i = 2 ∨ i = 3 ∨ i = 4 ∨ i = 5 ∨ i = 6 ∨ i = 7 ∨ i = 8 ∨ i = 9 ∨ i = 10 := by omega
  rcases hc with rfl | rfl | rfl | rfl | rfl | rfl | rfl | rfl | rfl | rfl | rfl <;> simp only [sumTo, List.getD_cons_zero, List.getD_cons_succ] <;> omega
theorem filled_P {w0 w : World} {hs : List (Nat × TypeId × List Int)} (h : Rch w0 hs w) {l : List Int} (hl : l.length = 10) (hk : okL l) (fr st : Int) (f0 : 0 ≤ fr) (f1 : fr ≤ 255) (s0 : 0 ≤ st) (s1 : st ≤ 255) :
    Calls Tryd.prog 25 #[.agg (ints l), .int .u8 fr, .int .u8 st] w fun e w' => ∃ (b : List Int) (at_ : Int) (m : Nat), Fl fr st b at_ m (fun j => l.getD j 0) ∧ (m : Int) ≤ 32 ∧ e = .returned (.agg (ints b)) ∧ Rch w0 hs w' :=
  (filled_any l hl (okL_get hl hk) (okL_sum hl hk) fr st f0 f1 s0 s1 w).mono fun _ _ ⟨b, a, m, h1, h2, h3, h4⟩ => ⟨b, a, m, h1, h2, h3, h.go h4⟩
theorem Fl.mat {fr st : Int} {b : List Int} {at_ : Int} {m : Nat} {l : List Int} (h : Fl fr st b at_ m (fun j => l.getD j 0)) (hl : l.length = 10) : matV b = l :=
  ext10 (matVlen b) hl fun j hj => by rw [matV_get b j hj, h.cnt j hj]
section
variable {w0 w : World} {hs : List (Nat × TypeId × List Int)}
theorem Rch.setc {g : Nat} {t : TypeId} {l : List Int} (h : Rch w0 ((g, t, l) :: hs) w) (e0 : Env w0) (hg : w0.heap.size ≤ g) (ha : ∀ x ∈ hs, x.1 ≠ g) (i : Nat) (x : Int) : Rch w0 ((g, t, l.set i x) :: hs) (w.setCell ⟨g, i, none⟩ (.int .i64 x)) := by
  have hb := h.bel.setCell (p := ⟨g, i, none⟩) hg (.int .i64 x)
  refine ⟨e0.below hb, hb, fun y hy => ?_⟩
  rcases List.mem_cons.1 hy with rfl | hy
  · exact h.hd.set i x
  · exact (h.tl.held y hy).setOther _ (ha y hy)
end
theorem eqOne (l : List Int) (h : l.length = 10) : ∀ w : World, (Op.equalIn 10000 25 (.agg (ints l)) (.agg (ints l))).run Tryd.prog w = .ok true w := fun _ => eqI l h
/-- A whole array is stored into a variable that is new; where it lies, against the others. -/
theorem wpl_storeAt' {w0 w : World} {hs : List (Nat × TypeId × List Int)} {ops : Array Oper} {rest : List Oper} {o : Oper} {a : Act} {Q : Exit → Act → World → Prop} (h : Rch w0 hs w) (t : TypeId) (l l' : List Int) {cs : Array Value} (hcs : cs = ints l) {g : Nat} (hg : g = w.heap.size) (hgd : o.guard = none) (ty : TypeId) (x y : Operand) (ho : o.op = .store ty x y)
    (hx : a.eval x = .pointer (some ⟨g, 0, none⟩)) (hy : a.eval y = .agg (ints l')) (hl : l'.length = l.length) (hi : (Tryd.prog.info? ty).map (·.size) = some l.length)
    (hK : ∀ w', w0.heap.size ≤ g → (∀ x ∈ hs, x.1 ≠ g) → Rch w0 ((g, t, l') :: hs) w' → wpList Tryd.prog ops Q rest (a.put o.dst undef) w') : wpList Tryd.prog ops Q (o :: rest) a (w.alloc (.cells cs t)) := by
  subst hg
  exact wpl_storeNew h t l l' hcs hgd ty x y ho hx hy hl hi fun w' hR => hK w' h.bel.size (fun x hx e => by have := (h.held x hx).lt; omega) hR
end Go.Proofs.YtcnflmbnnobocaaDoor
