/- Two arrays of numbers are compared. No condition. -/
import Derived.Test.YthbbnhhofkadgaaDoorArr
import Derived.ChangeKeysEq
import Derived.Laws.StructEq
namespace Go.Proofs.YthbbnhhofkadgaaDoor
open Go Go.RowKit
variable {P : Program} {w : World}
theorem run_part_ints {e : TypeId} {l : List Int} (i : Nat) (he : P.underlying e = some (.int .i64)) (hi : i < l.length) : (part e (ints l) (i * 1)).run P w = .ok (.int .i64 (l.getD i 0)) w := by
  have hg := intsK_get .i64 l i hi
  have he' := run_underlying he w
  simp [part, isAgg, Sem.run_bind, he', hg]
theorem run_eq_int (d : Nat) {e : TypeId} (he : P.underlying e = some (.int .i64)) (a b : Int) : (Op.equalIn (d + 1) e (.int .i64 a) (.int .i64 b)).run P w = .ok (a == b) w := by
  simp [Op.equalIn, run_underlying he]
theorem run_items_ints (d : Nat) {e : TypeId} (he : P.underlying e = some (.int .i64)) (l l' : List Int) : ∀ is : List Nat, (∀ i ∈ is, i < l.length ∧ i < l'.length) →
    (Op.eqItems (d + 1) e 1 (ints l) (ints l') is).run P w = .ok (decide (∀ i ∈ is, l.getD i 0 = l'.getD i 0)) w
  | [], _ => by simp [Op.eqItems]
  | i :: is, h => by
    obtain ⟨h1, h2⟩ := h i (by simp)
    have ih := run_items_ints d he l l' is (fun j hj => h j (by simp [hj]))
    have p1 := run_part_ints (P := P) (w := w) i he h1
    have p2 := run_part_ints (P := P) (w := w) i he h2
    simp only [Op.eqItems, Sem.run_bind, p1, p2, Result.andThen_ok, run_eq_int d he]
    by_cases hq : l.getD i 0 = l'.getD i 0
    · have hq' : (l.getD i 0 == l'.getD i 0) = true := by simpa using hq
      rw [hq']
      simp at hq
      simp [hq]
      rw [ih]
      simp
    · have hq' : (l.getD i 0 == l'.getD i 0) = false := by simpa using hq
      rw [hq']
      simp at hq
      simp [hq]
/-- The comparison of two arrays of numbers. -/
theorem run_eq_ints (d : Nat) {t e : TypeId} {n : Nat} (l l' : List Int) (hu : P.underlying t = some (.array n e)) (he : P.underlying e = some (.int .i64)) (hs : (P.info? e).map (·.size) = some 1) (hc : P.cellsOf e = 1) (h1 : l.length = n) (h2 : l'.length = n) :
    (Op.equalIn (d + 2) t (.agg (ints l)) (.agg (ints l'))).run P w = .ok (decide (l = l')) w := by
  cases hq : P.info? e with
  | none => simp [hq] at hs
  | some inf =>
    rw [run_equalIn_array w (d + 1) (ints l) (ints l') hu hq, hc, run_items_ints d he l l' _ (fun i hi => by simp at hi; omega)]
    congr 1
    rw [decide_eq_decide]
    constructor
    · intro h
      apply List.ext_getElem (by omega)
      intro i hi hi'
      have := h i (by simp; omega)
      simpa [hi, hi'] using this
    · rintro rfl i _; rfl
theorem wpl_eqG {ops : Array Oper} {rest : List Oper} {o : Oper} {a : Act} {Q : Exit → Act → World → Prop} {l l' : List Int} {t e : TypeId} {n : Nat} (hgd : Region.wanted o (yielded ops a.tmps) = true) (x y : Operand) (u : TypeId) (ho : o.op = .binOp .eql t x y u)
    (hx : a.eval x = .agg (ints l)) (hy : a.eval y = .agg (ints l')) (hu : P.underlying t = some (.array n e)) (he : P.underlying e = some (.int .i64)) (hs : (P.info? e).map (·.size) = some 1) (hc : P.cellsOf e = 1) (hm : P.eqGuardType P.depth t = false) (h1 : l.length = n) (h2 : l'.length = n)
    (h : wpList P ops Q rest (a.put o.dst (.bool (decide (l = l')))) w) : wpList P ops Q (o :: rest) a w := by
  refine wpList_step fun K hK => ?_
  simp only [hgd, if_true]
  unfold Oper.wp execOp
  have hq := run_eq_ints (P := P) (w := w) 9998 l l' hu he hs hc h1 h2
  have hq2 : (Op.equal t (.agg (ints l)) (.agg (ints l'))).run P w = .ok (decide (l = l')) w := hq
  simp only [ho, hx, hy, Sem.run_bind, Sem.run_pure, Result.andThen_ok, run_eqGuard_agg w .eql t x y (ints l) (ints l') hm, binOp, hq2]
  exact hK _ _ h
theorem wpl_neG {ops : Array Oper} {rest : List Oper} {o : Oper} {a : Act} {Q : Exit → Act → World → Prop} {l l' : List Int} {t e : TypeId} {n : Nat} (hgd : Region.wanted o (yielded ops a.tmps) = true) (x y : Operand) (u : TypeId) (ho : o.op = .binOp .neq t x y u)
    (hx : a.eval x = .agg (ints l)) (hy : a.eval y = .agg (ints l')) (hu : P.underlying t = some (.array n e)) (he : P.underlying e = some (.int .i64)) (hs : (P.info? e).map (·.size) = some 1) (hc : P.cellsOf e = 1) (hm : P.eqGuardType P.depth t = false) (h1 : l.length = n) (h2 : l'.length = n)
    (h : wpList P ops Q rest (a.put o.dst (.bool (!decide (l = l')))) w) : wpList P ops Q (o :: rest) a w := by
  refine wpList_step fun K hK => ?_
  simp only [hgd, if_true]
  unfold Oper.wp execOp
  have hq := run_eq_ints (P := P) (w := w) 9998 l l' hu he hs hc h1 h2
  have hq2 : (Op.equal t (.agg (ints l)) (.agg (ints l'))).run P w = .ok (decide (l = l')) w := hq
  simp only [ho, hx, hy, Sem.run_bind, Sem.run_pure, Result.andThen_ok, run_eqGuard_agg w .neq t x y (ints l) (ints l') hm, binOp, hq2]
  exact hK _ _ h
end Go.Proofs.YthbbnhhofkadgaaDoor
