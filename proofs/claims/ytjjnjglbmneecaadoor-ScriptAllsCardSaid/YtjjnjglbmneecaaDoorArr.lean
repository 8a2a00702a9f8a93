/- Arrays of numbers in memory: a block that holds a list of numbers is read, written, loaded and stored as a whole. No condition. -/
import Derived.Test.YtjjnjglbmneecaaDoorProg
import Derived.WalkKit
import Derived.Outline
import Derived.WalkLawsBesides
import Derived.Lib.Hide
import Derived.Lib.Strings
import Derived.Handy
import Derived.WalkSpells
import Derived.Deep.MidRow
namespace Go.Proofs.YtjjnjglbmneecaaDoor
open Go Go.RowKit

theorem ret2_int {a b c d : Int} (h : a = c) (h' : b = d) : Ending.returned (.tuple #[.int .i64 a, .int .i64 b]) = .returned (.tuple #[.int .i64 c, .int .i64 d]) := by rw [h, h']
theorem ret_int {k : IntKind} {a b : Int} (h : a = b) : Ending.returned (.int k a) = .returned (.int k b) := by rw [h]
theorem ret_bool {a b : Bool} (h : a = b) : Ending.returned (.bool a) = .returned (.bool b) := by rw [h]
theorem ret_str {a b : ByteArray} (h : a = b) : Ending.returned (.string a) = .returned (.string b) := by rw [h]
theorem ret2_str {a c : ByteArray} {b d : Int} (h : a = c) (h' : b = d) : Ending.returned (.tuple #[.string a, .int .i64 b]) = .returned (.tuple #[.string c, .int .i64 d]) := by rw [h, h']
theorem below_dn (w : World) (n : Nat) : Below w.heap.size w (w.drewN n) := ⟨rfl, rfl, rfl, Nat.le_refl _, fun _ _ => rfl⟩

/-- The cells of a list of numbers of one kind. -/
def intsK (k : IntKind) (l : List Int) : Array Value := (l.map (Value.int k)).toArray
abbrev ints (l : List Int) : Array Value := intsK .i64 l
theorem intsK_size (k : IntKind) (l : List Int) : (intsK k l).size = l.length := by simp [intsK]
theorem intsK_get (k : IntKind) (l : List Int) (i : Nat) (h : i < l.length) : (intsK k l)[i]? = some (.int k (l.getD i 0)) := by simp [intsK, h]
theorem intsK_set (k : IntKind) (l : List Int) (i : Nat) (x : Int) : (intsK k l).setIfInBounds i (.int k x) = intsK k (l.set i x) := by
  simp [intsK, List.map_set]
theorem intsK_all (k : IntKind) (l : List Int) : (intsK k l).all (·.oneCell') = true := by
  rw [Array.all_eq_true_iff_forall_mem]
  intro v hv
  simp [intsK] at hv
  obtain ⟨x, _, rfl⟩ := hv
  rfl

/-- Block g holds the numbers l. -/
def Holds (w : World) (g : Nat) (k : IntKind) (t : TypeId) (l : List Int) : Prop := w.heap[g]? = some (.cells (intsK k l) t (0, 0))
section
variable {w : World} {g : Nat} {k : IntKind} {t : TypeId} {l : List Int}
theorem Holds.cell (h : Holds w g k t l) (i : Nat) (hi : i < l.length) : w.cell? ⟨g, i, none⟩ = some (.int k (l.getD i 0)) := by
  rw [cell_of_row w g i _ _ _ h, intsK_get k l i hi]
theorem Holds.frozen (h : Holds w g k t l) (i : Nat) : w.frozen? ⟨g, i, none⟩ = false := frozen_of_row w g i _ _ h
theorem Holds.lt (h : Holds w g k t l) : g < w.heap.size := (Array.getElem?_eq_some_iff.1 h).1
theorem Holds.set (h : Holds w g k t l) (i : Nat) (x : Int) : Holds (w.setCell ⟨g, i, none⟩ (.int k x)) g k t (l.set i x) := by
  unfold Holds; rw [heap_setCell_same w g i _ t _ h, intsK_set]
theorem Holds.setOther (h : Holds w g k t l) {a : Addr} (v : Value) (ha : g ≠ a.block) : Holds (w.setCell a v) g k t l := by
  unfold Holds; rw [heap_setCell_other w a g v ha]; exact h
theorem Holds.new (w : World) (k : IntKind) (t : TypeId) (l : List Int) : Holds (w.alloc (.cells (intsK k l) t)) w.heap.size k t l := heap_alloc_new _ _
theorem Holds.newAt {w : World} {n : Nat} (k : IntKind) (t : TypeId) (l : List Int) (hn : n = w.heap.size) : Holds (w.alloc (.cells (intsK k l) t)) n k t l := by subst hn; exact Holds.new w k t l
theorem Holds.alloc (h : Holds w g k t l) (o : Obj) : Holds (w.alloc o) g k t l := by
  unfold Holds; rw [heap_alloc_old w o h.lt]; exact h
theorem Holds.dn (h : Holds w g k t l) {n : Nat} : Holds (w.drewN n) g k t l := h
theorem Holds.drew (h : Holds w g k t l) : Holds w.drew g k t l := h
theorem Holds.below {w' : World} {B : Nat} (h : Holds w g k t l) (hb : Below B w w') (hg : g < B) : Holds w' g k t l := by
  unfold Holds; rw [hb.block g hg]; exact h
theorem Holds.setRow (h : Holds w g k t l) (l' : List Int) : Holds (w.setRow g (intsK k l')) g k t l' := setRow_heap w g _ _ _ _ h
theorem Holds.setRowOther (h : Holds w g k t l) (g' : Nat) (cs : Array Value) (hg : g ≠ g') : Holds (w.setRow g' cs) g k t l := by
  unfold Holds; rw [setRow_other w g' g cs hg]; exact h
end
theorem below_setRow {B : Nat} {a w : World} (h : Below B a w) {g : Nat} (hg : B ≤ g) (cs : Array Value) : Below B a (w.setRow g cs) :=
  h.trans ⟨rfl, rfl, rfl, by simp, fun k hk => setRow_other w g k cs (by omega)⟩
theorem below_cellB {w w1 : World} {B : Nat} (hb : Below B w w1) : (∀ b o, b < B → w1.cell? ⟨b, o, none⟩ = w.cell? ⟨b, o, none⟩) ∧ (∀ b o, b < B → w1.frozen? ⟨b, o, none⟩ = w.frozen? ⟨b, o, none⟩) :=
  ⟨fun b o h => hb.cell (p := ⟨b, o, none⟩) h, fun b o h => hb.frozen (p := ⟨b, o, none⟩) h⟩

section
variable {P : Program}
/-- A whole array of numbers is loaded. -/
theorem wpl_load {ops : Array Oper} {rest : List Oper} {o : Oper} {a : Act} {w : World} {Q : Exit → Act → World → Prop} {g : Nat} {k : IntKind} {t : TypeId} {l : List Int} (hg : Holds w g k t l) (hgd : o.guard = none) (ty : TypeId) (x : Operand) (ho : o.op = .load ty x)
    (hx : a.eval x = .pointer (some ⟨g, 0, none⟩)) {n : Nat} {e : TypeId} (hu : P.underlying ty = some (.array n e)) (hi : (P.info? ty).map (·.size) = some l.length)
    (h : wpList P ops Q rest (a.put o.dst (.agg (intsK k l))) w) : wpList P ops Q (o :: rest) a w :=
  wpList_load_row hgd ty x ho g hx t (intsK k l) (0, 0) _ hg hu rfl (by rw [intsK_size]; exact hi) h
/-- A struct whose cells are numbers is loaded. -/
theorem wpl_loadS {ops : Array Oper} {rest : List Oper} {o : Oper} {a : Act} {w : World} {Q : Exit → Act → World → Prop} {g : Nat} {k : IntKind} {t : TypeId} {l : List Int} (hg : Holds w g k t l) (hgd : o.guard = none) (ty : TypeId) (x : Operand) (ho : o.op = .load ty x)
    (hx : a.eval x = .pointer (some ⟨g, 0, none⟩)) {fs : Array Field} (hu : P.underlying ty = some (.struct fs)) (hi : (P.info? ty).map (·.size) = some l.length)
    (h : wpList P ops Q rest (a.put o.dst (.agg (intsK k l))) w) : wpList P ops Q (o :: rest) a w :=
  wpList_load_row hgd ty x ho g hx t (intsK k l) (0, 0) _ hg hu rfl (by rw [intsK_size]; exact hi) h
/-- A whole array of numbers is stored. -/
theorem wpl_store {ops : Array Oper} {rest : List Oper} {o : Oper} {a : Act} {w : World} {Q : Exit → Act → World → Prop} {g : Nat} {k : IntKind} {t : TypeId} {l : List Int} (hg : Holds w g k t l) (hgd : o.guard = none) (ty : TypeId) (x y : Operand) (ho : o.op = .store ty x y)
    (hx : a.eval x = .pointer (some ⟨g, 0, none⟩)) (l' : List Int) (hy : a.eval y = .agg (intsK k l')) (hl : l'.length = l.length) (hi : (P.info? ty).map (·.size) = some l.length)
    (h : wpList P ops Q rest (a.put o.dst undef) (w.setRow g (intsK k l'))) : wpList P ops Q (o :: rest) a w :=
  wpList_store_row hgd ty x y ho g (intsK k l') hx hy t (intsK k l) hg (by rw [intsK_size, hl]; exact hi) (by rw [intsK_size, intsK_size, hl]) (intsK_all k l') h
/-- Two results, the first an array or a struct in a variable. -/
theorem results_row2 {fn : Func} {p q : Tmp} {ty : TypeId} (h : fn.results = #[.cell p ty, .tmp q]) (tmps : Array Value) (w : World) (g : Nat) {k : IntKind} {t : TypeId} {l : List Int} {d : TypeDesc}
    (hp : tmps.getD p undef = .pointer (some ⟨g, 0, none⟩)) (hg : Holds w g k t l)
    (hu : P.underlying ty = some d) (hd : (match d with | .struct _ | .array _ _ => true | _ => false) = true) (hi : (P.info? ty).map (·.size) = some l.length) :
    (results fn tmps).run P w = .ok (.tuple #[.agg (intsK k l), tmps.getD q undef]) w := by
  have hp' : tmps[p]?.getD undef = .pointer (some ⟨g, 0, none⟩) := by simpa using hp
  simp [results, h, hp', asAddr, run_loadVar_row w g t ty (intsK k l) (0, 0) d hg hu hd (by rw [intsK_size]; exact hi)]
/-- An element of an array of numbers. -/
theorem run_index_ints {w : World} {ty e : TypeId} {n : Nat} {k : IntKind} {l : List Int} (i : Nat) (hu : P.underlying ty = some (.array n e)) (he : P.underlying e = some (.int k)) (hs : (P.info? e).map (·.size) = some 1) (hl : l.length = n) (hi : i < n) :
    (Instr.index ty (.agg (intsK k l)) (.int .i64 i)).run P w = .ok (.int k (l.getD i 0)) w := by
  have hg := intsK_get k l i (by omega)
  cases hq : P.info? e with
  | none => simp [hq] at hs
  | some inf =>
    simp [hq] at hs
    have hu' := run_underlying hu w
    simp only [Instr.index, Sem.run_bind, asIntOf, Sem.run_pure, Result.andThen_ok, hu']
    rw [if_pos ⟨by omega, by omega⟩]
    have hp : (part e (intsK k l) (i * 1)).run P w = .ok (.int k (l.getD i 0)) w := by
      have he' := run_underlying he w
      simp [part, isAgg, Sem.run_bind, he', hg]
    simp [Sem.run_bind, sizeOf, typeInfo, hq, hs]
    simpa using hp
end
end Go.Proofs.YtjjnjglbmneecaaDoor
