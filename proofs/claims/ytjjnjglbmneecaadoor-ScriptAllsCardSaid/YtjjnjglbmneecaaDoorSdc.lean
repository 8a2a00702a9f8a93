/- The contracts of the functions that decode what is behind a word. -/
import Derived.Test.YtjjnjglbmneecaaDoorSev
import Derived.Lib.AtoiErrMem
namespace Go.Proofs.YtjjnjglbmneecaaDoor
open Go Go.RowKit
/-- The block g holds these cells. -/
def Rw (w : World) (g : Nat) (t : TypeId) (cs : Array Value) : Prop := w.heap[g]? = some (.cells cs t (0, 0))
theorem Rw.new (w : World) (t : TypeId) (cs : Array Value) : Rw (w.alloc (.cells cs t)) w.heap.size t cs := heap_alloc_new _ _
theorem Rw.below {w w' : World} {g n : Nat} {t : TypeId} {cs : Array Value} (h : Rw w g t cs) (hb : Below n w w') (hg : g < n) : Rw w' g t cs := (hb.block g hg).trans h
theorem Rw.alloc {w : World} {g : Nat} {t : TypeId} {cs : Array Value} (h : Rw w g t cs) (o : Obj) : Rw (w.alloc o) g t cs := (Lib.alloc_old w o g (Array.getElem?_eq_some_iff.1 h).1).trans h
theorem Rw.lt {w : World} {g : Nat} {t : TypeId} {cs : Array Value} (h : Rw w g t cs) : g < w.heap.size := (Array.getElem?_eq_some_iff.1 h).1
theorem Rw.set {w : World} {g : Nat} {t : TypeId} {cs cs' : Array Value} (h : Rw w g t cs) : Rw (w.setRow g cs') g t cs' := setRow_heap w g cs cs' t _ h
theorem Rw.setOther {w : World} {g g' : Nat} {t : TypeId} {cs cs' : Array Value} (h : Rw w g t cs) (hn : g ≠ g') : Rw (w.setRow g' cs') g t cs := (setRow_other w g' g cs' hn).trans h
theorem wpr_load {P : Program} {ops : Array Oper} {rest : List Oper} {o : Oper} {a : Act} {w : World} {Q : Exit → Act → World → Prop} {g : Nat} {t : TypeId} {cs : Array Value} (hg : Rw w g t cs) (hgd : o.guard = none) (ty : TypeId) (x : Operand) (ho : o.op = .load ty x)
    (hx : a.eval x = .pointer (some ⟨g, 0, none⟩)) {fs : Array Field} (hu : P.underlying ty = some (.struct fs)) (hi : (P.info? ty).map (·.size) = some cs.size)
    (h : wpList P ops Q rest (a.put o.dst (.agg cs)) w) : wpList P ops Q (o :: rest) a w :=
  wpList_load_row hgd ty x ho g hx t cs (0, 0) _ hg hu rfl hi h
theorem wpr_store {P : Program} {ops : Array Oper} {rest : List Oper} {o : Oper} {a : Act} {w : World} {Q : Exit → Act → World → Prop} {g : Nat} {t : TypeId} {cs : Array Value} (hg : Rw w g t cs) (hgd : o.guard = none) (ty : TypeId) (x y : Operand) (ho : o.op = .store ty x y)
    (hx : a.eval x = .pointer (some ⟨g, 0, none⟩)) (cs' : Array Value) (hy : a.eval y = .agg cs') (hl : cs'.size = cs.size) (hi : (P.info? ty).map (·.size) = some cs.size) (h1 : cs'.all (·.oneCell') = true)
    (h : wpList P ops Q rest (a.put o.dst undef) (w.setRow g cs')) : wpList P ops Q (o :: rest) a w :=
  wpList_store_row hgd ty x y ho g cs' hx hy t cs hg (by rw [hl]; exact hi) hl.symm h1 h
theorem op_size : (Tryd.prog.info? 24).map (·.size) = some 3 := by kernel_rfl
def opC (k a : Int) (v : ByteArray) : Array Value := #[.int .i64 k, .int .i64 a, .string v]
theorem opC_one (k a : Int) (v : ByteArray) : (opC k a v).all (·.oneCell') = true := by simp [opC, Value.oneCell']
theorem ret_op {fn : Func} {p : Tmp} (h : fn.results = #[.cell p 24]) {tmps : Array Value} {w : World} {g : Nat} {k a : Int} {v : ByteArray} (hp : tmps.getD p undef = .pointer (some ⟨g, 0, none⟩)) (hg : Rw w g 24 (opC k a v)) :
    (results fn tmps).run Tryd.prog w = .ok (opV k a v) w := results_cell_row h tmps w g 24 (opC k a v) (0, 0) _ hp hg Tryd.underlying24 rfl op_size
/-- What a block of three cells gives a walk. -/
theorem Rw.facts {w : World} {g : Nat} {t : TypeId} {a b c : Value} (h : Rw w g t #[a, b, c]) : w.cell? ⟨g, 0, none⟩ = some a ∧ w.cell? ⟨g, 1, none⟩ = some b ∧ w.cell? ⟨g, 2, none⟩ = some c ∧ w.frozen? ⟨g, 0, none⟩ = false ∧ w.frozen? ⟨g, 1, none⟩ = false ∧ w.frozen? ⟨g, 2, none⟩ = false :=
  ⟨by rw [Lib.cell_of_heap h]; rfl, by rw [Lib.cell_of_heap h]; rfl, by rw [Lib.cell_of_heap h]; rfl, Lib.frozen_of_heap h 0, Lib.frozen_of_heap h 1, Lib.frozen_of_heap h 2⟩
theorem Rw.cell {w : World} {g : Nat} {t : TypeId} {cs : Array Value} (h : Rw w g t cs) (i : Nat) (v : Value) : Rw (w.setCell ⟨g, i, none⟩ v) g t (cs.setIfInBounds i v) := by
  rw [setCell_eq_setRow w g i cs t (0, 0) v h]; exact h.set
theorem Rw.set3 {w : World} {g : Nat} {t : TypeId} {a b c a' b' c' : Value} (h : Rw w g t #[a, b, c]) : Rw (((w.setCell ⟨g, 0, none⟩ a').setCell ⟨g, 1, none⟩ b').setCell ⟨g, 2, none⟩ c') g t #[a', b', c'] := ((h.cell 0 a').cell 1 b').cell 2 c'
theorem below_set3 {B : Nat} {w0 w : World} {g : Nat} (h : Below B w0 w) (hg : B ≤ g) (a b c : Value) : Below B w0 (((w.setCell ⟨g, 0, none⟩ a).setCell ⟨g, 1, none⟩ b).setCell ⟨g, 2, none⟩ c) := ((h.setCell (p := ⟨g, 0, none⟩) hg a).setCell (p := ⟨g, 1, none⟩) hg b).setCell (p := ⟨g, 2, none⟩) hg c
theorem none_any (s : ByteArray) (w : World) : Calls Tryd.prog 141 #[.string s] w fun e w' => e = .returned (opV 0 0 ⟨#[]⟩) ∧ Below w.heap.size w w' := by
  go_enter Tryd.func141, Tryd.ntmps141
  go_wp2_with fail
  refine bodyPost_ret (ret_op rfl rfl (Rw.new _ _ _)) rfl ?_
  exact ⟨rfl, below_al _ _⟩
theorem atoi_ok {s : ByteArray} (hs : s.size ≤ 281474976710656) {n : Int} (hn : atR s.data.toList = some n) (w : World) :
    Calls Tryd.prog 66 #[.string s] w fun e w' => e = .returned (.tuple #[.int .i64 n, .nilIface]) ∧ Below w.heap.size w w' := by
  have h : Lib.atoiAll s.data.toList = .ok n := by
    unfold atR at hn
    split at hn
    · rename_i v hv; rw [hv, Option.some.inj hn]
    · exact absurd hn (by simp)
  exact (Tryd.strconv_Atoi_ok s (by omega) n h w).mono fun e w' ⟨a, b⟩ => ⟨a, by rcases b with rfl | ⟨t, rfl⟩; exact Below.refl _ _; exact Lib.bytesWorld_below _ _ _⟩
theorem atoi_no {s : ByteArray} (hs : s.size ≤ 281474976710656) (hn : atR s.data.toList = none) {w : World} (hw : EnvS w) :
    Calls Tryd.prog 66 #[.string s] w fun e w' => ∃ x t p, e = .returned (.tuple #[.int .i64 x, .iface t p]) ∧ Below w.heap.size w w' := by
  obtain ⟨te, pe, h2⟩ := hw.syn
  obtain ⟨te', pe', h3⟩ := hw.rng
  rcases h : Lib.atoiAll s.data.toList with v | _ | _
  · unfold atR at hn; rw [h] at hn; exact absurd hn (by simp)
  · exact (Tryd.strconv_Atoi_syntax s hs (by rw [h]; rfl) _ w h2 (.inr ⟨_, _, rfl⟩)).mono fun e w' ⟨N, a, _, _, b⟩ => ⟨_, _, _, a, b⟩
  · exact (Tryd.strconv_Atoi_range s hs h _ w h3 (.inr ⟨_, _, rfl⟩)).mono fun e w' ⟨N, a, _, _, b⟩ => ⟨_, _, _, a, b⟩
def cntN (l : List UInt8) : Int := (atR l).getD (-1)
theorem counted_any {w : World} (hw : EnvS w) (s : ByteArray) (hs : s.size ≤ 1000000) : Calls Tryd.prog 137 #[.string s] w fun e w' => e = .returned (opV 0 (cntN s.data.toList) ⟨#[]⟩) ∧ Below w.heap.size w w' := by
  have hR := Lib.hid (Rw.new w 24 (opC 0 0 ⟨#[]⟩))
  have hW := Lib.hid (hw.below (below_al w (.cells (opC 0 0 ⟨#[]⟩) 24)))
  have hB := Lib.hid (below_al w (.cells (opC 0 0 ⟨#[]⟩) 24))
  have hlt : w.heap.size < (w.alloc (.cells (opC 0 0 ⟨#[]⟩) 24)).heap.size := by simp
  unfold cntN
  rcases hn : atR s.data.toList with _ | n
  · go_enter Tryd.func137, Tryd.ntmps137
    go_wp2_with (go_at_call 66; refine (atoi_no (by omega) hn hW.out).mono ?_; rintro e w' ⟨x, t, p, rfl, hE⟩; have hR2 := hR.out.below hE hlt; have hB2 := hB.out.trans (below_le hE (Nat.le_of_lt hlt)); clear hE; obtain ⟨c0, c1, c2, f0, f1, f2⟩ := hR2.facts)
    refine bodyPost_ret (ret_op rfl rfl hR2.set3) rfl ?_
    exact ⟨rfl, below_set3 hB2 (Nat.le_refl _) _ _ _⟩
  · go_enter Tryd.func137, Tryd.ntmps137
    go_wp2_with (go_at_call 66; refine (atoi_ok (by omega) hn _).mono ?_; rintro e w' ⟨rfl, hE⟩; have hR2 := hR.out.below hE hlt; have hB2 := hB.out.trans (below_le hE (Nat.le_of_lt hlt)); clear hE; obtain ⟨c0, c1, c2, f0, f1, f2⟩ := hR2.facts)
    refine bodyPost_ret (ret_op rfl rfl hR2.set3) rfl ?_
    exact ⟨rfl, below_set3 hB2 (Nat.le_refl _) _ _ _⟩
end Go.Proofs.YtjjnjglbmneecaaDoor
