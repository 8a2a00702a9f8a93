/- Arguments that are operations, and slices of operations: opened. -/
import Derived.Test.YtjjnjglbmneecaaDoorSag
import Derived.Test.YtjjnjglbmneecaaDoorSpq
import Derived.Deep.Slices
namespace Go.Proofs.YtjjnjglbmneecaaDoor
open Go Go.RowKit Go.ChangeShapes Go.WideShapes Go.ChangeAt Go.WideMaps Go.WideElems
def I64 (a : Int) : Prop := -9223372036854775808 ≤ a ∧ a ≤ 9223372036854775807
/-- An operation, as it lies in a slice. -/
def OpAt (w : World) (g o : Nat) (x : Opx) : Prop := w.cell? ⟨g, o, none⟩ = some (.int .i64 x.1) ∧ w.cell? ⟨g, o + 1, none⟩ = some (.int .i64 x.2.1) ∧ w.cell? ⟨g, o + 2, none⟩ = some (.string ⟨x.2.2.toArray⟩)
theorem OpAt.below {w w' : World} {g o : Nat} {x : Opx} (h : OpAt w g o x) (hb : Below w.heap.size w w') (hg : g < w.heap.size) : OpAt w' g o x :=
  ⟨(hb.cell (p := ⟨g, o, none⟩) hg).trans h.1, (hb.cell (p := ⟨g, o + 1, none⟩) hg).trans h.2.1, (hb.cell (p := ⟨g, o + 2, none⟩) hg).trans h.2.2⟩
/-- A slice of operations in a world, wherever it begins. -/
def OpsO (w : World) (v : Value) (l : List Opx) : Prop := ∃ ao cap, v = .slice ao l.length cap ∧ (ao = none → cap = 0) ∧ (∀ x ∈ l, I64 x.2.1) ∧ (l ≠ [] → ∃ g off, ao = some ⟨g, off, none⟩ ∧ g < w.heap.size ∧ ∀ i (h : i < l.length), OpAt w g (off + i * 3) l[i])
section
variable {H : Type} {enc : TypeId × Value → H} {w : World} {base : Nat} {held : Bool}
theorem open_op3 {fuel : Nat} {cs : List Value} {x : DataW H × List MemPlace} (h : DataW.trod enc Tryd.prog w base (fun _ => true) held fuel 24 cs = some x) : ∃ (k a : Int) (v : ByteArray), cs = [.int .i64 k, .int .i64 a, .string v] ∧ I64 a := by
  obtain ⟨y0, y1, y2, n, rfl, hl, h0, h1, h2⟩ := Go.Deep.trod_struct3 Tryd.underlying24 h
  rw [show Tryd.prog.cellsOf 24 = 3 by kernel_rfl] at hl
  obtain ⟨c0, c1, c2, rfl⟩ : ∃ a b c, cs = [a, b, c] := by
    rcases cs with _ | ⟨a, _ | ⟨b, _ | ⟨c, _ | ⟨e, r⟩⟩⟩⟩
    all_goals first | exact ⟨_, _, _, rfl⟩ | (simp at hl)
  dsimp only at h0 h1 h2
  rw [show Tryd.prog.cellsOf 3 = 1 by kernel_rfl] at h0 h1
  rw [show Tryd.prog.cellsOf 9 = 1 by kernel_rfl] at h2
  obtain ⟨z0, e0, _, _⟩ := DataW.trod_int Tryd.underlying3 h0
  obtain ⟨z1, e1, _, f1⟩ := DataW.trod_int Tryd.underlying3 h1
  obtain ⟨v, e2, _, _⟩ := DataW.trod_string Tryd.underlying9 h2
  have g0 : c0 = .int .i64 z0 := by simpa using e0
  have g1 : c1 = .int .i64 z1 := by simpa using e1
  have g2 : c2 = .string v := by simpa using e2
  exact ⟨z0, z1, v, by rw [g0, g1, g2], bounds_i64 f1⟩
theorem open_op {v : Value} {d : DataW H} {ps : List MemPlace} (h : DataW.Trod enc Tryd.prog w base (fun _ => true) held 24 v d ps) : ∃ (k a : Int) (s : ByteArray), v = opV k a s ∧ I64 a := by
  obtain ⟨fuel, hf⟩ := h
  obtain ⟨k, a, s, hc, h1⟩ := open_op3 hf
  exact ⟨k, a, s, cells3 hc, h1⟩
theorem cells_3o {w : World} {base : Nat} {a : Addr} {cs : List Value} (h : w.cells? base a 3 = some cs) : ∃ c0 c1 c2, cs = [c0, c1, c2] ∧ w.cell? (a.add 0) = some c0 ∧ w.cell? (a.add 1) = some c1 ∧ w.cell? (a.add 2) = some c2 := by
  unfold World.cells? at h
  split at h
  · rw [show List.range 3 = [0, 1, 2] from rfl] at h
    simp only [List.mapM_cons, List.mapM_nil, Option.bind_eq_bind, Option.bind_eq_some_iff, Option.pure_def, Option.some.injEq] at h
    obtain ⟨c0, h0, t, ⟨c1, h1, u, ⟨c2, h2, r, rfl, rfl⟩, rfl⟩, rfl⟩ := h
    exact ⟨c0, c1, c2, rfl, h0, h1, h2⟩
  · cases h
theorem open_ops {v : Value} {d : DataW H} {ps : List MemPlace} (h : DataW.Trod enc Tryd.prog w base (fun _ => true) held 43 v d ps) (hv : v.cells = #[v]) : ∃ l, OpsO w v l := by
  obtain ⟨fuel, hf⟩ := h
  rw [hv] at hf
  rcases Go.Deep.open_slice Tryd.underlying43 hf with ⟨hc, _⟩ | ⟨a, len, cap, m, n, D, Pl, hc, _, hlc, _, hm, _, hel⟩
  · have hv2 : v = .slice none 0 0 := by simpa using hc
    exact ⟨[], none, 0, hv2, fun _ => rfl, fun x hx => (by cases hx), fun e => absurd rfl e⟩
  · have hv2 : v = .slice (some a) len cap := by simpa using hc
    rw [if_pos rfl] at hm
    rw [hm] at hel
    rw [show Tryd.prog.cellsOf 24 = 3 by kernel_rfl] at hel
    by_cases h0 : len = 0
    · subst h0
      exact ⟨[], some a, cap, hv2, fun e => (by cases e), fun x hx => (by cases hx), fun e => absurd rfl e⟩
    obtain ⟨g, off, spot⟩ := a
    have hs : spot = none := by
      obtain ⟨cs, hcs, _⟩ := hel 0 (by omega)
      obtain ⟨c0, _, _, _, hc0, _⟩ := cells_3o hcs
      simpa [Addr.add] using World.cell?_spot hc0
    subst hs
    have ha : ∀ i j, ((⟨g, off, none⟩ : Addr).add (i * 3)).add j = ⟨g, off + i * 3 + j, none⟩ := fun i j => by unfold Addr.add; split <;> split <;> simp_all
    have hone : ∀ i, i < len → ∃ x : Opx, OpAt w g (off + i * 3) x ∧ I64 x.2.1 := fun i hi => by
      obtain ⟨cs, hcs, htr⟩ := hel i (by omega)
      obtain ⟨c0, c1, c2, rfl, hc0, hc1, hc2⟩ := cells_3o hcs
      rw [ha] at hc0 hc1 hc2
      obtain ⟨k, a, s, hcs3, h1⟩ := open_op3 htr
      simp only [List.cons.injEq, and_true] at hcs3
      obtain ⟨rfl, rfl, rfl⟩ := hcs3
      exact ⟨(k, a, s.data.toList), ⟨hc0, hc1, by simpa using hc2⟩, h1⟩
    have key : ∀ q, q ≤ len → ∃ l : List Opx, l.length = q ∧ (∀ x ∈ l, I64 x.2.1) ∧ ∀ i (h : i < l.length), OpAt w g (off + i * 3) l[i] := by
      intro q
      induction q with
      | zero => intro _; exact ⟨[], rfl, fun x hx => (by cases hx), fun i h => by simp at h⟩
      | succ q ih =>
        intro hq
        obtain ⟨l, h1, h4, h2⟩ := ih (by omega)
        obtain ⟨x, h3, h5⟩ := hone q (by omega)
        refine ⟨l ++ [x], by simp [h1], fun y hy => ?_, fun i hi => ?_⟩
        · rcases List.mem_append.1 hy with hy | hy
          · exact h4 y hy
          · rw [List.mem_singleton.1 hy]; exact h5
        by_cases hin : i < l.length
        · rw [List.getElem_append_left hin]; exact h2 i hin
        · have : i = l.length := by simp at hi; omega
          subst this
          rw [List.getElem_append_right (Nat.le_refl _)]
          simp only [Nat.sub_self, List.getElem_cons_zero]
          rw [h1]; exact h3
    obtain ⟨l, h1, h4, h2⟩ := key len (Nat.le_refl _)
    refine ⟨l, some ⟨g, off, none⟩, cap, by rw [hv2, h1], fun e => (by cases e), h4, fun _ => ⟨g, off, rfl, ?_, h2⟩⟩
    obtain ⟨cs, hcs, _⟩ := hel 0 (by omega)
    obtain ⟨c0, _, _, _, hc0, _⟩ := cells_3o hcs
    rw [ha] at hc0
    exact cell_lt hc0
end
end Go.Proofs.YtjjnjglbmneecaaDoor
