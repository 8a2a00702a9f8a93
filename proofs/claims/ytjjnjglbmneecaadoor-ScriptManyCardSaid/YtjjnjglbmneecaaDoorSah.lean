/- Arguments that lead into memory: a slice of numbers of operations: opened. -/
import Derived.Test.YtjjnjglbmneecaaDoorSag
import Derived.Deep.Slices
namespace Go.Proofs.YtjjnjglbmneecaaDoor
open Go Go.RowKit Go.ChangeShapes Go.WideShapes Go.ChangeAt Go.WideMaps Go.WideElems
/-- Numbers of an operation, as they lie in a slice. -/
structure Nm where
  k : Nat
  a : Nat
  sl : Value
  l : List UInt8
/-- What is so of one. -/
def NmAt (w : World) (g o : Nat) (n : Nm) : Prop := w.cell? ⟨g, o, none⟩ = some (.int .u8 n.k) ∧ w.cell? ⟨g, o + 1, none⟩ = some (.int .u32 n.a) ∧ w.cell? ⟨g, o + 2, none⟩ = some n.sl ∧ n.k ≤ 255 ∧ n.a ≤ 4294967295 ∧ ByS w n.sl n.l
/-- A slice of them in a world. -/
def NmsS (w : World) (v : Value) (ns : List Nm) : Prop := ∃ ao cap, v = .slice ao ns.length cap ∧ ns.length ≤ cap ∧ (ns ≠ [] → ∃ g off, ao = some ⟨g, off, none⟩ ∧ g < w.heap.size ∧ ∀ i (h : i < ns.length), NmAt w g (off + i * 3) ns[i])
theorem NmAt.below {w w' : World} {g o : Nat} {n : Nm} (h : NmAt w g o n) (hb : Below w.heap.size w w') (hg : g < w.heap.size) : NmAt w' g o n :=
  ⟨(hb.cell (p := ⟨g, o, none⟩) hg).trans h.1, (hb.cell (p := ⟨g, o + 1, none⟩) hg).trans h.2.1, (hb.cell (p := ⟨g, o + 2, none⟩) hg).trans h.2.2.1, h.2.2.2.1, h.2.2.2.2.1, h.2.2.2.2.2.below hb⟩
section
variable {H : Type} {enc : TypeId × Value → H} {w : World} {base : Nat} {held : Bool}
theorem cells_3 {w : World} {base : Nat} {a : Addr} {cs : List Value} (h : w.cells? base a 3 = some cs) : ∃ c0 c1 c2, cs = [c0, c1, c2] ∧ w.cell? (a.add 0) = some c0 ∧ w.cell? (a.add 1) = some c1 ∧ w.cell? (a.add 2) = some c2 := by
  unfold World.cells? at h
  split at h
  · rw [show List.range 3 = [0, 1, 2] from rfl] at h
    simp only [List.mapM_cons, List.mapM_nil, Option.bind_eq_bind, Option.bind_eq_some_iff, Option.pure_def, Option.some.injEq] at h
    obtain ⟨c0, h0, t, ⟨c1, h1, u, ⟨c2, h2, r, rfl, rfl⟩, rfl⟩, rfl⟩ := h
    exact ⟨c0, c1, c2, rfl, h0, h1, h2⟩
  · cases h
theorem open_nms {v : Value} {d : DataW H} {ps : List MemPlace} (h : DataW.Trod enc Tryd.prog w base (fun _ => true) held 41 v d ps) (hv : v.cells = #[v]) : ∃ ns, NmsS w v ns := by
  obtain ⟨fuel, hf⟩ := h
  rw [hv] at hf
  rcases Go.Deep.open_slice Tryd.underlying41 hf with ⟨hc, _⟩ | ⟨a, len, cap, m, n, D, Pl, hc, _, hlc, _, hm, _, hel⟩
  · have hv2 : v = .slice none 0 0 := by simpa using hc
    exact ⟨[], none, 0, hv2, by simp, fun e => absurd rfl e⟩
  · have hv2 : v = .slice (some a) len cap := by simpa using hc
    rw [if_pos rfl] at hm
    rw [hm] at hel
    rw [show Tryd.prog.cellsOf 35 = 3 by kernel_rfl] at hel
    by_cases h0 : len = 0
    · subst h0
      exact ⟨[], some a, cap, hv2, by simp, fun e => absurd rfl e⟩
    obtain ⟨g, off, spot⟩ := a
    have hs : spot = none := by
      obtain ⟨cs, hcs, _⟩ := hel 0 (by omega)
      obtain ⟨c0, _, _, _, hc0, _⟩ := cells_3 hcs
      simpa [Addr.add] using World.cell?_spot hc0
    subst hs
    have ha : ∀ i j, ((⟨g, off, none⟩ : Addr).add (i * 3)).add j = ⟨g, off + i * 3 + j, none⟩ := fun i j => by unfold Addr.add; split <;> split <;> simp_all
    have hone : ∀ i, i < len → ∃ nm : Nm, NmAt w g (off + i * 3) nm := fun i hi => by
      obtain ⟨cs, hcs, htr⟩ := hel i (by omega)
      obtain ⟨c0, c1, c2, rfl, hc0, hc1, hc2⟩ := cells_3 hcs
      rw [ha] at hc0 hc1 hc2
      obtain ⟨k, a, sl, l, hcs3, h1, h2, h3⟩ := open_nm3 htr
      simp only [List.cons.injEq, and_true] at hcs3
      obtain ⟨rfl, rfl, rfl⟩ := hcs3
      exact ⟨⟨k, a, c2, l⟩, hc0, hc1, hc2, h1, h2, h3⟩
    have key : ∀ q, q ≤ len → ∃ ns : List Nm, ns.length = q ∧ ∀ i (h : i < ns.length), NmAt w g (off + i * 3) ns[i] := by
      intro q
      induction q with
      | zero => intro _; exact ⟨[], rfl, fun i h => by simp at h⟩
      | succ q ih =>
        intro hq
        obtain ⟨ns, h1, h2⟩ := ih (by omega)
        obtain ⟨nm, h3⟩ := hone q (by omega)
        refine ⟨ns ++ [nm], by simp [h1], fun i hi => ?_⟩
        by_cases hin : i < ns.length
        · rw [List.getElem_append_left hin]; exact h2 i hin
        · have : i = ns.length := by simp at hi; omega
          subst this
          rw [List.getElem_append_right (Nat.le_refl _)]
          simp only [Nat.sub_self, List.getElem_cons_zero]
          rw [h1]; exact h3
    obtain ⟨ns, h1, h2⟩ := key len (Nat.le_refl _)
    refine ⟨ns, some ⟨g, off, none⟩, cap, by rw [hv2, h1], by omega, fun _ => ⟨g, off, rfl, ?_, h2⟩⟩
    obtain ⟨cs, hcs, _⟩ := hel 0 (by omega)
    obtain ⟨c0, _, _, _, hc0, _⟩ := cells_3 hcs
    rw [ha] at hc0
    exact cell_lt hc0
end
theorem slice_cells {ao : Option Addr} {n c : Nat} : (Value.slice ao n c).cells = #[.slice ao n c] := rfl
end Go.Proofs.YtjjnjglbmneecaaDoor
