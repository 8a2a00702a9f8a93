/- Arguments that lead into memory: numbers of operations, slices of bytes: opened. -/
import Derived.Test.YtjjnjglbmneecaaDoorSno
import Derived.Test.YtjjnjglbmneecaaDoorAro
import Derived.ChangeSlices
import Derived.ChangeArms
import Derived.Deep.Strs
import Derived.Carry
import Derived.ChangeOld
namespace Go.Proofs.YtjjnjglbmneecaaDoor
open Go Go.RowKit Go.ChangeShapes Go.WideShapes Go.ChangeAt Go.WideMaps Go.WideElems
/-- The end of a law that leaves all old memory alone, its arguments leading into memory. -/
theorem post_law2 {H : Type} {enc : TypeId × Value → H} {P : Program} {f : Func} {s : ChangeSpec} {W W' : World} {args : Array Value} {v : Value} {ds gs : List (DataW H)}
    {before pa : List MemPlace} (hW : DataW.Whole enc P f.params.toList s.vars false W args.toList ds gs before) (hb : Below W.heap.size W W')
    (hres : DataW.TrodAll enc P W' W.heap.size (fun _ => false) false f.resultTypes.toList (Value.resultList f.resultTypes.size v) (s.fn H (ds ++ gs)).results [])
    (hargs : DataW.TrodAll enc P W' 0 (fun b => decide (b < W.heap.size)) true f.params.toList args.toList (s.fn H (ds ++ gs)).args pa)
    (hvars : DataW.TrodVars enc P W' (fun b => decide (b < W.heap.size)) s.vars (s.fn H (ds ++ gs)).vars []) :
    s.post enc P f false true false false W args v W' :=
  ⟨ds, gs, before, [], pa, [], hW, hres, hargs, hvars, hb.frame _, fun h => by cases h⟩
section
variable {H : Type} {enc : TypeId × Value → H} {w : World} {base : Nat} {sp : Nat → Bool} {held : Bool}
theorem cell_lt {w : World} {a : Addr} {v : Value} (h : w.cell? a = some v) : a.block < w.heap.size := by
  rcases Nat.lt_or_ge a.block w.heap.size with h' | h'
  · exact h'
  · simp [World.cell?, Array.getElem?_eq_none h'] at h
theorem lits_u8 {zs : List Int} (h : ∀ n ∈ zs, (Lit.int .u8 n).wf = true) (i : Nat) (hi : i < zs.length) : zs.getD i 0 = ((zs.map fun z => UInt8.ofNat z.toNat)[i]'(by simpa using hi)).toNat := by
  have hb := bounds_u8 (h zs[i] (List.getElem_mem hi))
  rw [List.getElem_map, show zs.getD i 0 = zs[i] by simp [List.getD, hi]]
  have : (UInt8.ofNat (zs[i]).toNat).toNat = (zs[i]).toNat := by
    rw [UInt8.toNat_ofNat']; omega
  rw [this]; omega
theorem open_bys {fuel : Nat} {c : Value} {x : DataW H × List MemPlace} (h : DataW.trod enc Tryd.prog w base (fun _ => true) held fuel 33 [c] = some x) : ∃ l, ByS w c l := by
  rcases open_ints Tryd.underlying33 Tryd.underlying5 (by kernel_rfl) h with ⟨hc, _⟩ | ⟨a, len, cap, zs, hc, _, hlc, _, hzl, _, hcell, hwf⟩
  · cases hc; exact ⟨[], none, 0, rfl, by simp, fun e => absurd rfl e⟩
  · simp only [List.cons.injEq, and_true] at hc
    subst hc
    rw [if_pos rfl] at hzl
    refine ⟨(zs.take len).map fun z => UInt8.ofNat z.toNat, some a, cap, by rw [List.length_map, List.length_take, Nat.min_eq_left (by omega)], by rw [List.length_map, List.length_take]; omega, fun hl => ?_⟩
    have h0 : 0 < len := by
      rcases Nat.eq_zero_or_pos len with h | h
      · subst h; exact absurd (by simp) hl
      · exact h
    obtain ⟨g, off, spot⟩ := a
    have hc0 := hcell 0 (by omega)
    have hs : spot = none := by simpa [Addr.add] using World.cell?_spot hc0
    subst hs
    have ha : ∀ i, (⟨g, off, none⟩ : Addr).add i = ⟨g, off + i, none⟩ := fun i => by unfold Addr.add; split <;> simp_all
    refine ⟨g, off, rfl, ?_, fun i hi => ?_⟩
    · have := hcell 0 (by omega)
      rw [ha] at this
      exact cell_lt this
    · rw [List.length_map, List.length_take] at hi
      have := hcell i (by omega)
      rw [ha, lits_u8 hwf i (by omega)] at this
      rw [this]
      simp
theorem cells3 {v : Value} {a b c : Value} (h : v.cells.toList = [a, b, c]) : v = .agg #[a, b, c] := by
  have hs : v.cells.size = 3 := by rw [← Array.length_toList, h]; rfl
  rw [cells_agg (v := v) (n := 3) hs (by decide)]
  congr 1
  rw [← Array.toArray_toList (xs := v.cells), h]
/-- Numbers of an operation. -/
def NmS (w : World) (v : Value) : Prop := ∃ (k a : Nat) (sl : Value) (l : List UInt8), v = nmV k a sl ∧ k ≤ 255 ∧ a ≤ 4294967295 ∧ ByS w sl l
theorem open_nm3 {fuel : Nat} {cs : List Value} {x : DataW H × List MemPlace} (h : DataW.trod enc Tryd.prog w base (fun _ => true) held fuel 35 cs = some x) : ∃ (k a : Nat) (sl : Value) (l : List UInt8), cs = [.int .u8 k, .int .u32 a, sl] ∧ k ≤ 255 ∧ a ≤ 4294967295 ∧ ByS w sl l := by
  obtain ⟨y0, y1, y2, n, rfl, hl, h0, h1, h2⟩ := Go.Deep.trod_struct3 Tryd.underlying35 h
  rw [show Tryd.prog.cellsOf 35 = 3 by kernel_rfl] at hl
  obtain ⟨c0, c1, c2, rfl⟩ : ∃ a b c, cs = [a, b, c] := by
    rcases cs with _ | ⟨a, _ | ⟨b, _ | ⟨c, _ | ⟨e, r⟩⟩⟩⟩
    all_goals first | exact ⟨_, _, _, rfl⟩ | (simp at hl)
  dsimp only at h0 h1 h2
  rw [show Tryd.prog.cellsOf 5 = 1 by kernel_rfl] at h0
  rw [show Tryd.prog.cellsOf 32 = 1 by kernel_rfl] at h1
  rw [show Tryd.prog.cellsOf 33 = 1 by kernel_rfl] at h2
  obtain ⟨z0, e0, _, f0⟩ := DataW.trod_int Tryd.underlying5 h0
  obtain ⟨z1, e1, _, f1⟩ := DataW.trod_int Tryd.underlying32 h1
  have b0 := bounds_u8 f0
  have b1 := bounds_u32 f1
  obtain ⟨l, hb⟩ := open_bys (c := c2) (by simpa using h2)
  have g0 : c0 = .int .u8 z0 := by simpa using e0
  have g1 : c1 = .int .u32 z1 := by simpa using e1
  refine ⟨z0.toNat, z1.toNat, c2, l, ?_, by omega, by omega, hb⟩
  rw [g0, g1, show ((z0.toNat : Nat) : Int) = z0 by omega, show ((z1.toNat : Nat) : Int) = z1 by omega]
theorem open_nm {v : Value} {d : DataW H} {ps : List MemPlace} (h : DataW.Trod enc Tryd.prog w base (fun _ => true) held 35 v d ps) : NmS w v := by
  obtain ⟨fuel, hf⟩ := h
  obtain ⟨k, a, sl, l, hc, h1, h2, h3⟩ := open_nm3 hf
  exact ⟨k, a, sl, l, cells3 hc, h1, h2, h3⟩
theorem laidOut : laidOutB Tryd.prog = true := by kernel_rfl
theorem keep_arg {t : TypeId} (hr : Tryd.prog.readableRec t = true) (hrow : t < Tryd.prog.types.size) {W W' : World} {v : Value} {d : DataW H} {ps : List MemPlace} (h : DataW.Trod enc Tryd.prog W 0 (fun _ => true) true t v d ps) (hb : Below W.heap.size W W') :
    DataW.Trod enc Tryd.prog W' 0 (fun b => decide (b < W.heap.size)) true t v d ps :=
  Below.trod laidOut hr hrow h hb (by obtain ⟨fuel, hf⟩ := h; exact DataW.trod_lt fuel _ _ _ hf)
end
end Go.Proofs.YtjjnjglbmneecaaDoor
