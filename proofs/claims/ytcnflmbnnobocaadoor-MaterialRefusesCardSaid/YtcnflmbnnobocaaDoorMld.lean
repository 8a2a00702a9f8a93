/- The listed variables: what they say of the memory, and a world in which they lie so. -/
import Derived.Test.YtcnflmbnnobocaaDoorMrd
import Derived.Test.YtcnflmbnnobocaaDoorKit
import Derived.Test.YtcnflmbnnobocaaDoorRows
import Derived.Lay
import Derived.MakeChecks
import Derived.Shelf.Vars
import Derived.LaidHandle
namespace Go.Proofs.YtcnflmbnnobocaaDoor
open Go Go.RowKit Go.ChangeShapes Go.WideShapes Go.ChangeAt Go.WideMaps Go.WideElems

theorem own : ownKnob Tryd.prog.godebug = none := by kernel_rfl
abbrev laidL : List (String × DataW Unit) := [("math/bits.deBruijn32tab", Rows.laid_math_bits_deBruijn32tab), ("math/bits.deBruijn64tab", Rows.laid_math_bits_deBruijn64tab), ("internal/strconv.uint64pow10", Rows.laid_internal_strconv_uint64pow10), ("unicode/utf8.acceptRanges", Rows.laid_unicode_utf8_acceptRanges), ("strconv.ErrRange", Rows.laid_strconv_ErrRange), ("strconv.ErrSyntax", Rows.laid_strconv_ErrSyntax), ("tempo/material.places", Rows.laid_tempo_material_places), ("unicode/utf8.first", Rows.laid_unicode_utf8_first)]
theorem iface_of_trod {H : Type} {enc : TypeId × Value → H} {P : Program} {w : World} {base : Nat} {sp : Nat → Bool} {held : Bool} {fuel : Nat} {t : TypeId} {ms : Array (String × TypeId)} {cs : List Value} {nm : String} {d : DataW H} {p : List MemPlace}
    (ht : P.underlying t = some (.interface ms)) (h : DataW.trod enc P w base sp held fuel t cs = some (.iface nm d, p)) : ∃ u v, cs = [.iface u v] := by
  cases fuel with
  | zero => simp [DataW.trod] at h
  | succ fuel =>
    simp only [DataW.trod, ht] at h
    split at h
    all_goals first | (cases h; done) | exact ⟨_, _, rfl⟩ | simp_all
theorem env_of_laid {W : World} (hL : laidMetH Tryd.prog laidL W) (hSh : W.ShapedOpen Tryd.prog) : Env W := by
  rw [MakeChecks.laidMetH_plain _ _ _ (by kernel_rfl)] at hL
  obtain ⟨ps, ⟨g0, t0, cs0, f0, p0, q0, hg0, ht0, hv0, hd0, ⟨g1, t1, cs1, f1, p1, q1, hg1, ht1, hv1, hd1, ⟨g2, t2, cs2, f2, p2, q2, hg2, ht2, hv2, hd2, ⟨g3, t3, cs3, f3, p3, q3, hg3, ht3, hv3, hd3, ⟨g4, t4, cs4, f4, p4, q4, hg4, ht4, hv4, hd4, ⟨g5, t5, cs5, f5, p5, q5, hg5, ht5, hv5, hd5, ⟨g6, t6, cs6, f6, p6, q6, hg6, ht6, hv6, hd6, _⟩, _⟩, _⟩, _⟩, _⟩, _⟩, _⟩, _⟩ := hL
  obtain rfl := Option.some.inj ((show Tryd.prog.globalNamed "math/bits.deBruijn64tab" = some 8 by kernel_rfl).symm.trans hg1)
  obtain rfl := Option.some.inj ((show Tryd.prog.globalNamed "strconv.ErrRange" = some 2 by kernel_rfl).symm.trans hg4)
  obtain rfl := Option.some.inj ((show Tryd.prog.globalNamed "strconv.ErrSyntax" = some 1 by kernel_rfl).symm.trans hg5)
  obtain rfl := Option.some.inj ((show Tryd.prog.globalNamed "tempo/material.places" = some 0 by kernel_rfl).symm.trans hg6)
  obtain rfl := Option.some.inj ((show (Tryd.prog.globals[2]?).map (·.type) = some 66 by kernel_rfl).symm.trans ht4)
  obtain rfl := Option.some.inj ((show (Tryd.prog.globals[1]?).map (·.type) = some 66 by kernel_rfl).symm.trans ht5)
  obtain rfl := Option.some.inj ((show (Tryd.prog.globals[0]?).map (·.type) = some 59 by kernel_rfl).symm.trans ht6)
  obtain ⟨m, hm⟩ := cell_of_shapedOpen_int (P := Tryd.prog) (g := 4) (t := 3) (zero := #[.int .i64 0]) hSh (of_decide_eq_true (by kernel_rfl)) (by kernel_rfl) rfl (by kernel_rfl) (by kernel_rfl) Tryd.underlying3
  obtain ⟨u4, x4, e4⟩ := iface_of_trod Tryd.underlying66 hd4
  obtain ⟨u5, x5, e5⟩ := iface_of_trod Tryd.underlying66 hd5
  have e6 := Lib.cells_of_tab (zs := plcL) (k := .i64) Tryd.underlying59 Tryd.underlying3 (by kernel_rfl) (by kernel_rfl) hd6
  have hsz : 9 ≤ W.heap.size := by
    have hlt : ¬ W.heap.size ≤ 8 := fun hle => by
      have hn : W.heap[8]? = none := Array.getElem?_eq_none hle
      unfold World.var? at hv1
      rw [show Tryd.prog.globalNamed "math/bits.deBruijn64tab" = some 8 by kernel_rfl] at hv1
      simp [hn] at hv1
    omega
  refine ⟨⟨by omega, fun i hi => ?_⟩, ⟨m, hm⟩, ⟨u5, x5, ?_⟩, ⟨u4, x4, ?_⟩, hsz⟩
  · rw [World.var?_cell hg6 hv6 i]
    have : cs6 = (plcL.map fun z => Value.int .i64 z).toArray := by rw [← e6]
    rw [this]
    have hl : plcL.length = 13 := rfl
    simp [List.getD, hl, hi]
  · rw [World.var?_cell hg5 hv5 0]
    have : cs5 = [Value.iface u5 x5].toArray := by rw [← e5]
    rw [this]; rfl
  · rw [World.var?_cell hg4 hv4 0]
    have : cs4 = [Value.iface u4 x4].toArray := by rw [← e4]
    rw [this]; rfl

/-- A world in which the variables lie. -/
noncomputable def laidWorld (os : Os) : World := World.laidAll Tryd.prog os laidL
theorem laid_met_all (os : Os) (args : Array Value) : laidMetH Tryd.prog laidL ((laidWorld os).forCall (fun _ _ => 0) ⟨#[], args, []⟩).memory := by
  rw [MakeChecks.laidMetH_plain _ _ _ (by kernel_rfl)]
  exact laidMet_laidAll _ (by kernel_rfl) (by kernel_rfl)
end Go.Proofs.YtcnflmbnnobocaaDoor
