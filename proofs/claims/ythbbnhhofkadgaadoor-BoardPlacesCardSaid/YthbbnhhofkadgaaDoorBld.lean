/- The listed variables: what they say of the memory, and a world in which they lie so. -/
import Derived.Test.YthbbnhhofkadgaaDoorBps
import Derived.Test.YthbbnhhofkadgaaDoorKit
import Derived.Test.YthbbnhhofkadgaaDoorRows
import Derived.Lay
import Derived.MakeChecks
import Derived.Shelf.Vars
import Derived.LaidHandle
namespace Go.Proofs.YthbbnhhofkadgaaDoor
open Go Go.RowKit Go.ChangeShapes Go.WideShapes Go.ChangeAt Go.WideMaps Go.WideElems

theorem own : ownKnob Tryd.prog.godebug = none := by kernel_rfl
abbrev laidL : List (String × DataW Unit) := [("math/bits.deBruijn32tab", Rows.laid_math_bits_deBruijn32tab), ("math/bits.deBruijn64tab", Rows.laid_math_bits_deBruijn64tab), ("internal/strconv.uint64pow10", Rows.laid_internal_strconv_uint64pow10), ("unicode/utf8.acceptRanges", Rows.laid_unicode_utf8_acceptRanges), ("unicode/utf8.first", Rows.laid_unicode_utf8_first)]
def tab64I : List Int := Lib.deBruijn64tab.map fun n => ((n : Nat) : Int)
theorem env_of_laid {W : World} (hL : laidMetH Tryd.prog laidL W) (hSh : W.ShapedOpen Tryd.prog) : EnvB W := by
  rw [MakeChecks.laidMetH_plain _ _ _ (by kernel_rfl)] at hL
  obtain ⟨ps, ⟨g0, t0, cs0, f0, p0, q0, hg0, ht0, hv0, hd0, ⟨g1, t1, cs1, f1, p1, q1, hg1, ht1, hv1, hd1, ⟨g2, t2, cs2, f2, p2, q2, hg2, ht2, hv2, hd2, ⟨g3, t3, cs3, f3, p3, q3, hg3, ht3, hv3, hd3, ⟨g4, t4, cs4, f4, p4, q4, hg4, ht4, hv4, hd4, _⟩, _⟩, _⟩, _⟩, _⟩, _⟩ := hL
  obtain rfl := Option.some.inj ((show Tryd.prog.globalNamed "math/bits.deBruijn64tab" = some 0 by kernel_rfl).symm.trans hg1)
  obtain rfl := Option.some.inj ((show Tryd.prog.globalNamed "math/bits.deBruijn32tab" = some 5 by kernel_rfl).symm.trans hg0)
  obtain ⟨t, ht⟩ : ∃ t, (Tryd.prog.globals[0]?).map (·.type) = some t := ⟨_, ht1⟩
  obtain ⟨m, hm⟩ := cell_of_shapedOpen_int (P := Tryd.prog) (g := 1) (t := 3) (zero := #[.int .i64 0]) hSh (of_decide_eq_true (by kernel_rfl)) (by kernel_rfl) rfl (by kernel_rfl) (by kernel_rfl) Tryd.underlying3
  obtain rfl := Option.some.inj ((show (Tryd.prog.globals[0]?).map (·.type) = some 29 by kernel_rfl).symm.trans ht1)
  have e1 := Lib.cells_of_tab (zs := tab64I) (k := .u8) Tryd.underlying29 Tryd.underlying5 (by kernel_rfl) (by kernel_rfl) hd1
  have hsz : 6 ≤ W.heap.size := by
    have hlt : ¬ W.heap.size ≤ 5 := fun hle => by
      have hn : W.heap[5]? = none := Array.getElem?_eq_none hle
      unfold World.var? at hv0
      rw [show Tryd.prog.globalNamed "math/bits.deBruijn32tab" = some 5 by kernel_rfl] at hv0
      simp [hn] at hv0
    omega
  refine ⟨⟨by omega, fun j hj => ?_⟩, ⟨m, hm⟩, hsz⟩
  rw [World.var?_cell hg1 hv1 j]
  have : cs1 = (tab64I.map fun z => Value.int .u8 z).toArray := by rw [← e1]
  rw [this]
  have hl : Lib.deBruijn64tab.length = 64 := rfl
  simp [tab64I, List.getD, hl, hj]

/-- A world in which the variables lie. -/
noncomputable def laidWorld (os : Os) : World := World.laidAll Tryd.prog os laidL
theorem laid_met_all (os : Os) (args : Array Value) : laidMetH Tryd.prog laidL ((laidWorld os).forCall (fun _ _ => 0) ⟨#[], args, []⟩).memory := by
  rw [MakeChecks.laidMetH_plain _ _ _ (by kernel_rfl)]
  exact laidMet_laidAll _ (by kernel_rfl) (by kernel_rfl)
end Go.Proofs.YthbbnhhofkadgaaDoor
