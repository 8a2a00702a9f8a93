/- The table of the words as a law's row lists it: what it says of the memory, and a world in which it lies so. -/
import Derived.Test.YtokjnlhnlbdfnaaDoorPw
import Derived.Test.YtokjnlhnlbdfnaaDoorKit
import Derived.Test.YtokjnlhnlbdfnaaDoorRows
namespace Go.Proofs.YtokjnlhnlbdfnaaDoor
open Go Go.RowKit Go.ChangeShapes Go.WideShapes Go.ChangeAt Go.WideMaps Go.WideElems

theorem own : ownKnob Tryd.prog.godebug = none := by kernel_rfl
theorem gTab : Tryd.prog.globalNamed "tempo/piece.words" = some 0 := by kernel_rfl
theorem gTabType : (Tryd.prog.globals[0]?).map (·.type) = some 40 := by kernel_rfl
theorem cells40 : Tryd.prog.cellsOf 40 = 7 := by kernel_rfl
theorem cells9 : Tryd.prog.cellsOf 9 = 1 := by kernel_rfl
def wordB : List (List UInt8) := [[], [112, 97, 119, 110], [107, 110, 105, 103, 104, 116], [98, 105, 115, 104, 111, 112], [114, 111, 111, 107], [113, 117, 101, 101, 110], [107, 105, 110, 103]]
theorem words_of_laid {W : World} (h : laidMet Tryd.prog [("tempo/piece.words", Rows.laid_tempo_piece_words)] W) : Words W := by
  obtain ⟨ps, ⟨g', t', cs, fuel, p, q, hg', ht', hvar, hd, _, _⟩, _⟩ := h
  obtain rfl := Option.some.inj (gTab.symm.trans hg')
  obtain rfl := Option.some.inj (gTabType.symm.trans ht')
  have e := cells_of_strs (zs := wordB) Tryd.underlying40 Tryd.underlying9 cells9 cells40 hd
  have key : ∀ i : Nat, i < 7 → W.cell? ⟨0, i, none⟩ = some (.string (wordL.getD i ⟨#[]⟩)) := fun i hi => by
    have hc := World.var?_cell hg' hvar i
    rw [hc]
    show cs[i]? = _
    have e2 : cs = (wordB.map fun z => Value.string ⟨z.toArray⟩).toArray := by rw [← e]
    rw [e2]
    have key2 : ∀ i, i < 7 → (wordB.map fun z => Value.string ⟨z.toArray⟩).toArray[i]? = some (.string (wordL.getD i ⟨#[]⟩)) := by
      intro i hi
      rcases i with _ | _ | _ | _ | _ | _ | _ | i
      all_goals first | rfl | omega
    exact key2 i hi
  refine ⟨?_, key⟩
  have h0 := key 0 (by decide)
  by_cases hz : 0 < W.heap.size
  · exact hz
  · have hs : W.heap.size ≤ 0 := Nat.le_of_not_lt hz
    have : W.heap[0]? = none := Array.getElem?_eq_none hs
    simp [World.cell?, this] at h0

/-- A world in which the table lies. -/
noncomputable def laidWorld (os : Os) : World :=
  { World.holding Tryd.prog os ⟨#[], #[], []⟩ with heap := (World.holding Tryd.prog os ⟨#[], #[], []⟩).heap.modify 0 fun
      | .cells _ t frozen => .cells #[.string ⟨#[]⟩, .string ⟨#[112, 97, 119, 110]⟩, .string ⟨#[107, 110, 105, 103, 104, 116]⟩, .string ⟨#[98, 105, 115, 104, 111, 112]⟩, .string ⟨#[114, 111, 111, 107]⟩, .string ⟨#[113, 117, 101, 101, 110]⟩, .string ⟨#[107, 105, 110, 103]⟩] t frozen
      | o => o }
end Go.Proofs.YtokjnlhnlbdfnaaDoor
