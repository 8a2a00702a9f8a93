/- Words for the regions that draw their order. No condition. -/
import Derived.Test.YthbbnhhofkadgaaDoorBs8
import Derived.Deep.RegionHeld3
import Derived.Deep.QuietTactic
import Derived.Deep.DeepCutAuto
import Derived.BigQuiet
namespace Go.Proofs.YthbbnhhofkadgaaDoor
open Go Go.RowKit
theorem Holds.range {w : World} {g : Nat} {k : IntKind} {t : TypeId} {l : List Int} (h : Holds w g k t l) : w.rangeAt g 0 (l.map (Value.int k)) := fun j v hv => by
  have hl : j < l.length := by
    have := List.getElem?_eq_some_iff.1 hv
    obtain ⟨h1, _⟩ := this
    simpa using h1
  rw [Nat.zero_add, h.cell j hl]
  simp at hv
  obtain ⟨x, hx, rfl⟩ := hv
  simp [hx]
theorem i24m {l : List Int} (h : l.length = 64) : (Tryd.prog.info? 24).map (·.size) = some (l.map (Value.int .i64)).length := by rw [List.length_map, h]; kernel_rfl
end Go.Proofs.YthbbnhhofkadgaaDoor
