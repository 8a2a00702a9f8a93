/- The contract of the closure flush of Placement: the number of empty squares is written. No condition. -/
import Derived.Test.YthbbnhhofkadgaaDoorBst
import Derived.Test.YthbbnhhofkadgaaDoorShelf
import Derived.Deep.RegionHeld3
import Derived.RangeFuncBox
import Derived.Deep.RegionWith
namespace Go.Proofs.YthbbnhhofkadgaaDoor
open Go Go.RowKit
theorem takeD {P : Program} {md : Region.Mode} {ops : Array Oper} {Q : Exit → Act → World → Prop} {S : World → Prop} (i : Nat) (d : Option Tmp) {oi : Oper} {v : Value} {fuel : Nat} {listed : Array Bool} {a : Act} {w : World} (hi : ops[i]? = some oi) (hd : oi.dst = d)
    (hs : Region.noSelect ops = true) (hf : Region.free md ops listed i = true) (hr : (Region.ready md ops listed).contains i = true)
    (hQ : ∀ c a w, Q (.panic c) (a.put oi.dst v) w → Q (.panic c) a w) (hy : YieldsIf P ops S oi v a) (hS : S w)
    (h : wpAnyH P md ops Q S fuel (listed.setIfInBounds i true) (a.put d v) w) : wpAnyH P md ops Q S (fuel + 1) listed a w := by
  subst hd
  exact wpAnyH_take hi hs hf hr hQ hy hS h
def numS (n : Nat) : ByteArray := ⟨(Lib.decDigits n).toArray⟩
theorem itoa_small (n : Nat) (w : World) (h : n < 100) : Calls Tryd.prog 42 #[.int .i64 n] w fun e w' => e = .returned (.string (numS n)) ∧ w = w' :=
  (Tryd.strconv_Itoa_small n h w).mono fun _ _ ⟨he, hw⟩ => ⟨he, hw.symm⟩
theorem numS_size (n : Nat) (h : n < 100) : (numS n).size ≤ 2 := by
  have key : ∀ n, n < 100 → (Lib.decDigits n).length ≤ 2 := by decide +kernel
  exact key n h
/-- The line with its empty squares. -/
def flS (s : ByteArray) (n : Nat) : ByteArray := if n = 0 then s else s ++ numS n
/-- Nothing but two blocks has changed. -/
structure Two (g h : Nat) (w w' : World) : Prop where
  below : ∀ B, B ≤ g → B ≤ h → Below B w w'
  other : ∀ k, k ≠ g → k ≠ h → w'.heap[k]? = w.heap[k]?
  size : w'.heap.size = w.heap.size
theorem Two.refl (g h : Nat) (w : World) : Two g h w w := ⟨fun _ _ _ => Below.refl _ _, fun _ _ _ => rfl, rfl⟩
theorem Two.set {g h : Nat} {w w' : World} (t : Two g h w w') {a : Addr} (ha : a.block = g ∨ a.block = h) (v : Value) : Two g h w (w'.setCell a v) :=
  ⟨fun B h1 h2 => (t.below B h1 h2).setCell (by omega) v, fun k h1 h2 => (Below.heap_setCell _ _ _ _ (by omega)).trans (t.other k h1 h2), by simpa [World.setCell] using t.size⟩
theorem Two.drew {g h : Nat} {w w' : World} (t : Two g h w w') : Two g h w w'.drew := ⟨fun B h1 h2 => (t.below B h1 h2).drew, t.other, t.size⟩
theorem bx_other {w : World} {B : Nat} {t : TypeId} {v : Value} (h : Boxed w B t v) {a : Addr} (u : Value) (ha : B ≠ a.block) : Boxed (w.setCell a u) B t v := by
  unfold Boxed; rw [heap_setCell_other w a B u ha]; exact h
theorem bx_drew {w : World} {B : Nat} {t : TypeId} {v : Value} (h : Boxed w B t v) : Boxed w.drew B t v := h
set_option maxRecDepth 100000 in
set_option maxHeartbeats 400000 in
theorem flush_any (s : ByteArray) (n : Nat) (hn : n < 100) (hs : s.size ≤ 100000) (ge gl : Nat) (hne : ge ≠ gl) (w : World) (he : Boxed w ge 3 (.int .i64 n)) (hl : Boxed w gl 9 (.string s)) :
    Calls Tryd.prog 41 #[.pointer (some ⟨ge, 0, none⟩), .pointer (some ⟨gl, 0, none⟩)] w fun e w' => e = .returned (.tuple #[]) ∧ Boxed w' ge 3 (.int .i64 0) ∧ Boxed w' gl 9 (.string (flS s n)) ∧ Two ge gl w w' := by
  have c1 := he.cell
  have c2 := he.frozen
  have c3 := hl.cell
  have c4 := hl.frozen
  by_cases hz : n = 0
  · subst hz
    go_enter Tryd.func41, Tryd.ntmps41
    go_wp2_with fail
    go_end0
    exact ⟨rfl, he, hl, Two.refl _ _ _⟩
  · have hz' : decide (0 < (n : Int)) = true := by simp; omega
    go_enter Tryd.func41, Tryd.ntmps41
    go_wp2_with fail
    have z1 := numS_size n hn
    have HF : Hid (flS s n = s ++ numS n) := Lib.hid (if_neg hz)
    have HE : Hid (Boxed w ge 3 (.int .i64 n)) := Lib.hid he
    have HL : Hid (Boxed w gl 9 (.string s)) := Lib.hid hl
    have HN := Lib.hid hne
    clear he hl hz
    go_region_with (go_at_call 42; refine (itoa_small n _ hn).mono ?_; rintro e w' ⟨rfl, rfl⟩)
    all_goals
      go_wp2_with fail
      go_end0
      refine ⟨rfl, ?_, ?_, ?_⟩
      · exact (bx_other (bx_drew HE.out) (a := ⟨gl, 0, none⟩) _ HN.out).set _
      · rw [HF.out]; exact bx_other ((bx_drew HL.out).set _) (a := ⟨ge, 0, none⟩) _ (Ne.symm HN.out)
      · exact (((Two.refl _ _ _).drew.set (a := ⟨gl, 0, none⟩) (.inr rfl) _).set (a := ⟨ge, 0, none⟩) (.inl rfl) _)
end Go.Proofs.YthbbnhhofkadgaaDoor
