/- The closure of filled: a piece is put on the next free square. No condition. -/
import Derived.Test.YtcnflmbnnobocaaDoorMof
import Derived.Deep.LoopGhost
namespace Go.Proofs.YtcnflmbnnobocaaDoor
open Go Go.RowKit
/-- Nothing but two blocks has changed. -/
structure Two (g h : Nat) (w w' : World) : Prop where
  below : ∀ B, B ≤ g → B ≤ h → Below B w w'
  other : ∀ k, k ≠ g → k ≠ h → w'.heap[k]? = w.heap[k]?
  size : w'.heap.size = w.heap.size
theorem Two.refl (g h : Nat) (w : World) : Two g h w w := ⟨fun _ _ _ => Below.refl _ _, fun _ _ _ => rfl, rfl⟩
theorem Two.set {g h : Nat} {w w' : World} (t : Two g h w w') {a : Addr} (ha : a.block = g ∨ a.block = h) (v : Value) : Two g h w (w'.setCell a v) :=
  ⟨fun B h1 h2 => (t.below B h1 h2).setCell (by omega) v, fun k h1 h2 => (Below.heap_setCell _ _ _ _ (by omega)).trans (t.other k h1 h2), by simpa [World.setCell] using t.size⟩
theorem Two.trans {g h : Nat} {a b c : World} (t : Two g h a b) (u : Two g h b c) : Two g h a c :=
  ⟨fun B h1 h2 => (t.below B h1 h2).trans (u.below B h1 h2), fun k h1 h2 => (u.other k h1 h2).trans (t.other k h1 h2), u.size.trans t.size⟩
theorem Two.holds {g h : Nat} {w w' : World} (t : Two g h w w') {q : Nat} {k : IntKind} {ty : TypeId} {l : List Int} (hq : Holds w q k ty l) (h1 : q ≠ g) (h2 : q ≠ h) : Holds w' q k ty l := by
  unfold Holds; rw [t.other q h1 h2]; exact hq
/-- A piece was put on the next free square from at on. -/
def PutOn (w : World) (gb ga : Nat) (b : List Int) (at_ step p : Int) (e : Ending) (w' : World) : Prop :=
  ∃ d : Nat, d < 64 ∧ b.getD ((at_ + d) % 64).toNat 0 = 0 ∧ (∀ i : Nat, i < d → b.getD ((at_ + i) % 64).toNat 0 ≠ 0) ∧ e = .returned (.tuple #[]) ∧ Holds w' gb .i64 23 (b.set ((at_ + d) % 64).toNat p) ∧ Holds w' ga .i64 3 [at_ + d + step] ∧ Two gb ga w w'
set_option maxRecDepth 100000 in
set_option maxHeartbeats 1000000 in
theorem put_any (b : List Int) (hb : b.length = 64) (at_ step p : Int) (h0 : 0 ≤ at_) (h1 : at_ ≤ 1000000) (s0 : 0 ≤ step) (s1 : step ≤ 255) (gb ga gs : Nat) (hab : ga ≠ gb) (hsb : gs ≠ gb) (hsa : gs ≠ ga)
    (f : Nat) (hf : f < 64) (hfree : b.getD f 0 = 0) (w : World) (hB : Holds w gb .i64 23 b) (hA : Holds w ga .i64 3 [at_]) (hS : Holds w gs .u8 5 [step]) :
    Calls Tryd.prog 33 #[.int .i64 p, .pointer (some ⟨gb, 0, none⟩), .pointer (some ⟨ga, 0, none⟩), .pointer (some ⟨gs, 0, none⟩)] w (PutOn w gb ga b at_ step p) := by
  have HF := Lib.hid hfree
  clear hfree
  go_enter Tryd.func33, Tryd.ntmps33
  go_wp2_with fail
  go_loopg [] ((f + 64 * 16000 - at_.toNat) % 64) (fun m wr => ∃ d : Nat, d < 64 ∧ m = (f + 64 * 16000 - (at_ + d).toNat) % 64 ∧ d + m < 64 ∧ (∀ i : Nat, i < d → b.getD ((at_ + i) % 64).toNat 0 ≠ 0) ∧ Holds wr gb .i64 23 b ∧ Holds wr ga .i64 3 [at_ + d] ∧ Two gb ga w wr)
  case atStart => exact ⟨0, by omega, by simp, by omega, fun i hi => absurd hi (by omega), hB, by simpa using hA, Two.refl _ _ _⟩
  case round =>
    obtain ⟨d, hd, hm, hdm, hn, hB', hA', hT⟩ := hrel
    have q0 : 0 ≤ at_ + (d : Int) := by omega
    have q1 : at_ + (d : Int) ≤ 1000064 := by omega
    have r0 : 0 ≤ (at_ + (d : Int)) % 64 := by omega
    have r1 : (at_ + (d : Int)) % 64 < 64 := by omega
    have c1 : wr.cell? ⟨ga, 0, none⟩ = some (.int .i64 (at_ + d)) := hA'.cell 0 (by simp)
    have c2 : wr.cell? ⟨gb, ((at_ + (d : Int)) % 64).toNat, none⟩ = some (.int .i64 (b.getD ((at_ + (d : Int)) % 64).toNat 0)) := hB'.cell _ (by omega)
    have c3 : wr.frozen? ⟨ga, 0, none⟩ = false := hA'.frozen 0
    have c4 : wr.frozen? ⟨gb, ((at_ + (d : Int)) % 64).toNat, none⟩ = false := hB'.frozen _
    have HQ := Lib.hid (rfl : b.getD ((at_ + (d : Int)) % 64).toNat 0 = b.getD ((at_ + (d : Int)) % 64).toNat 0)
    obtain ⟨q, hq⟩ : ∃ q, b.getD ((at_ + (d : Int)) % 64).toNat 0 = q := ⟨_, rfl⟩
    rw [hq] at c2
    clear HQ
    by_cases hz : q = 0
    · subst hz
      have hS' : Holds wr gs .u8 5 [step] := hT.holds hS hsb hsa
      have c5 : wr.cell? ⟨gs, 0, none⟩ = some (.int .u8 step) := hS'.cell 0 (by simp)
      have HH := Lib.hid (And.intro hn (And.intro hq (And.intro hB' (And.intro hA' hT))))
      clear hn hm hq hB' hA' hT hS'
      go_wp2_with fail
      obtain ⟨hn, hq, hB', hA', hT⟩ := HH.out
      go_end0
      have hB2 := (hB'.set ((at_ + (d : Int)) % 64).toNat p).setOther (a := ⟨ga, 0, none⟩) (.int .i64 (at_ + d + step)) (Ne.symm hab)
      have hA2 := (hA'.setOther (a := ⟨gb, ((at_ + (d : Int)) % 64).toNat, none⟩) (.int .i64 p) hab).set 0 (at_ + d + step)
      exact ⟨d, hd, hq, hn, rfl, hB2, hA2, (hT.set (.inl rfl) _).set (.inr rfl) _⟩
    · have hz' : (q != 0) = true := by rw [bne_iff_ne]; exact hz
      have hne : ((at_ + (d : Int)) % 64).toNat ≠ f := by
        intro e
        rw [e, HF.out] at hq
        exact hz hq.symm
      have HH := Lib.hid (And.intro hz (And.intro hne (And.intro hn (And.intro hq (And.intro hm (And.intro hB' (And.intro hA' hT)))))))
      clear hz hne hn hq hm hB' hA' hT
      go_wp2_with fail
      go_roundg ((f + 64 * 16000 - (at_ + d + 1).toNat) % 64)
      case measure =>
        obtain ⟨hz, hne, hn, hq, hm, hB', hA', hT⟩ := HH.out
        omega
      case rel =>
        obtain ⟨hz, hne, hn, hq, hm, hB', hA', hT⟩ := HH.out
        have e1 : at_ + ((d + 1 : Nat) : Int) = at_ + d + 1 := by omega
        refine ⟨d + 1, by omega, by rw [e1], by omega, ?_, ?_, ?_, ?_⟩
        · intro i hi
          by_cases e : i = d
          · subst e; rw [hq]; exact hz
          · exact hn i (by omega)
        · exact hB'.setOther _ (Ne.symm hab)
        · rw [e1]; exact hA'.set 0 _
        · exact hT.set (.inr rfl) _
end Go.Proofs.YtcnflmbnnobocaaDoor
