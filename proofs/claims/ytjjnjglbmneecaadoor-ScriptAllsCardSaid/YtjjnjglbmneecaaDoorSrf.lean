/- A law for a range over a function whose iterator writes a cell of its own between two rounds, and the contract of strings.SplitSeq at the separator ','. -/
import Derived.Test.YtjjnjglbmneecaaDoorSkn
import Derived.RangeFuncNested
import Derived.RangeFuncBound
import Derived.RangeFuncCalls
import Derived.RangeFuncLeaves
import Derived.Shelf.Abstract
import Derived.Shelf.RegionOpen
import Derived.WalkKit
import Derived.OwnWalkIn
import Derived.TacticsInMore
import Derived.LoopNIn
import Derived.LoopIn
import Derived.Sort.LoopGhostIn
import Derived.Maps.AppendAt
namespace Go.Proofs.YtjjnjglbmneecaaDoor
open Go Go.RowKit Go.Shelf
attribute [local go_sem] Oper.semAt_some
variable {F : Fence} {n : Nat} {P : Program}
/-- How the body of a round may be left here: it goes on, or it returns. -/
def rfPost {α : Type} (Kp : World → World → Prop) (I Ix : List α → World → Prop) (xs : List α) (W : World) : Exit → Act → World → Prop
  | .normal, _, W' => KeepsOthers W W' ∧ Kp W W' ∧ I xs W'
  | .ret, _, W' => KeepsOthers W W' ∧ Ix xs W'
  | _, _, _ => False
/-- What is told of an iterator whose own step between two rounds is a store into the block b. -/
def SeqO {α : Type} (F : Fence) (n : Nat) (P : Program) (g : Nat) (lb : Array Value) (enc : α → Value) (Kp : World → World → Prop) (b : Nat) (xs0 : List α) (w : World) : Prop :=
  ∀ (l : Nat) (J Jx : List α → World → Prop) (W : World), Kp w W → (∀ s W1 v, J s W1 → J s (W1.setCell ⟨b, 0, none⟩ v)) →
    (∀ pre x W1, J pre W1 → (pre ++ [x]) <+: xs0 → YieldAt F (n - 1) P l #[enc x] W1 fun e W' => (e = .returned (.bool true) ∧ J (pre ++ [x]) W' ∧ Kp W1 W') ∨ (e = .returned (.bool false) ∧ Jx (pre ++ [x]) W')) →
    J [] W →
    CallsIn F n P g (#[.func (.yield l) #[] #[]] ++ lb) W fun e W' => (∃ v, e = .returned v) ∧ (J xs0 W' ∨ (∃ pre, pre <+: xs0 ∧ Jx pre W'))
theorem wp_rf {α : Type} {g : Operand} {p : Tmp} {assign body : Code} {Q : Exit → Act → World → Prop} {a : Act} {w : World}
    (hro : F.round = none) (h1 : 1 ≤ n) {gf : Nat} {lb : Array Value} (hg : a.eval g = .func (.func gf) #[] lb) (hFg : F.fn gf) (eg : ∀ args w, (callFunc gf args).run P w = .ok (.enter gf args) w)
    {enc : α → Value} {Kp : World → World → Prop} {b : Nat} {xs0 : List α} (hseq : SeqO F (n - 1) P gf lb enc Kp b xs0 w)
    (hKt : ∀ {A B C : World}, Kp A B → Kp B C → Kp A C) (hKb : ∀ (W : World) (l : Nat) (o : Obj), w.heap.size ≤ l → Kp W (W.putObj l o)) (hKa : ∀ o o' : Obj, Kp w ((w.alloc o).alloc o'))
    (I Ix : List α → World → Prop) (hI : OwnFrom w.heap.size I) (hIx : OwnFrom w.heap.size Ix) (hIb : ∀ s W v, I s W → I s (W.setCell ⟨b, 0, none⟩ v)) (h0 : I [] w) (a₁ : α → Act)
    (hassign : ∀ (l : Nat) (x : α) (W : World) (K : Act → World → Prop), K (a₁ x) W →
      assign.wpIn (F.inRound l) (n - 1 - 1) P (Exit.then K (fun _ _ _ => False)) { tmps := ((#[p] : Array Tmp).zip #[enc x]).foldl (fun t (p, v) => t.setIfInBounds p v) a.tmps, defers := [] } W)
    (hbody : ∀ (l : Nat) (pre : List α) (x : α) (W : World), I pre W → (pre ++ [x]) <+: xs0 → body.wpIn (F.inRound l) (n - 1 - 1) P (rfPost Kp I Ix (pre ++ [x]) W) (a₁ x) W)
    (hdone : ∀ (D : Nat) (W : World), w.heap.size ≤ D → I xs0 W → W.heap[D]? = some (.deferred (some [])) → Q .normal { a with defers := { target := .collected D, args := #[] } :: a.defers } W)
    (hstop : ∀ (D : Nat) (pre : List α) (W : World), w.heap.size ≤ D → pre <+: xs0 → Ix pre W → W.heap[D]? = some (.deferred (some [])) → Code.ret.wpIn F n P Q { a with defers := { target := .collected D, args := #[] } :: a.defers } W) :
    (Code.rangeFunc g #[p] assign body).wpIn F n P Q a w := by
  refine wpIn_rangeFunc fun fn hfn => ?_
  rw [hro]
  let rc : LoopState → Option Code → Loop := fun st pe => { state := st, pending := pe, fn, tmps := a.tmps, params := #[p], assign, body, defers := w.heap.size }
  let W1 := (w.alloc (.deferred (some []))).alloc (.loop (rc .ready none))
  have hL1 : W1.heap[w.heap.size + 1]? = some (.loop (rc .ready none)) := by
    have := World.alloc_heap_new (w.alloc (.deferred (some []))) (.loop (rc .ready none)); rwa [World.size_alloc] at this
  have hK1 : W1.heap[w.heap.size]? = some (.deferred (some [])) := (Below.heap_alloc _ _ _ (by simp)).trans (World.alloc_heap_new w _)
  -- the two blocks of the loop's own: the record, in a state; and the list of what is deferred
  let own : LoopState → Option Code → World → Prop := fun st pe W => W.heap[w.heap.size + 1]? = some (.loop (rc st pe)) ∧ W.heap[w.heap.size]? = some (.deferred (some []))
  have hown : ∀ st pe W W', KeepsOthers W W' → own st pe W → own st pe W' := fun st pe W W' hk ⟨h1, h2⟩ => ⟨hk.same _ _ h1 rfl, hk.same _ _ h2 rfl⟩
  have hput : ∀ st pe st' pe' W, own st pe W → own st' pe' (W.putObj (w.heap.size + 1) (.loop (rc st' pe'))) := fun st pe st' pe' W ⟨h1, h2⟩ =>
    ⟨World.putObj_heap_same (Array.getElem?_eq_some_iff.1 h1).1, (World.putObj_heap_other (by omega)).trans h2⟩
  refine ⟨w.heap.size + 1, [{ target := .collected w.heap.size, args := #[] }], W1, { target := .fn (.func gf) lb, args := #[.func (.yield (w.heap.size + 1)) #[] #[]] }, W1, gf, #[.func (.yield (w.heap.size + 1)) #[] #[]] ++ lb, W1, run_enterLoop_outer _ _ _ _ _, ?_, ?_, ?_, fun _ => h1, ?_⟩
  · simp only [resolve, hg]
    simp [go_sem]
  · intro f' hf'; simp [Target.leads] at hf'; subst hf'; exact hFg
  · simp [invoke, go_sem, eg]
  refine (hseq (w.heap.size + 1) (fun xs W => I xs W ∧ own .ready none W) (fun xs W => Ix xs W ∧ own .done (some .ret) W) W1 (hKa _ _) (fun s W2 v hs => ⟨hIb s W2 v hs.1, hown _ _ _ _ (KeepsOthers.setCell _ _ _) hs.2⟩) ?_ ⟨hI.alloc _ (hI.alloc _ h0), hL1, hK1⟩).mono ?_
  · rintro pre x W ⟨hi, ho⟩ hpx
    refine ⟨fn, _, assign, body, run_yield (P := P) (args := #[enc x]) ho.1 rfl, roundIn_of_wpIn hfn (hassign _ x W _ ⟨_, run_beginRound ho.1 rfl, ?_⟩)⟩
    have hb := hput _ _ .busy none W ho
    refine wpIn_mono (hbody _ pre x _ (hI.putObj _ hi (by omega) ho.1 rfl) hpx) ?_
    intro e a3 W3 hp
    cases e with
    | normal =>
      obtain ⟨hk, hkp, hi3⟩ := hp
      have ho3 := hown _ _ _ _ hk hb
      exact ⟨_, _, run_endRound (P := P) none ho3.1, .inl ⟨rfl, ⟨hI.putObj _ hi3 (by omega) ho3.1 rfl, hput _ _ .ready none W3 ho3⟩, hKt (hKt (hKb _ _ _ (by omega)) hkp) (hKb _ _ _ (by omega))⟩⟩
    | ret =>
      obtain ⟨hk, hi3⟩ := hp
      have ho3 := hown _ _ _ _ hk hb
      exact ⟨_, _, run_endRound (P := P) (some .ret) ho3.1, .inr ⟨rfl, hIx.putObj _ hi3 (by omega) ho3.1 rfl, hput _ _ .done (some .ret) W3 ho3⟩⟩
    | exit id => exact hp.elim
    | goto t => exact hp.elim
    | panic ch => exact hp.elim
    | outgrown => exact hp.elim
  · rintro e W2 ⟨⟨v, rfl⟩, (⟨hi, ho⟩ | ⟨pre, hS, hi, ho⟩)⟩
    · exact ⟨none, _, run_endLoop (P := P) ho.1 (by simp [rc]), hdone _ _ (Nat.le_refl _) (hI.putObj _ hi (by omega) ho.1 rfl) ((World.putObj_heap_other (by omega)).trans ho.2)⟩
    · exact ⟨some .ret, _, run_endLoop (P := P) ho.1 (by simp [rc]), hstop _ pre _ (Nat.le_refl _) hS (hIx.putObj _ hi (by omega) ho.1 rfl) ((World.putObj_heap_other (by omega)).trans ho.2)⟩
/-- The parts of a string between commas. -/
def splitC : List UInt8 → List (List UInt8)
  | [] => [[]]
  | c :: r => if c = 44 then [] :: splitC r else match splitC r with
    | h :: t => (c :: h) :: t
    | [] => [[c]]
theorem splitC_ne (l : List UInt8) : splitC l ≠ [] := by
  cases l with
  | nil => simp [splitC]
  | cons c r => unfold splitC; split; simp; split <;> simp
theorem splitC_ix (l : List UInt8) : (Lib.indexByte l 44 = -1 ∧ splitC l = [l]) ∨ ∃ i, i < l.length ∧ Lib.indexByte l 44 = (i : Int) ∧ splitC l = l.take i :: splitC (l.drop (i + 1)) := by
  induction l with
  | nil => exact .inl ⟨rfl, rfl⟩
  | cons c r ih =>
    by_cases h : c = 44
    · refine .inr ⟨0, by simp, ?_, ?_⟩
      · unfold Lib.indexByte; rw [if_pos (by simp [h])]; rfl
      · conv => lhs; unfold splitC
        rw [if_pos h]; rfl
    · rcases ih with ⟨h1, h2⟩ | ⟨i, hi, h1, h2⟩
      · refine .inl ⟨?_, ?_⟩
        · unfold Lib.indexByte; rw [if_neg (by simp [h]), h1]; rfl
        · conv => lhs; unfold splitC
          rw [if_neg h, h2]
      · refine .inr ⟨i + 1, by simpa using hi, ?_, ?_⟩
        · unfold Lib.indexByte; rw [if_neg (by simp [h]), h1, if_neg (by simp; try omega)]; simp
        · conv => lhs; unfold splitC
          rw [if_neg h, h2]; rfl
/-- Three blocks lie as they lay. -/
def Kp3 (b : Nat) (W W' : World) : Prop := W'.heap[b]? = W.heap[b]? ∧ W'.heap[b + 1]? = W.heap[b + 1]? ∧ W'.heap[b + 2]? = W.heap[b + 2]?
theorem Kp3.trans {b : Nat} {A B C : World} (h : Kp3 b A B) (k : Kp3 b B C) : Kp3 b A C := ⟨k.1.trans h.1, k.2.1.trans h.2.1, k.2.2.trans h.2.2⟩
def encL (l : List UInt8) : Value := .string ⟨l.toArray⟩
set_option maxRecDepth 100000 in
set_option maxHeartbeats 1000000 in
theorem seq_stops (b : Nat) (S0 : List UInt8) (hS : S0.length ≤ 1000000) (w : World) (x0 : Boxed w b 9 (encL S0)) (x1 : Boxed w (b + 1) 9 (.string ⟨#[44]⟩)) (x2 : Boxed w (b + 2) 3 (.int .i64 0)) :
    SeqO Fence.wide 3 Tryd.prog 87 #[.pointer (some ⟨b + 1, 0, none⟩), .pointer (some ⟨b, 0, none⟩), .pointer (some ⟨b + 2, 0, none⟩)] encL (Kp3 b) b (splitC S0) w := by
  intro l J Jx W hk hJ hY h0
  have x0 : Boxed W b 9 (encL S0) := hk.1.trans x0
  have x1 : Boxed W (b + 1) 9 (.string ⟨#[44]⟩) := hk.2.1.trans x1
  have x2 : Boxed W (b + 2) 3 (.int .i64 0) := hk.2.2.trans x2
  have c1 := x1.cell
  refine callsIn_of_wp Tryd.func87 rfl trivial ?_ rfl
  simp only [Tryd.ntmps87, List.size_toArray, List.length_cons, List.length_nil, Nat.reduceAdd, Nat.reduceSub, Array.replicate_succ, Array.replicate_zero, List.push_toArray, List.append_toArray, List.nil_append, List.cons_append]
  gi_wp2
  gi_loopg [7] S0.length (fun mm z wr => ∃ (pre : List (List UInt8)) (rest : List UInt8), mm = rest.length ∧ rest.length ≤ S0.length ∧ splitC S0 = pre ++ splitC rest ∧ Boxed wr b 9 (encL rest) ∧ Boxed wr (b + 1) 9 (.string ⟨#[44]⟩) ∧ Boxed wr (b + 2) 3 (.int .i64 0) ∧ J pre wr ∧ z = z)
  case atStart => exact ⟨[], S0, rfl, Nat.le_refl _, rfl, x0, x1, x2, h0, rfl⟩
  case round =>
    obtain ⟨pre, rest, hm, hle, hsp, y0, y1, y2, hj, _⟩ := hrel
    obtain ⟨bs, hbs⟩ : ∃ bs : ByteArray, bs = ⟨rest.toArray⟩ := ⟨_, rfl⟩
    have hbl : bs.data.toList = rest := by rw [hbs]
    have hsz : bs.size = rest.length := by rw [Lib.size_eq, hbl]
    have en : encL rest = .string bs := by rw [hbs]; rfl
    clear hbs
    rw [en] at y0
    have HL := Lib.hid hbl
    have EN := Lib.hid en
    clear en hbl
    have c0 := y0.cell
    have c1 := y1.cell
    have c2 := y2.cell
    have f0 := y0.frozen
    have HM := Lib.hid hm
    clear hm
    rcases splitC_ix rest with ⟨h1, h2⟩ | ⟨i, hi, h1, h2⟩
    · obtain ⟨fn, tmps, assign, body, hy, hR⟩ := hY pre rest wr hj (by rw [hsp, h2]; exact List.prefix_rfl)
      rw [EN.out] at hy
      gi_wp2_with (refine ⟨trivial, ?_⟩; gi_at_call 75; refine (callsIn_wide.2 (Tryd.strings_Index_one bs 44 _)).mono ?_; rintro e w' ⟨rfl, rfl⟩; rw [HL.out, h1])
      refine hR.mono ?_
      rintro e W' (⟨rfl, hJ', hk'⟩ | ⟨rfl, hJx'⟩)
      · gi_wp2
        go_end0
        exact ⟨⟨_, rfl⟩, .inl (by rw [hsp, h2]; exact hJ')⟩
      · gi_wp2
        go_end0
        exact ⟨⟨_, rfl⟩, .inr ⟨_, by rw [hsp, h2]; exact List.prefix_rfl, hJx'⟩⟩
    · obtain ⟨fn, tmps, assign, body, hy, hR⟩ := hY pre (rest.take i) wr hj ⟨splitC (rest.drop (i + 1)), by rw [hsp, h2]; simp⟩
      have e1 : encL (rest.take i) = .string (bs.extract 0 i) := by unfold encL; rw [Lib.extract_eq, HL.out]; simp
      have e2 : encL (rest.drop (i + 1)) = .string (bs.extract (i + 1) bs.size) := by
        unfold encL; rw [Lib.extract_eq, HL.out, List.take_of_length_le (by rw [List.length_drop]; omega)]
      rw [e1] at hy
      rw [hsz] at e2
      have E2 := Lib.hid e2
      clear e1 e2
      have dn : decide ((i : Int) < 0) = false := by simp
      gi_wp2_with (refine ⟨trivial, ?_⟩; gi_at_call 75; refine (callsIn_wide.2 (Tryd.strings_Index_one bs 44 _)).mono ?_; rintro e w' ⟨rfl, rfl⟩; rw [HL.out, h1])
      refine hR.mono ?_
      rintro e W' (⟨rfl, hJ', hk'⟩ | ⟨rfl, hJx'⟩)
      · have z0 : Boxed W' b 9 (.string bs) := hk'.1.trans y0
        have z1 : Boxed W' (b + 1) 9 (.string ⟨#[44]⟩) := hk'.2.1.trans y1
        have z2 : Boxed W' (b + 2) 3 (.int .i64 0) := hk'.2.2.trans y2
        have c3 := z0.cell
        have c4 := z1.cell
        have c5 := z2.cell
        have f3 := z0.frozen
        gi_wp2
        gi_roundg ((rest.drop (i + 1)).length)
        case measure => have := HM.out; rw [List.length_drop]; omega
        case rel => exact ⟨pre ++ [rest.take i], rest.drop (i + 1), rfl, by rw [List.length_drop]; omega, by rw [hsp, h2]; simp, by rw [E2.out]; exact z0.set _, z1.other (by omega) _, z2.other (by omega) _, hJ _ _ _ hJ', trivial⟩
      · gi_wp2
        refine bodyPost_ret (results_none rfl _ _ _) rfl ?_
        exact ⟨⟨_, rfl⟩, .inr ⟨_, ⟨splitC (rest.drop (i + 1)), by rw [hsp, h2]; simp⟩, hJx'⟩⟩
end Go.Proofs.YtjjnjglbmneecaaDoor
