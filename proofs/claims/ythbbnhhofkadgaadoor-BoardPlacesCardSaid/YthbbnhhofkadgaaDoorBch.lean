/- The contract of the iterator slices.Chunk over the ranks of a board. No condition. -/
import Derived.RangeFuncNested
import Derived.RangeFuncBound
import Derived.RangeFuncCalls
import Derived.RangeFuncLeaves
import Derived.Shelf.Abstract
import Derived.Shelf.RegionOpen
import Derived.WalkKit
import Derived.OwnWalkIn
import Derived.TacticsInMore
import Derived.LoopNIn
import Derived.LoopIn
import Derived.Deep.QuietTactic
import Derived.BigQuiet
import Derived.Test.YthbbnhhofkadgaaDoorBst
namespace Go.Proofs.YthbbnhhofkadgaaDoor
open Go Go.RowKit Go.Shelf
attribute [local go_sem] Oper.semAt_some
/-- Two blocks lie as they lay. -/
def KpC (C : Nat) (W W' : World) : Prop := W'.heap[C]? = W.heap[C]? ∧ W'.heap[C + 1]? = W.heap[C + 1]?
theorem KpC.refl (C : Nat) (W : World) : KpC C W W := ⟨rfl, rfl⟩
theorem KpC.trans {C : Nat} {A B D : World} (h : KpC C A B) (k : KpC C B D) : KpC C A D := ⟨k.1.trans h.1, k.2.trans h.2⟩
theorem grown_drew (W : World) : W.grownBy W.drew none := ⟨rfl, rfl, rfl, Nat.le_refl _, fun _ _ _ => rfl⟩
set_option maxRecDepth 100000 in
set_option maxHeartbeats 400000 in
theorem chunk1_in (l C g : Nat) (J Jx : List Nat → World → Prop) (hJd : ∀ pre W n, J pre W → J pre (W.drewN n))
    (hY : ∀ (pre : List Nat) (i : Nat) W, i < 8 → J pre W → pre.length < 8 → YieldAt Fence.wide 2 Tryd.prog l #[.slice (some ⟨g, 8 * i, none⟩) 8 8] W fun e W' =>
      (e = .returned (.bool true) ∧ J (pre ++ [i]) W' ∧ KpC C W W') ∨ (e = .returned (.bool false) ∧ Jx (pre ++ [i]) W'))
    (W : World) (h1 : W.heap[C]? = some (.cells #[.slice (some ⟨g, 0, none⟩) 64 64] 56 (0, 0))) (h2 : W.heap[C + 1]? = some (.cells #[.int .i64 8] 3 (0, 0))) (h0 : J [] W) :
    CallsIn Fence.wide 3 Tryd.prog 66 #[.func (.yield l) #[] #[], .pointer (some ⟨C, 0, none⟩), .pointer (some ⟨C + 1, 0, none⟩)] W fun e W' => (∃ v, e = .returned v) ∧
      ((∃ ys, ys = List.range 8 ∧ J ys W') ∨ (∃ pre, (∃ k, k ≤ 8 ∧ pre = List.range k) ∧ Jx pre W')) := by
  refine callsIn_of_wp Tryd.func66 rfl trivial ?_ rfl
  simp only [Tryd.ntmps66, List.size_toArray, List.length_cons, List.length_nil, Nat.reduceAdd, Nat.reduceSub, Array.replicate_succ, Array.replicate_zero, List.push_toArray, List.append_toArray, List.nil_append, List.cons_append]
  gi_wp2
  gi_loopw [4] (fun c wr => ∃ k : Nat, k ≤ 8 ∧ c = .int .i64 ((8 * k : Nat) : Int) ∧ J (List.range k) wr ∧ wr.heap[C]? = some (.cells #[.slice (some ⟨g, 0, none⟩) 64 64] 56 (0, 0)) ∧ wr.heap[C + 1]? = some (.cells #[.int .i64 8] 3 (0, 0)))
    (fun c _ => 64 - (intOf c).toNat)
  case atStart => exact ⟨0, by omega, rfl, h0, h1, h2⟩
  case round =>
    obtain ⟨k, hk, rfl, hJ, e1, e2⟩ := hrel
    have c1 := cell_of_one e1
    have c2 := cell_of_one e2
    have E1 := Lib.hid e1
    have E2 := Lib.hid e2
    clear e1 e2
    by_cases hlt : k < 8
    · have b1 : ((8 * k : Nat) : Int) ≤ 56 := by omega
      have hdi : decide (8 * (k : Int) < 64) = true := by simp; omega
      gi_wp2
      gi_quiet (fail)
      obtain ⟨fn, tmps, assign, body, hy, hR⟩ := hY (List.range k) k (wr.drewN nq) hlt (hJd _ _ nq hJ) (by simp; omega)
      have HJ := Lib.hid hJ
      clear hJ
      have b2 : 0 ≤ ((8 * k : Nat) : Int) := by omega
      have b3 : ((8 * k : Nat) : Int) + 8 ≤ 64 := by omega
      have t1 : (((8 * k : Nat) : Int) + 8).toNat = 8 * k + 8 := by omega
      gi_wp2
      refine hR.mono ?_
      rintro e W3 (⟨rfl, hJ3, hk3⟩ | ⟨rfl, hJx3⟩)
      · have f1 : W3.heap[C]? = some (.cells #[.slice (some ⟨g, 0, none⟩) 64 64] 56 (0, 0)) := hk3.1.trans E1.out
        have f2 : W3.heap[C + 1]? = some (.cells #[.int .i64 8] 3 (0, 0)) := hk3.2.trans E2.out
        have d2 := cell_of_one f2
        have HF := Lib.hid (And.intro hJ3 (And.intro f1 f2))
        clear hR hy hJ3 hk3 f1 f2 c1 c2
        gi_wp2
        go_roundw
        case rel => exact ⟨k + 1, by omega, by simp; omega, by rw [List.range_succ]; exact HF.out.1, HF.out.2.1, HF.out.2.2⟩
        case measure => simp [intOf]; omega
      · gi_wp2
        refine bodyPost_ret (results_none rfl _ _ _) rfl ?_
        exact ⟨⟨_, rfl⟩, .inr ⟨_, ⟨k + 1, by omega, by rw [List.range_succ]⟩, hJx3⟩⟩
    · have hk8 : k = 8 := by omega
      subst hk8
      gi_wp2
      go_end0
      exact ⟨⟨_, rfl⟩, .inl ⟨_, rfl, hJ⟩⟩
end Go.Proofs.YthbbnhhofkadgaaDoor
