/- The plain law of scripts: lines that are operations, are skipped, are wrong. -/
import Derived.Test.YtjjnjglbmneecaaDoorSlw
namespace Go.Proofs.YtjjnjglbmneecaaDoor
open Go Go.RowKit
/-- Lines, each with a line feed behind it. -/
def flatL : List (List UInt8) → List UInt8
  | [] => []
  | l :: r => l ++ (10 :: flatL r)
theorem flatL_app (a b : List (List UInt8)) : flatL (a ++ b) = flatL a ++ flatL b := by
  induction a with
  | nil => rfl
  | cons l r ih => simp [flatL, ih]
theorem parts_flat (ls : List (List UInt8)) (h : ∀ l ∈ ls, (10 : UInt8) ∉ l) (s : List UInt8) : parts 10 (flatL ls ++ s) = ls ++ parts 10 s := by
  induction ls with
  | nil => rfl
  | cons l r ih =>
    have h1 := partsA_hit (r := flatL r ++ s) (h l (by simp)) []
    have h2 := ih (fun x hx => h x (by simp [hx]))
    unfold parts at h2 ⊢
    rw [flatL, List.append_assoc, List.cons_append, h1, List.nil_append, h2]; rfl
theorem parts_line {l : List UInt8} (h : (10 : UInt8) ∉ l) : parts 10 l = [l] := by
  have := partsA_free h []
  unfold parts; rw [this]; rfl
theorem parts_line2 {l s : List UInt8} (h : (10 : UInt8) ∉ l) : parts 10 (l ++ 10 :: s) = l :: parts 10 s := by
  have := parts_flat [l] (by simpa using h) s
  simpa [flatL] using this
theorem plain_10 {l : List UInt8} (h : l.all plainB = true) : (10 : UInt8) ∉ l := fun hm => by
  have := List.all_eq_true.1 h 10 hm
  exact absurd this (by decide)
/-- The string of a valid operation has no line feed, is not empty and begins with no '#'. -/
theorem prx_line {x : Opx} (h : zx x = 0) : (10 : UInt8) ∉ prx x ∧ ¬ (prx x).head?.getD 35 = 35 := by
  refine ⟨plain_10 (pr_plain h), ?_⟩
  have hc := chk_iff.1 h
  have hp : prx x = wordL x.1.toNat ++ encP x.1.toNat x.2.1 x.2.2 := by unfold prx prS; rw [show chkZ x.1 x.2.1 x.2.2 = 0 from h, if_pos rfl]
  have hw : ∀ k : Nat, 0 < k → k < 10 → ∃ c r, wordL k = c :: r ∧ c ≠ 35 := by
    intro k h0 h1
    have hk' : k = 1 ∨ k = 2 ∨ k = 3 ∨ k = 4 ∨ k = 5 ∨ k = 6 ∨ k = 7 ∨ k = 8 ∨ k = 9 := by omega
    rcases hk' with rfl | rfl | rfl | rfl | rfl | rfl | rfl | rfl | rfl <;> exact ⟨_, _, rfl, by decide⟩
  obtain ⟨c, r, e, hne⟩ := hw x.1.toNat (by omega) (by omega)
  rw [hp, e]
  simpa using hne
theorem paG_op {x : Opx} (h : zx x = 0) (r : List (List UInt8)) (i : Nat) {acc : List Opx} (ha : acc.length ≠ 1000) : paG (prx x :: r) i acc = paG r (i + 1) (acc ++ [x]) := by
  rw [paG, if_neg (prx_line h).2, if_neg ha, show parO (prx x) = some (x.1, x.2.1, x.2.2) from par_pr h]
theorem paG_many {x : List UInt8} (h : ¬ x.head?.getD 35 = 35) (r : List (List UInt8)) (i : Nat) {acc : List Opx} (ha : acc.length = 1000) : paG (x :: r) i acc = ([], (i : Int) + 1, 10) := by
  rw [paG, if_neg h, if_pos ha]
theorem paG_skip {l : List UInt8} (h : l.head?.getD 35 = 35) (r : List (List UInt8)) (i : Nat) (acc : List Opx) : paG (l :: r) i acc = paG r (i + 1) acc := by
  rw [paG, if_pos h]
theorem paG_bad {l : List UInt8} (h : ¬ l.head?.getD 35 = 35) (hp : parO l = none) (r : List (List UInt8)) (i : Nat) {acc : List Opx} (ha : acc.length ≠ 1000) : paG (l :: r) i acc = ([], (i : Int) + 1, 8) := by
  rw [paG, if_neg h, if_neg ha, hp]
theorem paG_ops (xs : List Opx) (h : ∀ x ∈ xs, zx x = 0) (r : List (List UInt8)) (i : Nat) (acc : List Opx) (ha : acc.length + xs.length ≤ 1000) : paG (xs.map prx ++ r) i acc = paG r (i + xs.length) (acc ++ xs) := by
  induction xs generalizing i acc with
  | nil => simp
  | cons x t ih =>
    rw [List.map_cons, List.cons_append, paG_op (h x (by simp)) _ _ (by simp at ha; omega), ih (fun y hy => h y (by simp [hy])) _ _ (by simp at ha ⊢; omega)]
    simp [Nat.add_comm, Nat.add_left_comm]
theorem paG_blank (m : Nat) (r : List (List UInt8)) (i : Nat) (acc : List Opx) : paG (List.replicate m [] ++ r) i acc = paG r (i + m) acc := by
  induction m generalizing i with
  | zero => rfl
  | succ m ih => rw [List.replicate_succ, List.cons_append, paG_skip rfl, ih]; congr 1; omega
theorem flat_blank (m : Nat) : flatL (List.replicate m []) = List.replicate m 10 := by
  induction m with
  | zero => rfl
  | succ m ih => rw [List.replicate_succ, flatL, ih]; rfl
end Go.Proofs.YtjjnjglbmneecaaDoor
