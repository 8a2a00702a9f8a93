/- Plain facts on the numbers of pieces, their colors, kinds and letters. No condition. -/
import Derived.Test.YtokjnlhnlbdfnaaDoorPw
namespace Go.Proofs.YtokjnlhnlbdfnaaDoor
open Go Go.RowKit

/-- What is true of 1 to 12 is true of every piece. -/
theorem at12 {Q : Int → Prop} (h : ∀ k : Nat, k < 12 → Q (k + 1)) {x : Int} (h1 : 1 ≤ x) (h2 : x ≤ 12) : Q x := by
  obtain ⟨k, rfl⟩ : ∃ k : Nat, x = k + 1 := ⟨(x - 1).toNat, by omega⟩
  exact h k (by omega)
theorem pf_of {x : Int} (h1 : 1 ≤ x) (h2 : x ≤ 12) : ofV (colV x) (kindV x) = x ∧ ofE (colV x) (kindV x) = 0 ∧ isB x (colV x) = true ∧ isB x (1 - colV x) = false ∧ swapV (swapV x) = x ∧ colE (swapV x) = 0 ∧ colV (swapV x) = 1 - colV x ∧ othV (colV x) = 1 - colV x ∧ othE (colV x) = 0 ∧ kindV (swapV x) = kindV x ∧ colE x = 0 ∧ (1 - colV x == colV x) = false :=
  at12 (Q := fun x => ofV (colV x) (kindV x) = x ∧ ofE (colV x) (kindV x) = 0 ∧ isB x (colV x) = true ∧ isB x (1 - colV x) = false ∧ swapV (swapV x) = x ∧ colE (swapV x) = 0 ∧ colV (swapV x) = 1 - colV x ∧ othV (colV x) = 1 - colV x ∧ othE (colV x) = 0 ∧ kindV (swapV x) = kindV x ∧ colE x = 0 ∧ (1 - colV x == colV x) = false) (by decide +kernel) h1 h2
theorem col_range (x : Int) : 0 ≤ colV x ∧ colV x ≤ 1 := by unfold colV; split <;> omega
theorem letS_list {x : Int} (h1 : 1 ≤ x) (h2 : x ≤ 12) : (letS x).toList = [lets.getD (x.toNat - 1) 0] := by
  obtain ⟨k, rfl⟩ : ∃ k : Nat, x = k + 1 := ⟨(x - 1).toNat, by omega⟩
  rw [letS_at k (by omega), let_sl k (by omega)]; rfl
theorem letS_size {x : Int} (h1 : 1 ≤ x) (h2 : x ≤ 12) : (letS x).size = 1 := by
  have h := congrArg List.length (letS_list h1 h2)
  rw [ByteArray.toList_eq] at h
  simpa using h
theorem letS_parse {x : Int} (h1 : 1 ≤ x) (h2 : x ≤ 12) : parseV (letS x) = x := by
  unfold parseV; rw [letS_list h1 h2]
  exact at12 (Q := fun x => parseFrom [lets.getD (x.toNat - 1) 0] 0 lets = x) (by decide +kernel) h1 h2
theorem letS_parseE {x : Int} (h1 : 1 ≤ x) (h2 : x ≤ 12) : parseE (letS x) = 0 := by
  unfold parseE; rw [letS_parse h1 h2, if_neg (by omega)]
theorem letS_ne {x y : Int} (h1 : 1 ≤ x) (h2 : x ≤ 12) (g1 : 1 ≤ y) (g2 : y ≤ 12) (h : x ≠ y) : ((letS x).toList == (letS y).toList) = false := by
  rw [beq_eq_false_iff_ne]
  intro e
  have hx := letS_parse h1 h2
  have hy := letS_parse g1 g2
  unfold parseV at hx hy
  rw [e, hy] at hx
  exact h hx.symm
theorem kind_ne {x y : Int} (h1 : 1 ≤ x) (h2 : x ≤ 12) (g1 : 1 ≤ y) (g2 : y ≤ 12) (h : x ≠ y) (hc : colV x = colV y) : (kindV x == kindV y) = false := by
  rw [beq_eq_false_iff_ne]
  unfold colV at hc
  unfold kindV
  repeat' split at hc
  all_goals (repeat' split) <;> omega
theorem parseV_range (s : ByteArray) : 0 ≤ parseV s ∧ parseV s ≤ 12 := by
  unfold parseV
  generalize s.toList = l
  have key : ∀ (m : List UInt8) (k : Nat), 0 ≤ parseFrom l k m ∧ parseFrom l k m ≤ k + m.length := by
    intro m
    induction m with
    | nil => intro k; simp [parseFrom]
    | cons c r ih =>
      intro k
      unfold parseFrom
      have := ih (k + 1)
      split
      · simp; omega
      · simp at this ⊢; omega
  exact key lets 0
theorem parse_letS {s : ByteArray} (h : parseV s ≠ 0) : (letS (parseV s)).toList = s.toList := by
  have hr := parseV_range s
  rw [letS_list (by omega) hr.2]
  unfold parseV at h hr ⊢
  generalize s.toList = l at *
  have key : ∀ (n k : Nat), k + n = 12 → parseFrom l k (lets.drop k) ≠ 0 → [lets.getD ((parseFrom l k (lets.drop k)).toNat - 1) 0] = l := by
    intro n
    induction n with
    | zero => intro k hk h; obtain rfl : k = 12 := by omega
              exact absurd rfl h
    | succ n ih =>
      intro k hk h
      rw [parse_step l k (by omega)] at h ⊢
      split
      · rename_i e; rw [← e]; congr 2
      · rename_i e; rw [if_neg e] at h; exact ih (k + 1) (by omega) h
  exact key 12 0 rfl h
end Go.Proofs.YtokjnlhnlbdfnaaDoor
