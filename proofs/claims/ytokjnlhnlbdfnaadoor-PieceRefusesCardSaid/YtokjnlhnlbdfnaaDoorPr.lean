/- The walk of the law PieceRefuses: each call returns true. Conditions: the table of the words lies in memory as the program lays it. -/
import Derived.Test.YtokjnlhnlbdfnaaDoorPv
import Derived.Test.YtokjnlhnlbdfnaaDoorPf
namespace Go.Proofs.YtokjnlhnlbdfnaaDoor
open Go Go.RowKit

theorem isB_f {p c : Int} (h : ¬ (inP p ∧ colV p = c)) : isB p c = false := by unfold isB; unfold inP at h; simpa using h
theorem kindV_f {p : Int} (h : ¬ inP p) : kindV p = 0 := if_neg h
theorem ofE_f {c k : Int} (h : ¬ ((c = 0 ∨ c = 1) ∧ 1 ≤ k ∧ k ≤ 6)) : ofE c k = 3 := if_neg h
theorem wordS_e {k : Int} (h : k ≤ 0 ∨ 7 ≤ k) : (wordS k).toList = [] := by
  have : wordS k = ⟨#[]⟩ := by
    unfold wordS
    split
    · rfl
    · rcases h with h | h
      · obtain rfl : k = 0 := by omega
        rfl
      · rw [List.getD_eq_getElem?_getD, List.getElem?_eq_none (by show 7 ≤ _; omega)]; rfl
  rw [this, ByteArray.toList_eq]
theorem parseE_0 {s : ByteArray} (h : parseV s = 0) : parseE s = 8 := if_pos h
theorem parseE_1 {s : ByteArray} (h : parseV s ≠ 0) : parseE s = 0 := if_neg h

set_option maxRecDepth 100000 in
set_option maxHeartbeats 4000000 in
theorem refuses_walk (far : Int) (s : ByteArray) (w : World) (hw : Words w) (h0 : 0 ≤ far) (h1 : far ≤ 65535) :
    Calls Tryd.prog 7 #[.int .u16 far, .string s] w fun e w' => e = .returned (.bool true) ∧ Below w.heap.size w w' := by
  by_cases hs : 100 < (s.size : Int)
  · go_enter Tryd.func7, Tryd.ntmps7
    go_wp2_with (go_at_call 23; refine (works_any _ hw).mono ?_; rintro e w2 ⟨rfl, hb2⟩)
    go_ret
    exact ⟨rfl, hb2⟩
  · have f1 : colE (-far) = 3 := colE_f (by unfold inP; omega)
    have f2 : colE (13 + far) = 3 := colE_f (by unfold inP; omega)
    have f3 : kindV (-far) = 0 := kindV_f (by unfold inP; omega)
    have f4 : kindV (13 + far) = 0 := kindV_f (by unfold inP; omega)
    have f5 : isB (-far) 0 = false := isB_f (by unfold inP; omega)
    have f6 : isB (-far) 1 = false := isB_f (by unfold inP; omega)
    have f7 : isB (13 + far) 0 = false := isB_f (by unfold inP; omega)
    have f8 : isB (13 + far) 1 = false := isB_f (by unfold inP; omega)
    have f9 : ofE (-1 - far) 1 = 3 := ofE_f (by omega)
    have f10 : ofE (2 + far) 1 = 3 := ofE_f (by omega)
    have f11 : ofE 0 (-far) = 3 := ofE_f (by omega)
    have f12 : ofE 1 (7 + far) = 3 := ofE_f (by omega)
    have f13 : othE (-1 - far) = 3 := if_neg (by omega)
    have f14 : othE (2 + far) = 3 := if_neg (by omega)
    have f15 : (wordS (-far)).toList = [] := wordS_e (by omega)
    have f16 : (wordS (7 + far)).toList = [] := wordS_e (by omega)
    have f17 : isB 1 (2 + far) = false := isB_f (by have : colV 1 = 0 := rfl; omega)
    have f18 : isB 7 (-1 - far) = false := isB_f (by have : colV 7 = 1 := rfl; omega)
    go_enter Tryd.func7, Tryd.ntmps7
    go_wp2_with fail
    have hw1 : Words (w.alloc (.cells #[.int .i64 (-far), .int .i64 (13 + far)] 3)) := hw.below ((Below.refl _ _).alloc (Nat.le_refl _) _)
    refine wp_loop_rounds 3 ?_
    rw [rounds_succ]
    go_wp2_with (first
      | (go_at_call 11; refine (col_any _ _).mono ?_; rintro e w' ⟨rfl, rfl⟩)
      | (go_at_call 15; refine (swap_any _ _).mono ?_; rintro e w' ⟨rfl, rfl⟩)
      | (go_at_call 17; refine (kind_any _ _).mono ?_; rintro e w' ⟨rfl, rfl⟩)
      | (go_at_call 19; refine (isq_any _ _ _).mono ?_; rintro e w' ⟨rfl, rfl⟩)
      | (go_at_call 24; refine (letter_any _ _).mono ?_; rintro e w' ⟨rfl, rfl⟩))
    rw [rounds_succ]
    go_wp2_with (first
      | (go_at_call 11; refine (col_any _ _).mono ?_; rintro e w' ⟨rfl, rfl⟩)
      | (go_at_call 15; refine (swap_any _ _).mono ?_; rintro e w' ⟨rfl, rfl⟩)
      | (go_at_call 17; refine (kind_any _ _).mono ?_; rintro e w' ⟨rfl, rfl⟩)
      | (go_at_call 19; refine (isq_any _ _ _).mono ?_; rintro e w' ⟨rfl, rfl⟩)
      | (go_at_call 24; refine (letter_any _ _).mono ?_; rintro e w' ⟨rfl, rfl⟩))
    rw [rounds_succ]
    clear f1 f2 f3 f4 f5 f6 f7 f8
    go_wp2_with (first
      | (go_at_call 9; refine (of_any _ _ _).mono ?_; rintro e w' ⟨rfl, rfl⟩)
      | (go_at_call 13; refine (oth_any _ _).mono ?_; rintro e w' ⟨rfl, rfl⟩)
      | (go_at_call 19; refine (isq_any _ _ _).mono ?_; rintro e w' ⟨rfl, rfl⟩)
      | (go_at_call 21; refine (word_any _ _ hw1).mono ?_; rintro e w' ⟨rfl, rfl⟩))
    clear f9 f10 f11 f12 f13 f14 f15 f16 f17 f18
    refine (parse_any _ _).mono ?_
    rintro e w1 ⟨rfl, hb1⟩
    have hw2 := hw1.below hb1
    have hb : Below w.heap.size w w1 := ((Below.refl _ _).alloc (Nat.le_refl _) _).trans (hb1.mono (by simp))
    clear hb1 hw1
    by_cases hp : parseV s = 0
    · have g1 := parseE_0 hp
      go_wp2_with (go_at_call 23; refine (works_any _ hw2).mono ?_; rintro e w2 ⟨rfl, hb2⟩)
      go_ret
      exact ⟨rfl, hb.trans (hb2.mono hb.size)⟩
    · have g1 := parseE_1 hp
      have hr := parseV_range s
      have g2 : colE (parseV s) = 0 := colE_t (by unfold inP; omega)
      have g3 := parse_letS hp
      clear hr hp
      go_wp2_with (first
        | (go_at_call 24; refine (letter_any _ _).mono ?_; rintro e w' ⟨rfl, rfl⟩)
        | (go_at_call 23; refine (works_any _ hw2).mono ?_; rintro e w2 ⟨rfl, hb2⟩))
      go_ret
      exact ⟨rfl, hb.trans (hb2.mono hb.size)⟩
end Go.Proofs.YtokjnlhnlbdfnaaDoor
