/- The walks of the laws PieceBack and PieceCase: each call returns true. Conditions: the table of the words lies in memory as the program lays it. -/
import Derived.Test.YtokjnlhnlbdfnaaDoorPv
import Derived.Test.YtokjnlhnlbdfnaaDoorPf
namespace Go.Proofs.YtokjnlhnlbdfnaaDoor
open Go Go.RowKit

set_option maxRecDepth 100000 in
set_option maxHeartbeats 2000000 in
theorem back_walk (m n : Int) (w : World) (hw : Words w) (hm : 0 ≤ m) (hm' : m ≤ 255) (hn : 0 ≤ n) (hn' : n ≤ 255) :
    Calls Tryd.prog 5 #[.int .u8 m, .int .u8 n] w fun e w' => e = .returned (.bool true) ∧ Below w.heap.size w w' := by
  have hx1 : 1 ≤ 1 + m % 12 := by omega
  have hx2 : 1 + m % 12 ≤ 12 := by omega
  have hy1 : 1 ≤ 1 + n % 12 := by omega
  have hy2 : 1 + n % 12 ≤ 12 := by omega
  by_cases hxy : 1 + m % 12 = 1 + n % 12
  · go_enter Tryd.func5, Tryd.ntmps5
    go_wp2_with fail
    rw [← hxy]
    generalize 1 + m % 12 = x at *
    clear hxy hm hm' hn hn' hy1 hy2
    obtain ⟨f1, f2, f3, f4, f5, f6, f7, f8, f9, f10, f11, f12⟩ := pf_of hx1 hx2
    have f13 := letS_parse hx1 hx2
    have f14 := letS_parseE hx1 hx2
    have f15 := letS_size hx1 hx2
    have f16 := col_range x
    have f17 : (1 - colV x != colV x) = true := by rw [bne_iff_ne]; omega
    obtain ⟨f18, f19⟩ := f16
    go_wp2_with (first
      | (go_at_call 9; refine (of_any _ _ _).mono ?_; rintro e w' ⟨rfl, rfl⟩)
      | (go_at_call 11; refine (col_any _ _).mono ?_; rintro e w' ⟨rfl, rfl⟩)
      | (go_at_call 13; refine (oth_any _ _).mono ?_; rintro e w' ⟨rfl, rfl⟩)
      | (go_at_call 15; refine (swap_any _ _).mono ?_; rintro e w' ⟨rfl, rfl⟩)
      | (go_at_call 17; refine (kind_any _ _).mono ?_; rintro e w' ⟨rfl, rfl⟩)
      | (go_at_call 19; refine (isq_any _ _ _).mono ?_; rintro e w' ⟨rfl, rfl⟩)
      | (go_at_call 24; refine (letter_any _ _).mono ?_; rintro e w' ⟨rfl, rfl⟩)
      | (go_at_call 26; refine (parse_any _ _).mono ?_; rintro e w1 ⟨rfl, hb1⟩)
      | (go_at_call 23; refine (works_any _ (hw.below (by assumption))).mono ?_; rintro e w2 ⟨rfl, hb2⟩))
    go_ret
    exact ⟨rfl, hb1.trans (hb2.mono hb1.size)⟩
  · go_enter Tryd.func5, Tryd.ntmps5
    go_wp2_with fail
    generalize 1 + m % 12 = x at *
    generalize 1 + n % 12 = y at *
    clear hm hm' hn hn'
    have g1 : (x == y) = false := by rw [beq_eq_false_iff_ne]; exact hxy
    have g2 := letS_ne hx1 hx2 hy1 hy2 hxy
    have g3 := letS_parse hy1 hy2
    have g4 : colE y = 0 := colE_t ⟨hy1, hy2⟩
    by_cases hc : colV x = colV y
    · have g5 := kind_ne hx1 hx2 hy1 hy2 hxy hc
      have hC := Lib.hid hc
      have g6 : (colV x == colV y) = true := by rw [beq_iff_eq]; exact hc
      clear hc hxy
      obtain ⟨f1, f2, f3, f4, f5, f6, f7, f8, f9, f10, f11, f12⟩ := pf_of hx1 hx2
      have f13 := letS_parse hx1 hx2
      have f14 := letS_parseE hx1 hx2
      have f15 := letS_size hx1 hx2
      have f16 := col_range x
      have f17 : (1 - colV x != colV x) = true := by rw [bne_iff_ne]; omega
      obtain ⟨f18, f19⟩ := f16
      go_wp2_with (first
        | (go_at_call 9; refine (of_any _ _ _).mono ?_; rintro e w' ⟨rfl, rfl⟩)
        | (go_at_call 11; refine (col_any _ _).mono ?_; rintro e w' ⟨rfl, rfl⟩)
        | (go_at_call 13; refine (oth_any _ _).mono ?_; rintro e w' ⟨rfl, rfl⟩)
        | (go_at_call 15; refine (swap_any _ _).mono ?_; rintro e w' ⟨rfl, rfl⟩)
        | (go_at_call 17; refine (kind_any _ _).mono ?_; rintro e w' ⟨rfl, rfl⟩)
        | (go_at_call 19; refine (isq_any _ _ _).mono ?_; rintro e w' ⟨rfl, rfl⟩)
        | (go_at_call 24; refine (letter_any _ _).mono ?_; rintro e w' ⟨rfl, rfl⟩)
        | (go_at_call 26; refine (parse_any _ _).mono ?_; rintro e w1 ⟨rfl, hb1⟩)
        | (go_at_call 23; refine (works_any _ (hw.below (by assumption))).mono ?_; rintro e w2 ⟨rfl, hb2⟩))
      go_ret
      exact ⟨rfl, hb1.trans (hb2.mono hb1.size)⟩
    · have g6 : (colV x == colV y) = false := by rw [beq_eq_false_iff_ne]; exact hc
      clear hc hxy
      obtain ⟨f1, f2, f3, f4, f5, f6, f7, f8, f9, f10, f11, f12⟩ := pf_of hx1 hx2
      have f13 := letS_parse hx1 hx2
      have f14 := letS_parseE hx1 hx2
      have f15 := letS_size hx1 hx2
      have f16 := col_range x
      have f17 : (1 - colV x != colV x) = true := by rw [bne_iff_ne]; omega
      obtain ⟨f18, f19⟩ := f16
      go_wp2_with (first
        | (go_at_call 9; refine (of_any _ _ _).mono ?_; rintro e w' ⟨rfl, rfl⟩)
        | (go_at_call 11; refine (col_any _ _).mono ?_; rintro e w' ⟨rfl, rfl⟩)
        | (go_at_call 13; refine (oth_any _ _).mono ?_; rintro e w' ⟨rfl, rfl⟩)
        | (go_at_call 15; refine (swap_any _ _).mono ?_; rintro e w' ⟨rfl, rfl⟩)
        | (go_at_call 17; refine (kind_any _ _).mono ?_; rintro e w' ⟨rfl, rfl⟩)
        | (go_at_call 19; refine (isq_any _ _ _).mono ?_; rintro e w' ⟨rfl, rfl⟩)
        | (go_at_call 24; refine (letter_any _ _).mono ?_; rintro e w' ⟨rfl, rfl⟩)
        | (go_at_call 26; refine (parse_any _ _).mono ?_; rintro e w1 ⟨rfl, hb1⟩)
        | (go_at_call 23; refine (works_any _ (hw.below (by assumption))).mono ?_; rintro e w2 ⟨rfl, hb2⟩))
      go_ret
      exact ⟨rfl, hb1.trans (hb2.mono hb1.size)⟩
end Go.Proofs.YtokjnlhnlbdfnaaDoor
