/- The walks of the laws PieceCase and PieceKnown: each call returns true. Conditions: the table of the words lies in memory as the program lays it. -/
import Derived.Test.YtokjnlhnlbdfnaaDoorPv
import Derived.Test.YtokjnlhnlbdfnaaDoorPf
import Derived.Test.YtokjnlhnlbdfnaaDoorKit
import Derived.Deep.QuietTactic
import Derived.BigQuiet
namespace Go.Proofs.YtokjnlhnlbdfnaaDoor
open Go Go.RowKit
theorem letS1 : letS 1 = ⟨#[80]⟩ := ba_of_list (by decide +kernel)
theorem letS2 : letS 2 = ⟨#[78]⟩ := ba_of_list (by decide +kernel)
theorem letS3 : letS 3 = ⟨#[66]⟩ := ba_of_list (by decide +kernel)
theorem letS4 : letS 4 = ⟨#[82]⟩ := ba_of_list (by decide +kernel)
theorem letS5 : letS 5 = ⟨#[81]⟩ := ba_of_list (by decide +kernel)
theorem letS6 : letS 6 = ⟨#[75]⟩ := ba_of_list (by decide +kernel)
theorem letS7 : letS 7 = ⟨#[112]⟩ := ba_of_list (by decide +kernel)
theorem letS8 : letS 8 = ⟨#[110]⟩ := ba_of_list (by decide +kernel)
theorem letS9 : letS 9 = ⟨#[98]⟩ := ba_of_list (by decide +kernel)
theorem letS10 : letS 10 = ⟨#[114]⟩ := ba_of_list (by decide +kernel)
theorem letS11 : letS 11 = ⟨#[113]⟩ := ba_of_list (by decide +kernel)
theorem letS12 : letS 12 = ⟨#[107]⟩ := ba_of_list (by decide +kernel)
theorem wordS0 : wordS 0 = ⟨#[]⟩ := rfl
theorem wordS1 : wordS 1 = ⟨#[112, 97, 119, 110]⟩ := rfl
theorem wordS2 : wordS 2 = ⟨#[107, 110, 105, 103, 104, 116]⟩ := rfl
theorem wordS3 : wordS 3 = ⟨#[98, 105, 115, 104, 111, 112]⟩ := rfl
theorem wordS4 : wordS 4 = ⟨#[114, 111, 111, 107]⟩ := rfl
theorem wordS5 : wordS 5 = ⟨#[113, 117, 101, 101, 110]⟩ := rfl
theorem wordS6 : wordS 6 = ⟨#[107, 105, 110, 103]⟩ := rfl
theorem Words.dn {w : World} {n : Nat} (h : Words w) : Words (w.drewN n) := h
theorem below_dn (w : World) (n : Nat) : Below w.heap.size w (w.drewN n) := ⟨rfl, rfl, rfl, Nat.le_refl _, fun _ _ => rfl⟩
set_option maxRecDepth 100000 in
set_option maxHeartbeats 1000000 in
theorem case_walk1 (m : Int) (w : World) (hw : Words w) (hm : 0 ≤ m) (hm' : m ≤ 255) (hx : 1 + m % 6 = 1) :
    Calls Tryd.prog 6 #[.int .u8 m] w fun e w' => e = .returned (.bool true) ∧ Below w.heap.size w w' := by
  have HX := Lib.hid hx
  clear hx
  have f1 : swapV 1 = 7 := rfl
  have f2 : colE 1 = 0 := rfl
  have f3 : colE 7 = 0 := rfl
  have f4 := letS1
  have f5 := letS7
  have f6 : kindV 1 = 1 := rfl
  have f7 := wordS1
  go_enter Tryd.func6, Tryd.ntmps6
  go_wp2_with fail
  rw [HX.out]
  clear HX hm hm'
  go_wp2_with (first
    | (go_at_call 15; refine (swap_any _ _).mono ?_; rintro e w' ⟨rfl, rfl⟩)
    | (go_at_call 17; refine (kind_any _ _).mono ?_; rintro e w' ⟨rfl, rfl⟩)
    | (go_at_call 21; refine (word_any _ _ hw).mono ?_; rintro e w' ⟨rfl, rfl⟩)
    | (go_at_call 24; refine (letter_any _ _).mono ?_; rintro e w' ⟨rfl, rfl⟩))
  go_quiet (fail)
  go_wp2_with fail
  go_quiet (fail)
  go_wp2_with (go_at_call 17; refine (kind_any _ _).mono ?_; rintro e w' ⟨rfl, rfl⟩)
  refine (works_any _ hw.dn).mono ?_
  rintro e w2 ⟨rfl, hb2⟩
  go_wp2_with fail
  go_ret
  exact ⟨rfl, (below_dn _ _).trans hb2⟩
set_option maxRecDepth 100000 in
set_option maxHeartbeats 1000000 in
theorem case_walk2 (m : Int) (w : World) (hw : Words w) (hm : 0 ≤ m) (hm' : m ≤ 255) (hx : 1 + m % 6 = 2) :
    Calls Tryd.prog 6 #[.int .u8 m] w fun e w' => e = .returned (.bool true) ∧ Below w.heap.size w w' := by
  have HX := Lib.hid hx
  clear hx
  have f1 : swapV 2 = 8 := rfl
  have f2 : colE 2 = 0 := rfl
  have f3 : colE 8 = 0 := rfl
  have f4 := letS2
  have f5 := letS8
  have f6 : kindV 2 = 2 := rfl
  have f7 := wordS2
  go_enter Tryd.func6, Tryd.ntmps6
  go_wp2_with fail
  rw [HX.out]
  clear HX hm hm'
  go_wp2_with (first
    | (go_at_call 15; refine (swap_any _ _).mono ?_; rintro e w' ⟨rfl, rfl⟩)
    | (go_at_call 17; refine (kind_any _ _).mono ?_; rintro e w' ⟨rfl, rfl⟩)
    | (go_at_call 21; refine (word_any _ _ hw).mono ?_; rintro e w' ⟨rfl, rfl⟩)
    | (go_at_call 24; refine (letter_any _ _).mono ?_; rintro e w' ⟨rfl, rfl⟩))
  go_quiet (fail)
  go_wp2_with fail
  go_quiet (fail)
  go_wp2_with (go_at_call 17; refine (kind_any _ _).mono ?_; rintro e w' ⟨rfl, rfl⟩)
  go_quiet (fail)
  go_wp2_with fail
  refine (works_any _ hw.dn).mono ?_
  rintro e w2 ⟨rfl, hb2⟩
  go_wp2_with fail
  go_ret
  exact ⟨rfl, (below_dn _ _).trans hb2⟩
set_option maxRecDepth 100000 in
set_option maxHeartbeats 1000000 in
theorem case_walk3 (m : Int) (w : World) (hw : Words w) (hm : 0 ≤ m) (hm' : m ≤ 255) (hx : 1 + m % 6 = 3) :
    Calls Tryd.prog 6 #[.int .u8 m] w fun e w' => e = .returned (.bool true) ∧ Below w.heap.size w w' := by
  have HX := Lib.hid hx
  clear hx
  have f1 : swapV 3 = 9 := rfl
  have f2 : colE 3 = 0 := rfl
  have f3 : colE 9 = 0 := rfl
  have f4 := letS3
  have f5 := letS9
  have f6 : kindV 3 = 3 := rfl
  have f7 := wordS3
  go_enter Tryd.func6, Tryd.ntmps6
  go_wp2_with fail
  rw [HX.out]
  clear HX hm hm'
  go_wp2_with (first
    | (go_at_call 15; refine (swap_any _ _).mono ?_; rintro e w' ⟨rfl, rfl⟩)
    | (go_at_call 17; refine (kind_any _ _).mono ?_; rintro e w' ⟨rfl, rfl⟩)
    | (go_at_call 21; refine (word_any _ _ hw).mono ?_; rintro e w' ⟨rfl, rfl⟩)
    | (go_at_call 24; refine (letter_any _ _).mono ?_; rintro e w' ⟨rfl, rfl⟩))
  go_quiet (fail)
  go_wp2_with fail
  go_quiet (fail)
  go_wp2_with (go_at_call 17; refine (kind_any _ _).mono ?_; rintro e w' ⟨rfl, rfl⟩)
  refine (works_any _ hw.dn).mono ?_
  rintro e w2 ⟨rfl, hb2⟩
  go_wp2_with fail
  go_ret
  exact ⟨rfl, (below_dn _ _).trans hb2⟩
set_option maxRecDepth 100000 in
set_option maxHeartbeats 1000000 in
theorem case_walk4 (m : Int) (w : World) (hw : Words w) (hm : 0 ≤ m) (hm' : m ≤ 255) (hx : 1 + m % 6 = 4) :
    Calls Tryd.prog 6 #[.int .u8 m] w fun e w' => e = .returned (.bool true) ∧ Below w.heap.size w w' := by
  have HX := Lib.hid hx
  clear hx
  have f1 : swapV 4 = 10 := rfl
  have f2 : colE 4 = 0 := rfl
  have f3 : colE 10 = 0 := rfl
  have f4 := letS4
  have f5 := letS10
  have f6 : kindV 4 = 4 := rfl
  have f7 := wordS4
  go_enter Tryd.func6, Tryd.ntmps6
  go_wp2_with fail
  rw [HX.out]
  clear HX hm hm'
  go_wp2_with (first
    | (go_at_call 15; refine (swap_any _ _).mono ?_; rintro e w' ⟨rfl, rfl⟩)
    | (go_at_call 17; refine (kind_any _ _).mono ?_; rintro e w' ⟨rfl, rfl⟩)
    | (go_at_call 21; refine (word_any _ _ hw).mono ?_; rintro e w' ⟨rfl, rfl⟩)
    | (go_at_call 24; refine (letter_any _ _).mono ?_; rintro e w' ⟨rfl, rfl⟩))
  go_quiet (fail)
  go_wp2_with fail
  go_quiet (fail)
  go_wp2_with (go_at_call 17; refine (kind_any _ _).mono ?_; rintro e w' ⟨rfl, rfl⟩)
  refine (works_any _ hw.dn).mono ?_
  rintro e w2 ⟨rfl, hb2⟩
  go_wp2_with fail
  go_ret
  exact ⟨rfl, (below_dn _ _).trans hb2⟩
set_option maxRecDepth 100000 in
set_option maxHeartbeats 1000000 in
theorem case_walk5 (m : Int) (w : World) (hw : Words w) (hm : 0 ≤ m) (hm' : m ≤ 255) (hx : 1 + m % 6 = 5) :
    Calls Tryd.prog 6 #[.int .u8 m] w fun e w' => e = .returned (.bool true) ∧ Below w.heap.size w w' := by
  have HX := Lib.hid hx
  clear hx
  have f1 : swapV 5 = 11 := rfl
  have f2 : colE 5 = 0 := rfl
  have f3 : colE 11 = 0 := rfl
  have f4 := letS5
  have f5 := letS11
  have f6 : kindV 5 = 5 := rfl
  have f7 := wordS5
  go_enter Tryd.func6, Tryd.ntmps6
  go_wp2_with fail
  rw [HX.out]
  clear HX hm hm'
  go_wp2_with (first
    | (go_at_call 15; refine (swap_any _ _).mono ?_; rintro e w' ⟨rfl, rfl⟩)
    | (go_at_call 17; refine (kind_any _ _).mono ?_; rintro e w' ⟨rfl, rfl⟩)
    | (go_at_call 21; refine (word_any _ _ hw).mono ?_; rintro e w' ⟨rfl, rfl⟩)
    | (go_at_call 24; refine (letter_any _ _).mono ?_; rintro e w' ⟨rfl, rfl⟩))
  go_quiet (fail)
  go_wp2_with fail
  go_quiet (fail)
  go_wp2_with (go_at_call 17; refine (kind_any _ _).mono ?_; rintro e w' ⟨rfl, rfl⟩)
  refine (works_any _ hw.dn).mono ?_
  rintro e w2 ⟨rfl, hb2⟩
  go_wp2_with fail
  go_ret
  exact ⟨rfl, (below_dn _ _).trans hb2⟩
set_option maxRecDepth 100000 in
set_option maxHeartbeats 1000000 in
theorem case_walk6 (m : Int) (w : World) (hw : Words w) (hm : 0 ≤ m) (hm' : m ≤ 255) (hx : 1 + m % 6 = 6) :
    Calls Tryd.prog 6 #[.int .u8 m] w fun e w' => e = .returned (.bool true) ∧ Below w.heap.size w w' := by
  have HX := Lib.hid hx
  clear hx
  have f1 : swapV 6 = 12 := rfl
  have f2 : colE 6 = 0 := rfl
  have f3 : colE 12 = 0 := rfl
  have f4 := letS6
  have f5 := letS12
  have f6 : kindV 6 = 6 := rfl
  have f7 := wordS6
  go_enter Tryd.func6, Tryd.ntmps6
  go_wp2_with fail
  rw [HX.out]
  clear HX hm hm'
  go_wp2_with (first
    | (go_at_call 15; refine (swap_any _ _).mono ?_; rintro e w' ⟨rfl, rfl⟩)
    | (go_at_call 17; refine (kind_any _ _).mono ?_; rintro e w' ⟨rfl, rfl⟩)
    | (go_at_call 21; refine (word_any _ _ hw).mono ?_; rintro e w' ⟨rfl, rfl⟩)
    | (go_at_call 24; refine (letter_any _ _).mono ?_; rintro e w' ⟨rfl, rfl⟩))
  go_quiet (fail)
  go_wp2_with fail
  go_quiet (fail)
  go_wp2_with (go_at_call 17; refine (kind_any _ _).mono ?_; rintro e w' ⟨rfl, rfl⟩)
  refine (works_any _ hw.dn).mono ?_
  rintro e w2 ⟨rfl, hb2⟩
  go_wp2_with fail
  go_ret
  exact ⟨rfl, (below_dn _ _).trans hb2⟩
theorem case_walk (m : Int) (w : World) (hw : Words w) (hm : 0 ≤ m) (hm' : m ≤ 255) :
    Calls Tryd.prog 6 #[.int .u8 m] w fun e w' => e = .returned (.bool true) ∧ Below w.heap.size w w' := by
  have h : 1 + m % 6 = 1 ∨ 1 + m % 6 = 2 ∨ 1 + m % 6 = 3 ∨ 1 + m % 6 = 4 ∨ 1 + m % 6 = 5 ∨ 1 + m % 6 = 6 := by omega
  rcases h with h | h | h | h | h | h
  · exact case_walk1 m w hw hm hm' h
  · exact case_walk2 m w hw hm hm' h
  · exact case_walk3 m w hw hm hm' h
  · exact case_walk4 m w hw hm hm' h
  · exact case_walk5 m w hw hm hm' h
  · exact case_walk6 m w hw hm hm' h
end Go.Proofs.YtokjnlhnlbdfnaaDoor
