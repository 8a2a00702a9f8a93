/- The examples of the chapter (tempolaw08.works) hold. Conditions: the table of the words lies in memory as the program lays it. -/
import Derived.Test.YtokjnlhnlbdfnaaDoorPw
namespace Go.Proofs.YtokjnlhnlbdfnaaDoor
open Go Go.RowKit
theorem pv_of {s : ByteArray} {l : List UInt8} {n : Int} (h : s.data.toList = l) (hn : parseFrom l 0 lets = n) : parseV s = n := by
  unfold parseV; rw [ByteArray.toList_eq, h, hn]

set_option maxRecDepth 100000 in
set_option maxHeartbeats 1000000 in
theorem works_any (w : World) (hw : Words w) : Calls Tryd.prog 23 #[] w fun e w' => e = .returned (.bool true) ∧ Below w.heap.size w w' := by
  have v1 : ofV 0 2 = 2 := rfl
  have v2 : ofE 0 2 = 0 := rfl
  have v3 : ofV 1 6 = 12 := rfl
  have v4 : ofE 1 6 = 0 := rfl
  have v5 : ofE 2 1 = 3 := rfl
  have v6 : colV 7 = 1 := rfl
  have v7 : colE 7 = 0 := rfl
  have v8 : (letS 8).toList = [110] := by rw [ByteArray.toList_eq]; decide +kernel
  have v9 : colE 8 = 0 := rfl
  have v10 : parseV ⟨#[78]⟩ = 2 := pv_of rfl (by decide)
  have v11 : parseE ⟨#[78]⟩ = 0 := by unfold parseE; rw [v10]; rfl
  have v12 : parseE ⟨#[78, 78]⟩ = 8 := by unfold parseE; rw [pv_of (n := 0) rfl (by decide)]; rfl
  have v13 : swapV 12 = 6 := rfl
  have v14 : colE 12 = 0 := rfl
  have v15 : othV 0 = 1 := rfl
  have v16 : othE 0 = 0 := rfl
  have v17 : kindV 12 = 6 := rfl
  have v18 : kindV 13 = 0 := rfl
  have v19 : isB 7 1 = true := by decide
  have v20 : isB 0 0 = false := by decide
  have v21 : (wordS 4).toList = [114, 111, 111, 107] := by rw [ByteArray.toList_eq]; decide
  have v22 : (wordS 0).toList = [] := by rw [ByteArray.toList_eq]; decide
  go_enter Tryd.func23, Tryd.ntmps23
  go_wp2_with (first
    | (go_at_call 9; refine (of_any _ _ _).mono ?_; rintro e w' ⟨rfl, rfl⟩)
    | (go_at_call 11; refine (col_any _ _).mono ?_; rintro e w' ⟨rfl, rfl⟩)
    | (go_at_call 24; refine (letter_any _ _).mono ?_; rintro e w' ⟨rfl, rfl⟩))
  refine (parse_any _ _).mono ?_
  rintro e w1 ⟨rfl, hb1⟩
  have hw1 := hw.below hb1
  go_wp2_with fail
  refine (parse_any _ _).mono ?_
  rintro e w2 ⟨rfl, hb2⟩
  have hw2 := hw1.below hb2
  have hb := hb1.trans (hb2.mono hb1.size)
  clear hb1 hb2 hw hw1
  go_wp2_with (first
    | (go_at_call 13; refine (oth_any _ _).mono ?_; rintro e w' ⟨rfl, rfl⟩)
    | (go_at_call 15; refine (swap_any _ _).mono ?_; rintro e w' ⟨rfl, rfl⟩)
    | (go_at_call 17; refine (kind_any _ _).mono ?_; rintro e w' ⟨rfl, rfl⟩)
    | (go_at_call 19; refine (isq_any _ _ _).mono ?_; rintro e w' ⟨rfl, rfl⟩)
    | (go_at_call 21; refine (word_any _ _ hw2).mono ?_; rintro e w' ⟨rfl, rfl⟩))
  go_ret
  exact ⟨rfl, hb⟩
end Go.Proofs.YtokjnlhnlbdfnaaDoor
