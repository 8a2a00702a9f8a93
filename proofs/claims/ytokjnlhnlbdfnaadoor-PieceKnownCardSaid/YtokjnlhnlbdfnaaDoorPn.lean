/- The walk of the law PieceKnown: the call returns true. Conditions: the table of the words lies in memory as the program lays it. -/
import Derived.Test.YtokjnlhnlbdfnaaDoorPk
namespace Go.Proofs.YtokjnlhnlbdfnaaDoor
open Go Go.RowKit
theorem Words.blk {w : World} {o : Obj} (h : Words w) : Words (w.alloc o) := h.below ((Below.refl _ _).alloc (Nat.le_refl _) _)
def Loc (w wr : World) : Prop := Words wr ∧ Below w.heap.size w wr ∧ ∀ i : Nat, i < 7 → wr.cell? ⟨w.heap.size, i, none⟩ = some (.string (wordL.getD i ⟨#[]⟩))
theorem Loc.dn {w wr : World} {n : Nat} (h : Loc w wr) : Loc w (wr.drewN n) := ⟨h.1, h.2.1.trans ⟨rfl, rfl, rfl, Nat.le_refl _, fun _ _ => rfl⟩, h.2.2⟩
theorem loc_new (w : World) (hw : Words w) : Loc w (w.alloc (.cells #[.string ⟨#[]⟩, .string ⟨#[112, 97, 119, 110]⟩, .string ⟨#[107, 110, 105, 103, 104, 116]⟩, .string ⟨#[98, 105, 115, 104, 111, 112]⟩, .string ⟨#[114, 111, 111, 107]⟩, .string ⟨#[113, 117, 101, 101, 110]⟩, .string ⟨#[107, 105, 110, 103]⟩] 40)) := ⟨hw.blk, (Below.refl _ _).alloc (Nat.le_refl _) _, fun i hi => by
  rw [World.cell?_alloc_at (hn := rfl)]
  rcases i with _ | _ | _ | _ | _ | _ | _ | i
  all_goals first | rfl | omega⟩
theorem word_q (k : Int) (w : World) (hw : Words w) :
    Calls Tryd.prog 21 #[.int .i64 k] w fun e w' => e = .returned (.string (wordS k)) ∧ ∃ m, w' = w.drewN m :=
  (word_any k w hw).mono fun _ _ ⟨he, hw⟩ => ⟨he, 0, by rw [← hw]; rfl⟩
set_option maxRecDepth 100000 in
set_option maxHeartbeats 4000000 in
theorem known_walk (w : World) (hw : Words w) :
    Calls Tryd.prog 8 #[] w fun e w' => e = .returned (.bool true) ∧ Below w.heap.size w w' := by
  go_enter Tryd.func8, Tryd.ntmps8
  go_wp2_with fail
  go_loopw [3] (fun i wr => ∃ k : Nat, k ≤ 12 ∧ i = .int .i64 (k + 1) ∧ Loc w wr) (fun i _ => 13 - (intOf i).toNat)
  case atStart => exact ⟨0, by decide, rfl, loc_new w hw⟩
  case round =>
    obtain ⟨k, hk, rfl, hr⟩ := hrel
    rcases k with _ | _ | _ | _ | _ | _ | _ | _ | _ | _ | _ | _ | _ | k
    · have f1 : colE 1 = 0 := rfl
      have f2 : colV 1 = 0 := rfl
      have f3 : kindV 1 = 1 := rfl
      have f4 := letS1
      have f5 := wordS1
      have f6 : (((⟨#[80, 78, 66, 82, 81, 75, 112, 110, 98, 114, 113, 107]⟩ : ByteArray).extract 0 1).toList) = [80] := let_sl 0 (by decide)
      have hc : wr.cell? ⟨w.heap.size, 1, none⟩ = some (.string ⟨#[112, 97, 119, 110]⟩) := hr.2.2 1 (by decide)
      go_wp2_with (first
        | (go_at_call 11; refine (col_any _ _).mono ?_; rintro e w' ⟨rfl, rfl⟩)
        | (go_at_call 17; refine (kind_any _ _).mono ?_; rintro e w' ⟨rfl, rfl⟩)
        | (go_at_call 24; refine (letter_any _ _).mono ?_; rintro e w' ⟨rfl, rfl⟩))
      go_quiet ((go_at_call 21; exact Calls.quiet_of (word_q _ _ hr.1.dn)))
      go_wp2_with fail
      go_roundw
      case rel => exact ⟨1, by decide, rfl, hr.dn⟩
      case measure => simp [intOf]
    · have f1 : colE 2 = 0 := rfl
      have f2 : colV 2 = 0 := rfl
      have f3 : kindV 2 = 2 := rfl
      have f4 := letS2
      have f5 := wordS2
      have f6 : (((⟨#[80, 78, 66, 82, 81, 75, 112, 110, 98, 114, 113, 107]⟩ : ByteArray).extract 1 2).toList) = [78] := let_sl 1 (by decide)
      have hc : wr.cell? ⟨w.heap.size, 2, none⟩ = some (.string ⟨#[107, 110, 105, 103, 104, 116]⟩) := hr.2.2 2 (by decide)
      go_wp2_with (first
        | (go_at_call 11; refine (col_any _ _).mono ?_; rintro e w' ⟨rfl, rfl⟩)
        | (go_at_call 17; refine (kind_any _ _).mono ?_; rintro e w' ⟨rfl, rfl⟩)
        | (go_at_call 24; refine (letter_any _ _).mono ?_; rintro e w' ⟨rfl, rfl⟩))
      go_quiet ((go_at_call 21; exact Calls.quiet_of (word_q _ _ hr.1.dn)))
      go_wp2_with fail
      go_roundw
      case rel => exact ⟨2, by decide, rfl, hr.dn⟩
      case measure => simp [intOf]
    · have f1 : colE 3 = 0 := rfl
      have f2 : colV 3 = 0 := rfl
      have f3 : kindV 3 = 3 := rfl
      have f4 := letS3
      have f5 := wordS3
      have f6 : (((⟨#[80, 78, 66, 82, 81, 75, 112, 110, 98, 114, 113, 107]⟩ : ByteArray).extract 2 3).toList) = [66] := let_sl 2 (by decide)
      have hc : wr.cell? ⟨w.heap.size, 3, none⟩ = some (.string ⟨#[98, 105, 115, 104, 111, 112]⟩) := hr.2.2 3 (by decide)
      go_wp2_with (first
        | (go_at_call 11; refine (col_any _ _).mono ?_; rintro e w' ⟨rfl, rfl⟩)
        | (go_at_call 17; refine (kind_any _ _).mono ?_; rintro e w' ⟨rfl, rfl⟩)
        | (go_at_call 24; refine (letter_any _ _).mono ?_; rintro e w' ⟨rfl, rfl⟩))
      go_quiet ((go_at_call 21; exact Calls.quiet_of (word_q _ _ hr.1.dn)))
      go_wp2_with fail
      go_roundw
      case rel => exact ⟨3, by decide, rfl, hr.dn⟩
      case measure => simp [intOf]
    · have f1 : colE 4 = 0 := rfl
      have f2 : colV 4 = 0 := rfl
      have f3 : kindV 4 = 4 := rfl
      have f4 := letS4
      have f5 := wordS4
      have f6 : (((⟨#[80, 78, 66, 82, 81, 75, 112, 110, 98, 114, 113, 107]⟩ : ByteArray).extract 3 4).toList) = [82] := let_sl 3 (by decide)
      have hc : wr.cell? ⟨w.heap.size, 4, none⟩ = some (.string ⟨#[114, 111, 111, 107]⟩) := hr.2.2 4 (by decide)
      go_wp2_with (first
        | (go_at_call 11; refine (col_any _ _).mono ?_; rintro e w' ⟨rfl, rfl⟩)
        | (go_at_call 17; refine (kind_any _ _).mono ?_; rintro e w' ⟨rfl, rfl⟩)
        | (go_at_call 24; refine (letter_any _ _).mono ?_; rintro e w' ⟨rfl, rfl⟩))
      go_quiet ((go_at_call 21; exact Calls.quiet_of (word_q _ _ hr.1.dn)))
      go_wp2_with fail
      go_roundw
      case rel => exact ⟨4, by decide, rfl, hr.dn⟩
      case measure => simp [intOf]
    · have f1 : colE 5 = 0 := rfl
      have f2 : colV 5 = 0 := rfl
      have f3 : kindV 5 = 5 := rfl
      have f4 := letS5
      have f5 := wordS5
      have f6 : (((⟨#[80, 78, 66, 82, 81, 75, 112, 110, 98, 114, 113, 107]⟩ : ByteArray).extract 4 5).toList) = [81] := let_sl 4 (by decide)
      have hc : wr.cell? ⟨w.heap.size, 5, none⟩ = some (.string ⟨#[113, 117, 101, 101, 110]⟩) := hr.2.2 5 (by decide)
      go_wp2_with (first
        | (go_at_call 11; refine (col_any _ _).mono ?_; rintro e w' ⟨rfl, rfl⟩)
        | (go_at_call 17; refine (kind_any _ _).mono ?_; rintro e w' ⟨rfl, rfl⟩)
        | (go_at_call 24; refine (letter_any _ _).mono ?_; rintro e w' ⟨rfl, rfl⟩))
      go_quiet ((go_at_call 21; exact Calls.quiet_of (word_q _ _ hr.1.dn)))
      go_wp2_with fail
      go_roundw
      case rel => exact ⟨5, by decide, rfl, hr.dn⟩
      case measure => simp [intOf]
    · have f1 : colE 6 = 0 := rfl
      have f2 : colV 6 = 0 := rfl
      have f3 : kindV 6 = 6 := rfl
      have f4 := letS6
      have f5 := wordS6
      have f6 : (((⟨#[80, 78, 66, 82, 81, 75, 112, 110, 98, 114, 113, 107]⟩ : ByteArray).extract 5 6).toList) = [75] := let_sl 5 (by decide)
      have hc : wr.cell? ⟨w.heap.size, 6, none⟩ = some (.string ⟨#[107, 105, 110, 103]⟩) := hr.2.2 6 (by decide)
      go_wp2_with (first
        | (go_at_call 11; refine (col_any _ _).mono ?_; rintro e w' ⟨rfl, rfl⟩)
        | (go_at_call 17; refine (kind_any _ _).mono ?_; rintro e w' ⟨rfl, rfl⟩)
        | (go_at_call 24; refine (letter_any _ _).mono ?_; rintro e w' ⟨rfl, rfl⟩))
      go_quiet ((go_at_call 21; exact Calls.quiet_of (word_q _ _ hr.1.dn)))
      go_wp2_with fail
      go_roundw
      case rel => exact ⟨6, by decide, rfl, hr.dn⟩
      case measure => simp [intOf]
    · have f1 : colE 7 = 0 := rfl
      have f2 : colV 7 = 1 := rfl
      have f3 : kindV 7 = 1 := rfl
      have f4 := letS7
      have f5 := wordS1
      have f6 : (((⟨#[80, 78, 66, 82, 81, 75, 112, 110, 98, 114, 113, 107]⟩ : ByteArray).extract 6 7).toList) = [112] := let_sl 6 (by decide)
      have hc : wr.cell? ⟨w.heap.size, 1, none⟩ = some (.string ⟨#[112, 97, 119, 110]⟩) := hr.2.2 1 (by decide)
      go_wp2_with (first
        | (go_at_call 11; refine (col_any _ _).mono ?_; rintro e w' ⟨rfl, rfl⟩)
        | (go_at_call 17; refine (kind_any _ _).mono ?_; rintro e w' ⟨rfl, rfl⟩)
        | (go_at_call 24; refine (letter_any _ _).mono ?_; rintro e w' ⟨rfl, rfl⟩))
      go_quiet ((go_at_call 21; exact Calls.quiet_of (word_q _ _ hr.1.dn)))
      go_wp2_with fail
      go_roundw
      case rel => exact ⟨7, by decide, rfl, hr.dn⟩
      case measure => simp [intOf]
    · have f1 : colE 8 = 0 := rfl
      have f2 : colV 8 = 1 := rfl
      have f3 : kindV 8 = 2 := rfl
      have f4 := letS8
      have f5 := wordS2
      have f6 : (((⟨#[80, 78, 66, 82, 81, 75, 112, 110, 98, 114, 113, 107]⟩ : ByteArray).extract 7 8).toList) = [110] := let_sl 7 (by decide)
      have hc : wr.cell? ⟨w.heap.size, 2, none⟩ = some (.string ⟨#[107, 110, 105, 103, 104, 116]⟩) := hr.2.2 2 (by decide)
      go_wp2_with (first
        | (go_at_call 11; refine (col_any _ _).mono ?_; rintro e w' ⟨rfl, rfl⟩)
        | (go_at_call 17; refine (kind_any _ _).mono ?_; rintro e w' ⟨rfl, rfl⟩)
        | (go_at_call 24; refine (letter_any _ _).mono ?_; rintro e w' ⟨rfl, rfl⟩))
      go_quiet ((go_at_call 21; exact Calls.quiet_of (word_q _ _ hr.1.dn)))
      go_wp2_with fail
      go_roundw
      case rel => exact ⟨8, by decide, rfl, hr.dn⟩
      case measure => simp [intOf]
    · have f1 : colE 9 = 0 := rfl
      have f2 : colV 9 = 1 := rfl
      have f3 : kindV 9 = 3 := rfl
      have f4 := letS9
      have f5 := wordS3
      have f6 : (((⟨#[80, 78, 66, 82, 81, 75, 112, 110, 98, 114, 113, 107]⟩ : ByteArray).extract 8 9).toList) = [98] := let_sl 8 (by decide)
      have hc : wr.cell? ⟨w.heap.size, 3, none⟩ = some (.string ⟨#[98, 105, 115, 104, 111, 112]⟩) := hr.2.2 3 (by decide)
      go_wp2_with (first
        | (go_at_call 11; refine (col_any _ _).mono ?_; rintro e w' ⟨rfl, rfl⟩)
        | (go_at_call 17; refine (kind_any _ _).mono ?_; rintro e w' ⟨rfl, rfl⟩)
        | (go_at_call 24; refine (letter_any _ _).mono ?_; rintro e w' ⟨rfl, rfl⟩))
      go_quiet ((go_at_call 21; exact Calls.quiet_of (word_q _ _ hr.1.dn)))
      go_wp2_with fail
      go_roundw
      case rel => exact ⟨9, by decide, rfl, hr.dn⟩
      case measure => simp [intOf]
    · have f1 : colE 10 = 0 := rfl
      have f2 : colV 10 = 1 := rfl
      have f3 : kindV 10 = 4 := rfl
      have f4 := letS10
      have f5 := wordS4
      have f6 : (((⟨#[80, 78, 66, 82, 81, 75, 112, 110, 98, 114, 113, 107]⟩ : ByteArray).extract 9 10).toList) = [114] := let_sl 9 (by decide)
      have hc : wr.cell? ⟨w.heap.size, 4, none⟩ = some (.string ⟨#[114, 111, 111, 107]⟩) := hr.2.2 4 (by decide)
      go_wp2_with (first
        | (go_at_call 11; refine (col_any _ _).mono ?_; rintro e w' ⟨rfl, rfl⟩)
        | (go_at_call 17; refine (kind_any _ _).mono ?_; rintro e w' ⟨rfl, rfl⟩)
        | (go_at_call 24; refine (letter_any _ _).mono ?_; rintro e w' ⟨rfl, rfl⟩))
      go_quiet ((go_at_call 21; exact Calls.quiet_of (word_q _ _ hr.1.dn)))
      go_wp2_with fail
      go_roundw
      case rel => exact ⟨10, by decide, rfl, hr.dn⟩
      case measure => simp [intOf]
    · have f1 : colE 11 = 0 := rfl
      have f2 : colV 11 = 1 := rfl
      have f3 : kindV 11 = 5 := rfl
      have f4 := letS11
      have f5 := wordS5
      have f6 : (((⟨#[80, 78, 66, 82, 81, 75, 112, 110, 98, 114, 113, 107]⟩ : ByteArray).extract 10 11).toList) = [113] := let_sl 10 (by decide)
      have hc : wr.cell? ⟨w.heap.size, 5, none⟩ = some (.string ⟨#[113, 117, 101, 101, 110]⟩) := hr.2.2 5 (by decide)
      go_wp2_with (first
        | (go_at_call 11; refine (col_any _ _).mono ?_; rintro e w' ⟨rfl, rfl⟩)
        | (go_at_call 17; refine (kind_any _ _).mono ?_; rintro e w' ⟨rfl, rfl⟩)
        | (go_at_call 24; refine (letter_any _ _).mono ?_; rintro e w' ⟨rfl, rfl⟩))
      go_quiet ((go_at_call 21; exact Calls.quiet_of (word_q _ _ hr.1.dn)))
      go_wp2_with fail
      go_roundw
      case rel => exact ⟨11, by decide, rfl, hr.dn⟩
      case measure => simp [intOf]
    · have f1 : colE 12 = 0 := rfl
      have f2 : colV 12 = 1 := rfl
      have f3 : kindV 12 = 6 := rfl
      have f4 := letS12
      have f5 := wordS6
      have f6 : (((⟨#[80, 78, 66, 82, 81, 75, 112, 110, 98, 114, 113, 107]⟩ : ByteArray).extract 11 12).toList) = [107] := let_sl 11 (by decide)
      have hc : wr.cell? ⟨w.heap.size, 6, none⟩ = some (.string ⟨#[107, 105, 110, 103]⟩) := hr.2.2 6 (by decide)
      go_wp2_with (first
        | (go_at_call 11; refine (col_any _ _).mono ?_; rintro e w' ⟨rfl, rfl⟩)
        | (go_at_call 17; refine (kind_any _ _).mono ?_; rintro e w' ⟨rfl, rfl⟩)
        | (go_at_call 24; refine (letter_any _ _).mono ?_; rintro e w' ⟨rfl, rfl⟩))
      go_quiet ((go_at_call 21; exact Calls.quiet_of (word_q _ _ hr.1.dn)))
      go_wp2_with fail
      go_roundw
      case rel => exact ⟨12, by decide, rfl, hr.dn⟩
      case measure => simp [intOf]
    · go_wp2_with fail
      refine (works_any _ hr.1).mono ?_
      rintro e w2 ⟨rfl, hb2⟩
      go_wp2_with fail
      go_ret
      exact ⟨rfl, hr.2.1.trans (hb2.mono hr.2.1.size)⟩
    · exact absurd hk (by omega)
end Go.Proofs.YtokjnlhnlbdfnaaDoor
