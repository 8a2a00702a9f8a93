/- The contracts of the functions of piece: each computes a plain Lean function. No condition. -/
import Derived.Test.YthbbnhhofkadgaaDoorArr
namespace Go.Proofs.YthbbnhhofkadgaaDoor
open Go Go.RowKit
def inP (p : Int) : Prop := 1 ≤ p ∧ p ≤ 12
def ofV (c k : Int) : Int := if (c = 0 ∨ c = 1) ∧ 1 ≤ k ∧ k ≤ 6 then k + 6 * c else 0
def ofE (c k : Int) : Int := if (c = 0 ∨ c = 1) ∧ 1 ≤ k ∧ k ≤ 6 then 0 else 3
def colV (p : Int) : Int := if 7 ≤ p ∧ p ≤ 12 then 1 else 0
def colE (p : Int) : Int := if 1 ≤ p ∧ p ≤ 12 then 0 else 3
def isB (p c : Int) : Bool := decide ((1 ≤ p ∧ p ≤ 12) ∧ colV p = c)
def swapV (p : Int) : Int := if 1 ≤ p ∧ p ≤ 12 then (if 7 ≤ p then p - 6 else p + 6) else 0
set_option maxHeartbeats 400000 in
theorem is_t (p : Int) (w : World) (h : inP p) : Calls Tryd.prog 68 #[.int .i64 p] w fun e w' => e = .returned (.bool true) ∧ w = w' := by
  obtain ⟨h1, h2⟩ := h
  go_enter Tryd.func68, Tryd.ntmps68
  go_wp2
  go_ret
  exact ⟨rfl, rfl⟩
set_option maxHeartbeats 400000 in
theorem is_f (p : Int) (w : World) (h : ¬ inP p) : Calls Tryd.prog 68 #[.int .i64 p] w fun e w' => e = .returned (.bool false) ∧ w = w' := by
  have h' : p < 1 ∨ 12 < p := by unfold inP at h; omega
  clear h
  rcases h' with h1 | h1
  · go_enter Tryd.func68, Tryd.ntmps68
    go_wp2
    go_ret
    exact ⟨rfl, rfl⟩
  · have hd : decide (p ≤ 12) = false := by simp; omega
    go_enter Tryd.func68, Tryd.ntmps68
    go_wp2
    go_ret
    exact ⟨rfl, rfl⟩
set_option maxHeartbeats 400000 in
theorem of_any (c : Int) (k : Int) (w : World) :
    Calls Tryd.prog 51 #[.int .i64 c, .int .i64 k] w fun e w' => e = .returned (.tuple #[.int .i64 (ofV c k), .int .i64 (ofE c k)]) ∧ w = w' := by
  by_cases h1 : c = 0 <;> by_cases h2 : c = 1 <;> by_cases h3 : k < 1 <;> by_cases h4 : 6 < k
  all_goals first
    | (exfalso; omega)
    | (go_enter Tryd.func51, Tryd.ntmps51
       go_wp2
       go_ret2
       exact ⟨ret2_int (by unfold ofV; split <;> omega) (by unfold ofE; split <;> omega), rfl⟩)
set_option maxHeartbeats 400000 in
theorem col_any (p : Int) (w : World) :
    Calls Tryd.prog 63 #[.int .i64 p] w fun e w' => e = .returned (.tuple #[.int .i64 (colV p), .int .i64 (colE p)]) ∧ w = w' := by
  by_cases hp : inP p
  · have hp' := hp
    obtain ⟨h1, h2⟩ := hp'
    by_cases h7 : 7 ≤ p
    · go_enter Tryd.func63, Tryd.ntmps63
      go_wp2_with (go_at_call 68; refine (is_t _ _ hp).mono ?_; rintro e w' ⟨rfl, rfl⟩)
      all_goals go_ret2
      all_goals exact ⟨ret2_int (by unfold colV; unfold inP at hp; (repeat' split) <;> omega) (by unfold colE; unfold inP at hp; (repeat' split) <;> omega), rfl⟩
    · go_enter Tryd.func63, Tryd.ntmps63
      go_wp2_with (go_at_call 68; refine (is_t _ _ hp).mono ?_; rintro e w' ⟨rfl, rfl⟩)
      all_goals go_ret2
      all_goals exact ⟨ret2_int (by unfold colV; unfold inP at hp; (repeat' split) <;> omega) (by unfold colE; unfold inP at hp; (repeat' split) <;> omega), rfl⟩
  · go_enter Tryd.func63, Tryd.ntmps63
    go_wp2_with (go_at_call 68; refine (is_f _ _ hp).mono ?_; rintro e w' ⟨rfl, rfl⟩)
    all_goals go_ret2
    all_goals exact ⟨ret2_int (by unfold colV; unfold inP at hp; (repeat' split) <;> omega) (by unfold colE; unfold inP at hp; (repeat' split) <;> omega), rfl⟩
theorem colE_t {p : Int} (h : inP p) : colE p = 0 := if_pos h
theorem colE_f {p : Int} (h : ¬ inP p) : colE p = 3 := if_neg h
set_option maxHeartbeats 400000 in
theorem swap_any (p : Int) (w : World) :
    Calls Tryd.prog 35 #[.int .i64 p] w fun e w' => e = .returned (.tuple #[.int .i64 (swapV p), .int .i64 (colE p)]) ∧ w = w' := by
  by_cases hp : inP p
  · have hE := colE_t hp
    obtain ⟨h1, h2⟩ := hp
    by_cases h7 : 7 ≤ p
    · have hV : colV p = 1 := if_pos ⟨h7, h2⟩
      go_enter Tryd.func35, Tryd.ntmps35
      go_wp2_with (go_at_call 63; refine (col_any _ _).mono ?_; rintro e w' ⟨rfl, rfl⟩)
      go_ret2
      exact ⟨ret2_int (by unfold swapV; (repeat' split) <;> omega) hE.symm, rfl⟩
    · have hV : colV p = 0 := if_neg (by omega)
      go_enter Tryd.func35, Tryd.ntmps35
      go_wp2_with (go_at_call 63; refine (col_any _ _).mono ?_; rintro e w' ⟨rfl, rfl⟩)
      go_ret2
      exact ⟨ret2_int (by unfold swapV; (repeat' split) <;> omega) hE.symm, rfl⟩
  · have hE := colE_f hp
    go_enter Tryd.func35, Tryd.ntmps35
    go_wp2_with (go_at_call 63; refine (col_any _ _).mono ?_; rintro e w' ⟨rfl, rfl⟩)
    go_ret2
    exact ⟨ret2_int (by unfold swapV; unfold inP at hp; (repeat' split) <;> omega) hE.symm, rfl⟩
set_option maxHeartbeats 400000 in
theorem isq_any (p c : Int) (w : World) :
    Calls Tryd.prog 59 #[.int .i64 p, .int .i64 c] w fun e w' => e = .returned (.bool (isB p c)) ∧ w = w' := by
  by_cases hp : inP p
  · have hE := colE_t hp
    have hb : Hid (isB p c = (colV p == c)) := by show _ = _; unfold isB; unfold inP at hp; simp only [hp, and_self, true_and]; rw [Bool.eq_iff_iff]; simp
    go_enter Tryd.func59, Tryd.ntmps59
    go_wp2_with (go_at_call 63; refine (col_any _ _).mono ?_; rintro e w' ⟨rfl, rfl⟩)
    go_ret
    exact ⟨ret_bool hb.out.symm, rfl⟩
  · have hE := colE_f hp
    have hb : Hid (isB p c = false) := by show _ = _; unfold isB; unfold inP at hp; simp only [hp, false_and, decide_false]
    go_enter Tryd.func59, Tryd.ntmps59
    go_wp2_with (go_at_call 63; refine (col_any _ _).mono ?_; rintro e w' ⟨rfl, rfl⟩)
    go_ret
    exact ⟨ret_bool hb.out.symm, rfl⟩
def letS (p : Int) : ByteArray := if 1 ≤ p ∧ p ≤ 12 then (⟨#[80, 78, 66, 82, 81, 75, 112, 110, 98, 114, 113, 107]⟩ : ByteArray).extract (p.toNat - 1) p.toNat else ⟨#[]⟩
theorem letS_at (k : Nat) (h : k < 12) : letS (k + 1) = (⟨#[80, 78, 66, 82, 81, 75, 112, 110, 98, 114, 113, 107]⟩ : ByteArray).extract k (k + 1) := by
  unfold letS; rw [if_pos ⟨by omega, by omega⟩]; rfl
theorem letS_f {p : Int} (h : ¬ inP p) : letS p = ⟨#[]⟩ := if_neg h
set_option maxHeartbeats 400000 in
theorem letter_any (p : Int) (w : World) :
    Calls Tryd.prog 43 #[.int .i64 p] w fun e w' => e = .returned (.tuple #[.string (letS p), .int .i64 (colE p)]) ∧ w = w' := by
  by_cases hp : inP p
  · have hE := colE_t hp
    obtain ⟨k, rfl⟩ : ∃ k : Nat, p = k + 1 := ⟨(p - 1).toNat, by unfold inP at hp; omega⟩
    have hk : k < 12 := by unfold inP at hp; omega
    have HL := Lib.hid (letS_at k hk)
    go_enter Tryd.func43, Tryd.ntmps43
    go_wp2_with (go_at_call 68; refine (is_t _ _ hp).mono ?_; rintro e w' ⟨rfl, rfl⟩)
    go_ret2
    exact ⟨ret2_str HL.out.symm hE.symm, rfl⟩
  · have hE := colE_f hp
    have HL := Lib.hid (letS_f hp)
    go_enter Tryd.func43, Tryd.ntmps43
    go_wp2_with (go_at_call 68; refine (is_f _ _ hp).mono ?_; rintro e w' ⟨rfl, rfl⟩)
    go_ret2
    exact ⟨ret2_str HL.out.symm hE.symm, rfl⟩
def lets : List UInt8 := [80, 78, 66, 82, 81, 75, 112, 110, 98, 114, 113, 107]
def parseFrom (s : List UInt8) : Nat → List UInt8 → Int
  | _, [] => 0
  | k, c :: r => if [c] = s then (k : Int) + 1 else parseFrom s (k + 1) r
def parseV (s : ByteArray) : Int := parseFrom s.toList 0 lets
def parseE (s : ByteArray) : Int := if parseV s = 0 then 8 else 0

theorem parse_step (s : List UInt8) (k : Nat) (h : k < 12) : parseFrom s k (lets.drop k) = if [lets.getD k 0] = s then (k : Int) + 1 else parseFrom s (k + 1) (lets.drop (k + 1)) := by
  have : lets.drop k = lets.getD k 0 :: lets.drop (k + 1) := by
    have : ∀ k : Fin 12, lets.drop k = lets.getD k 0 :: lets.drop (k + 1) := by decide
    exact this ⟨k, h⟩
  rw [this]; rfl
theorem let_enc (k : Nat) (h : k < 12) : (Utf8.encode ((⟨#[80, 78, 66, 82, 81, 75, 112, 110, 98, 114, 113, 107]⟩ : ByteArray)[k]'h).toNat).toList = [lets.getD k 0] := by
  have key : ∀ k, ∀ h : k < 12, (Utf8.encode ((⟨#[80, 78, 66, 82, 81, 75, 112, 110, 98, 114, 113, 107]⟩ : ByteArray)[k]'h).toNat).data.toList = [lets.getD k 0] := by decide +kernel
  rw [ByteArray.toList_eq]
  exact key k h
theorem let_sl (k : Nat) (h : k < 12) : ((⟨#[80, 78, 66, 82, 81, 75, 112, 110, 98, 114, 113, 107]⟩ : ByteArray).extract k (k + 1)).toList = [lets.getD k 0] := by
  have : ∀ k : Fin 12, (lets.drop k).take 1 = [lets.getD k 0] := by decide
  rw [ByteArray.toList_eq, Lib.extract_data, Nat.add_sub_cancel_left]
  exact this ⟨k, h⟩

set_option maxHeartbeats 400000 in
theorem parse_any (s : ByteArray) (w : World) :
    Calls Tryd.prog 18 #[.string s] w fun e w' => e = .returned (.tuple #[.int .i64 (parseV s), .int .i64 (parseE s)]) ∧ Below w.heap.size w w' := by
  go_enter Tryd.func18, Tryd.ntmps18
  go_wp2
  go_loopw [2, 3] (fun r e w' => r = .int .i64 0 ∧ e = .int .i64 0 ∧ ∃ k : Nat, k ≤ 12 ∧ w' = w.iter ⟨#[80, 78, 66, 82, 81, 75, 112, 110, 98, 114, 113, 107]⟩ k ∧ Hid (parseV s = parseFrom s.toList k (lets.drop k))) (fun _ _ w' => 12 - w'.iterPos w.heap.size)
  case atStart => exact ⟨rfl, rfl, 0, by omega, rfl, rfl⟩
  case round =>
    obtain ⟨rfl, rfl, k, hk, rfl, HS⟩ := hrel
    by_cases hlt : k < 12
    · have hnx := fun ty => run_next_ascii (P := Tryd.prog) w ⟨#[80, 78, 66, 82, 81, 75, 112, 110, 98, 114, 113, 107]⟩ k ty hlt (by
        have : ∀ k : Fin 12, ((⟨#[80, 78, 66, 82, 81, 75, 112, 110, 98, 114, 113, 107]⟩ : ByteArray)[k.val]'k.2).toNat < 128 := by decide
        exact this ⟨k, hlt⟩)
      have H1 := Lib.hid (let_enc k hlt)
      have H2 := Lib.hid (parse_step s.toList k hlt)
      go_wp2
      · rename_i he
        rw [H1.out, beq_iff_eq] at he
        have hp : parseV s = k + 1 := by rw [HS.out, H2.out, if_pos he]
        go_ret2
        exact ⟨ret2_int hp.symm (by unfold parseE; rw [hp, if_neg (by omega)]), (Below.refl _ _).alloc (Nat.le_refl _) _⟩
      · rename_i he
        rw [H1.out, beq_eq_false_iff_ne] at he
        go_roundw
        case rel => exact ⟨rfl, rfl, k + 1, by omega, rfl, by show _ = _; rw [HS.out, H2.out, if_neg he]⟩
        case measure => rw [World.iterPos_iter, World.iterPos_iter]; omega
    · have hk : k = 12 := by omega
      subst hk
      have hnx := fun ty => run_next_end (P := Tryd.prog) w ⟨#[80, 78, 66, 82, 81, 75, 112, 110, 98, 114, 113, 107]⟩ 12 ty (by decide)
      have hp : Hid (parseV s = 0) := by show _ = _; rw [HS.out]; rfl
      go_wp2
      go_ret2
      exact ⟨ret2_int hp.out.symm (by unfold parseE; rw [hp.out, if_pos rfl]), (Below.refl _ _).alloc (Nat.le_refl _) _⟩

end Go.Proofs.YthbbnhhofkadgaaDoor
