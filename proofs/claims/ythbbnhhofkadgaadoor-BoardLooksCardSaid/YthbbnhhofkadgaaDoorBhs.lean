/- The contract of Set.Has; the least square of a set. No condition. -/
import Derived.Test.YthbbnhhofkadgaaDoorBpo
namespace Go.Proofs.YthbbnhhofkadgaaDoor
open Go Go.RowKit
theorem pow_lt64 {i : Nat} (hi : i < 64) : 2 ^ i < 18446744073709551616 := by
  have h2 : 2 ^ i ≤ 2 ^ 63 := Nat.pow_le_pow_right (by decide) (by omega)
  have h3 : (2 : Nat) ^ 63 = 9223372036854775808 := by decide
  omega
theorem wrap_pow {i : Nat} (hi : i < 64) : IntKind.u64.wrap (2 ^ i : Int) = ((2 ^ i : Nat) : Int) := by
  have : ((2 : Int) ^ i) = ((2 ^ i : Nat) : Int) := by simp
  rw [this, wrapNv, Nat.mod_eq_of_lt (pow_lt64 hi)]
set_option maxHeartbeats 400000 in
theorem in_t (i : Nat) (hi : i < 64) (w : World) : Calls Tryd.prog 61 #[.int .i64 i, .int .i64 64] w fun e w' => e = .returned (.bool true) ∧ w = w' := by
  have h1 : decide ((i : Int) < 64) = true := by simp; omega
  have h0 : 0 ≤ (i : Int) := by omega
  go_enter Tryd.func61, Tryd.ntmps61
  go_wp2
  go_ret
  exact ⟨rfl, rfl⟩
set_option maxHeartbeats 400000 in
theorem bit_any (i : Nat) (hi : i < 64) (w : World) : Calls Tryd.prog 62 #[.int .i64 i] w fun e w' => e = .returned (.int .u64 ((2 ^ i : Nat) : Int)) ∧ w = w' := by
  have HW := Lib.hid (wrap_pow hi)
  have h0 : 0 ≤ (i : Int) := by omega
  go_enter Tryd.func62, Tryd.ntmps62
  go_wp2
  go_ret
  exact ⟨ret_int (by rw [← HW.out]), rfl⟩
theorem and_pow (s i : Nat) : s &&& 2 ^ i = (if s.testBit i = true then 2 ^ i else 0) := by
  apply Nat.eq_of_testBit_eq
  intro j
  rw [Nat.testBit_and, Nat.testBit_two_pow]
  by_cases h : i = j
  · subst h
    by_cases c : s.testBit i = true
    · rw [if_pos c, Nat.testBit_two_pow, c]; simp
    · have c' : s.testBit i = false := by simpa using c
      rw [if_neg c, Nat.zero_testBit, c']; simp
  · have : decide (i = j) = false := decide_eq_false h
    rw [this, Bool.and_false]
    split
    · rw [Nat.testBit_two_pow, this]
    · rw [Nat.zero_testBit]
theorem has_key {s i : Nat} (hs : s < 18446744073709551616) (hi : i < 64) : (bits BinOp.and IntKind.u64 (s : Int) ((2 ^ i : Nat) : Int) != 0) = s.testBit i := by
  rw [u64_and_nat _ _ hs (pow_lt64 hi), and_pow]
  have hp : 0 < 2 ^ i := Nat.two_pow_pos i
  cases h : s.testBit i with
  | true => rw [if_pos rfl]; rw [bne_iff_ne]; omega
  | false => rw [if_neg (by decide)]; rfl
set_option maxHeartbeats 400000 in
theorem has_any (s i : Nat) (hs : s < 18446744073709551616) (hi : i < 64) (w : World) : Calls Tryd.prog 31 #[.int .u64 s, .int .i64 i] w fun e w' => e = .returned (.bool (s.testBit i)) ∧ w = w' := by
  have HK := Lib.hid (has_key hs hi)
  obtain ⟨p, hp⟩ : ∃ p, 2 ^ i = p := ⟨_, rfl⟩
  have HB : Hid (∀ w : World, Calls Tryd.prog 62 #[.int .i64 i] w fun e w' => e = .returned (.int .u64 (p : Int)) ∧ w = w') := Lib.hid (by rw [← hp]; exact bit_any i hi)
  rw [hp] at HK
  have HI := Lib.hid (in_t i hi)
  clear hp hs hi
  go_enter Tryd.func31, Tryd.ntmps31
  go_wp2_with (first
    | (go_at_call 61; refine (HI.out _).mono ?_; rintro e w' ⟨rfl, rfl⟩)
    | (go_at_call 62; refine (HB.out _).mono ?_; rintro e w' ⟨rfl, rfl⟩))
  go_ret
  exact ⟨ret_bool HK.out, rfl⟩
theorem low_bit {x : Nat} (h0 : x ≠ 0) (hx : x < 18446744073709551616) : x.testBit (Lib.ctz 64 x) = true ∧ Lib.ctz 64 x < 64 := by
  obtain ⟨h1, h2⟩ := Lib.lowest_bit 64 x h0 (by rw [p64v]; exact hx)
  refine ⟨?_, h2⟩
  have : (x &&& (2 ^ 64 - x)).testBit (Lib.ctz 64 x) = true := by rw [h1, Nat.testBit_two_pow]; simp
  rw [Nat.testBit_and, Bool.and_eq_true] at this
  exact this.1
end Go.Proofs.YthbbnhhofkadgaaDoor
