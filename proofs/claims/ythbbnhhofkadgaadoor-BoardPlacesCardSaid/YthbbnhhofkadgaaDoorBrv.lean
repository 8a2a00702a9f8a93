/- The contract of Set.Flip: the bytes of a number, in the opposite order. No condition. -/
import Derived.Test.YthbbnhhofkadgaaDoorBrg
import Derived.Test.YthbbnhhofkadgaaDoorBst
namespace Go.Proofs.YthbbnhhofkadgaaDoor
open Go Go.RowKit
def rvA (s : Nat) : Nat := ((s / 256) &&& 71777214294589695) ||| ((s &&& 71777214294589695) * 256 % 18446744073709551616)
def rvB (s : Nat) : Nat := ((s / 65536) &&& 281470681808895) ||| ((s &&& 281470681808895) * 65536 % 18446744073709551616)
def rvC (s : Nat) : Nat := (s / 4294967296) ||| (s * 4294967296 % 18446744073709551616)
/-- The bytes of a number, in the opposite order. -/
def rev64 (s : Nat) : Nat := rvC (rvB (rvA s))
theorem p64v : (2 : Nat) ^ 64 = 18446744073709551616 := by decide
theorem wrapNv (x : Nat) : IntKind.u64.wrap (x : Int) = ((x % 18446744073709551616 : Nat) : Int) := by
  unfold IntKind.wrap; simp [IntKind.bits, IntKind.signed]
theorem or_ltv {a b : Nat} (ha : a < 18446744073709551616) (hb : b < 18446744073709551616) : a ||| b < 18446744073709551616 := by
  rw [← p64v] at *; exact Nat.or_lt_two_pow ha hb
theorem and_ltv {a b : Nat} (ha : a < 18446744073709551616) : a &&& b < 18446744073709551616 := Nat.lt_of_le_of_lt Nat.and_le_left ha
theorem rvA_lt {s : Nat} (h : s < 18446744073709551616) : rvA s < 18446744073709551616 := or_ltv (and_ltv (by omega)) (Nat.mod_lt _ (by decide))
theorem rvB_lt {s : Nat} (h : s < 18446744073709551616) : rvB s < 18446744073709551616 := or_ltv (and_ltv (by omega)) (Nat.mod_lt _ (by decide))
theorem rvC_lt {s : Nat} (h : s < 18446744073709551616) : rvC s < 18446744073709551616 := or_ltv (by omega) (Nat.mod_lt _ (by decide))
theorem rev64_lt {s : Nat} (h : s < 18446744073709551616) : rev64 s < 18446744073709551616 := rvC_lt (rvB_lt (rvA_lt h))
theorem stA {s : Nat} (h : s < 18446744073709551616) : bits BinOp.or IntKind.u64 (bits BinOp.and IntKind.u64 ((s : Int) / 256) 71777214294589695) (IntKind.u64.wrap (bits BinOp.and IntKind.u64 (s : Int) 71777214294589695 * 256)) = ((rvA s : Nat) : Int) := by
  have e1 : ((s : Int) / 256) = ((s / 256 : Nat) : Int) := by omega
  have e2 : (71777214294589695 : Int) = ((71777214294589695 : Nat) : Int) := rfl
  rw [e1, e2, u64_and_nat _ _ (by omega) (by decide), u64_and_nat _ _ h (by decide)]
  have e3 : (((s &&& 71777214294589695 : Nat) : Int) * 256) = (((s &&& 71777214294589695) * 256 : Nat) : Int) := by simp
  rw [e3, wrapNv, u64_or_nat _ _ (and_ltv (by omega)) (Nat.mod_lt _ (by decide))]; rfl
theorem stB {s : Nat} (h : s < 18446744073709551616) : bits BinOp.or IntKind.u64 (bits BinOp.and IntKind.u64 ((s : Int) / 65536) 281470681808895) (IntKind.u64.wrap (bits BinOp.and IntKind.u64 (s : Int) 281470681808895 * 65536)) = ((rvB s : Nat) : Int) := by
  have e1 : ((s : Int) / 65536) = ((s / 65536 : Nat) : Int) := by omega
  have e2 : (281470681808895 : Int) = ((281470681808895 : Nat) : Int) := rfl
  rw [e1, e2, u64_and_nat _ _ (by omega) (by decide), u64_and_nat _ _ h (by decide)]
  have e3 : (((s &&& 281470681808895 : Nat) : Int) * 65536) = (((s &&& 281470681808895) * 65536 : Nat) : Int) := by simp
  rw [e3, wrapNv, u64_or_nat _ _ (and_ltv (by omega)) (Nat.mod_lt _ (by decide))]; rfl
theorem stC {s : Nat} (h : s < 18446744073709551616) : bits BinOp.or IntKind.u64 ((s : Int) / 4294967296) (IntKind.u64.wrap ((s : Int) * 4294967296)) = ((rvC s : Nat) : Int) := by
  have e1 : ((s : Int) / 4294967296) = ((s / 4294967296 : Nat) : Int) := by omega
  have e3 : ((s : Int) * 4294967296) = ((s * 4294967296 : Nat) : Int) := by simp
  rw [e1, e3, wrapNv, u64_or_nat _ _ (by omega) (Nat.mod_lt _ (by decide))]; rfl
set_option maxRecDepth 100000 in
set_option maxHeartbeats 400000 in
theorem rev64_any (s : Nat) (hs : s < 18446744073709551616) (w : World) : Calls Tryd.prog 64 #[.int .u64 s] w fun e w' => e = .returned (.int .u64 (rev64 s : Nat)) ∧ w = w' := by
  have H := Lib.hid hs
  clear hs
  go_enter Tryd.func64, Tryd.ntmps64
  go_wp2
  go_ret
  refine ⟨ret_int ?_, rfl⟩
  simp only [stA H.out, stB (rvA_lt H.out), stC (rvB_lt (rvA_lt H.out))]; rfl
set_option maxHeartbeats 400000 in
theorem sflip_any (s : Nat) (hs : s < 18446744073709551616) (w : World) : Calls Tryd.prog 36 #[.int .u64 s] w fun e w' => e = .returned (.int .u64 (rev64 s : Nat)) ∧ w = w' := by
  have H := Lib.hid hs
  clear hs
  go_enter Tryd.func36, Tryd.ntmps36
  go_wp2_with (go_at_call 64; refine (rev64_any s H.out _).mono ?_; rintro e w' ⟨rfl, rfl⟩)
  go_ret
  exact ⟨rfl, rfl⟩
theorem mA (j : Nat) (h : j < 64) : Nat.testBit 71777214294589695 j = decide ((j / 8) % 2 = 0) := by
  have : ∀ i : Fin 64, Nat.testBit 71777214294589695 i.val = decide ((i.val / 8) % 2 = 0) := by decide +kernel
  exact this ⟨j, h⟩
theorem mB (j : Nat) (h : j < 64) : Nat.testBit 281470681808895 j = decide ((j / 16) % 2 = 0) := by
  have : ∀ i : Fin 64, Nat.testBit 281470681808895 i.val = decide ((i.val / 16) % 2 = 0) := by decide +kernel
  exact this ⟨j, h⟩
theorem tbA (s j : Nat) (h : j < 64) : (rvA s).testBit j = if (j / 8) % 2 = 0 then s.testBit (j + 8) else s.testBit (j - 8) := by
  unfold rvA
  rw [show (256 : Nat) = 2 ^ 8 from rfl, show (18446744073709551616 : Nat) = 2 ^ 64 from rfl]
  simp only [Nat.testBit_or, Nat.testBit_and, Nat.testBit_div_two_pow, Nat.testBit_mod_two_pow, Nat.testBit_mul_two_pow]
  rw [mA j h]
  by_cases h8 : 8 ≤ j
  · rw [mA (j - 8) (by omega)]
    by_cases c : (j / 8) % 2 = 0
    · have c2 : ¬ ((j - 8) / 8 % 2 = 0) := by omega
      simp [c, c2]
    · have c2 : ((j - 8) / 8 % 2 = 0) := by omega
      simp [c, c2, h, h8]
  · have c : (j / 8) % 2 = 0 := by omega
    have h9 : ¬ 8 ≤ j := h8
    simp [c, h9]
theorem tbB (s j : Nat) (h : j < 64) : (rvB s).testBit j = if (j / 16) % 2 = 0 then s.testBit (j + 16) else s.testBit (j - 16) := by
  unfold rvB
  rw [show (65536 : Nat) = 2 ^ 16 from rfl, show (18446744073709551616 : Nat) = 2 ^ 64 from rfl]
  simp only [Nat.testBit_or, Nat.testBit_and, Nat.testBit_div_two_pow, Nat.testBit_mod_two_pow, Nat.testBit_mul_two_pow]
  rw [mB j h]
  by_cases h8 : 16 ≤ j
  · rw [mB (j - 16) (by omega)]
    by_cases c : (j / 16) % 2 = 0
    · have c2 : ¬ ((j - 16) / 16 % 2 = 0) := by omega
      simp [c, c2]
    · have c2 : ((j - 16) / 16 % 2 = 0) := by omega
      simp [c, c2, h, h8]
  · have c : (j / 16) % 2 = 0 := by omega
    have h9 : ¬ 16 ≤ j := h8
    simp [c, h9]
theorem tbC (s j : Nat) (hs : s < 18446744073709551616) (h : j < 64) : (rvC s).testBit j = if j < 32 then s.testBit (j + 32) else s.testBit (j - 32) := by
  unfold rvC
  rw [show (4294967296 : Nat) = 2 ^ 32 from rfl, show (18446744073709551616 : Nat) = 2 ^ 64 from rfl]
  simp only [Nat.testBit_or, Nat.testBit_div_two_pow, Nat.testBit_mod_two_pow, Nat.testBit_mul_two_pow]
  by_cases h8 : j < 32
  · have h9 : ¬ 32 ≤ j := by omega
    simp [h8, h9]
  · have h9 : 32 ≤ j := by omega
    have h0 : s.testBit (j + 32) = false := Nat.testBit_lt_two_pow (Nat.lt_of_lt_of_le (by rw [← p64v] at hs; exact hs) (Nat.pow_le_pow_right (by decide) (by omega)))
    simp [h8, h9, h, h0]
theorem rev64_bit {s : Nat} (hs : s < 18446744073709551616) (j : Nat) (h : j < 64) : (rev64 s).testBit j = s.testBit (flI j) := by
  unfold rev64
  rw [tbC _ j (rvB_lt (rvA_lt hs)) h]
  have key : ∀ k, k < 64 → (rvB (rvA s)).testBit k = s.testBit (8 * ((k / 8 / 4) * 4 + 3 - (k / 8) % 4) + k % 8) := by
    intro k hk
    rw [tbB _ k hk]
    by_cases c : (k / 16) % 2 = 0
    · rw [if_pos c, tbA _ _ (by omega)]
      by_cases d : ((k + 16) / 8) % 2 = 0
      · rw [if_pos d]; congr 1; omega
      · rw [if_neg d]; congr 1; omega
    · rw [if_neg c, tbA _ _ (by omega)]
      by_cases d : ((k - 16) / 8) % 2 = 0
      · rw [if_pos d]; congr 1; omega
      · rw [if_neg d]; congr 1; omega
  by_cases c : j < 32
  · rw [if_pos c, key _ (by omega)]; congr 1; unfold flI; omega
  · rw [if_neg c, key _ (by omega)]; congr 1; unfold flI; omega
theorem bsum_bit (f : Int → Bool) (b : List Int) (k i : Nat) : (bsum f b k).testBit i = (decide (i < k) && (decide (inP (b.getD i 0)) && f (b.getD i 0))) := by
  induction k with
  | zero => simp [bsum]
  | succ k ih =>
    have hlt := bsum_lt f b k
    simp only [bsum]
    by_cases hc : inP (b.getD k 0) ∧ f (b.getD k 0) = true
    · rw [if_pos hc]
      have e : bsum f b k + 2 ^ k = 2 ^ k ||| bsum f b k := by
        have := Nat.two_pow_add_eq_or_of_lt hlt 1
        rw [Nat.mul_one] at this
        omega
      rw [e, Nat.testBit_or, Nat.testBit_two_pow, ih]
      by_cases h : i = k
      · subst h
        obtain ⟨h1, h2⟩ := hc
        generalize b.getD i 0 = p at h1 h2
        simp [h1, h2]
      · by_cases h2 : i < k
        · have h3 : i < k + 1 := by omega
          have h4 : ¬ k = i := by omega
          simp [h2, h3, h4]
        · have h3 : ¬ i < k + 1 := by omega
          have h4 : ¬ k = i := by omega
          simp [h2, h3, h4]
    · rw [if_neg hc, Nat.add_zero, ih]
      by_cases h : i = k
      · subst h
        have : (decide (inP (b.getD i 0)) && f (b.getD i 0)) = false := by
          rw [Bool.and_eq_false_iff]
          by_cases h1 : inP (b.getD i 0)
          · right; cases h2 : f (b.getD i 0) with
            | false => rfl
            | true => exact absurd ⟨h1, h2⟩ hc
          · left; exact decide_eq_false h1
        simp only [this]; simp
      · by_cases h2 : i < k
        · have h3 : i < k + 1 := by omega
          simp [h2, h3]
        · have h3 : ¬ i < k + 1 := by omega
          simp [h2, h3]
theorem bsum_lt64 (f : Int → Bool) (b : List Int) : bsum f b 64 < 18446744073709551616 := by have := bsum_lt f b 64; rw [p64v] at this; exact this
theorem swap_col {p : Int} (h0 : 0 ≤ p) (h1 : p ≤ 12) (c : Int) (hc : c = 0 ∨ c = 1) : (decide (inP (swapV p)) && isB (swapV p) c) = (decide (inP p) && isB p (1 - c)) := by
  obtain ⟨q, rfl⟩ := Int.eq_ofNat_of_zero_le h0
  have hq : q < 13 := by omega
  have : ∀ i : Fin 13, (decide (inP (swapV (i.val : Int))) && isB (swapV (i.val : Int)) 0) = (decide (inP (i.val : Int)) && isB (i.val : Int) 1) ∧ (decide (inP (swapV (i.val : Int))) && isB (swapV (i.val : Int)) 1) = (decide (inP (i.val : Int)) && isB (i.val : Int) 0) := by decide +kernel
  rcases hc with rfl | rfl
  · exact (this ⟨q, hq⟩).1
  · exact (this ⟨q, hq⟩).2
/-- The set of a color on the turned board is the set of the other color, turned. -/
theorem turned_col {b : List Int} (h : okB b) (c : Int) (hc : c = 0 ∨ c = 1) : bsum (fun x => isB x c) (flV b) 64 = rev64 (bsum (fun x => isB x (1 - c)) b 64) := by
  apply Nat.eq_of_testBit_eq
  intro i
  by_cases hi : i < 64
  · rw [bsum_bit, rev64_bit (bsum_lt64 _ _) i hi, bsum_bit, flV_t h, flK_get b 64 (by omega) i hi]
    have hl := flI_lt i
    rw [if_pos hl]
    have hb := okB_get h (flI i)
    have := swap_col hb.1 hb.2 c hc
    simp only [hi, hl, decide_true, Bool.true_and]
    exact this
  · have big : ∀ x, x < 18446744073709551616 → x.testBit i = false := fun x hx => Nat.testBit_lt_two_pow (Nat.lt_of_lt_of_le (by rw [← p64v] at hx; exact hx) (Nat.pow_le_pow_right (by decide) (by omega)))
    rw [big _ (bsum_lt64 _ _), big _ (rev64_lt (bsum_lt64 _ _))]
theorem flV_ok {b : List Int} (h : okB b) : okB (flV b) := by
  intro x hx
  obtain ⟨i, hi, rfl⟩ := List.mem_iff_getElem.1 hx
  have h1 : (flV b)[i] = (flV b).getD i 0 := by simp [hi]
  rw [flV_len] at hi
  rw [h1, flV_t h, flK_get b 64 (by omega) i hi, if_pos (flI_lt i)]
  have hb := okB_get h (flI i)
  generalize b.getD (flI i) 0 = p at hb
  unfold swapV
  split
  · split <;> omega
  · omega
theorem swapswap {p : Int} (h0 : 0 ≤ p) (h1 : p ≤ 12) : swapV (swapV p) = p := by
  obtain ⟨q, rfl⟩ := Int.eq_ofNat_of_zero_le h0
  have hq : q < 13 := by omega
  have : ∀ i : Fin 13, swapV (swapV (i.val : Int)) = (i.val : Int) := by decide +kernel
  exact this ⟨q, hq⟩
theorem flV_get {b : List Int} (h : okB b) (i : Nat) (hi : i < 64) : (flV b).getD i 0 = swapV (b.getD (flI i) 0) := by
  rw [flV_t h, flK_get b 64 (by omega) i hi, if_pos (flI_lt i)]
theorem flI_flI {i : Nat} (hi : i < 64) : flI (flI i) = i := by unfold flI; omega
theorem flV_flV {b : List Int} (hb : b.length = 64) (h : okB b) : flV (flV b) = b := by
  apply List.ext_getElem (by rw [flV_len, hb])
  intro i h1 h2
  have e1 : (flV (flV b))[i] = (flV (flV b)).getD i 0 := by simp [h1]
  have e2 : b[i] = b.getD i 0 := by simp [h2]
  rw [e1, e2, flV_get (flV_ok h) i (by omega), flV_get h _ (flI_lt i), flI_flI (by omega)]
  have := okB_get h i
  exact swapswap this.1 this.2
end Go.Proofs.YthbbnhhofkadgaaDoor
