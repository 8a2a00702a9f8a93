/- What is decoded, and what is not, in plain terms. No condition. -/
import Derived.Test.YtcnflmbnnobocaaDoorMrp
namespace Go.Proofs.YtcnflmbnnobocaaDoor
open Go Go.RowKit
theorem digq {a r s : Int} (g : s = a + 16 * r) (m : 0 ≤ a ∧ a ≤ 15) : s % 16 = a ∧ s / 16 = r := by omega
theorem dv2 (s : Int) : s / 256 = s / 16 / 16 := by omega
theorem dv3 (s : Int) : s / 4096 = s / 256 / 16 := by omega
theorem dv4 (s : Int) : s / 65536 = s / 4096 / 16 := by omega
theorem dv5 (s : Int) : s / 1048576 = s / 65536 / 16 := by omega
theorem dv6 (s : Int) : s / 16777216 = s / 1048576 / 16 := by omega
theorem dv7 (s : Int) : s / 268435456 = s / 16777216 / 16 := by omega
theorem dv8 (s : Int) : s / 4294967296 = s / 268435456 / 16 := by omega
theorem dv9 (s : Int) : s / 68719476736 = s / 4294967296 / 16 := by omega
theorem prs_sgn {l : List Int} (hl : l.length = 10) (h : okL l) : prsOk (sgnL l) ∧ prsV (sgnL l) = l ∧ 0 ≤ sgnL l ∧ sgnL l < 1099511627776 := by
  have hm := okL_mem hl h
  obtain ⟨a0, a1, a2, a3, a4, a5, a6, a7, a8, a9, rfl⟩ := list10 l hl
  have m0 := hm a0 (by simp)
  have m1 := hm a1 (by simp)
  have m2 := hm a2 (by simp)
  have m3 := hm a3 (by simp)
  have m4 := hm a4 (by simp)
  have m5 := hm a5 (by simp)
  have m6 := hm a6 (by simp)
  have m7 := hm a7 (by simp)
  have m8 := hm a8 (by simp)
  have m9 := hm a9 (by simp)
  clear hm
  have e : sgnL [a0, a1, a2, a3, a4, a5, a6, a7, a8, a9] = a0 + a1 * 16 + a2 * 256 + a3 * 4096 + a4 * 65536 + a5 * 1048576 + a6 * 16777216 + a7 * 268435456 + a8 * 4294967296 + a9 * 68719476736 := sgnM_t h
  generalize hs : sgnL [a0, a1, a2, a3, a4, a5, a6, a7, a8, a9] = s at *
  obtain ⟨r9, g9⟩ : ∃ r, r = a9 := ⟨_, rfl⟩
  obtain ⟨r8, g8⟩ : ∃ r, r = a8 + 16 * r9 := ⟨_, rfl⟩
  obtain ⟨r7, g7⟩ : ∃ r, r = a7 + 16 * r8 := ⟨_, rfl⟩
  obtain ⟨r6, g6⟩ : ∃ r, r = a6 + 16 * r7 := ⟨_, rfl⟩
  obtain ⟨r5, g5⟩ : ∃ r, r = a5 + 16 * r6 := ⟨_, rfl⟩
  obtain ⟨r4, g4⟩ : ∃ r, r = a4 + 16 * r5 := ⟨_, rfl⟩
  obtain ⟨r3, g3⟩ : ∃ r, r = a3 + 16 * r4 := ⟨_, rfl⟩
  obtain ⟨r2, g2⟩ : ∃ r, r = a2 + 16 * r3 := ⟨_, rfl⟩
  obtain ⟨r1, g1⟩ : ∃ r, r = a1 + 16 * r2 := ⟨_, rfl⟩
  obtain ⟨r0, g0⟩ : ∃ r, r = a0 + 16 * r1 := ⟨_, rfl⟩
  have n9 : 0 ≤ r9 ∧ r9 ≤ 15 := by omega
  have n8 : 0 ≤ r8 ∧ r8 < 256 := by omega
  have n7 : 0 ≤ r7 ∧ r7 < 4096 := by omega
  have n6 : 0 ≤ r6 ∧ r6 < 65536 := by omega
  have n5 : 0 ≤ r5 ∧ r5 < 1048576 := by omega
  have n4 : 0 ≤ r4 ∧ r4 < 16777216 := by omega
  have n3 : 0 ≤ r3 ∧ r3 < 268435456 := by omega
  have n2 : 0 ≤ r2 ∧ r2 < 4294967296 := by omega
  have n1 : 0 ≤ r1 ∧ r1 < 68719476736 := by omega
  have n0 : 0 ≤ r0 ∧ r0 < 1099511627776 := by omega
  have hs0 : s = r0 := by rw [e, g0, g1, g2, g3, g4, g5, g6, g7, g8, g9]; omega
  clear e hs
  subst hs0
  have e0 : s % 16 = a0 := (digq g0 m0).1
  have q1 : s / 16 = r1 := (digq g0 m0).2
  have e1 : s / 16 % 16 = a1 := by rw [q1]; exact (digq g1 m1).1
  have q2 : s / 256 = r2 := by rw [dv2 s, q1]; exact (digq g1 m1).2
  have e2 : s / 256 % 16 = a2 := by rw [q2]; exact (digq g2 m2).1
  have q3 : s / 4096 = r3 := by rw [dv3 s, q2]; exact (digq g2 m2).2
  have e3 : s / 4096 % 16 = a3 := by rw [q3]; exact (digq g3 m3).1
  have q4 : s / 65536 = r4 := by rw [dv4 s, q3]; exact (digq g3 m3).2
  have e4 : s / 65536 % 16 = a4 := by rw [q4]; exact (digq g4 m4).1
  have q5 : s / 1048576 = r5 := by rw [dv5 s, q4]; exact (digq g4 m4).2
  have e5 : s / 1048576 % 16 = a5 := by rw [q5]; exact (digq g5 m5).1
  have q6 : s / 16777216 = r6 := by rw [dv6 s, q5]; exact (digq g5 m5).2
  have e6 : s / 16777216 % 16 = a6 := by rw [q6]; exact (digq g6 m6).1
  have q7 : s / 268435456 = r7 := by rw [dv7 s, q6]; exact (digq g6 m6).2
  have e7 : s / 268435456 % 16 = a7 := by rw [q7]; exact (digq g7 m7).1
  have q8 : s / 4294967296 = r8 := by rw [dv8 s, q7]; exact (digq g7 m7).2
  have e8 : s / 4294967296 % 16 = a8 := by rw [q8]; exact (digq g8 m8).1
  have q9 : s / 68719476736 = r9 := by rw [dv9 s, q8]; exact (digq g8 m8).2
  have e9 : s / 68719476736 % 16 = a9 := by rw [q9, g9]; omega
  have b0 : 0 ≤ s := n0.1
  have b1 : s < 1099511627776 := n0.2
  have ok : prsOk s := by
    refine ⟨b1, ?_⟩
    rw [e0, e1, e2, e3, e4, e5, e6, e7, e8, e9]
    exact h
  refine ⟨ok, ?_, b0, b1⟩
  rw [prsV_t ok]
  unfold digL
  rw [e0, e1, e2, e3, e4, e5, e6, e7, e8, e9]
theorem prs_ok {n : Int} (h0 : 0 ≤ n) (h : prsOk n) : okL (prsV n) ∧ sgnL (prsV n) = n := by
  obtain ⟨h1, h2⟩ := h
  have e : prsV n = digL n := if_pos ⟨h1, h2⟩
  rw [e]
  refine ⟨h2, ?_⟩
  have e2 : sgnL (digL n) = sgnM (n % 16) (n / 16 % 16) (n / 256 % 16) (n / 4096 % 16) (n / 65536 % 16) (n / 1048576 % 16) (n / 16777216 % 16) (n / 268435456 % 16) (n / 4294967296 % 16) (n / 68719476736 % 16) := rfl
  rw [e2, sgnM_t h2]
  exact sum_lt h0 h1
theorem sgnL_inj {l m : List Int} (hl : l.length = 10) (h : okL l) (hm : m.length = 10) (h' : okL m) (e : sgnL l = sgnL m) : l = m := by
  have h1 := (prs_sgn hl h).2.1
  have h2 := (prs_sgn hm h').2.1
  rw [e] at h1
  exact h1.symm.trans h2
theorem txtL_inj {l m : List Int} (hl : l.length = 10) (h : okL l) (hm : m.length = 10) (h' : okL m) (e : txtL l = txtL m) : l = m := by
  rw [← (rd_txt hl h).2, e, (rd_txt hm h').2]
theorem chkL_ok {l : List Int} (h : okL l) : chkL l = 0 := if_pos h
theorem rd_okL {s : ByteArray} (h : rdOk s) : okL (rdV s) := by rw [rdV_t h]; exact h.2

theorem words_txt {l : List Int} (hl : l.length = 10) (h : okL l) : wordsOf (txtL l) = l.map fun x => Lib.decDigits x.toNat := by
  have hm := okL_mem hl h
  have e : txtL l = txtN (l.map Int.toNat) := by
    obtain ⟨a0, a1, a2, a3, a4, a5, a6, a7, a8, a9, rfl⟩ := list10 l hl
    exact txtM_t h
  rw [e]
  show parts 32 (Lib.join ((l.map Int.toNat).map Lib.decDigits) [32]) = _
  rw [List.map_map]
  match l, hl, hm with
  | x :: r, _, hm =>
    exact parts_join 32 _ _ (by
      intro y hy
      rw [← List.map_cons] at hy
      simp only [List.mem_map] at hy
      obtain ⟨z, hz, rfl⟩ := hy
      exact digits_free _ (by have := hm z hz; omega))
theorem partsA_end (c : UInt8) (a r : List UInt8) : ∀ acc, partsA c acc (a ++ c :: r) = partsA c acc a ++ partsA c [] r := by
  induction a with
  | nil => intro acc; simp [partsA]
  | cons x a ih =>
    intro acc
    show partsA c acc (x :: (a ++ c :: r)) = _
    rw [partsA_cons, partsA_cons]
    split
    · rw [ih]; rfl
    · rw [ih]
theorem digit_byte (n : Nat) (h : n ≤ 15) : ∀ x ∈ Lib.decDigits n, 48 ≤ x ∧ x ≤ 57 := by
  have key : ∀ n, n < 16 → ∀ x ∈ Lib.decDigits n, (48 : UInt8) ≤ x ∧ x ≤ 57 := by decide +kernel
  exact key n (by omega)
theorem digit_ne (n : Nat) (h : n ≤ 15) : Lib.decDigits n ≠ [] := by
  have key : ∀ n, n < 16 → Lib.decDigits n ≠ [] := by decide +kernel
  exact key n (by omega)
theorem digit_zero (n m : Nat) (h : n ≤ 15) (h' : m ≤ 15) : 48 :: Lib.decDigits n ≠ Lib.decDigits m := by
  have key : ∀ n, n < 16 → ∀ m, m < 16 → (48 : UInt8) :: Lib.decDigits n ≠ Lib.decDigits m := by decide +kernel
  exact key n (by omega) m (by omega)
theorem join_mem (xs : List (List UInt8)) (c : UInt8) : ∀ b ∈ Lib.join xs [c], b = c ∨ ∃ x ∈ xs, b ∈ x := by
  induction xs with
  | nil => intro b hb; simp [Lib.join] at hb
  | cons x r ih =>
    intro b hb
    cases r with
    | nil => rw [join_one] at hb; exact .inr ⟨x, by simp, hb⟩
    | cons y s =>
      rw [join_cons] at hb
      simp only [List.mem_append, List.mem_singleton] at hb
      rcases hb with hb | hb | hb
      · exact .inr ⟨x, by simp, hb⟩
      · exact .inl hb
      · rcases ih b hb with h | ⟨z, hz, h⟩
        · exact .inl h
        · exact .inr ⟨z, by simp at hz ⊢; exact .inr hz, h⟩
/-- The bytes of what is decoded are blanks and digits. -/
theorem rd_bytes {t : ByteArray} (h : rdOk t) : ∀ b ∈ t.data.toList, b = 32 ∨ (48 ≤ b ∧ b ≤ 57) := by
  intro b hb
  have e : Lib.join (wordsOf t) [32] = t.data.toList := join_parts 32 t.data.toList
  rw [← e] at hb
  rcases join_mem _ _ b hb with h1 | ⟨x, hx, h1⟩
  · exact .inl h1
  · obtain ⟨n, hn, _, rfl⟩ := rd_words h x hx
    exact .inr (digit_byte n hn b h1)
section
variable {l : List Int} (hl : l.length = 10) (h : okL l)
include hl h
theorem txt_ne : (txtL l).data.toList ≠ [] := by
  intro e
  have hw := words_txt hl h
  unfold wordsOf parts at hw
  rw [e] at hw
  have := congrArg List.length hw
  simp [partsA, hl] at this
theorem no_front : ¬ rdOk (⟨#[32]⟩ ++ txtL l) := fun hr => by
  have h1 := hr.1
  have e : wordsOf (⟨#[32]⟩ ++ txtL l) = [] :: wordsOf (txtL l) := by
    unfold wordsOf parts
    rw [ba_append]
    show partsA 32 [] (32 :: (txtL l).data.toList) = _
    rw [partsA_cons, if_pos rfl]
  rw [e, words_txt hl h] at h1
  simp [hl] at h1
theorem no_end : ¬ rdOk (txtL l ++ ⟨#[32]⟩) := fun hr => by
  have h1 := hr.1
  have e : wordsOf (txtL l ++ ⟨#[32]⟩) = wordsOf (txtL l) ++ [[]] := by
    unfold wordsOf parts
    rw [ba_append]
    exact partsA_end 32 _ [] []
  rw [e, words_txt hl h] at h1
  simp [hl] at h1
theorem no_more : ¬ rdOk (txtL l ++ ⟨#[32, 48]⟩) := fun hr => by
  have h1 := hr.1
  have e : wordsOf (txtL l ++ ⟨#[32, 48]⟩) = wordsOf (txtL l) ++ [[48]] := by
    unfold wordsOf parts
    rw [ba_append]
    exact partsA_end 32 _ [48] []
  rw [e, words_txt hl h] at h1
  simp [hl] at h1
theorem no_zero : ¬ rdOk (⟨#[48]⟩ ++ txtL l) := fun hr => by
  have hw := words_txt hl h
  obtain ⟨p, ps, h1, h2⟩ := partsA_acc (c := 32) (txtL l).data.toList [48]
  have e : wordsOf (⟨#[48]⟩ ++ txtL l) = (48 :: p) :: ps := by
    unfold wordsOf parts
    rw [ba_append]
    show partsA 32 [] (48 :: (txtL l).data.toList) = _
    rw [partsA_cons, if_neg (by decide)]
    exact h2
  have hp : p ∈ wordsOf (txtL l) := by unfold wordsOf parts; rw [h1]; simp
  rw [hw] at hp
  obtain ⟨x, hx, rfl⟩ := List.mem_map.1 hp
  have hm := okL_mem hl h x hx
  obtain ⟨n, hn, _, h3⟩ := rd_words hr (48 :: Lib.decDigits x.toNat) (by rw [e]; simp)
  exact digit_zero x.toNat n (by omega) hn h3
omit hl h in
theorem no_feed : ¬ rdOk (txtL l ++ ⟨#[10]⟩) := fun hr => by
  have := rd_bytes hr 10 (by rw [ba_append]; simp)
  revert this; decide
omit hl h in
theorem no_plus : ¬ rdOk (⟨#[43]⟩ ++ txtL l) := fun hr => by
  have := rd_bytes hr 43 (by rw [ba_append]; simp)
  revert this; decide
end
end Go.Proofs.YtcnflmbnnobocaaDoor
