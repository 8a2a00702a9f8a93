/- The plain law: an operation is found again from its string. -/
import Derived.Test.YtjjnjglbmneecaaDoorSl5
import Derived.Test.YtjjnjglbmneecaaDoorParts
namespace Go.Proofs.YtjjnjglbmneecaaDoor
open Go Go.RowKit
def digB (c : UInt8) : Prop := 48 ≤ c.toNat ∧ c.toNat ≤ 57
theorem dig_of {n : Nat} (h : n < 10) : digB (UInt8.ofNat (48 + n)) := by
  have : ∀ m : Fin 10, 48 ≤ (UInt8.ofNat (48 + m.val)).toNat ∧ (UInt8.ofNat (48 + m.val)).toNat ≤ 57 := by decide
  exact this ⟨n, h⟩
theorem dig_val {n : Nat} (h : n < 10) : (UInt8.ofNat (48 + n)).toNat - 48 = n := by
  have : ∀ m : Fin 10, (UInt8.ofNat (48 + m.val)).toNat - 48 = m.val := by decide
  exact this ⟨n, h⟩
theorem dec_digits (u : Nat) : Lib.decDigits u ≠ [] ∧ ∀ c ∈ Lib.decDigits u, digB c := by
  induction u using Nat.strongRecOn with
  | _ u ih =>
    rw [Lib.decDigits]
    by_cases h : u < 10
    · rw [dif_pos h]
      refine ⟨by simp, fun c hc => ?_⟩
      rw [List.mem_singleton.1 hc]; exact dig_of h
    · rw [dif_neg h]
      refine ⟨by simp, fun c hc => ?_⟩
      rcases List.mem_append.1 hc with hc | hc
      · exact (ih (u / 10) (by omega)).2 c hc
      · rw [List.mem_singleton.1 hc]; exact dig_of (Nat.mod_lt _ (by decide))
theorem pu_snoc (d : UInt8) (hd : digB d) : ∀ (l : List UInt8) (acc m : Nat), Lib.parseUint10 acc l = .ok m → m < 1000000000000000000 → Lib.parseUint10 acc (l ++ [d]) = .ok (m * 10 + (d.toNat - 48))
  | [], acc, m, h, hm => by
    have : acc = m := by simpa [Lib.parseUint10] using h
    subst this
    have hd2 := hd.2
    rw [List.nil_append, Lib.parseUint10, if_pos (show 48 ≤ d.toNat ∧ d.toNat ≤ 57 from hd), if_neg (by omega), if_neg (by omega)]
    rfl
  | c :: r, acc, m, h, hm => by
    rw [Lib.parseUint10] at h
    rw [List.cons_append, Lib.parseUint10]
    split at h
    · rename_i h1
      rw [if_pos h1]
      split at h
      · cases h
      · rename_i h2
        rw [if_neg h2]
        split at h
        · cases h
        · rename_i h3
          rw [if_neg h3]
          exact pu_snoc d hd r _ m h hm
    · cases h
theorem pu_dec (u : Nat) (hu : u < 1000000000000000000) : Lib.parseUint10 0 (Lib.decDigits u) = .ok u := by
  induction u using Nat.strongRecOn with
  | _ u ih =>
    rw [Lib.decDigits]
    by_cases h : u < 10
    · rw [dif_pos h, Lib.parseUint10, if_pos (show 48 ≤ (UInt8.ofNat (48 + u)).toNat ∧ (UInt8.ofNat (48 + u)).toNat ≤ 57 from dig_of h), if_neg (by omega), dig_val h, if_neg (by omega), Lib.parseUint10]
      congr 1; omega
    · rw [dif_neg h, pu_snoc _ (dig_of (Nat.mod_lt _ (by decide))) _ _ _ (ih (u / 10) (by omega) (by omega)) (by omega), dig_val (Nat.mod_lt _ (by decide))]
      congr 1; omega
theorem itoa_nat (n : Nat) : Lib.itoa (n : Int) = Lib.decDigits n := Lib.itoa_nonneg n
theorem atR_itoa (n : Nat) (hn : n < 1000000000000000000) : atR (Lib.itoa (n : Int)) = some (n : Int) := by
  rw [itoa_nat]
  have h1 := dec_digits n
  have h2 := pu_dec n hn
  unfold atR
  have : Lib.atoiAll (Lib.decDigits n) = .ok (n : Int) := by
    rcases h : Lib.decDigits n with _ | ⟨c, r⟩
    · exact absurd h h1.1
    · have hc := h1.2 c (by rw [h]; simp)
      rw [h] at h2
      unfold Lib.atoiAll
      simp only
      rw [if_neg (by unfold digB at hc; omega)]
      unfold Lib.parseMag
      rw [if_neg (by simp), h2]
      simp only
      rw [if_neg (by omega), if_neg (by unfold digB at hc; omega), if_neg (by unfold digB at hc; omega)]
  rw [this]
theorem itoa_free (n : Nat) {c : UInt8} (hc : ¬ digB c) : c ∉ Lib.itoa (n : Int) := by
  rw [itoa_nat]; exact fun h => hc ((dec_digits n).2 c h)
theorem spL_free {l : List UInt8} (h : (32 : UInt8) ∉ l) : spL l = (l, []) := by
  unfold spL Lib.cut
  rw [Lib.index_one, indexByte_free h]
  rfl
theorem spL_hit {l r : List UInt8} (h : (32 : UInt8) ∉ l) : spL (l ++ 32 :: r) = (l, r) := by
  unfold spL Lib.cut
  rw [Lib.index_one, indexByte_hit h]
  simp
theorem kixF_word : ∀ k : Nat, 0 < k → k < 10 → kixF (wordL k) 10 0 = k := by
  intro k h0 h1
  have : ∀ m : Fin 10, 0 < m.val → kixF (wordL m.val) 10 0 = m.val := by decide
  exact this ⟨k, h1⟩ h0
theorem word_free : ∀ k : Nat, k < 10 → (32 : UInt8) ∉ wordL k := by
  intro k h
  have : ∀ m : Fin 10, (32 : UInt8) ∉ wordL m.val := by decide
  exact this ⟨k, h⟩
theorem chk_iff {k a : Int} {v : List UInt8} : chkZ k a v = 0 ↔ 0 < k ∧ k < 10 ∧ validB k.toNat a v = true := by
  unfold chkZ
  split
  · rename_i h; exact ⟨fun _ => h, fun _ => rfl⟩
  · rename_i h; exact ⟨fun e => absurd e (by decide), fun e => absurd e h⟩
theorem unO_qL (v : List UInt8) : unO (qL v) = (0, v) := by unfold unO; rw [unq_qL]
theorem cntN_itoa (a : Int) (h0 : 0 ≤ a) (h1 : a ≤ 1000000) : cntN (Lib.itoa a) = a := by
  obtain ⟨n, rfl⟩ : ∃ n : Nat, a = n := ⟨a.toNat, by omega⟩
  unfold cntN; rw [atR_itoa n (by omega)]; rfl
theorem crash_num {a : Int} {v : List UInt8} (h : crashB a v = true) : 0 ≤ a ∧ a ≤ 1000000 := by
  unfold crashB at h
  split at h
  · have := of_decide_eq_true h; exact ⟨this.1, this.2.1⟩
  · cases h
/-- What is decoded behind the word of a valid operation. -/
theorem dec_enc {k : Nat} {a : Int} {v : List UInt8} (hk : 0 < k ∧ k < 10) (h : validB k a v = true) : decP k (spL (wordL k ++ encP k a v)).2 = (a, v) ∧ (spL (wordL k ++ encP k a v)).1 = wordL k := by
  have hv0 : ∀ {v : List UInt8}, v.length = 0 → v = [] := fun e => List.eq_nil_of_length_eq_zero e
  have hw := word_free k hk.2
  have hk' : k = 1 ∨ k = 2 ∨ k = 3 ∨ k = 4 ∨ k = 5 ∨ k = 6 ∨ k = 7 ∨ k = 8 ∨ k = 9 := by omega
  rcases hk' with rfl | rfl | rfl | rfl | rfl | rfl | rfl | rfl | rfl
  · have hv : a = 0 ∧ v.length ≤ 40000 := of_decide_eq_true h
    rw [show encP 1 a v = 32 :: qL v from rfl, spL_hit hw, hv.1]; exact ⟨unO_qL v, rfl⟩
  · have hv : 0 ≤ a ∧ a ≤ 1000000 ∧ v.length = 0 := of_decide_eq_true h
    rw [show encP 2 a v = 32 :: Lib.itoa a from rfl, spL_hit hw, hv0 hv.2.2]
    exact ⟨by show (cntN (Lib.itoa a), []) = _; rw [cntN_itoa a hv.1 hv.2.1], rfl⟩
  · have hv : a = 0 ∧ v.length ≤ 200 := of_decide_eq_true h
    rw [show encP 3 a v = 32 :: qL v from rfl, spL_hit hw, hv.1]; exact ⟨unO_qL v, rfl⟩
  · have hv : a = 0 ∧ v.length ≤ 200 := of_decide_eq_true h
    rw [show encP 4 a v = 32 :: qL v from rfl, spL_hit hw, hv.1]; exact ⟨unO_qL v, rfl⟩
  · have hv : a = 0 ∧ v.length ≤ 200 := of_decide_eq_true h
    rw [show encP 5 a v = 32 :: qL v from rfl, spL_hit hw, hv.1]; exact ⟨unO_qL v, rfl⟩
  · have hv : a = 0 ∧ v.length = 0 := of_decide_eq_true h
    rw [show encP 6 a v = [] from rfl, List.append_nil, spL_free hw, hv.1, hv0 hv.2]; exact ⟨rfl, rfl⟩
  · have hv : a = 0 ∧ v.length = 0 := of_decide_eq_true h
    rw [show encP 7 a v = [] from rfl, List.append_nil, spL_free hw, hv.1, hv0 hv.2]; exact ⟨rfl, rfl⟩
  · have hv : crashB a v = true := h
    have hn := crash_num hv
    rw [show encP 8 a v = 32 :: (Lib.itoa a ++ 32 :: v) from rfl, spL_hit hw]
    refine ⟨?_, rfl⟩
    obtain ⟨n, rfl⟩ : ∃ n : Nat, a = n := ⟨a.toNat, by omega⟩
    show (cntN (spL (Lib.itoa (n : Int) ++ 32 :: v)).1, (spL (Lib.itoa (n : Int) ++ 32 :: v)).2) = _
    rw [spL_hit (itoa_free n (by unfold digB; decide)), cntN_itoa _ hn.1 hn.2]
  · have hv : a = 0 ∧ v.length = 0 := of_decide_eq_true h
    rw [show encP 9 a v = [] from rfl, List.append_nil, spL_free hw, hv.1, hv0 hv.2]; exact ⟨rfl, rfl⟩
/-- A valid operation is found again from its string. -/
theorem par_pr {k a : Int} {v : List UInt8} (h : chkZ k a v = 0) : parO (prS k a v) = some (k, a, v) := by
  have hc := chk_iff.1 h
  obtain ⟨n, rfl⟩ : ∃ n : Nat, k = n := ⟨k.toNat, by omega⟩
  rw [Int.toNat_natCast] at hc
  have hp : prS n a v = wordL n ++ encP n a v := by unfold prS; rw [if_pos h]; rfl
  have hd := dec_enc ⟨by omega, by omega⟩ hc.2.2
  unfold parO
  simp only
  rw [hp, hd.2, kixF_word n (by omega) (by omega), if_neg (by omega), Int.toNat_natCast, hd.1]
  simp only
  rw [hp, if_pos ⟨h, rfl⟩]
theorem pr_inj {k a k' a' : Int} {v v' : List UInt8} (h : chkZ k a v = 0) (h' : chkZ k' a' v' = 0) (e : prS k a v = prS k' a' v') : (k, a, v) = (k', a', v') := by
  have := par_pr h
  rw [e, par_pr h'] at this
  exact (Option.some.inj this).symm
theorem splitC_free {l : List UInt8} (h : (44 : UInt8) ∉ l) : splitC l = [l] := by
  induction l with
  | nil => rfl
  | cons c r ih =>
    have hc : c ≠ 44 := fun e => h (by simp [e])
    rw [splitC, if_neg hc, ih (fun e => h (by simp [e]))]
theorem splitC_hit {l r : List UInt8} (h : (44 : UInt8) ∉ l) : splitC (l ++ 44 :: r) = l :: splitC r := by
  induction l with
  | nil => simp [splitC]
  | cons c t ih =>
    have hc : c ≠ 44 := fun e => h (by simp [e])
    rw [List.cons_append, splitC, if_neg hc, ih (fun e => h (by simp [e]))]
theorem numP_itoa (n : Nat) (hn : n < 1000000000000000000) : numP (Lib.itoa (n : Int)) = some (n : Int) := by
  unfold numP; rw [atR_itoa n hn]; simp
theorem itoa_plain (a : Int) : (Lib.itoa a).all plainB = true := by
  have hd : ∀ u, (Lib.decDigits u).all plainB = true := fun u => List.all_eq_true.2 fun c hc => by
    have := (dec_digits u).2 c hc
    unfold digB at this
    exact decide_eq_true (by omega)
  unfold Lib.itoa
  split
  · rw [List.all_cons, hd]; decide
  · exact hd _
theorem split_plain (v : List UInt8) (h : ∀ p ∈ splitC v, p.all plainB = true) : v.all plainB = true := by
  induction v with
  | nil => rfl
  | cons c r ih =>
    rw [splitC] at h
    by_cases hc : c = 44
    · rw [if_pos hc] at h
      rw [List.all_cons, ih (fun p hp => h p (List.mem_cons_of_mem _ hp)), hc]; decide
    · rw [if_neg hc] at h
      rcases hs : splitC r with _ | ⟨q, t⟩
      · exact absurd hs (splitC_ne r)
      · rw [hs] at h
        have h1 := h (c :: q) (by simp)
        rw [List.all_cons, Bool.and_eq_true] at h1
        rw [List.all_cons, h1.1, ih (fun p hp => by
          rw [hs] at hp
          rcases List.mem_cons.1 hp with rfl | hp
          · exact h1.2
          · exact h p (List.mem_cons_of_mem _ hp))]
        rfl
theorem plan_plain {v : List UInt8} {l : List Int} (h : planP v = some l) : v.all plainB = true := by
  refine split_plain v ?_
  unfold planP at h
  generalize splitC v = ps at h
  induction ps generalizing l with
  | nil => intro p hp; cases hp
  | cons q r ih =>
    simp only [numsP] at h
    split at h
    · rename_i n l' hn hl
      intro p hp
      rcases List.mem_cons.1 hp with rfl | hp
      · unfold numP at hn
        split at hn
        · rename_i m _
          by_cases hm : Lib.itoa m = p
          · rw [← hm]; exact itoa_plain m
          · rw [if_neg hm] at hn; cases hn
        · cases hn
      · exact ih hl p hp
    · cases h
theorem word_plain : ∀ k : Nat, k < 10 → (wordL k).all plainB = true := by
  intro k h
  have : ∀ m : Fin 10, (wordL m.val).all plainB = true := by decide
  exact this ⟨k, h⟩
/-- The string of a valid operation is printable ASCII. -/
theorem pr_plain {k a : Int} {v : List UInt8} (h : chkZ k a v = 0) : (prS k a v).all plainB = true := by
  have hc := chk_iff.1 h
  have hp : prS k a v = wordL k.toNat ++ encP k.toNat a v := by unfold prS; rw [if_pos h]
  rw [hp, List.all_append, word_plain _ (by omega), Bool.true_and]
  have h32 : plainB 32 = true := by decide
  have hk' : k = 1 ∨ k = 2 ∨ k = 3 ∨ k = 4 ∨ k = 5 ∨ k = 6 ∨ k = 7 ∨ k = 8 ∨ k = 9 := by omega
  rcases hk' with rfl | rfl | rfl | rfl | rfl | rfl | rfl | rfl | rfl
  · show (32 :: qL v).all plainB = true; rw [List.all_cons, h32, qL_plain]; rfl
  · show (32 :: Lib.itoa a).all plainB = true; rw [List.all_cons, h32, itoa_plain]; rfl
  · show (32 :: qL v).all plainB = true; rw [List.all_cons, h32, qL_plain]; rfl
  · show (32 :: qL v).all plainB = true; rw [List.all_cons, h32, qL_plain]; rfl
  · show (32 :: qL v).all plainB = true; rw [List.all_cons, h32, qL_plain]; rfl
  · rfl
  · rfl
  · obtain ⟨l, hl, _⟩ := chk8 h
    show (32 :: (Lib.itoa a ++ 32 :: v)).all plainB = true
    rw [List.all_cons, List.all_append, List.all_cons, h32, itoa_plain, plan_plain hl]; rfl
  · rfl
end Go.Proofs.YtjjnjglbmneecaaDoor
