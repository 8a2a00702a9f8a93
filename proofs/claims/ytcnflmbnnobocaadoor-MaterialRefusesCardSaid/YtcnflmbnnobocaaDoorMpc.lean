/- How often pieces stand on a board; what becomes of it when one is put, taken, or all are turned. No condition. -/
import Derived.Test.YtcnflmbnnobocaaDoorMof
namespace Go.Proofs.YtcnflmbnnobocaaDoor
open Go Go.RowKit
/-- How often the pieces of place j + 1 stand in a list. -/
def npc (b : List Int) (j : Nat) : Nat := b.countP (fun p => plc p == (j : Int) + 1)
theorem plc_bd (p : Int) : 0 ≤ plc p ∧ plc p ≤ 10 := by unfold plc; split; · omega
                                                        split <;> omega
theorem cnt1_get (l : List Int) (p : Int) (hl : l.length = 10) (j : Nat) (hj : j < 10) : (cnt1 l p).getD j 0 = l.getD j 0 + if plc p = (j : Int) + 1 then 1 else 0 := by
  unfold cnt1
  have hb := plc_bd p
  by_cases h0 : plc p = 0
  · rw [if_pos h0, if_neg (by omega)]; omega
  · rw [if_neg h0]
    by_cases hj' : plc p = (j : Int) + 1
    · rw [if_pos hj']
      have : (plc p - 1).toNat = j := by omega
      rw [this]
      simp [List.getD_eq_getElem?_getD, hl, hj]
    · rw [if_neg hj']
      have : (plc p - 1).toNat ≠ j := by omega
      generalize (plc p - 1).toNat = q at *
      simp only [List.getD_eq_getElem?_getD, List.getElem?_set, if_neg this]; omega
theorem cnt_get (b : List Int) : ∀ (l : List Int), l.length = 10 → ∀ j, j < 10 → (cnt l b).getD j 0 = l.getD j 0 + (npc b j : Int) := by
  induction b with
  | nil => intro l hl j hj; simp [cnt, npc]
  | cons p b ih =>
    intro l hl j hj
    show (cnt (cnt1 l p) b).getD j 0 = _
    rw [ih _ (by rw [cnt1_len, hl]) j hj, cnt1_get l p hl j hj]
    unfold npc
    rw [List.countP_cons]
    by_cases h : plc p = (j : Int) + 1
    · simp [h]; omega
    · simp [h]
theorem matVlen (b : List Int) : (matV b).length = 10 := cnt_len _ _
theorem matV_get (b : List Int) (j : Nat) (hj : j < 10) : (matV b).getD j 0 = (npc b j : Int) := by
  unfold matV
  rw [cnt_get b zero10 rfl j hj]
  have : zero10.getD j 0 = 0 := by
    unfold zero10
    rcases j with _ | _ | _ | _ | _ | _ | _ | _ | _ | _ | j <;> simp
  omega
theorem ext10 {l m : List Int} (hl : l.length = 10) (hm : m.length = 10) (h : ∀ j, j < 10 → l.getD j 0 = m.getD j 0) : l = m := by
  apply List.ext_getElem?
  intro i
  by_cases hi : i < 10
  · have := h i hi
    simpa [List.getD_eq_getElem?_getD, hl, hm, hi] using this
  · rw [List.getElem?_eq_none (by omega), List.getElem?_eq_none (by omega)]
theorem npc_set (b : List Int) (i : Nat) (x : Int) (hi : i < b.length) (j : Nat) : (npc (b.set i x) j : Int) = (npc b j : Int) - (if plc (b.getD i 0) = (j : Int) + 1 then 1 else 0) + (if plc x = (j : Int) + 1 then 1 else 0) := by
  unfold npc
  induction b generalizing i with
  | nil => simp at hi
  | cons p b ih =>
    cases i with
    | zero =>
      simp only [List.set_cons_zero, List.countP_cons, List.getD_cons_zero]
      by_cases h1 : plc p = (j : Int) + 1 <;> by_cases h2 : plc x = (j : Int) + 1 <;> simp [h1, h2] <;> omega
    | succ i =>
      have := ih i (by simpa using hi)
      simp only [List.set_cons_succ, List.countP_cons, List.getD_cons_succ]
      by_cases h1 : plc p = (j : Int) + 1 <;> simp only [h1, beq_iff_eq, if_true, if_false] <;> omega
/-- A square on which nothing counts gets a piece. -/
theorem matV_put (b : List Int) (i : Nat) (x : Int) (hi : i < b.length) (h0 : plc (b.getD i 0) = 0) : matV (b.set i x) = cnt1 (matV b) x := by
  refine ext10 (matVlen _) (by rw [cnt1_len, matVlen]) fun j hj => ?_
  rw [cnt1_get _ _ (matVlen _) j hj, matV_get _ j hj, matV_get _ j hj, npc_set b i x hi j, if_neg (by omega)]; omega
/-- A square is emptied. -/
theorem matV_take (b : List Int) (i : Nat) (hi : i < b.length) (k : Nat) (hk : plc (b.getD i 0) = (k : Int) + 1) : matV (b.set i 0) = (matV b).set k ((matV b).getD k 0 - 1) := by
  have hb := plc_bd (b.getD i 0)
  refine ext10 (matVlen _) (by rw [List.length_set, matVlen]) fun j hj => ?_
  have h0 : plc 0 = 0 := by decide
  rw [matV_get _ j hj, npc_set b i 0 hi j, h0, if_neg (by omega : ¬ (0 : Int) = (j : Int) + 1), hk]
  by_cases e : k = j
  · subst e
    have : k < (matV b).length := by rw [matVlen]; omega
    simp [List.getD_eq_getElem?_getD, this]
    have := matV_get b k hj
    rw [List.getD_eq_getElem?_getD] at this
    simp [matVlen, hj] at this
    omega
  · have h1 := matV_get b j hj
    rw [List.getD_eq_getElem?_getD] at h1
    simp only [List.getD_eq_getElem?_getD, List.getElem?_set, if_neg e, h1]
    rw [if_neg (by omega)]; omega
theorem matV_same (b : List Int) (i : Nat) (x : Int) (hi : i < b.length) (h0 : plc (b.getD i 0) = 0) (hx : plc x = 0) : matV (b.set i x) = matV b := by
  rw [matV_put b i x hi h0]; unfold cnt1; rw [if_pos hx]
/-- The other color's piece. -/
def swp (p : Int) : Int := if 6 < p then p - 6 else if 0 < p then p + 6 else 0
theorem plc_swp (p : Int) (h0 : 0 ≤ p) (h1 : p ≤ 12) (j : Nat) (hj : j < 10) : (plc (swp p) == (j : Int) + 1) = (plc p == (((j + 5) % 10 : Nat) : Int) + 1) := by
  have key : ∀ q : Nat, q < 13 → ∀ j : Nat, j < 10 → (plc (swp (q : Int)) == (j : Int) + 1) = (plc (q : Int) == (((j + 5) % 10 : Nat) : Int) + 1) := by decide +kernel
  obtain ⟨q, rfl⟩ := Int.eq_ofNat_of_zero_le h0
  exact key q (by omega) j hj
def halfL (l : List Int) : List Int := (List.range 10).map fun j => l.getD ((j + 5) % 10) 0
theorem matV_turn (b : List Int) (hb : ∀ x ∈ b, 0 ≤ x ∧ x ≤ 12) : matV (b.map swp).reverse = halfL (matV b) := by
  refine ext10 (matVlen _) (by simp [halfL]) fun j hj => ?_
  rw [matV_get _ j hj]
  have e : (halfL (matV b)).getD j 0 = (matV b).getD ((j + 5) % 10) 0 := by
    simp [halfL, List.getD_eq_getElem?_getD, hj]
  rw [e, matV_get _ _ (by omega)]
  unfold npc
  rw [List.countP_reverse, List.countP_map]
  congr 1
  apply List.countP_congr
  intro x hx
  have := plc_swp x (hb x hx).1 (hb x hx).2 j hj
  simp only [Function.comp]
  rw [this]
/-- How many squares are not free. -/
def nzc (b : List Int) : Nat := b.countP (fun p => p != 0)
theorem nzc_set (b : List Int) (i : Nat) (x : Int) (hi : i < b.length) (h0 : b.getD i 0 = 0) (hx : x ≠ 0) : nzc (b.set i x) = nzc b + 1 := by
  unfold nzc
  induction b generalizing i with
  | nil => simp at hi
  | cons p b ih =>
    cases i with
    | zero =>
      simp only [List.getD_cons_zero] at h0
      subst h0
      simp [hx]
    | succ i =>
      simp only [List.getD_cons_succ] at h0
      have := ih i (by simpa using hi) h0
      simp only [List.set_cons_succ, List.countP_cons]
      omega
theorem nzc_free (b : List Int) (h : nzc b < b.length) : ∃ f, f < b.length ∧ b.getD f 0 = 0 := by
  unfold nzc at h
  induction b with
  | nil => simp at h
  | cons p b ih =>
    by_cases hp : p = 0
    · exact ⟨0, by simp, by simp [hp]⟩
    · rw [List.countP_cons] at h
      have : (p != 0) = true := by rw [bne_iff_ne]; exact hp
      rw [this] at h
      simp only [if_true, List.length_cons] at h
      obtain ⟨f, h1, h2⟩ := ih (by omega)
      exact ⟨f + 1, by simp; omega, by simpa using h2⟩
def zero64 : List Int := [0, 0, 0, 0, 0, 0, 0, 0, 0, 0, 0, 0, 0, 0, 0, 0, 0, 0, 0, 0, 0, 0, 0, 0, 0, 0, 0, 0, 0, 0, 0, 0, 0, 0, 0, 0, 0, 0, 0, 0, 0, 0, 0, 0, 0, 0, 0, 0, 0, 0, 0, 0, 0, 0, 0, 0, 0, 0, 0, 0, 0, 0, 0, 0]
/-- A board under way: m pieces have been put, of place j + 1 so many; where the next one is looked for. -/
structure Fl (fr st : Int) (b : List Int) (at_ : Int) (m : Nat) (c : Nat → Int) : Prop where
  len : b.length = 64
  rng : ∀ x ∈ b, 0 ≤ x ∧ x ≤ 12
  nz : nzc b = m
  cnt : ∀ j, j < 10 → (npc b j : Int) = c j
  at0 : 0 ≤ at_
  at1 : at_ ≤ 255 + 400 * m
  one : fr = 0 → st = 1 → at_ = m ∧ ∀ i, m ≤ i → i < 64 → b.getD i 0 = 0
theorem Fl.start (fr st : Int) (h0 : 0 ≤ fr) (h1 : fr ≤ 255) : Fl fr st zero64 fr 0 (fun _ => 0) where
  len := rfl
  rng := by decide
  nz := by decide
  cnt := by decide
  at0 := h0
  at1 := by omega
  one := fun h _ => ⟨by omega, fun i _ h2 => (by decide : ∀ i, i < 64 → zero64.getD i 0 = 0) i h2⟩
theorem Fl.put {fr st : Int} {b : List Int} {at_ : Int} {m : Nat} {c c' : Nat → Int} (h : Fl fr st b at_ m c) (s0 : 0 ≤ st) (s1 : st ≤ 255) (hm : m < 64) {d : Nat} (hd : d < 64) (hz : b.getD ((at_ + d) % 64).toNat 0 = 0) (hn : ∀ i : Nat, i < d → b.getD ((at_ + i) % 64).toNat 0 ≠ 0)
    (p : Int) (p0 : 1 ≤ p) (p1 : p ≤ 12) (hc : ∀ j, j < 10 → c' j = c j + if plc p = (j : Int) + 1 then 1 else 0) : Fl fr st (b.set ((at_ + d) % 64).toNat p) (at_ + d + st) (m + 1) c' := by
  have hlen := h.len
  have a0 := h.at0
  have a1 := h.at1
  have hi : ((at_ + d) % 64).toNat < b.length := by omega
  refine ⟨by simpa using hlen, ?_, ?_, ?_, by omega, by omega, ?_⟩
  · intro x hx
    rcases List.mem_or_eq_of_mem_set hx with hx | rfl
    · exact h.rng x hx
    · omega
  · rw [nzc_set b _ p hi hz (by omega), h.nz]
  · intro j hj
    have h0 : plc 0 = 0 := by decide
    rw [npc_set b _ p hi j, hz, h0, if_neg (by omega : ¬ (0 : Int) = (j : Int) + 1), h.cnt j hj, hc j hj]; omega
  · intro hf hs
    obtain ⟨e, hr⟩ := h.one hf hs
    have hd0 : d = 0 := by
      by_cases hd0 : d = 0
      · exact hd0
      · exact absurd (hr ((at_ + ((0 : Nat) : Int)) % 64).toNat (by omega) (by omega)) (hn 0 (by omega))
    subst hd0
    refine ⟨by omega, fun i h1 h2 => ?_⟩
    have hne : ((at_ + ((0 : Nat) : Int)) % 64).toNat ≠ i := by omega
    have := hr i (by omega) h2
    rw [List.getD_eq_getElem?_getD] at this ⊢
    rw [List.getElem?_set, if_neg hne]; exact this
theorem Fl.free {fr st : Int} {b : List Int} {at_ : Int} {m : Nat} {c : Nat → Int} (h : Fl fr st b at_ m c) (hm : m < 64) : ∃ f, f < 64 ∧ b.getD f 0 = 0 := by
  have := nzc_free b (by rw [h.nz, h.len]; exact hm)
  rw [h.len] at this
  exact this
/-- The counts behind i kinds and k pieces more. -/
def cAt (l : List Int) (i k : Nat) (j : Nat) : Int := if j < i then l.getD j 0 else if j = i then k else 0
theorem cAt_next (l : List Int) (i : Nat) (k : Nat) (hk : l.getD i 0 = k) : cAt l i k = cAt l (i + 1) 0 := by
  funext j
  unfold cAt
  by_cases h1 : j < i
  · rw [if_pos h1, if_pos (by omega)]
  · by_cases h2 : j = i
    · subst h2; rw [if_neg h1, if_pos rfl, if_pos (by omega), hk]
    · rw [if_neg h1, if_neg h2, if_neg (by omega)]; split <;> rfl
theorem plc_of (i : Nat) (hi : i < 10) : plc (1 + (i : Int) % 5 + 6 * ((i : Int) / 5)) = (i : Int) + 1 ∧ 1 ≤ 1 + (i : Int) % 5 + 6 * ((i : Int) / 5) ∧ 1 + (i : Int) % 5 + 6 * ((i : Int) / 5) ≤ 12 :=
  (by decide : ∀ i : Nat, i < 10 → plc (1 + (i : Int) % 5 + 6 * ((i : Int) / 5)) = (i : Int) + 1 ∧ 1 ≤ 1 + (i : Int) % 5 + 6 * ((i : Int) / 5) ∧ 1 + (i : Int) % 5 + 6 * ((i : Int) / 5) ≤ 12) i hi
theorem cAt_put (l : List Int) (i k : Nat) (hi : i < 10) : ∀ j, j < 10 → cAt l i (k + 1) j = cAt l i k j + if plc (1 + (i : Int) % 5 + 6 * ((i : Int) / 5)) = (j : Int) + 1 then 1 else 0 := by
  intro j hj
  rw [(plc_of i hi).1]
  unfold cAt
  by_cases h1 : j < i
  · rw [if_pos h1, if_pos h1, if_neg (by omega)]; omega
  · by_cases h2 : j = i
    · subst h2; rw [if_neg h1, if_pos rfl, if_neg h1, if_pos rfl, if_pos rfl]; omega
    · rw [if_neg h1, if_neg h2, if_neg h1, if_neg h2, if_neg (by omega)]; omega
def sumTo (l : List Int) : Nat → Int
  | 0 => 0
  | i + 1 => sumTo l i + l.getD i 0
end Go.Proofs.YtcnflmbnnobocaaDoor
