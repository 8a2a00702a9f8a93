/- What is written of a board is read back: the plain law of the placements. No condition. -/
import Derived.Test.YthbbnhhofkadgaaDoorBps
import Derived.Test.YthbbnhhofkadgaaDoorBfp
namespace Go.Proofs.YthbbnhhofkadgaaDoor
open Go Go.RowKit
/-- Reading as the reference does: square by square. -/
def rf : List UInt8 → Nat → Nat → List Int → Option (List Int)
  | [], _, _, b => some b
  | c :: s, r, f, b =>
    if c = 47 then (if r = 0 then none else rf s (r - 1) 0 b)
    else if 49 ≤ c.toNat ∧ c.toNat ≤ 56 then (if 8 < f + (c.toNat - 48) then none else rf s r (f + (c.toNat - 48)) b)
    else if 8 ≤ f then none
    else rf s r (f + 1) (if letP c = 0 then b else b.set (8 * r + f) (letP c))
def rfB (s : ByteArray) : Option (List Int) := rf s.data.toList 7 0 zero64
/-- The squares of rank i, the first k, are laid. -/
def stK (b : List Int) (i : Nat) : Nat → List Int → List Int
  | 0, bb => bb
  | k + 1, bb => if b.getD (8 * i + k) 0 = 0 then stK b i k bb else (stK b i k bb).set (8 * i + k) (b.getD (8 * i + k) 0)
theorem stK_len (b : List Int) (i k : Nat) (bb : List Int) : (stK b i k bb).length = bb.length := by
  induction k with
  | zero => rfl
  | succ k ih => simp only [stK]; split <;> simp [ih]
theorem stK_get (b : List Int) (i k : Nat) (bb : List Int) (hb : bb.length = 64) (hi : i < 8) (hk : k ≤ 8) (j : Nat) : (stK b i k bb).getD j 0 = if 8 * i ≤ j ∧ j < 8 * i + k ∧ b.getD j 0 ≠ 0 then b.getD j 0 else bb.getD j 0 := by
  induction k with
  | zero => rw [if_neg (by omega)]; rfl
  | succ k ih =>
    have ih := ih (by omega)
    have hl := stK_len b i k bb
    simp only [stK]
    by_cases h0 : b.getD (8 * i + k) 0 = 0
    · rw [if_pos h0, ih]
      by_cases e : j = 8 * i + k
      · subst e; rw [if_neg (by omega), if_neg (fun h => h.2.2 h0)]
      · by_cases c : 8 * i ≤ j ∧ j < 8 * i + k ∧ b.getD j 0 ≠ 0
        · rw [if_pos c, if_pos ⟨c.1, by omega, c.2.2⟩]
        · rw [if_neg c, if_neg (fun h => c ⟨h.1, by omega, h.2.2⟩)]
    · rw [if_neg h0]
      by_cases e : j = 8 * i + k
      · subst e
        rw [List.getD_eq_getElem?_getD, List.getElem?_set_self (by omega), if_pos ⟨by omega, by omega, h0⟩]; rfl
      · rw [List.getD_eq_getElem?_getD, List.getElem?_set_ne (fun h => e h.symm), ← List.getD_eq_getElem?_getD, ih]
        by_cases c : 8 * i ≤ j ∧ j < 8 * i + k ∧ b.getD j 0 ≠ 0
        · rw [if_pos c, if_pos ⟨c.1, by omega, c.2.2⟩]
        · rw [if_neg c, if_neg (fun h => c ⟨h.1, by omega, h.2.2⟩)]
theorem numS_dat (n : Nat) (h0 : n ≠ 0) (h : n < 9) : (numS n).data.toList = [UInt8.ofNat (48 + n)] ∧ (UInt8.ofNat (48 + n)).toNat = 48 + n := by
  have : ∀ i : Fin 9, i.val ≠ 0 → (numS i.val).data.toList = [UInt8.ofNat (48 + i.val)] ∧ (UInt8.ofNat (48 + i.val)).toNat = 48 + i.val := by decide +kernel
  exact this ⟨n, h⟩ h0
theorem letS_dat {p : Int} (h0 : p ≠ 0) (h1 : 0 ≤ p) (h2 : p ≤ 12) : ∃ c : UInt8, (letS p).data.toList = [c] ∧ letP c = p ∧ ¬ (49 ≤ c.toNat ∧ c.toNat ≤ 56) ∧ c.toNat < 128 ∧ c ≠ 47 := by
  obtain ⟨q, rfl⟩ := Int.eq_ofNat_of_zero_le h1
  have hq : q < 13 := by omega
  have : ∀ i : Fin 13, i.val ≠ 0 → (letS (i.val : Int)).data.toList = [lets.getD (i.val - 1) 0] ∧ letP (lets.getD (i.val - 1) 0) = (i.val : Int) ∧ ¬ (49 ≤ (lets.getD (i.val - 1) 0).toNat ∧ (lets.getD (i.val - 1) 0).toNat ≤ 56) ∧ (lets.getD (i.val - 1) 0).toNat < 128 ∧ (lets.getD (i.val - 1) 0) ≠ 47 := by decide +kernel
  exact ⟨_, this ⟨q, hq⟩ (by simp; omega)⟩
theorem app_dat (a b : ByteArray) : (a ++ b).data.toList = a.data.toList ++ b.data.toList := by simp
theorem flS_dat0 (s : ByteArray) : (flS s 0).data.toList = s.data.toList := rfl
theorem flS_dat (s : ByteArray) (n : Nat) (h0 : n ≠ 0) (h : n < 9) : (flS s n).data.toList = s.data.toList ++ [UInt8.ofNat (48 + n)] := by
  unfold flS; rw [if_neg h0, app_dat, (numS_dat n h0 h).1]
theorem lnK_2 (b : List Int) (i k : Nat) (hk : k ≤ 8) : (lnK b i k).2 ≤ k := (lnK_bd b i k hk).2
section
variable {b : List Int} (hok : okB b)
include hok
theorem prL_ln (i : Nat) (hi : i < 8) (k : Nat) (hk : k ≤ 8) : ∀ rest bb, prL (8 * i + 8) ((lnK b i k).1.data.toList ++ rest) (8 * i) bb = prL (8 * i + 8) rest (8 * i + k - (lnK b i k).2) (stK b i k bb) := by
  induction k with
  | zero => intro rest bb; simp [lnK, stK]
  | succ k ih =>
    intro rest bb
    have ih := ih (by omega)
    have hn := lnK_2 b i k (by omega)
    simp only [lnK, stK]
    by_cases h0 : b.getD (8 * i + k) 0 = 0
    · rw [if_pos h0, if_pos h0]
      simp only
      rw [ih]
      congr 1; omega
    · rw [if_neg h0, if_neg h0]
      simp only
      have hb := okB_get hok (8 * i + k)
      generalize b.getD (8 * i + k) 0 = p at *
      obtain ⟨c, e1, e2, e3, e4, e5⟩ := letS_dat h0 hb.1 hb.2
      rw [app_dat, e1]
      have last : prL (8 * i + 8) ([c] ++ rest) (8 * i + k) (stK b i k bb) = prL (8 * i + 8) rest (8 * i + (k + 1)) ((stK b i k bb).set (8 * i + k) p) := by
        show prL (8 * i + 8) (c :: rest) _ _ = _
        simp only [prL]
        rw [if_neg e3, if_neg (by omega), e2, if_neg (by omega)]
        congr 1
      by_cases hn0 : (lnK b i k).2 = 0
      · rw [hn0, flS_dat0, List.append_assoc, ih, hn0, Nat.sub_zero, last]; rfl
      · rw [flS_dat _ _ hn0 (by omega), List.append_assoc, List.append_assoc, ih]
        have hd := (numS_dat _ hn0 (show (lnK b i k).2 < 9 by omega)).2
        generalize (lnK b i k).2 = n at *
        show prL (8 * i + 8) (UInt8.ofNat (48 + n) :: ([c] ++ rest)) _ _ = _
        simp only [prL]
        rw [hd, if_pos (by omega)]
        have e : 8 * i + k - n + (48 + n - 48) = 8 * i + k := by omega
        rw [e, last]; rfl
theorem rf_ln (i : Nat) (k : Nat) (hk : k ≤ 8) : ∀ rest bb, rf ((lnK b i k).1.data.toList ++ rest) i 0 bb = rf rest i (k - (lnK b i k).2) (stK b i k bb) := by
  induction k with
  | zero => intro rest bb; simp [lnK, stK]
  | succ k ih =>
    intro rest bb
    have ih := ih (by omega)
    have hn := lnK_2 b i k (by omega)
    simp only [lnK, stK]
    by_cases h0 : b.getD (8 * i + k) 0 = 0
    · rw [if_pos h0, if_pos h0]
      simp only
      rw [ih]
      congr 1; omega
    · rw [if_neg h0, if_neg h0]
      simp only
      have hb := okB_get hok (8 * i + k)
      generalize b.getD (8 * i + k) 0 = p at *
      obtain ⟨c, e1, e2, e3, e4, e5⟩ := letS_dat h0 hb.1 hb.2
      rw [app_dat, e1]
      have last : rf ([c] ++ rest) i k (stK b i k bb) = rf rest i (k + 1) ((stK b i k bb).set (8 * i + k) p) := by
        show rf (c :: rest) _ _ _ = _
        simp only [rf]
        rw [if_neg e5, if_neg e3, if_neg (by omega), e2, if_neg h0]
      by_cases hn0 : (lnK b i k).2 = 0
      · rw [hn0, flS_dat0, List.append_assoc, ih, hn0, Nat.sub_zero, last]; rfl
      · rw [flS_dat _ _ hn0 (by omega), List.append_assoc, List.append_assoc, ih]
        have hd := (numS_dat _ hn0 (show (lnK b i k).2 < 9 by omega)).2
        generalize (lnK b i k).2 = n at *
        have h47 : UInt8.ofNat (48 + n) ≠ 47 := by intro e; rw [e] at hd; have : (47 : UInt8).toNat = 47 := rfl; omega
        show rf (UInt8.ofNat (48 + n) :: ([c] ++ rest)) _ _ _ = _
        simp only [rf]
        rw [if_neg h47, hd, if_pos (by omega), if_neg (by omega)]
        have e : k - n + (48 + n - 48) = k := by omega
        rw [e, last]; rfl
theorem prL_line (i : Nat) (hi : i < 8) (bb : List Int) : prL (8 * i + 8) (lineB b i).data.toList (8 * i) bb = some (stK b i 8 bb) := by
  have h := prL_ln hok i hi 8 (Nat.le_refl _)
  have hn := lnK_2 b i 8 (Nat.le_refl _)
  unfold lineB
  by_cases hn0 : (lnK b i 8).2 = 0
  · rw [hn0, flS_dat0]
    have := h [] bb
    rw [List.append_nil] at this
    rw [this]; rfl
  · rw [flS_dat _ _ hn0 (by omega), h]
    have hd := (numS_dat _ hn0 (show (lnK b i 8).2 < 9 by omega)).2
    simp only [prL]
    rw [hd, if_pos (by omega)]
theorem rf_line (i : Nat) (rest : List UInt8) (bb : List Int) : rf ((lineB b i).data.toList ++ rest) i 0 bb = rf rest i 8 (stK b i 8 bb) := by
  have h := rf_ln hok i 8 (Nat.le_refl _)
  have hn := lnK_2 b i 8 (Nat.le_refl _)
  unfold lineB
  by_cases hn0 : (lnK b i 8).2 = 0
  · rw [hn0, flS_dat0, h, hn0]
  · rw [flS_dat _ _ hn0 (by omega), List.append_assoc, h]
    have hd := (numS_dat _ hn0 (show (lnK b i 8).2 < 9 by omega)).2
    generalize (lnK b i 8).2 = n at *
    have h47 : UInt8.ofNat (48 + n) ≠ 47 := by intro e; rw [e] at hd; have : (47 : UInt8).toNat = 47 := rfl; omega
    show rf (UInt8.ofNat (48 + n) :: rest) _ _ _ = _
    simp only [rf]
    rw [if_neg h47, hd, if_pos (by omega), if_neg (by omega)]
    congr 1; omega
end
/-- The ranks from r - 1 down to 0 are laid. -/
def stR (b : List Int) : Nat → List Int → List Int
  | 0, bb => bb
  | r + 1, bb => stR b r (stK b r 8 bb)
/-- The lines from r - 1 down to 0. -/
def lns (b : List Int) : Nat → List (List UInt8)
  | 0 => []
  | r + 1 => (lineB b r).data.toList :: lns b r
theorem stR_len (b : List Int) : ∀ r bb, (stR b r bb).length = bb.length
  | 0, _ => rfl
  | r + 1, bb => by simp only [stR]; rw [stR_len b r, stK_len]
theorem prR_lns {b : List Int} (hok : okB b) : ∀ r, r ≤ 8 → ∀ bb, prR (lns b r) (8 - r) bb = some (stR b r bb)
  | 0, _, bb => rfl
  | r + 1, h, bb => by
    simp only [lns, stR]
    rw [prR_cons]
    have e : 7 - (8 - (r + 1)) = r := by omega
    rw [e, prL_line hok r (by omega)]
    have e2 : 8 - (r + 1) + 1 = 8 - r := by omega
    rw [e2]
    exact prR_lns hok r (by omega) _
theorem rf_lns {b : List Int} (hok : okB b) : ∀ r, r < 8 → ∀ bb, rf (Lib.join (lns b (r + 1)) [47]) r 0 bb = some (stR b (r + 1) bb)
  | 0, _, bb => by
    simp only [lns, stR]
    rw [join_one]
    have := rf_line hok 0 [] bb
    rw [List.append_nil] at this
    rw [this]; rfl
  | r + 1, h, bb => by
    have ih := rf_lns hok r (by omega)
    simp only [lns, stR] at *
    rw [join_cons, rf_line hok (r + 1)]
    show rf (47 :: Lib.join ((lineB b r).data.toList :: lns b r) [47]) _ _ _ = _
    simp only [rf]
    rw [if_pos trivial, if_neg (by omega)]
    exact ih _
theorem stR_get (b : List Int) : ∀ r, r ≤ 8 → ∀ bb : List Int, bb.length = 64 → ∀ j, (stR b r bb).getD j 0 = if j < 8 * r ∧ b.getD j 0 ≠ 0 then b.getD j 0 else bb.getD j 0
  | 0, _, bb, _, j => by rw [if_neg (by omega)]; rfl
  | r + 1, h, bb, hb, j => by
    simp only [stR]
    rw [stR_get b r (by omega) _ (by rw [stK_len]; exact hb), stK_get b r 8 bb hb (by omega) (Nat.le_refl _)]
    by_cases c : b.getD j 0 = 0
    · rw [if_neg (fun h => h.2 c), if_neg (fun h => h.2.2 c), if_neg (fun h => h.2 c)]
    · by_cases d : j < 8 * r
      · rw [if_pos ⟨d, c⟩, if_pos ⟨by omega, c⟩]
      · rw [if_neg (fun h => d h.1)]
        by_cases e : j < 8 * r + 8
        · rw [if_pos ⟨by omega, e, c⟩, if_pos ⟨by omega, c⟩]
        · rw [if_neg (fun h => e h.2.1), if_neg (fun h => e (by omega))]
theorem stR_8 {b : List Int} (hb : b.length = 64) : stR b 8 zero64 = b := by
  apply List.ext_getElem (by rw [stR_len, hb]; rfl)
  intro j h1 h2
  have e1 : (stR b 8 zero64)[j] = (stR b 8 zero64).getD j 0 := by simp [h1]
  have e2 : b[j] = b.getD j 0 := by simp [h2]
  rw [e1, e2, stR_get b 8 (Nat.le_refl _) _ rfl, zero64_get]
  split
  · rfl
  · rename_i h
    by_cases c : b.getD j 0 = 0
    · exact c.symm
    · exact absurd ⟨by omega, c⟩ h
theorem plS_lns (b : List Int) : (plS b).data.toList = Lib.join (lns b 8) [47] := rfl
theorem no47_ln {b : List Int} (hok : okB b) (i k : Nat) (hk : k ≤ 8) : (47 : UInt8) ∉ (lnK b i k).1.data.toList := by
  induction k with
  | zero => simp [lnK]
  | succ k ih =>
    have ih := ih (by omega)
    have hn := lnK_2 b i k (by omega)
    simp only [lnK]
    split
    · exact ih
    · rename_i h0
      have hb := okB_get hok (8 * i + k)
      obtain ⟨c, e1, _, _, _, e5⟩ := letS_dat h0 hb.1 hb.2
      simp only
      rw [app_dat, e1]
      by_cases hn0 : (lnK b i k).2 = 0
      · rw [hn0, flS_dat0]; simp only [List.mem_append, List.mem_singleton]; rintro (h | h)
        · exact ih h
        · exact e5 h.symm
      · rw [flS_dat _ _ hn0 (by omega)]
        have hd := (numS_dat _ hn0 (show (lnK b i k).2 < 9 by omega)).2
        simp only [List.mem_append, List.mem_singleton]; rintro ((h | h) | h)
        · exact ih h
        · rw [← h] at hd; have : (47 : UInt8).toNat = 47 := rfl; omega
        · exact e5 h.symm
theorem no47 {b : List Int} (hok : okB b) (i : Nat) : (47 : UInt8) ∉ (lineB b i).data.toList := by
  have h := no47_ln hok i 8 (Nat.le_refl _)
  have hn := lnK_2 b i 8 (Nat.le_refl _)
  unfold lineB
  by_cases hn0 : (lnK b i 8).2 = 0
  · rw [hn0, flS_dat0]; exact h
  · rw [flS_dat _ _ hn0 (by omega)]
    have hd := (numS_dat _ hn0 (show (lnK b i 8).2 < 9 by omega)).2
    simp only [List.mem_append, List.mem_singleton]; rintro (q | q)
    · exact h q
    · rw [← q] at hd; have : (47 : UInt8).toNat = 47 := rfl; omega
theorem parts_plS {b : List Int} (hok : okB b) : parts 47 (plS b).data.toList = lns b 8 := by
  rw [plS_lns]
  show parts 47 (Lib.join ((lineB b 7).data.toList :: lns b 7) [47]) = (lineB b 7).data.toList :: lns b 7
  refine parts_join 47 _ _ (fun x hx => ?_)
  have : ∀ r, ∀ x ∈ lns b r, (47 : UInt8) ∉ x := fun r => by
    induction r with
    | zero => intro x hx; simp [lns] at hx
    | succ r ih =>
      intro x hx
      simp only [lns, List.mem_cons] at hx
      rcases hx with rfl | hx
      · exact no47 hok r
      · exact ih x hx
  exact this 8 x hx
theorem psB_plS {b : List Int} (hb : b.length = 64) (hok : okB b) : psB (plS b) = some b := by
  unfold psB
  rw [parts_plS hok, if_pos (show (lns b 8).length = 8 from rfl)]
  have := prR_lns hok 8 (Nat.le_refl _) zero64
  rw [stR_8 hb] at this
  exact this
theorem rfB_plS {b : List Int} (hb : b.length = 64) (hok : okB b) : rfB (plS b) = some b := by
  unfold rfB
  rw [plS_lns, rf_lns hok 7 (by omega), stR_8 hb]
theorem letP_bd (c : UInt8) : 0 ≤ letP c ∧ letP c ≤ 12 := by
  have : ∀ i : Fin 256, 0 ≤ letP (UInt8.ofNat i.val) ∧ letP (UInt8.ofNat i.val) ≤ 12 := by decide +kernel
  have e : UInt8.ofNat c.toNat = c := by simp
  have := this ⟨c.toNat, c.toNat_lt⟩
  simp only at this
  rw [e] at this
  exact this
theorem okB_set {b : List Int} (h : okB b) (i : Nat) {x : Int} (h0 : 0 ≤ x) (h1 : x ≤ 12) : okB (b.set i x) := by
  intro z hz
  rcases List.mem_or_eq_of_mem_set hz with h' | h'
  · exact h z h'
  · omega
theorem prL_ok {en : Nat} {l : List UInt8} : ∀ {at_ : Nat} {b b' : List Int}, okB b → prL en l at_ b = some b' → okB b' := by
  induction l with
  | nil => intro at_ b b' hb h; simp [prL] at h; rw [← h]; exact hb
  | cons c r ih =>
    intro at_ b b' hb h
    simp only [prL] at h
    split at h
    · exact ih hb h
    · split at h
      · cases h
      · split at h
        · cases h
        · exact ih (okB_set hb _ (letP_bd c).1 (letP_bd c).2) h
theorem prR_ok : ∀ {ls : List (List UInt8)} {i : Nat} {b b' : List Int}, okB b → prR ls i b = some b' → okB b' ∧ b'.length = b.length
  | [], _, b, b', hb, h => by simp [prR] at h; rw [← h]; exact ⟨hb, rfl⟩
  | l :: ls, i, b, b', hb, h => by
    rw [prR] at h
    cases h2 : prL (8 * (7 - i) + 8) l (8 * (7 - i)) b with
    | none => rw [h2] at h; cases h
    | some c =>
      rw [h2] at h
      obtain ⟨q1, q2⟩ := prR_ok (prL_ok hb h2) h
      exact ⟨q1, q2.trans (prL_len h2)⟩
theorem zero_ok : okB zero64 := by decide
theorem psB_ok {s : ByteArray} {b : List Int} (h : psB s = some b) : okB b ∧ b.length = 64 := by
  unfold psB at h
  split at h
  · exact prR_ok zero_ok h
  · cases h
theorem rf_ok : ∀ {l : List UInt8} {r f : Nat} {b b' : List Int}, okB b → rf l r f b = some b' → okB b' ∧ b'.length = b.length := by
  intro l
  induction l with
  | nil => intro r f b b' hb h; simp [rf] at h; rw [← h]; exact ⟨hb, rfl⟩
  | cons c l ih =>
    intro r f b b' hb h
    simp only [rf] at h
    split at h
    · split at h
      · cases h
      · exact ih hb h
    · split at h
      · split at h
        · cases h
        · exact ih hb h
      · split at h
        · cases h
        · by_cases h0 : letP c = 0
          · rw [if_pos h0] at h; exact ih hb h
          · rw [if_neg h0] at h
            obtain ⟨q1, q2⟩ := ih (okB_set hb _ (letP_bd c).1 (letP_bd c).2) h
            exact ⟨q1, by rw [q2, List.length_set]⟩
theorem rfB_ok {s : ByteArray} {b : List Int} (h : rfB s = some b) : okB b ∧ b.length = 64 := rf_ok zero_ok h
/-- A string is the placement of a board, or it is refused by both. -/
theorem placed (s : ByteArray) : (∃ b, b.length = 64 ∧ okB b ∧ plS b = s) ∨ (∀ b, b.length = 64 → okB b → plV b ≠ s) := by
  by_cases h : ∃ b, b.length = 64 ∧ okB b ∧ plS b = s
  · exact .inl h
  · exact .inr (fun b h1 h2 h3 => h ⟨b, h1, h2, by rw [← h3]; exact (plV_t h2).symm⟩)
theorem ps_no {s : ByteArray} (h : ∀ b, b.length = 64 → okB b → plV b ≠ s) : psV s = zero64 ∧ psE s = 15 := by
  cases hp : psB s with
  | none => exact ps_none hp
  | some b => obtain ⟨h1, h2⟩ := psB_ok hp; exact ps_bad hp (h b h2 h1)
theorem ps_yes {b : List Int} (hb : b.length = 64) (hok : okB b) : psV (plS b) = b ∧ psE (plS b) = 0 := ps_good (psB_plS hb hok) (plV_t hok)
/-- What the reference's Parse answers. -/
def rpV (s : ByteArray) : List Int := match rfB s with
  | some b => if plV b = s then b else zero64
  | none => zero64
def rpE (s : ByteArray) : Int := match rfB s with
  | some b => if plV b = s then 0 else 15
  | none => 15
theorem rp_none {s : ByteArray} (h : rfB s = none) : rpV s = zero64 ∧ rpE s = 15 := by unfold rpV rpE; rw [h]; exact ⟨rfl, rfl⟩
theorem rp_bad {s : ByteArray} {b : List Int} (h : rfB s = some b) (hn : plV b ≠ s) : rpV s = zero64 ∧ rpE s = 15 := by unfold rpV rpE; rw [h]; simp only []; rw [if_neg hn, if_neg hn]; exact ⟨rfl, rfl⟩
theorem rp_good {s : ByteArray} {b : List Int} (h : rfB s = some b) (hn : plV b = s) : rpV s = b ∧ rpE s = 0 := by unfold rpV rpE; rw [h]; simp only []; rw [if_pos hn, if_pos hn]; exact ⟨rfl, rfl⟩
theorem ps_rp (s : ByteArray) : psV s = rpV s ∧ psE s = rpE s := by
  rcases placed s with ⟨b, h1, h2, rfl⟩ | h
  · obtain ⟨a, c⟩ := ps_yes h1 h2
    obtain ⟨d, e⟩ := rp_good (rfB_plS h1 h2) (plV_t h2)
    exact ⟨a.trans d.symm, c.trans e.symm⟩
  · obtain ⟨a, c⟩ := ps_no h
    have : rpV s = zero64 ∧ rpE s = 15 := by
      cases hp : rfB s with
      | none => exact rp_none hp
      | some b => obtain ⟨h1, h2⟩ := rfB_ok hp; exact rp_bad hp (h b h2 h1)
    exact ⟨a.trans this.1.symm, c.trans this.2.symm⟩
end Go.Proofs.YthbbnhhofkadgaaDoor
