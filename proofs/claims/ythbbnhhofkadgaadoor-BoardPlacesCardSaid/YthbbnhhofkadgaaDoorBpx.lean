/- What the law of the placements asks of a line, and the strings that are no placements. No condition. -/
import Derived.Test.YthbbnhhofkadgaaDoorBpt
namespace Go.Proofs.YthbbnhhofkadgaaDoor
open Go Go.RowKit
/-- A line, read from file f on, has the pieces of rank r. -/
def rd (b : List Int) (r : Nat) : List UInt8 → Nat → Bool → Prop
  | [], f, _ => f = 8
  | c :: s, f, last =>
    if 49 ≤ c.toNat ∧ c.toNat ≤ 56 then last = false ∧ f + (c.toNat - 48) ≤ 8 ∧ (∀ j, f ≤ j → j < f + (c.toNat - 48) → b.getD (8 * r + j) 0 = 0) ∧ rd b r s (f + (c.toNat - 48)) true
    else c.toNat < 128 ∧ letP c ≠ 0 ∧ f ≤ 7 ∧ b.getD (8 * r + f) 0 = letP c ∧ rd b r s (f + 1) false
theorem lnK_zero (b : List Int) (r k : Nat) (hk : k ≤ 8) : ∀ j, k - (lnK b r k).2 ≤ j → j < k → b.getD (8 * r + j) 0 = 0 := by
  induction k with
  | zero => intro j _ h; omega
  | succ k ih =>
    have ih := ih (by omega)
    have hn := lnK_2 b r k (by omega)
    intro j h1 h2
    simp only [lnK] at h1
    by_cases h0 : b.getD (8 * r + k) 0 = 0
    · rw [if_pos h0] at h1
      simp only at h1
      by_cases e : j = k
      · rw [e]; exact h0
      · exact ih j (by omega) (by omega)
    · rw [if_neg h0] at h1
      simp only at h1
      omega
theorem rd_dig {b : List Int} {r k n : Nat} {rest : List UInt8} (h0 : n ≠ 0) (hn : n ≤ k) (hk : k ≤ 8) (hz : ∀ j, k - n ≤ j → j < k → b.getD (8 * r + j) 0 = 0) (h : rd b r rest k true) : rd b r (UInt8.ofNat (48 + n) :: rest) (k - n) false := by
  have hd := (numS_dat n h0 (by omega)).2
  simp only [rd]
  rw [hd, if_pos (by omega)]
  have e : k - n + (48 + n - 48) = k := by omega
  rw [e]
  exact ⟨trivial, hk, hz, h⟩
theorem rd_ln {b : List Int} (hok : okB b) (r : Nat) (k : Nat) (hk : k ≤ 8) : ∀ rest, rd b r rest (k - (lnK b r k).2) false → rd b r ((lnK b r k).1.data.toList ++ rest) 0 false := by
  induction k with
  | zero => intro rest h; simpa [lnK] using h
  | succ k ih =>
    intro rest h
    have ih := ih (by omega)
    have hn := lnK_2 b r k (by omega)
    have hz := lnK_zero b r k (by omega)
    simp only [lnK] at h ⊢
    by_cases h0 : b.getD (8 * r + k) 0 = 0
    · rw [if_pos h0] at h ⊢
      simp only at h ⊢
      refine ih rest ?_
      have e : k + 1 - ((lnK b r k).2 + 1) = k - (lnK b r k).2 := by omega
      rw [e] at h
      exact h
    · rw [if_neg h0] at h ⊢
      simp only at h ⊢
      have hb := okB_get hok (8 * r + k)
      obtain ⟨c, e1, e2, e3, e4, e5⟩ := letS_dat h0 hb.1 hb.2
      rw [app_dat, e1]
      have last : ∀ l, rd b r ([c] ++ rest) k l := fun l => by
        show rd b r (c :: rest) k l
        simp only [rd]
        rw [if_neg e3]
        exact ⟨e4, by rw [e2]; exact h0, by omega, e2.symm, h⟩
      by_cases hn0 : (lnK b r k).2 = 0
      · rw [hn0, flS_dat0, List.append_assoc]
        refine ih _ ?_
        rw [hn0]; exact last false
      · rw [flS_dat _ _ hn0 (by omega), List.append_assoc, List.append_assoc]
        refine ih _ ?_
        exact rd_dig hn0 hn (by omega) hz (last true)
theorem rd_line {b : List Int} (hok : okB b) (r : Nat) : rd b r (lineB b r).data.toList 0 false := by
  have h := rd_ln hok r 8 (Nat.le_refl _)
  have hn := lnK_2 b r 8 (Nat.le_refl _)
  have hz := lnK_zero b r 8 (Nat.le_refl _)
  unfold lineB
  by_cases hn0 : (lnK b r 8).2 = 0
  · rw [hn0, flS_dat0]
    have := h [] (by rw [hn0]; rfl)
    rw [List.append_nil] at this
    exact this
  · rw [flS_dat _ _ hn0 (by omega)]
    exact h _ (rd_dig hn0 hn (Nat.le_refl _) hz rfl)
/-- How many squares a line speaks of. -/
def wid : List UInt8 → Nat
  | [] => 0
  | c :: s => (if 49 ≤ c.toNat ∧ c.toNat ≤ 56 then c.toNat - 48 else 1) + wid s
theorem wid_app (a b : List UInt8) : wid (a ++ b) = wid a + wid b := by
  induction a with
  | nil => simp [wid]
  | cons c a ih => simp only [List.cons_append, wid]; rw [ih]; omega
theorem rd_wid {b : List Int} {r : Nat} : ∀ {l : List UInt8} {f : Nat} {t : Bool}, rd b r l f t → f + wid l = 8
  | [], f, t, h => by simpa [rd, wid] using h
  | c :: s, f, t, h => by
    simp only [rd] at h
    simp only [wid]
    split at h
    · rename_i hd
      rw [if_pos hd]
      have := rd_wid h.2.2.2
      omega
    · rename_i hd
      rw [if_neg hd]
      have := rd_wid h.2.2.2.2
      omega
theorem wid_line {b : List Int} (hok : okB b) (r : Nat) : wid (lineB b r).data.toList = 8 := by have := rd_wid (rd_line hok r); omega
theorem lns_mem (b : List Int) : ∀ r, ∀ x ∈ lns b r, ∃ i, x = (lineB b i).data.toList
  | 0, x, h => by simp [lns] at h
  | r + 1, x, h => by
    simp only [lns, List.mem_cons] at h
    rcases h with rfl | h
    · exact ⟨r, rfl⟩
    · exact lns_mem b r x h
/-- A placement has eight parts, each of eight squares. -/
theorem placed_parts {b : List Int} (hok : okB b) {s : ByteArray} (h : plV b = s) : (parts 47 s.data.toList).length = 8 ∧ ∀ x ∈ parts 47 s.data.toList, wid x = 8 := by
  rw [← h, plV_t hok, parts_plS hok]
  refine ⟨rfl, fun x hx => ?_⟩
  obtain ⟨i, rfl⟩ := lns_mem b 8 x hx
  exact wid_line hok i
theorem no_len {s : ByteArray} (h : (parts 47 s.data.toList).length ≠ 8) : psV s = zero64 ∧ psE s = 15 := ps_no (fun _ _ hok e => h (placed_parts hok e).1)
theorem no_wid {s : ByteArray} {x : List UInt8} (h : x ∈ parts 47 s.data.toList) (hx : wid x ≠ 8) : psV s = zero64 ∧ psE s = 15 := ps_no (fun _ _ hok e => hx ((placed_parts hok e).2 x h))
theorem partsA_app (c : UInt8) (r : List UInt8) : ∀ (a acc : List UInt8), partsA c acc (a ++ c :: r) = partsA c acc a ++ parts c r
  | [], acc => by rw [List.nil_append, partsA_cons, if_pos rfl]; rfl
  | x :: a, acc => by
    rw [List.cons_append, partsA_cons, partsA_cons]
    split
    · rw [partsA_app c r a]; rfl
    · exact partsA_app c r a _
theorem parts_app (c : UInt8) (a r : List UInt8) : parts c (a ++ c :: r) = parts c a ++ parts c r := partsA_app c r a []
theorem parts_free {c : UInt8} {a : List UInt8} (h : c ∉ a) : parts c a = [a] := by have := partsA_free h []; simpa [parts] using this
theorem join_last (b : List Int) : ∀ r, ∃ A, Lib.join (lns b (r + 2)) [47] = A ++ 47 :: (lineB b 0).data.toList
  | 0 => ⟨(lineB b 1).data.toList, by simp only [lns]; rw [join_cons, join_one]; rfl⟩
  | r + 1 => by
    obtain ⟨A, h⟩ := join_last b r
    refine ⟨(lineB b (r + 2)).data.toList ++ 47 :: A, ?_⟩
    simp only [lns] at h ⊢
    rw [join_cons, h]
    simp
theorem plS_last (b : List Int) : ∃ A, (plS b).data.toList = A ++ 47 :: (lineB b 0).data.toList := by rw [plS_lns]; exact join_last b 6
theorem last_in {A x : List UInt8} {s : ByteArray} (hs : s.data.toList = A ++ 47 :: x) (hx : (47 : UInt8) ∉ x) : x ∈ parts 47 s.data.toList := by
  rw [hs, parts_app, parts_free hx]; simp
section
variable {b : List Int} (hok : okB b)
include hok
theorem line_ne (r : Nat) : (lineB b r).data.toList ≠ [] := fun e => by have := wid_line hok r; rw [e] at this; simp [wid] at this
theorem bad_cut : psV ((plS b).extract 0 ((plS b).size - 1)) = zero64 ∧ psE ((plS b).extract 0 ((plS b).size - 1)) = 15 := by
  obtain ⟨A, hA⟩ := plS_last b
  have hne := line_ne hok 0
  have hw := wid_line hok 0
  have h47 := no47 hok 0
  generalize (lineB b 0).data.toList = l at *
  have hsz : (plS b).size = A.length + 1 + l.length := by
    have : (plS b).size = (plS b).data.toList.length := by simp
    rw [this, hA]; simp; omega
  have hl : 0 < l.length := List.length_pos_iff.2 hne
  have hd : ((plS b).extract 0 ((plS b).size - 1)).data.toList = A ++ 47 :: l.dropLast := by
    have e : ((plS b).extract 0 ((plS b).size - 1)).data.toList = (plS b).data.toList.take ((plS b).size - 1) := by
      rw [ByteArray.data_extract, Array.toList_extract]; simp
    rw [e, hA, hsz]
    have e2 : A.length + 1 + l.length - 1 = A.length + (1 + (l.length - 1)) := by omega
    rw [e2, List.take_length_add_append, Nat.add_comm 1, List.take_succ_cons, List.dropLast_eq_take]
  refine no_wid (last_in hd (fun h => h47 ((List.dropLast_sublist l).subset h))) ?_
  have := List.dropLast_concat_getLast hne
  rw [← this, wid_app] at hw
  have h1 : 0 < wid [l.getLast hne] := by simp only [wid]; split <;> omega
  omega
theorem bad_more (c : UInt8) (hc : c ≠ 47) : psV (plS b ++ ⟨#[c]⟩) = zero64 ∧ psE (plS b ++ ⟨#[c]⟩) = 15 := by
  obtain ⟨A, hA⟩ := plS_last b
  have hw := wid_line hok 0
  have h47 := no47 hok 0
  generalize (lineB b 0).data.toList = l at *
  have hd : (plS b ++ ⟨#[c]⟩).data.toList = A ++ 47 :: (l ++ [c]) := by rw [app_dat, hA]; simp
  refine no_wid (last_in hd (by simp only [List.mem_append, List.mem_singleton]; rintro (h | h); exact h47 h; exact hc h.symm)) ?_
  rw [wid_app, hw]
  have h1 : 0 < wid [c] := by simp only [wid]; split <;> omega
  omega
theorem bad_rank : psV (plS b ++ ⟨#[47, 56]⟩) = zero64 ∧ psE (plS b ++ ⟨#[47, 56]⟩) = 15 := by
  have hd : (plS b ++ ⟨#[47, 56]⟩).data.toList = (plS b).data.toList ++ 47 :: [56] := by rw [app_dat]
  refine no_len ?_
  rw [hd, parts_app, parts_plS hok, parts_free (by decide), List.length_append]
  show 8 + 1 ≠ 8
  omega
theorem bad_front : psV (⟨#[47]⟩ ++ plS b) = zero64 ∧ psE (⟨#[47]⟩ ++ plS b) = 15 := by
  have hd : (⟨#[47]⟩ ++ plS b).data.toList = [] ++ 47 :: (plS b).data.toList := by rw [app_dat]; rfl
  refine no_len ?_
  rw [hd, parts_app, parts_plS hok, parts_free (by simp), List.length_append]
  show 1 + 8 ≠ 8
  omega
end
end Go.Proofs.YthbbnhhofkadgaaDoor
