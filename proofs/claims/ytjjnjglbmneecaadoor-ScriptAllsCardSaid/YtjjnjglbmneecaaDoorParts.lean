/- The parts of a list of bytes between separators of one byte: what strings.Split gives, and what strings.Join puts together. No condition. -/
import Derived.Lib.Split
import Derived.Lib.SplitLaws
import Derived.Lib.IndexBytes
import Derived.Lib.IndexLaws
import Derived.Lib.CountLaws
import Derived.Lib.Join
namespace Go.Proofs.YtjjnjglbmneecaaDoor
open Go

/-- The parts, the first of which has begun with acc. -/
def partsA (c : UInt8) (acc : List UInt8) : List UInt8 → List (List UInt8)
  | [] => [acc]
  | x :: r => if x = c then acc :: partsA c [] r else partsA c (acc ++ [x]) r
def parts (c : UInt8) (s : List UInt8) : List (List UInt8) := partsA c [] s

theorem partsA_cons (c : UInt8) (acc : List UInt8) (x : UInt8) (r : List UInt8) : partsA c acc (x :: r) = if x = c then acc :: partsA c [] r else partsA c (acc ++ [x]) r := rfl
theorem partsA_ne {c : UInt8} {acc s : List UInt8} : partsA c acc s ≠ [] := by
  induction s generalizing acc with
  | nil => simp [partsA]
  | cons x r ih => rw [partsA_cons]; split <;> simp [ih]
theorem partsA_free {c : UInt8} {a : List UInt8} (h : c ∉ a) : ∀ acc, partsA c acc a = [acc ++ a] := by
  induction a with
  | nil => intro acc; simp [partsA]
  | cons x r ih =>
    intro acc
    have hx : x ≠ c := fun e => h (by simp [e])
    rw [partsA_cons]
    rw [if_neg hx, ih (fun hr => h (by simp [hr]))]
    simp
theorem partsA_hit {c : UInt8} {a r : List UInt8} (h : c ∉ a) : ∀ acc, partsA c acc (a ++ c :: r) = (acc ++ a) :: partsA c [] r := by
  induction a with
  | nil => intro acc; simp [partsA]
  | cons x t ih =>
    intro acc
    have hx : x ≠ c := fun e => h (by simp [e])
    show partsA c acc (x :: (t ++ c :: r)) = _
    rw [partsA_cons]
    rw [if_neg hx, ih (fun hr => h (by simp [hr]))]
    simp
theorem partsA_acc {c : UInt8} (s : List UInt8) : ∀ acc, ∃ p ps, partsA c [] s = p :: ps ∧ partsA c acc s = (acc ++ p) :: ps := by
  induction s with
  | nil => intro acc; exact ⟨[], [], rfl, by simp [partsA]⟩
  | cons x r ih =>
    intro acc
    rw [partsA_cons, partsA_cons]
    split
    · exact ⟨[], _, rfl, by simp⟩
    · obtain ⟨p, ps, h1, h2⟩ := ih ([] ++ [x])
      obtain ⟨p', ps', h1', h2'⟩ := ih (acc ++ [x])
      rw [h1] at h1'
      cases h1'
      exact ⟨[x] ++ p, ps, h2, by rw [h2']; simp⟩
theorem first_split {c : UInt8} (s : List UInt8) : (c ∉ s) ∨ ∃ a r, s = a ++ c :: r ∧ c ∉ a := by
  induction s with
  | nil => exact .inl (by simp)
  | cons x t ih =>
    by_cases hx : x = c
    · exact .inr ⟨[], t, by simp [hx], by simp⟩
    · rcases ih with h | ⟨a, r, h1, h2⟩
      · exact .inl (by simp [h, Ne.symm hx])
      · exact .inr ⟨x :: a, r, by simp [h1], by simp [h2, Ne.symm hx]⟩
theorem indexByte_free {c : UInt8} {a : List UInt8} (h : c ∉ a) : Lib.indexByte a c = -1 := by
  have hge := Lib.indexByte_ge a c
  by_cases e : Lib.indexByte a c = -1
  · exact e
  · obtain ⟨o, ho⟩ : ∃ o : Nat, Lib.indexByte a c = o := ⟨(Lib.indexByte a c).toNat, by omega⟩
    have := (Lib.indexByte_some ho).1
    exact absurd (List.mem_of_getElem? this) h
theorem indexByte_hit {c : UInt8} {a r : List UInt8} (h : c ∉ a) : Lib.indexByte (a ++ c :: r) c = a.length := by
  have hge := Lib.indexByte_ge (a ++ c :: r) c
  have hat : (a ++ c :: r)[a.length]? = some c := by simp
  by_cases e : Lib.indexByte (a ++ c :: r) c = -1
  · exact absurd hat (Lib.indexByte_none e a.length)
  · obtain ⟨o, ho⟩ : ∃ o : Nat, Lib.indexByte (a ++ c :: r) c = o := ⟨(Lib.indexByte (a ++ c :: r) c).toNat, by omega⟩
    obtain ⟨h1, h2⟩ := Lib.indexByte_some ho
    rw [ho]
    have : o = a.length := by
      rcases Nat.lt_trichotomy o a.length with hl | he | hg
      · rw [List.getElem?_append_left hl] at h1
        exact absurd (List.mem_of_getElem? h1) h
      · exact he
      · exact absurd hat (h2 _ hg)
    rw [this]
theorem splitK_parts (c : UInt8) : ∀ (k : Nat) (s : List UInt8), s.length ≤ k → Lib.splitK [c] 0 (Lib.count s [c]) s = parts c s ∧ Lib.count s [c] + 1 = (parts c s).length := by
  intro k
  induction k with
  | zero =>
    intro s hs
    have : s = [] := List.length_eq_zero_iff.1 (by omega)
    subst this
    have h0 : Lib.index ([] : List UInt8) [c] = -1 := by rw [Lib.index_one]; exact indexByte_free (by simp)
    rw [Lib.count_miss h0]
    exact ⟨rfl, rfl⟩
  | succ k ih =>
    intro s hs
    rcases first_split (c := c) s with h | ⟨a, r, rfl, ha⟩
    · have h0 : Lib.index s [c] = -1 := by rw [Lib.index_one]; exact indexByte_free h
      rw [Lib.count_miss h0]
      unfold parts
      rw [partsA_free h]
      exact ⟨rfl, rfl⟩
    · have h0 : Lib.index (a ++ c :: r) [c] = a.length := by rw [Lib.index_one]; exact indexByte_hit ha
      have hd : (a ++ c :: r).drop (a.length + [c].length) = r := by simp
      have hc := Lib.count_hit (sub := [c]) (by simp) h0
      rw [hd] at hc
      obtain ⟨h1, h2⟩ := ih r (by simp at hs; omega)
      rw [hc, Nat.add_comm 1]
      unfold parts
      rw [partsA_hit ha]
      constructor
      · unfold Lib.splitK
        have hne : ¬ (Lib.index (a ++ c :: r) [c] == -1) = true := fun e => by have := beq_iff_eq.1 e; omega
        rw [if_neg hne, h0]
        have : ((a.length : Int)).toNat = a.length := by omega
        rw [this, hd]
        simp only [Nat.add_zero, List.take_left', List.nil_append]
        rw [h1]; rfl
      · simp only [List.length_cons]; rw [h2]; rfl
/-- What strings.Split gives at a separator of one byte. -/
theorem splitB_parts (c : UInt8) (s : ByteArray) : (Lib.splitB ⟨#[c]⟩ 0 (Lib.countB s ⟨#[c]⟩) s).map (·.data.toList) = parts c s.data.toList ∧ Lib.countB s ⟨#[c]⟩ + 1 = (parts c s.data.toList).length := by
  obtain ⟨h1, h2⟩ := splitK_parts c s.data.toList.length s.data.toList (Nat.le_refl _)
  refine ⟨?_, h2⟩
  rw [Lib.splitB_data]
  exact h1
theorem join_cons (sep : List UInt8) (p q : List UInt8) (ps : List (List UInt8)) : Lib.join (p :: q :: ps) sep = p ++ (sep ++ Lib.join (q :: ps) sep) := by
  simp [Lib.join, List.intercalate, List.intersperse]
theorem join_one (sep : List UInt8) (p : List UInt8) : Lib.join [p] sep = p := by simp [Lib.join, List.intercalate, List.intersperse]
theorem join_partsA (c : UInt8) (s : List UInt8) : ∀ acc, Lib.join (partsA c acc s) [c] = acc ++ s := by
  induction s with
  | nil => intro acc; simp [partsA, join_one]
  | cons x r ih =>
    intro acc
    rw [partsA_cons]
    split
    · rename_i hx
      obtain ⟨p, ps, h1, _⟩ := partsA_acc (c := c) r []
      have := ih []
      rw [h1] at this ⊢
      rw [join_cons, this, hx]; simp
    · rw [ih]; simp
/-- The parts put together again are the whole. -/
theorem join_parts (c : UInt8) (s : List UInt8) : Lib.join (parts c s) [c] = s := by
  unfold parts; rw [join_partsA]; rfl
/-- Parts without the separator are found again. -/
theorem parts_join (c : UInt8) (p : List UInt8) (ps : List (List UInt8)) (h : ∀ x ∈ p :: ps, c ∉ x) : parts c (Lib.join (p :: ps) [c]) = p :: ps := by
  induction ps generalizing p with
  | nil => rw [join_one]; unfold parts; rw [partsA_free (h p (by simp))]; rfl
  | cons q ps ih =>
    rw [join_cons]
    unfold parts
    show partsA c [] (p ++ c :: Lib.join (q :: ps) [c]) = _
    rw [partsA_hit (h p (by simp))]
    have := ih q (fun x hx => h x (by simp at hx ⊢; exact .inr hx))
    unfold parts at this
    rw [this]; rfl
theorem partsA_mem (c : UInt8) (s : List UInt8) : ∀ acc, c ∉ acc → ∀ x ∈ partsA c acc s, c ∉ x := by
  induction s with
  | nil => intro acc ha x hx; simp [partsA] at hx; subst hx; exact ha
  | cons y r ih =>
    intro acc ha x hx
    rw [partsA_cons] at hx
    split at hx
    · simp only [List.mem_cons] at hx
      rcases hx with rfl | hx
      · exact ha
      · exact ih [] (by simp) x hx
    · rename_i hy
      exact ih (acc ++ [y]) (by simp [ha, Ne.symm hy]) x hx
theorem parts_mem (c : UInt8) (s : List UInt8) : ∀ x ∈ parts c s, c ∉ x := partsA_mem c s [] (by simp)
/-- A part is no longer than the whole. -/
theorem partsA_len (c : UInt8) (s : List UInt8) : ∀ acc, ∀ x ∈ partsA c acc s, x.length ≤ acc.length + s.length := by
  induction s with
  | nil => intro acc x hx; simp [partsA] at hx; subst hx; simp
  | cons y r ih =>
    intro acc x hx
    rw [partsA_cons] at hx
    split at hx
    · simp only [List.mem_cons] at hx
      rcases hx with rfl | hx
      · omega
      · have := ih [] x hx; simp at this ⊢; omega
    · have := ih (acc ++ [y]) x hx; simp at this ⊢; omega
theorem parts_len (c : UInt8) (s : List UInt8) : ∀ x ∈ parts c s, x.length ≤ s.length := fun x hx => by have := partsA_len c s [] x hx; simpa using this
theorem partsA_count (c : UInt8) (s : List UInt8) : ∀ acc, (partsA c acc s).length ≤ s.length + 1 := by
  induction s with
  | nil => intro acc; simp [partsA]
  | cons y r ih =>
    intro acc
    rw [partsA_cons]
    split
    · have := ih []; simp; omega
    · have := ih (acc ++ [y]); simp; omega
end Go.Proofs.YtjjnjglbmneecaaDoor
