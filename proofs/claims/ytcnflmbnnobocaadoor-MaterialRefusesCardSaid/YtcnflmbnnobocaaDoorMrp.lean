/- What material.Read decodes, in plain terms; the contracts over lists. No condition. -/
import Derived.Test.YtcnflmbnnobocaaDoorMtr
import Derived.Test.YtcnflmbnnobocaaDoorMps
import Derived.Test.YtcnflmbnnobocaaDoorParts
namespace Go.Proofs.YtcnflmbnnobocaaDoor
open Go Go.RowKit

theorem list10 (l : List Int) (h : l.length = 10) : ∃ a0 a1 a2 a3 a4 a5 a6 a7 a8 a9 : Int, l = [a0, a1, a2, a3, a4, a5, a6, a7, a8, a9] := by
  match l, h with
  | [a0, a1, a2, a3, a4, a5, a6, a7, a8, a9], _ => exact ⟨a0, a1, a2, a3, a4, a5, a6, a7, a8, a9, rfl⟩
def okL (l : List Int) : Prop := okM (l.getD 0 0) (l.getD 1 0) (l.getD 2 0) (l.getD 3 0) (l.getD 4 0) (l.getD 5 0) (l.getD 6 0) (l.getD 7 0) (l.getD 8 0) (l.getD 9 0)
instance (l : List Int) : Decidable (okL l) := by unfold okL; infer_instance
def chkL (l : List Int) : Int := chkE (l.getD 0 0) (l.getD 1 0) (l.getD 2 0) (l.getD 3 0) (l.getD 4 0) (l.getD 5 0) (l.getD 6 0) (l.getD 7 0) (l.getD 8 0) (l.getD 9 0)
def sgnL (l : List Int) : Int := sgnM (l.getD 0 0) (l.getD 1 0) (l.getD 2 0) (l.getD 3 0) (l.getD 4 0) (l.getD 5 0) (l.getD 6 0) (l.getD 7 0) (l.getD 8 0) (l.getD 9 0)
def txtL (l : List Int) : ByteArray := txtM (l.getD 0 0) (l.getD 1 0) (l.getD 2 0) (l.getD 3 0) (l.getD 4 0) (l.getD 5 0) (l.getD 6 0) (l.getD 7 0) (l.getD 8 0) (l.getD 9 0)
theorem chkL_t {l : List Int} (h : okL l) : chkL l = 0 := chkE_t h
theorem chkL_f {l : List Int} (h : ¬ okL l) : chkL l = 2 := chkE_f h
theorem check_L (l : List Int) (h : l.length = 10) (w : World) : Calls Tryd.prog 18 #[.agg (ints l)] w fun e w' => e = .returned (.int .i64 (chkL l)) ∧ Below w.heap.size w w' := by
  obtain ⟨a0, a1, a2, a3, a4, a5, a6, a7, a8, a9, rfl⟩ := list10 l h
  exact check_any a0 a1 a2 a3 a4 a5 a6 a7 a8 a9 w
theorem check_Lr (l : List Int) (h : l.length = 10) (w : World) : Calls Tryd.prog 19 #[.agg (ints l)] w fun e w' => e = .returned (.int .i64 (chkL l)) ∧ Below w.heap.size w w' := by
  obtain ⟨a0, a1, a2, a3, a4, a5, a6, a7, a8, a9, rfl⟩ := list10 l h
  exact check_ref a0 a1 a2 a3 a4 a5 a6 a7 a8 a9 w
theorem sign_L (l : List Int) (h : l.length = 10) (w : World) : Calls Tryd.prog 14 #[.agg (ints l)] w fun e w' => e = .returned (.tuple #[.int .u64 (sgnL l), .int .i64 (chkL l)]) ∧ Below w.heap.size w w' := by
  obtain ⟨a0, a1, a2, a3, a4, a5, a6, a7, a8, a9, rfl⟩ := list10 l h
  exact sign_any a0 a1 a2 a3 a4 a5 a6 a7 a8 a9 w
theorem sign_Lr (l : List Int) (h : l.length = 10) (w : World) : Calls Tryd.prog 15 #[.agg (ints l)] w fun e w' => e = .returned (.tuple #[.int .u64 (sgnL l), .int .i64 (chkL l)]) ∧ Below w.heap.size w w' := by
  obtain ⟨a0, a1, a2, a3, a4, a5, a6, a7, a8, a9, rfl⟩ := list10 l h
  exact sign_ref a0 a1 a2 a3 a4 a5 a6 a7 a8 a9 w
theorem text_L (l : List Int) (h : l.length = 10) (w : World) : Calls Tryd.prog 16 #[.agg (ints l)] w fun e w' => e = .returned (.tuple #[.string (txtL l), .int .i64 (chkL l)]) ∧ Below w.heap.size w w' := by
  obtain ⟨a0, a1, a2, a3, a4, a5, a6, a7, a8, a9, rfl⟩ := list10 l h
  exact text_any a0 a1 a2 a3 a4 a5 a6 a7 a8 a9 w
theorem text_Lr (l : List Int) (h : l.length = 10) (w : World) : Calls Tryd.prog 17 #[.agg (ints l)] w fun e w' => e = .returned (.tuple #[.string (txtL l), .int .i64 (chkL l)]) ∧ Below w.heap.size w w' := by
  obtain ⟨a0, a1, a2, a3, a4, a5, a6, a7, a8, a9, rfl⟩ := list10 l h
  exact text_ref a0 a1 a2 a3 a4 a5 a6 a7 a8 a9 w

/-- The number from 0 to 15 whose digits a list of bytes is; -1: none. -/
def numFrom (w : List UInt8) : Nat → Nat → Int
  | _, 0 => -1
  | n, k + 1 => if Lib.decDigits n = w then (n : Int) else numFrom w (n + 1) k
def numV (w : List UInt8) : Int := numFrom w 0 16
theorem numFrom_range (w : List UInt8) : ∀ k n, numFrom w n k = -1 ∨ ∃ m : Nat, n ≤ m ∧ m < n + k ∧ numFrom w n k = m ∧ Lib.decDigits m = w := by
  intro k
  induction k with
  | zero => intro n; exact .inl rfl
  | succ k ih =>
    intro n
    unfold numFrom
    split
    · rename_i h; exact .inr ⟨n, Nat.le_refl _, by omega, rfl, h⟩
    · rcases ih (n + 1) with h | ⟨m, h1, h2, h3, h4⟩
      · exact .inl h
      · exact .inr ⟨m, by omega, by omega, h3, h4⟩
theorem numV_pos {w : List UInt8} (h : 0 ≤ numV w) : ∃ n : Nat, n ≤ 15 ∧ numV w = n ∧ w = Lib.decDigits n := by
  rcases numFrom_range w 16 0 with h' | ⟨m, _, h2, h3, h4⟩
  · unfold numV at h; omega
  · exact ⟨m, by omega, h3, h4.symm⟩
theorem numV_digits (n : Nat) (h : n ≤ 15) : numV (Lib.decDigits n) = n := by
  have key : ∀ n, n < 16 → numV (Lib.decDigits n) = n := by decide +kernel
  exact key n (by omega)
theorem digits_free (n : Nat) (h : n ≤ 15) : (32 : UInt8) ∉ Lib.decDigits n := by
  have key : ∀ n, n < 16 → (32 : UInt8) ∉ Lib.decDigits n := by decide +kernel
  exact key n (by omega)
theorem atoi_digits (n : Nat) (h : n ≤ 15) : Lib.atoiAll (Lib.decDigits n) = .ok (n : Int) := by
  have key : ∀ n, n < 16 → (match Lib.atoiAll (Lib.decDigits n) with | .ok v => v == (n : Int) | _ => false) = true := by decide +kernel
  have := key n (by omega)
  revert this
  generalize Lib.atoiAll (Lib.decDigits n) = r
  cases r <;> simp
def wordsOf (s : ByteArray) : List (List UInt8) := parts 32 s.data.toList
def rdOk (s : ByteArray) : Prop := (wordsOf s).length = 10 ∧ okL ((wordsOf s).map numV)
instance (s : ByteArray) : Decidable (rdOk s) := by unfold rdOk; infer_instance
def rdV (s : ByteArray) : List Int := if rdOk s then (wordsOf s).map numV else zero10p
def rdE (s : ByteArray) : Int := if rdOk s then 0 else 8
theorem rdV_t {s : ByteArray} (h : rdOk s) : rdV s = (wordsOf s).map numV := if_pos h
theorem rdV_f {s : ByteArray} (h : ¬ rdOk s) : rdV s = zero10p := if_neg h
theorem rdE_t {s : ByteArray} (h : rdOk s) : rdE s = 0 := if_pos h
theorem rdE_f {s : ByteArray} (h : ¬ rdOk s) : rdE s = 8 := if_neg h
theorem okL_mem {l : List Int} (hl : l.length = 10) (h : okL l) : ∀ x ∈ l, 0 ≤ x ∧ x ≤ 15 := by
  obtain ⟨a0, a1, a2, a3, a4, a5, a6, a7, a8, a9, rfl⟩ := list10 l hl
  obtain ⟨h0, h0', h1, h2, h3, h4, hs, h5, h5', h6, h7, h8, h9, hs'⟩ := h
  simp only [List.getD_cons_zero, List.getD_cons_succ] at *
  intro x hx
  simp only [List.mem_cons, List.not_mem_nil, or_false] at hx
  omega
/-- The words of what is decoded are digits. -/
theorem rd_words {s : ByteArray} (h : rdOk s) : ∀ w ∈ wordsOf s, ∃ n : Nat, n ≤ 15 ∧ numV w = n ∧ w = Lib.decDigits n := fun w hw =>
  numV_pos (okL_mem (by simpa using h.1) h.2 (numV w) (List.mem_map_of_mem hw)).1
theorem rd_join {s : ByteArray} (h : rdOk s) : txtL (rdV s) = s := by
  apply ba_ext
  rw [rdV_t h]
  have hl : ((wordsOf s).map numV).length = 10 := by simpa using h.1
  have e : txtL ((wordsOf s).map numV) = txtN (((wordsOf s).map numV).map Int.toNat) := by
    have h2 := h.2
    obtain ⟨a0, a1, a2, a3, a4, a5, a6, a7, a8, a9, hv⟩ := list10 _ hl
    rw [hv] at h2 ⊢
    exact txtM_t h2
  rw [e]
  show Lib.join ((((wordsOf s).map numV).map Int.toNat).map Lib.decDigits) [32] = s.data.toList
  have e2 : (((wordsOf s).map numV).map Int.toNat).map Lib.decDigits = wordsOf s := by
    rw [List.map_map, List.map_map]
    conv => rhs; rw [← List.map_id (wordsOf s)]
    apply List.map_congr_left
    intro w hw
    obtain ⟨n, hn, h1, h2⟩ := rd_words h w hw
    show Lib.decDigits (numV w).toNat = w
    rw [h1, h2]; simp
  rw [e2]
  exact join_parts 32 s.data.toList
/-- What has a text is found again from it. -/
theorem rd_txt {l : List Int} (hl : l.length = 10) (h : okL l) : rdOk (txtL l) ∧ rdV (txtL l) = l := by
  have hw : wordsOf (txtL l) = l.map fun x => Lib.decDigits x.toNat := by
    have hm := okL_mem hl h
    have e : txtL l = txtN (l.map Int.toNat) := by
      obtain ⟨a0, a1, a2, a3, a4, a5, a6, a7, a8, a9, rfl⟩ := list10 l hl
      exact txtM_t h
    rw [e]
    show parts 32 (Lib.join ((l.map Int.toNat).map Lib.decDigits) [32]) = _
    rw [List.map_map]
    match l, hl, hm with
    | x :: r, _, hm =>
      exact parts_join 32 _ _ (by
        intro y hy
        rw [← List.map_cons] at hy
        simp only [List.mem_map] at hy
        obtain ⟨z, hz, rfl⟩ := hy
        exact digits_free _ (by have := hm z hz; omega))
  have hn : (wordsOf (txtL l)).map numV = l := by
    rw [hw, List.map_map]
    conv => rhs; rw [← List.map_id l]
    apply List.map_congr_left
    intro x hx
    have := okL_mem hl h x hx
    show numV (Lib.decDigits x.toNat) = x
    rw [numV_digits _ (by omega)]; omega
  have ho : rdOk (txtL l) := ⟨by rw [hw]; simpa using hl, by rw [hn]; exact h⟩
  exact ⟨ho, by rw [rdV_t ho, hn]⟩
/-- The numbers that Atoi reads, part by part, are those that are decoded. -/
theorem rd_of_atoi {s : ByteArray} (h : rdOk s) (l : List Int) (hl : l.length = 10) (ha : ∀ j, j < 10 → Lib.atoiAll ((wordsOf s).getD j []) = .ok (l.getD j 0)) : rdV s = l := by
  rw [rdV_t h]
  apply List.ext_getElem?
  intro i
  by_cases hi : i < 10
  · have hwl := h.1
    have h1 : (wordsOf s)[i]? = some ((wordsOf s).getD i []) := by simp [hwl, hi]
    obtain ⟨n, hn, h2, h3⟩ := rd_words h ((wordsOf s).getD i []) (List.mem_of_getElem? h1)
    have h4 := ha i hi
    rw [h3, atoi_digits n hn] at h4
    have h5 : (n : Int) = l.getD i 0 := by injection h4
    rw [List.getElem?_map, h1, Option.map_some, h2, h5]
    simp [hl, hi]
  · rw [List.getElem?_eq_none (by simp [h.1]; omega), List.getElem?_eq_none (by omega)]
theorem rd_no_atoi {s : ByteArray} (j : Nat) (hj : j < 10) (ha : ∀ v, Lib.atoiAll ((wordsOf s).getD j []) ≠ .ok v) : ¬ rdOk s := fun h => by
  have hwl := h.1
  have h1 : (wordsOf s)[j]? = some ((wordsOf s).getD j []) := by simp [hwl, hj]
  obtain ⟨n, hn, _, h3⟩ := rd_words h ((wordsOf s).getD j []) (List.mem_of_getElem? h1)
  exact ha n (by rw [h3, atoi_digits n hn])
end Go.Proofs.YtcnflmbnnobocaaDoor
