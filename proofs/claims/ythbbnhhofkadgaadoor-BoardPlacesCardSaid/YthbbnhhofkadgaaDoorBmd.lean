/- The contract of tempolaw09.Made: a board of numbers. No condition. -/
import Derived.Test.YthbbnhhofkadgaaDoorBmv
namespace Go.Proofs.YthbbnhhofkadgaaDoor
open Go Go.RowKit
def mdX (x : Int) : Int := if x < 64 then x % 13 else 0
/-- The board of the first k numbers. -/
def mdK (n : List Int) : Nat → List Int
  | 0 => zero64
  | k + 1 => if n.getD k 0 < 64 then (mdK n k).set k (n.getD k 0 % 13) else mdK n k
def mdV (n : List Int) : List Int := mdK n 64
theorem mdK_len (n : List Int) (k : Nat) : (mdK n k).length = 64 := by
  induction k with
  | zero => rfl
  | succ k ih => simp only [mdK]; split <;> simp [ih]
theorem mdV_len (n : List Int) : (mdV n).length = 64 := mdK_len n 64
theorem zero64_get (i : Nat) : zero64.getD i 0 = 0 := by
  by_cases h : i < 64
  · have : ∀ i : Fin 64, zero64.getD i.val 0 = 0 := by decide
    exact this ⟨i, h⟩
  · rw [List.getD_eq_getElem?_getD, List.getElem?_eq_none (by show 64 ≤ i; omega)]; rfl
theorem mdK_get (n : List Int) (k : Nat) (hk : k ≤ 64) (i : Nat) : (mdK n k).getD i 0 = if i < k then mdX (n.getD i 0) else 0 := by
  induction k with
  | zero => rw [if_neg (by omega)]; exact zero64_get i
  | succ k ih =>
    have ih := ih (by omega)
    have hl := mdK_len n k
    simp only [mdK]
    by_cases hik : i = k
    · subst hik
      rw [if_neg (by omega)] at ih
      rw [if_pos (Nat.lt_succ_self i)]
      by_cases h : n.getD i 0 < 64
      · rw [if_pos h, List.getD_eq_getElem?_getD, List.getElem?_set_self (by omega), mdX, if_pos h]
        rfl
      · rw [if_neg h, ih, mdX, if_neg h]
    · have e : (if i < k + 1 then mdX (n.getD i 0) else 0) = if i < k then mdX (n.getD i 0) else 0 := by
        by_cases h : i < k
        · rw [if_pos h, if_pos (by omega)]
        · rw [if_neg h, if_neg (by omega)]
      rw [e, ← ih]
      split
      · simp only [List.getD_eq_getElem?_getD]
        rw [List.getElem?_set_ne (by omega)]
      · rfl
theorem mdV_get (n : List Int) (i : Nat) (hi : i < 64) : (mdV n).getD i 0 = mdX (n.getD i 0) := by
  rw [mdV, mdK_get n 64 (by omega), if_pos hi]
def u8s (n : List Int) : Prop := ∀ x ∈ n, 0 ≤ x ∧ x < 256
theorem u8s_get {n : List Int} (h : u8s n) (i : Nat) : 0 ≤ n.getD i 0 ∧ n.getD i 0 < 256 := by
  by_cases hi : i < n.length
  · exact h _ (List.mem_of_getElem? (i := i) (by simp [hi]))
  · rw [List.getD_eq_getElem?_getD, List.getElem?_eq_none (by omega)]; decide
theorem mdV_ok {n : List Int} (h : u8s n) : okB (mdV n) := by
  intro x hx
  obtain ⟨i, hi, rfl⟩ := List.mem_iff_getElem.1 hx
  have h1 : (mdV n)[i] = (mdV n).getD i 0 := by simp [hi]
  rw [mdV_len] at hi
  rw [h1, mdV_get n i hi]
  have := u8s_get h i
  unfold mdX
  split <;> omega
set_option maxRecDepth 100000 in
set_option maxHeartbeats 600000 in
theorem made_any (n : List Int) (hn : n.length = 64) (h8 : u8s n) (w : World) :
    Calls Tryd.prog 14 #[.agg (intsK .u8 n)] w fun e w' => e = .returned (.agg (ints (mdV n))) ∧ Below w.heap.size w w' := by
  have hi : (Tryd.prog.info? 29).map (·.size) = some n.length := by rw [hn]; kernel_rfl
  have z64 := z64_info
  have hg : Holds (((w.alloc (.cells (intsK .u8 n) 29)).alloc (.cells (intsK .i64 zero64) 24)).alloc (.cells (intsK .i64 zero64) 24)) w.heap.size .u8 29 n := ((Holds.new w .u8 29 n).alloc _).alloc _
  have hm : Holds (((w.alloc (.cells (intsK .u8 n) 29)).alloc (.cells (intsK .i64 zero64) 24)).alloc (.cells (intsK .i64 zero64) 24)) (w.heap.size + 1 + 1) .i64 24 zero64 := Holds.newAt .i64 24 zero64 (by simp)
  have hr : Holds (((w.alloc (.cells (intsK .u8 n) 29)).alloc (.cells (intsK .i64 zero64) 24)).alloc (.cells (intsK .i64 zero64) 24)) (w.heap.size + 1) .i64 24 zero64 := (Holds.newAt .i64 24 zero64 (by simp)).alloc _
  have hB : Below w.heap.size w (((w.alloc (.cells (intsK .u8 n) 29)).alloc (.cells (intsK .i64 zero64) 24)).alloc (.cells (intsK .i64 zero64) 24)) := (((Below.refl _ _).alloc (Nat.le_refl _) _).alloc (by simp) _).alloc (by simp; omega) _
  go_enter Tryd.func14, Tryd.ntmps14
  go_wp2_with (with_reducible refine wpl_load (g := w.heap.size) (k := .u8) (t := 29) (l := n) ?hg rfl 29 _ rfl rfl Tryd.underlying29 hi ?_)
  case hg => exact hg
  go_loopg [7] 64 (fun m i wr => ∃ k : Nat, m = 64 - k ∧ k ≤ 64 ∧ i = .int .i64 k ∧ Holds wr (w.heap.size + 1 + 1) .i64 24 (mdK n k) ∧ Holds wr (w.heap.size + 1) .i64 24 zero64 ∧ Below w.heap.size w wr)
  case atStart => exact ⟨0, rfl, by omega, rfl, hm, hr, hB⟩
  case round =>
    clear hm hr hB hg
    obtain ⟨k, hkm, hk, rfl, hm, hr, hB⟩ := hrel
    have HK := Lib.hid hkm
    clear hkm
    by_cases hlt : k < 64
    · have hix : ∀ w : World, (Instr.index 29 (.agg (intsK .u8 n)) (.int .i64 k)).run Tryd.prog w = .ok (.int .u8 (n.getD k 0)) w := fun w => run_index_ints k Tryd.underlying29 Tryd.underlying5 (by kernel_rfl) hn hlt
      have hx8 := u8s_get h8 k
      have HN : Hid (mdK n (k + 1) = if n.getD k 0 < 64 then (mdK n k).set k (n.getD k 0 % 13) else mdK n k) := Lib.hid rfl
      have hlen := mdK_len n k
      have c1 := hm.cell k (by omega)
      have c2 := hm.frozen k
      have hdi : decide ((k : Int) < 64) = true := by simp; omega
      generalize n.getD k 0 = x at *
      obtain ⟨x0, x1⟩ := hx8
      by_cases hx : x < 64
      · have HS := Lib.hid (hm.set k (x % 13))
        have HR := Lib.hid (hr.setOther (a := ⟨w.heap.size + 1 + 1, k, none⟩) (.int .i64 (x % 13)) (by simp))
        have HB := Lib.hid (hB.setCell (p := ⟨w.heap.size + 1 + 1, k, none⟩) (by simp; omega) (.int .i64 (x % 13)))
        have HN2 : Hid (mdK n (k + 1) = (mdK n k).set k (x % 13)) := Lib.hid (by rw [HN.out, if_pos hx])
        clear hm hr hB HN hlen
        go_wp2_with fail
        go_roundg (64 - (k + 1))
        case measure => have := HK.out; omega
        case rel => exact ⟨k + 1, rfl, by omega, by go_num, by rw [HN2.out]; exact HS.out, HR.out, HB.out⟩
      · have HN2 : Hid (mdK n (k + 1) = mdK n k) := Lib.hid (by rw [HN.out, if_neg hx])
        have HM := Lib.hid (And.intro hm (And.intro hr hB))
        clear hm hr hB HN hlen
        go_wp2_with fail
        go_roundg (64 - (k + 1))
        case measure => have := HK.out; omega
        case rel => exact ⟨k + 1, rfl, by omega, by go_num, by rw [HN2.out]; exact HM.out.1, HM.out.2.1, HM.out.2.2⟩
    · have hk64 : k = 64 := by omega
      subst hk64
      have hlen := mdK_len n 64
      have il : (Tryd.prog.info? 24).map (·.size) = some (mdK n 64).length := by rw [hlen]; kernel_rfl
      have hl1 : (mdK n 64).length = zero64.length := hlen
      go_wp2_with (first
        | (with_reducible refine wpl_load (g := w.heap.size + 1 + 1) (k := .i64) (t := 24) hm rfl 24 _ rfl rfl Tryd.underlying24 il ?_)
        | (with_reducible refine wpl_store (g := w.heap.size + 1) (k := .i64) (t := 24) (l := zero64) hr rfl 24 _ _ rfl rfl _ rfl hl1 z64 ?_))
      refine bodyPost_ret (results_cell_row rfl _ _ (w.heap.size + 1) 24 (ints (mdK n 64)) (0, 0) _ rfl (hr.setRow _) Tryd.underlying24 rfl (by rw [intsK_size, hlen]; kernel_rfl)) rfl ?_
      exact ⟨rfl, below_setRow hB (by omega) _⟩
end Go.Proofs.YthbbnhhofkadgaaDoor
