/- The contract of board.Count. No condition. -/
import Derived.Test.YthbbnhhofkadgaaDoorBck
import Derived.Deep.DeepCutAuto
namespace Go.Proofs.YthbbnhhofkadgaaDoor
open Go Go.RowKit
/-- The number that counts for a square. -/
def pieceAt (p : Int) : Nat := if 1 ≤ p ∧ p ≤ 12 then p.toNat else 0
theorem pieceAt_lt (p : Int) : pieceAt p < 13 := by unfold pieceAt; split <;> omega
def zero13 : List Int := [0, 0, 0, 0, 0, 0, 0, 0, 0, 0, 0, 0, 0]
def cn1 (l : List Int) (p : Int) : List Int := l.set (pieceAt p) (l.getD (pieceAt p) 0 + 1)
/-- How many there are of each, of the first k squares. -/
def cnB (b : List Int) : Nat → List Int
  | 0 => zero13
  | k + 1 => cn1 (cnB b k) (b.getD k 0)
theorem cnB_len (b : List Int) (k : Nat) : (cnB b k).length = 13 := by
  induction k with
  | zero => rfl
  | succ k ih => simp [cnB, cn1, ih]
theorem cnB_bd (b : List Int) (k : Nat) : ∀ j, 0 ≤ (cnB b k).getD j 0 ∧ (cnB b k).getD j 0 ≤ k := by
  induction k with
  | zero => intro j; rcases j with _ | _ | _ | _ | _ | _ | _ | _ | _ | _ | _ | _ | _ | j <;> simp [cnB, zero13]
  | succ k ih =>
    intro j
    have h1 := ih j
    have h2 := ih (pieceAt (b.getD k 0))
    simp only [cnB, cn1]
    generalize pieceAt (b.getD k 0) = q at *
    simp only [List.getD_eq_getElem?_getD, List.getElem?_set] at *
    split
    · split
      · simp; omega
      · simp; omega
    · omega
set_option maxRecDepth 100000 in
set_option maxHeartbeats 600000 in
theorem count_any (b : List Int) (hb : b.length = 64) (w : World) :
    Calls Tryd.prog 28 #[.agg (ints b)] w fun e w' => e = .returned (.agg (ints (cnB b 64))) ∧ Below w.heap.size w w' := by
  have hi : (Tryd.prog.info? 24).map (·.size) = some b.length := by rw [hb]; kernel_rfl
  have z13 : (Tryd.prog.info? 48).map (·.size) = some zero13.length := by kernel_rfl
  have hn : Holds (((w.alloc (.cells (intsK .i64 b) 24)).alloc (.cells (intsK .i64 zero13) 48)).alloc (.cells (intsK .i64 zero13) 48)) (w.heap.size + 1 + 1) .i64 48 zero13 := Holds.newAt .i64 48 zero13 (by simp)
  have hr : Holds (((w.alloc (.cells (intsK .i64 b) 24)).alloc (.cells (intsK .i64 zero13) 48)).alloc (.cells (intsK .i64 zero13) 48)) (w.heap.size + 1) .i64 48 zero13 := (Holds.newAt .i64 48 zero13 (by simp)).alloc _
  have hB : Below w.heap.size w (((w.alloc (.cells (intsK .i64 b) 24)).alloc (.cells (intsK .i64 zero13) 48)).alloc (.cells (intsK .i64 zero13) 48)) := (((Below.refl _ _).alloc (Nat.le_refl _) _).alloc (by simp) _).alloc (by simp; omega) _
  go_enter Tryd.func28, Tryd.ntmps28
  go_wp2_with (with_reducible refine wpl_load (g := w.heap.size) (k := .i64) (t := 24) (l := b) ?hg rfl 24 _ rfl rfl Tryd.underlying24 hi ?_)
  case hg => exact ((Holds.new w .i64 24 b).alloc _).alloc _
  go_loopg [7] 64 (fun m i wr => ∃ k : Nat, m = 64 - k ∧ k ≤ 64 ∧ i = .int .i64 k ∧ Holds wr (w.heap.size + 1 + 1) .i64 48 (cnB b k) ∧ Holds wr (w.heap.size + 1) .i64 48 zero13 ∧ Below w.heap.size w wr)
  case atStart => exact ⟨0, rfl, by omega, rfl, hn, hr, hB⟩
  case round =>
    clear hn hr hB
    obtain ⟨k, hkm, hk, rfl, hn, hr, hB⟩ := hrel
    have HK := Lib.hid hkm
    clear hkm
    by_cases hlt : k < 64
    · have hix : ∀ w : World, (Instr.index 24 (.agg (intsK .i64 b)) (.int .i64 k)).run Tryd.prog w = .ok (.int .i64 (b.getD k 0)) w := fun w => run_index_ints k Tryd.underlying24 Tryd.underlying3 (by kernel_rfl) hb hlt
      have HN : Hid (cnB b (k + 1) = (cnB b k).set (pieceAt (b.getD k 0)) ((cnB b k).getD (pieceAt (b.getD k 0)) 0 + 1)) := Lib.hid rfl
      have hdi : decide ((k : Int) < 64) = true := by simp; omega
      generalize b.getD k 0 = x at *
      have hbd := cnB_bd b k (pieceAt x)
      have hlen := cnB_len b k
      have hq := pieceAt_lt x
      have c1 := hn.cell (pieceAt x) (by omega)
      have c2 := hn.frozen (pieceAt x)
      have HS := Lib.hid (hn.set (pieceAt x) ((cnB b k).getD (pieceAt x) 0 + 1))
      obtain ⟨y, hy⟩ : ∃ y, (cnB b k).getD (pieceAt x) 0 = y := ⟨_, rfl⟩
      rw [hy] at hbd c1 HS HN
      clear hy
      have HR := Lib.hid (hr.setOther (a := ⟨w.heap.size + 1 + 1, pieceAt x, none⟩) (.int .i64 (y + 1)) (by simp))
      have HB := Lib.hid (hB.setCell (p := ⟨w.heap.size + 1 + 1, pieceAt x, none⟩) (by simp; omega) (.int .i64 (y + 1)))
      clear hn hr hB
      by_cases hx : inP x
      · have hp : pieceAt x = x.toNat := if_pos hx
        obtain ⟨x0, x1⟩ := hx
        obtain ⟨q, rfl⟩ := Int.eq_ofNat_of_zero_le (show 0 ≤ x by omega)
        have hpq : pieceAt (q : Int) = q := by rw [hp]; omega
        rw [hpq] at c1 c2 HS HR HB HN
        clear hp hpq hq hlen
        go_wp2_with (go_at_call 49; refine (bis_t _ _ ⟨x0, x1⟩).mono ?_; rintro e w' ⟨rfl, rfl⟩)
        go_roundg (64 - (k + 1))
        case measure => have := HK.out; omega
        case rel => exact ⟨k + 1, rfl, by omega, by go_num, by rw [HN.out]; exact HS.out, HR.out, HB.out⟩
      · have hp : pieceAt x = 0 := if_neg hx
        rw [hp] at c1 c2 HS HR HB HN
        clear hp hq hlen
        go_wp2_with (go_at_call 49; refine (bis_f _ _ hx).mono ?_; rintro e w' ⟨rfl, rfl⟩)
        go_roundg (64 - (k + 1))
        case measure => have := HK.out; omega
        case rel => exact ⟨k + 1, rfl, by omega, by go_num, by rw [HN.out]; exact HS.out, HR.out, HB.out⟩
    · have hk64 : k = 64 := by omega
      subst hk64
      have hlen := cnB_len b 64
      have il : (Tryd.prog.info? 48).map (·.size) = some (cnB b 64).length := by rw [hlen]; kernel_rfl
      have hl1 : (cnB b 64).length = zero13.length := hlen
      go_wp2_with (first
        | (with_reducible refine wpl_load (g := w.heap.size + 1 + 1) (k := .i64) (t := 48) hn rfl 48 _ rfl rfl Tryd.underlying48 il ?_)
        | (with_reducible refine wpl_store (g := w.heap.size + 1) (k := .i64) (t := 48) (l := zero13) hr rfl 48 _ _ rfl rfl _ rfl hl1 z13 ?_))
      refine bodyPost_ret (results_cell_row rfl _ _ (w.heap.size + 1) 48 (ints (cnB b 64)) (0, 0) _ rfl (hr.setRow _) Tryd.underlying48 rfl (by rw [intsK_size, hlen]; kernel_rfl)) rfl ?_
      exact ⟨rfl, below_setRow hB (by omega) _⟩
end Go.Proofs.YthbbnhhofkadgaaDoor
