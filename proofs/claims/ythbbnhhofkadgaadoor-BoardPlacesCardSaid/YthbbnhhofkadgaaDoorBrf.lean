/- The contracts of the reference's Check, Count and Move. No condition. -/
import Derived.Test.YthbbnhhofkadgaaDoorBmv
import Derived.Test.YthbbnhhofkadgaaDoorBcn
import Derived.Deep.DeepCutAuto
namespace Go.Proofs.YthbbnhhofkadgaaDoor
open Go Go.RowKit
theorem nok_of {b : List Int} {k : Nat} (hk : k < b.length) (h : b.getD k 0 < 0 ∨ 12 < b.getD k 0) : ¬ okB b := by
  intro hb
  have h1 : b[k] = b.getD k 0 := by simp [hk]
  have := hb b[k] (List.getElem_mem _)
  rw [h1] at this
  omega
theorem ok_of {b : List Int} (h : ∀ j, j < b.length → ¬ (b.getD j 0 < 0 ∨ 12 < b.getD j 0)) : okB b := by
  intro x hx
  obtain ⟨i, hi, rfl⟩ := List.mem_iff_getElem.1 hx
  have h1 : b[i] = b.getD i 0 := by simp [hi]
  have := h i hi
  rw [h1]
  omega
set_option maxRecDepth 100000 in
set_option maxHeartbeats 600000 in
theorem checkr_any (b : List Int) (hb : b.length = 64) (w : World) :
    Calls Tryd.prog 23 #[.agg (ints b)] w fun e w' => e = .returned (.int .i64 (chkB b)) ∧ Below w.heap.size w w' := by
  have hg : Holds (w.alloc (.cells (intsK .i64 b) 24)) w.heap.size .i64 24 b := Holds.new w .i64 24 b
  have hB : Below w.heap.size w (w.alloc (.cells (intsK .i64 b) 24)) := (Below.refl _ _).alloc (Nat.le_refl _) _
  go_enter Tryd.func23, Tryd.ntmps23
  go_wp2_with fail
  generalize w.alloc _ = w1 at *
  go_loopg [3] 64 (fun m i wr => ∃ k : Nat, m = 64 - k ∧ k ≤ 64 ∧ i = .int .i64 k ∧ (∀ j, j < k → ¬ (b.getD j 0 < 0 ∨ 12 < b.getD j 0)) ∧ w1 = wr)
  case atStart => exact ⟨0, rfl, by omega, rfl, fun j hj => absurd hj (by omega), rfl⟩
  case round =>
    obtain ⟨k, hkm, hk, rfl, hF, rfl⟩ := hrel
    have HK := Lib.hid hkm
    have HF := Lib.hid hF
    have HB := Lib.hid hB
    clear hkm hF hB
    by_cases hlt : k < 64
    · have c1 := hg.cell k (by omega)
      obtain ⟨p, hp⟩ : ∃ p, b.getD k 0 = p := ⟨_, rfl⟩
      rw [hp] at c1
      have HP := Lib.hid hp
      clear hp
      have hdi : decide ((k : Int) < 64) = true := by simp; omega
      by_cases hx : p < 0
      · have HC := Lib.hid (chkB_f (nok_of (b := b) (k := k) (by omega) (by rw [HP.out]; exact .inl hx)))
        go_wp2_with fail
        go_ret
        exact ⟨by rw [HC.out]; rfl, HB.out⟩
      · have hx0 : decide (p < 0) = false := by simpa using hx
        by_cases hy : 12 < p
        · have HC := Lib.hid (chkB_f (nok_of (b := b) (k := k) (by omega) (by rw [HP.out]; exact .inr hy)))
          go_wp2_with fail
          go_ret
          exact ⟨by rw [HC.out]; rfl, HB.out⟩
        · have hy0 : decide (12 < p) = false := by simpa using hy
          have HN : Hid (∀ j, j < k + 1 → ¬ (b.getD j 0 < 0 ∨ 12 < b.getD j 0)) := Lib.hid (fun j hj => by
            by_cases e : j = k
            · subst e; rw [HP.out]; omega
            · exact HF.out j (by omega))
          go_wp2_with fail
          go_roundg (64 - (k + 1))
          case measure => have := HK.out; omega
          case rel => exact ⟨k + 1, rfl, by omega, by go_num, HN.out, rfl⟩
    · have hk64 : k = 64 := by omega
      subst hk64
      have HC := Lib.hid (chkB_t (ok_of (b := b) (fun j hj => HF.out j (by omega))))
      go_wp2_with fail
      go_ret
      exact ⟨by rw [HC.out]; rfl, HB.out⟩
set_option maxRecDepth 100000 in
set_option maxHeartbeats 600000 in
theorem countr_any (b : List Int) (hb : b.length = 64) (w : World) :
    Calls Tryd.prog 29 #[.agg (ints b)] w fun e w' => e = .returned (.agg (ints (cnB b 64))) ∧ Below w.heap.size w w' := by
  have z13 : (Tryd.prog.info? 48).map (·.size) = some zero13.length := by kernel_rfl
  have hg : Holds (((w.alloc (.cells (intsK .i64 b) 24)).alloc (.cells (intsK .i64 zero13) 48)).alloc (.cells (intsK .i64 zero13) 48)) w.heap.size .i64 24 b := ((Holds.new w .i64 24 b).alloc _).alloc _
  have hn : Holds (((w.alloc (.cells (intsK .i64 b) 24)).alloc (.cells (intsK .i64 zero13) 48)).alloc (.cells (intsK .i64 zero13) 48)) (w.heap.size + 1 + 1) .i64 48 zero13 := Holds.newAt .i64 48 zero13 (by simp)
  have hr : Holds (((w.alloc (.cells (intsK .i64 b) 24)).alloc (.cells (intsK .i64 zero13) 48)).alloc (.cells (intsK .i64 zero13) 48)) (w.heap.size + 1) .i64 48 zero13 := (Holds.newAt .i64 48 zero13 (by simp)).alloc _
  have hB : Below w.heap.size w (((w.alloc (.cells (intsK .i64 b) 24)).alloc (.cells (intsK .i64 zero13) 48)).alloc (.cells (intsK .i64 zero13) 48)) := (((Below.refl _ _).alloc (Nat.le_refl _) _).alloc (by simp) _).alloc (by simp; omega) _
  go_enter Tryd.func29, Tryd.ntmps29
  go_wp2_with fail
  go_loopg [4] 64 (fun m i wr => ∃ k : Nat, m = 64 - k ∧ k ≤ 64 ∧ i = .int .i64 k ∧ Holds wr w.heap.size .i64 24 b ∧ Holds wr (w.heap.size + 1 + 1) .i64 48 (cnB b k) ∧ Holds wr (w.heap.size + 1) .i64 48 zero13 ∧ Below w.heap.size w wr)
  case atStart => exact ⟨0, rfl, by omega, rfl, hg, hn, hr, hB⟩
  case round =>
    clear hg hn hr hB
    obtain ⟨k, hkm, hk, rfl, hg, hn, hr, hB⟩ := hrel
    have HK := Lib.hid hkm
    clear hkm
    by_cases hlt : k < 64
    · have c0 := hg.cell k (by omega)
      have HN : Hid (cnB b (k + 1) = (cnB b k).set (pieceAt (b.getD k 0)) ((cnB b k).getD (pieceAt (b.getD k 0)) 0 + 1)) := Lib.hid rfl
      have hdi : decide ((k : Int) < 64) = true := by simp; omega
      generalize b.getD k 0 = x at *
      have hbd := cnB_bd b k (pieceAt x)
      have hlen := cnB_len b k
      have hq := pieceAt_lt x
      have c1 := hn.cell (pieceAt x) (by omega)
      have c2 := hn.frozen (pieceAt x)
      have HS := Lib.hid (hn.set (pieceAt x) ((cnB b k).getD (pieceAt x) 0 + 1))
      obtain ⟨y, hy⟩ : ∃ y, (cnB b k).getD (pieceAt x) 0 = y := ⟨_, rfl⟩
      rw [hy] at hbd c1 HS HN
      clear hy
      have HR := Lib.hid (hr.setOther (a := ⟨w.heap.size + 1 + 1, pieceAt x, none⟩) (.int .i64 (y + 1)) (by simp))
      have HG := Lib.hid (hg.setOther (a := ⟨w.heap.size + 1 + 1, pieceAt x, none⟩) (.int .i64 (y + 1)) (by simp; omega))
      have HB := Lib.hid (hB.setCell (p := ⟨w.heap.size + 1 + 1, pieceAt x, none⟩) (by simp; omega) (.int .i64 (y + 1)))
      clear hn hr hB hg
      by_cases hx1 : 1 ≤ x
      · by_cases hx2 : x ≤ 12
        · have hp : pieceAt x = x.toNat := if_pos ⟨hx1, hx2⟩
          obtain ⟨q, rfl⟩ := Int.eq_ofNat_of_zero_le (show 0 ≤ x by omega)
          have hpq : pieceAt (q : Int) = q := by rw [hp]; omega
          rw [hpq] at c1 c2 HS HR HB HN HG
          clear hp hpq hq hlen
          go_wp2_with fail
          go_roundg (64 - (k + 1))
          case measure => have := HK.out; omega
          case rel => exact ⟨k + 1, rfl, by omega, by go_num, HG.out, by rw [HN.out]; exact HS.out, HR.out, HB.out⟩
        · have hp : pieceAt x = 0 := if_neg (fun h => hx2 h.2)
          rw [hp] at c1 c2 HS HR HB HN HG
          have hx3 : decide (x ≤ 12) = false := by simpa using hx2
          have hx4 : decide (1 ≤ x) = true := by simpa using hx1
          clear hp hq hlen
          go_wp2_with fail
          go_roundg (64 - (k + 1))
          case measure => have := HK.out; omega
          case rel => exact ⟨k + 1, rfl, by omega, by go_num, HG.out, by rw [HN.out]; exact HS.out, HR.out, HB.out⟩
      · have hp : pieceAt x = 0 := if_neg (fun h => hx1 h.1)
        rw [hp] at c1 c2 HS HR HB HN HG
        have hx3 : decide (1 ≤ x) = false := by simpa using hx1
        clear hp hq hlen
        go_wp2_with fail
        go_roundg (64 - (k + 1))
        case measure => have := HK.out; omega
        case rel => exact ⟨k + 1, rfl, by omega, by go_num, HG.out, by rw [HN.out]; exact HS.out, HR.out, HB.out⟩
    · have hk64 : k = 64 := by omega
      subst hk64
      have hlen := cnB_len b 64
      have il : (Tryd.prog.info? 48).map (·.size) = some (cnB b 64).length := by rw [hlen]; kernel_rfl
      have hl1 : (cnB b 64).length = zero13.length := hlen
      go_wp2_with (first
        | (with_reducible refine wpl_load (g := w.heap.size + 1 + 1) (k := .i64) (t := 48) hn rfl 48 _ rfl rfl Tryd.underlying48 il ?_)
        | (with_reducible refine wpl_store (g := w.heap.size + 1) (k := .i64) (t := 48) (l := zero13) hr rfl 48 _ _ rfl rfl _ rfl hl1 z13 ?_))
      refine bodyPost_ret (results_cell_row rfl _ _ (w.heap.size + 1) 48 (ints (cnB b 64)) (0, 0) _ rfl (hr.setRow _) Tryd.underlying48 rfl (by rw [intsK_size, hlen]; kernel_rfl)) rfl ?_
      exact ⟨rfl, below_setRow hB (by omega) _⟩
end Go.Proofs.YthbbnhhofkadgaaDoor
