/- The contracts of board.Flip and the reference's Flip. No condition. -/
import Derived.Test.YthbbnhhofkadgaaDoorBrm
import Derived.Test.YthbbnhhofkadgaaDoorEq
import Derived.Test.YthbbnhhofkadgaaDoorBmd
namespace Go.Proofs.YthbbnhhofkadgaaDoor
open Go Go.RowKit
/-- The square on the opposite rank. -/
def flI (k : Nat) : Nat := 8 * (7 - k / 8) + k % 8
/-- The board turned, of the first k squares. -/
def flK (b : List Int) : Nat → List Int
  | 0 => zero64
  | k + 1 => (flK b k).set (flI k) (swapV (b.getD k 0))
def flV (b : List Int) : List Int := if okB b then flK b 64 else zero64
theorem flK_len (b : List Int) (k : Nat) : (flK b k).length = 64 := by
  induction k with
  | zero => rfl
  | succ k ih => simp [flK, ih]
theorem flV_len (b : List Int) : (flV b).length = 64 := by
  unfold flV; split
  · exact flK_len b 64
  · rfl
theorem flI_lt (k : Nat) : flI k < 64 := by unfold flI; omega
theorem flI_inv {j k : Nat} (hj : j < 64) (hk : k < 64) : flI k = j ↔ flI j = k := by unfold flI; omega
theorem flK_get (b : List Int) (k : Nat) (hk : k ≤ 64) : ∀ j, j < 64 → (flK b k).getD j 0 = if flI j < k then swapV (b.getD (flI j) 0) else 0 := by
  induction k with
  | zero => intro j _; rw [if_neg (by omega)]; exact zero64_get j
  | succ k ih =>
    intro j hj
    have ih := ih (by omega) j hj
    have hl := flK_len b k
    simp only [flK]
    by_cases h : flI k = j
    · subst h
      have h2 := (flI_inv hj (show k < 64 by omega)).1 rfl
      rw [List.getD_eq_getElem?_getD, List.getElem?_set_self (by rw [hl]; exact hj), h2, if_pos (by omega)]; rfl
    · have h2 : flI j ≠ k := fun e => h ((flI_inv hj (by omega)).2 e)
      rw [List.getD_eq_getElem?_getD, List.getElem?_set_ne h, ← List.getD_eq_getElem?_getD, ih]
      by_cases h3 : flI j < k
      · rw [if_pos h3, if_pos (by omega)]
      · rw [if_neg h3, if_neg (by omega)]
theorem set_same {l : List Int} {i : Nat} (hi : i < l.length) (h : l.getD i 0 = 0) : l.set i 0 = l := by
  apply List.ext_getElem (by simp)
  intro j h1 h2
  rw [List.getElem_set]
  split
  · rename_i e; subst e
    have : l.getD i 0 = l[i] := by simp [hi]
    rw [← this, h]
  · rfl
theorem flK_skip {b : List Int} {k : Nat} (hk : k < 64) (h : b.getD k 0 = 0) : flK b (k + 1) = flK b k := by
  have e : swapV 0 = 0 := by decide
  simp only [flK]
  rw [h, e]
  refine set_same (by rw [flK_len]; exact flI_lt k) ?_
  rw [flK_get b k (by omega) _ (flI_lt k), if_neg]
  have := (flI_inv (flI_lt k) hk).1 rfl
  omega
theorem flK_zero (k : Nat) : k ≤ 64 → flK zero64 k = zero64 := by
  induction k with
  | zero => intro _; rfl
  | succ k ih => intro h; rw [flK_skip (by omega) (zero64_get k)]; exact ih (by omega)
theorem flV_t {b : List Int} (h : okB b) : flV b = flK b 64 := if_pos h
theorem flV_f {b : List Int} (h : ¬ okB b) : flV b = zero64 := if_neg h
theorem xor56 (k : Nat) (hk : k < 64) : bits BinOp.xor IntKind.i64 (k : Int) 56 = ((flI k : Nat) : Int) := by
  have : ∀ i : Fin 64, bits BinOp.xor IntKind.i64 ((i.val : Nat) : Int) 56 = ((flI i.val : Nat) : Int) := by decide +kernel
  exact this ⟨k, hk⟩
theorem okB_get {b : List Int} (h : okB b) (i : Nat) : 0 ≤ b.getD i 0 ∧ b.getD i 0 ≤ 12 := by
  by_cases hi : i < b.length
  · have h1 : b[i] = b.getD i 0 := by simp [hi]
    have := h b[i] (List.getElem_mem _)
    rw [h1] at this
    exact this
  · rw [List.getD_eq_getElem?_getD, List.getElem?_eq_none (by omega)]; decide
theorem eqZ {w : World} (b : List Int) (hb : b.length = 64) : (Op.equalIn 10000 24 (.agg (ints b)) (.agg (ints zero64))).run Tryd.prog w = .ok (decide (b = zero64)) w :=
  run_eq_ints 9998 b zero64 Tryd.underlying24 Tryd.underlying3 (by kernel_rfl) (by kernel_rfl) hb rfl
set_option maxRecDepth 100000 in
set_option maxHeartbeats 1000000 in
theorem flip_any (b : List Int) (hb : b.length = 64) (w : World) :
    Calls Tryd.prog 33 #[.agg (ints b)] w fun e w' => e = .returned (.tuple #[.agg (ints (flV b)), .int .i64 (chkB b)]) ∧ Below w.heap.size w w' := by
  have hi : (Tryd.prog.info? 24).map (·.size) = some b.length := by rw [hb]; kernel_rfl
  have hg : Holds (((w.alloc (.cells (intsK .i64 b) 24)).alloc (.cells (intsK .i64 zero64) 24)).alloc (.cells (intsK .i64 zero64) 24)) w.heap.size .i64 24 b := ((Holds.new w .i64 24 b).alloc _).alloc _
  have hz : Holds (((w.alloc (.cells (intsK .i64 b) 24)).alloc (.cells (intsK .i64 zero64) 24)).alloc (.cells (intsK .i64 zero64) 24)) (w.heap.size + 1) .i64 24 zero64 := (Holds.newAt .i64 24 zero64 (by simp)).alloc _
  have ho : Holds (((w.alloc (.cells (intsK .i64 b) 24)).alloc (.cells (intsK .i64 zero64) 24)).alloc (.cells (intsK .i64 zero64) 24)) (w.heap.size + 1 + 1) .i64 24 zero64 := Holds.newAt .i64 24 zero64 (by simp)
  have hB : Below w.heap.size w (((w.alloc (.cells (intsK .i64 b) 24)).alloc (.cells (intsK .i64 zero64) 24)).alloc (.cells (intsK .i64 zero64) 24)) := (((Below.refl _ _).alloc (Nat.le_refl _) _).alloc (by simp) _).alloc (by simp; omega) _
  by_cases h : okB b
  · have HC := Lib.hid (chkB_t h)
    have HV := Lib.hid (flV_t h)
    have Hok := Lib.hid h
    clear h
    by_cases h0 : b = zero64
    · have HZ : Hid (flV b = zero64) := Lib.hid (by rw [HV.out, h0]; exact flK_zero 64 (by omega))
      have H0 := Lib.hid h0
      clear h0
      go_enter Tryd.func33, Tryd.ntmps33
      go_wp2_with (first
        | (with_reducible refine wpl_load (g := w.heap.size) (k := .i64) (t := 24) (l := b) hg1 rfl 24 _ rfl rfl Tryd.underlying24 hi ?_)
        | (with_reducible refine wpl_load (g := w.heap.size) (k := .i64) (t := 24) (l := b) ?hg rfl 24 _ rfl rfl Tryd.underlying24 hi ?_)
        | (go_at_call 17; refine (check_any b hb _).mono ?_; rintro e w1 ⟨rfl, hb1⟩; rw [HC.out]; have hg1 := hg.below hb1 (by simp; omega); have ho1 := ho.below hb1 (by simp); have hz1 := hz.below hb1 (by simp); have hB1 := hB.trans (hb1.mono hB.size); clear hg)
        | (with_reducible refine wpl_load (g := w.heap.size + 1 + 1) (k := .i64) (t := 24) (l := zero64) ho1 rfl 24 _ rfl rfl Tryd.underlying24 z64_info ?_)
        | (with_reducible refine wpl_eqG (l := b) (l' := zero64) (by with_unfolding_all rfl) _ _ _ rfl rfl (by with_unfolding_all rfl) Tryd.underlying24 Tryd.underlying3 (by kernel_rfl) (by kernel_rfl) (by kernel_rfl) hb rfl ?_; rw [decide_eq_true H0.out])
        | (with_reducible refine wpl_store (g := w.heap.size + 1) (k := .i64) (t := 24) (l := zero64) hz1 rfl 24 _ _ rfl rfl zero64 rfl rfl z64_info ?_))
      case hg => exact ((Holds.new w .i64 24 b).alloc _).alloc _
      refine bodyPost_ret (results_row2 rfl _ _ (w.heap.size + 1) (l := zero64) rfl (hz1.setRow _) Tryd.underlying24 rfl z64_info) rfl ?_
      exact ⟨by rw [HC.out, HZ.out]; rfl, below_setRow hB1 (by omega) _⟩
    · have H0 := Lib.hid h0
      clear h0
      go_enter Tryd.func33, Tryd.ntmps33
      go_wp2_with (first
        | (with_reducible refine wpl_load (g := w.heap.size) (k := .i64) (t := 24) (l := b) hg1 rfl 24 _ rfl rfl Tryd.underlying24 hi ?_)
        | (with_reducible refine wpl_load (g := w.heap.size) (k := .i64) (t := 24) (l := b) ?hg rfl 24 _ rfl rfl Tryd.underlying24 hi ?_)
        | (go_at_call 17; refine (check_any b hb _).mono ?_; rintro e w1 ⟨rfl, hb1⟩; rw [HC.out]; have hg1 := hg.below hb1 (by simp; omega); have ho1 := ho.below hb1 (by simp); have hz1 := hz.below hb1 (by simp); have hB1 := hB.trans (hb1.mono hB.size); clear hg ho hz)
        | (with_reducible refine wpl_load (g := w.heap.size + 1 + 1) (k := .i64) (t := 24) (l := zero64) ho1 rfl 24 _ rfl rfl Tryd.underlying24 z64_info ?_)
        | (with_reducible refine wpl_eqG (l := b) (l' := zero64) (by with_unfolding_all rfl) _ _ _ rfl rfl (by with_unfolding_all rfl) Tryd.underlying24 Tryd.underlying3 (by kernel_rfl) (by kernel_rfl) (by kernel_rfl) hb rfl ?_; rw [decide_eq_false H0.out]))
      case hg => exact ((Holds.new w .i64 24 b).alloc _).alloc _
      clear hB hg1
      go_loopg [16] 64 (fun m i wr => ∃ k : Nat, m = 64 - k ∧ k ≤ 64 ∧ i = .int .i64 k ∧ Holds wr (w.heap.size + 1 + 1) .i64 24 (flK b k) ∧ Holds wr (w.heap.size + 1) .i64 24 zero64 ∧ Below w.heap.size w wr)
      case atStart => exact ⟨0, rfl, by omega, rfl, ho1, hz1, hB1⟩
      case round =>
        clear ho1 hz1 hB1
        obtain ⟨k, hkm, hk, rfl, ho, hz, hB⟩ := hrel
        have HK := Lib.hid hkm
        clear hkm
        by_cases hlt : k < 64
        · have hix : ∀ w : World, (Instr.index 24 (.agg (intsK .i64 b)) (.int .i64 k)).run Tryd.prog w = .ok (.int .i64 (b.getD k 0)) w := fun w => run_index_ints k Tryd.underlying24 Tryd.underlying3 (by kernel_rfl) hb hlt
          have hdi : decide ((k : Int) < 64) = true := by simp; omega
          obtain ⟨p, hp⟩ : ∃ p, b.getD k 0 = p := ⟨_, rfl⟩
          rw [hp] at hix
          have HP := Lib.hid hp
          clear hp
          by_cases h0 : p = 0
          · subst h0
            have HS := Lib.hid (flK_skip hlt HP.out)
            have HM := Lib.hid (And.intro ho (And.intro hz hB))
            clear ho hz hB
            go_wp2_with fail
            go_roundg (64 - (k + 1))
            case measure => have := HK.out; omega
            case rel => exact ⟨k + 1, rfl, by omega, by go_num, by rw [HS.out]; exact HM.out.1, HM.out.2.1, HM.out.2.2⟩
          · have hp0 : (p != 0) = true := by simpa using h0
            have hx := xor56 k hlt
            have hq := flI_lt k
            have c1 := ho.cell (flI k) (by rw [flK_len]; exact hq)
            have c2 := ho.frozen (flI k)
            have HO : Hid (Holds _ (w.heap.size + 1 + 1) .i64 24 (flK b (k + 1))) := Lib.hid (by have := ho.set (flI k) (swapV p); rw [← HP.out] at this; exact this)
            rw [HP.out] at HO
            have HR := Lib.hid (hz.setOther (a := ⟨w.heap.size + 1 + 1, flI k, none⟩) (.int .i64 (swapV p)) (by simp))
            have HB := Lib.hid (hB.setCell (p := ⟨w.heap.size + 1 + 1, flI k, none⟩) (by simp; omega) (.int .i64 (swapV p)))
            generalize flI k = q at *
            generalize (flK b k).getD q 0 = old at c1
            clear ho hz hB h0
            go_wp2_with (go_at_call 35; refine (swap_any _ _).mono ?_; rintro e w' ⟨rfl, rfl⟩)
            go_roundg (64 - (k + 1))
            case measure => have := HK.out; omega
            case rel => exact ⟨k + 1, rfl, by omega, by go_num, HO.out, HR.out, HB.out⟩
        · have hk64 : k = 64 := by omega
          subst hk64
          have il : (Tryd.prog.info? 24).map (·.size) = some (flK b 64).length := by rw [flK_len]; kernel_rfl
          have hl1 : (flK b 64).length = zero64.length := flK_len b 64
          go_wp2_with (first
            | (with_reducible refine wpl_load (g := w.heap.size + 1 + 1) (k := .i64) (t := 24) ho rfl 24 _ rfl rfl Tryd.underlying24 il ?_)
            | (with_reducible refine wpl_store (g := w.heap.size + 1) (k := .i64) (t := 24) (l := zero64) hz rfl 24 _ _ rfl rfl _ rfl hl1 z64_info ?_))
          refine bodyPost_ret (results_row2 rfl _ _ (w.heap.size + 1) rfl (hz.setRow _) Tryd.underlying24 rfl il) rfl ?_
          exact ⟨by rw [HC.out, HV.out]; rfl, below_setRow hB (by omega) _⟩
  · have HC := Lib.hid (chkB_f h)
    have HV := Lib.hid (flV_f h)
    clear h
    go_enter Tryd.func33, Tryd.ntmps33
    go_wp2_with (first
      | (with_reducible refine wpl_load (g := w.heap.size) (k := .i64) (t := 24) (l := b) hg1 rfl 24 _ rfl rfl Tryd.underlying24 hi ?_)
      | (with_reducible refine wpl_load (g := w.heap.size) (k := .i64) (t := 24) (l := b) ?hg rfl 24 _ rfl rfl Tryd.underlying24 hi ?_)
      | (go_at_call 17; refine (check_any b hb _).mono ?_; rintro e w1 ⟨rfl, hb1⟩; rw [HC.out]; have ho1 := ho.below hb1 (by simp); have hz1 := hz.below hb1 (by simp); have hB1 := hB.trans (hb1.mono hB.size); clear hg)
      | (with_reducible refine wpl_load (g := w.heap.size + 1 + 1) (k := .i64) (t := 24) (l := zero64) ho1 rfl 24 _ rfl rfl Tryd.underlying24 z64_info ?_)
      | (with_reducible refine wpl_store (g := w.heap.size + 1) (k := .i64) (t := 24) (l := zero64) hz1 rfl 24 _ _ rfl rfl zero64 rfl rfl z64_info ?_))
    case hg => exact ((Holds.new w .i64 24 b).alloc _).alloc _
    refine bodyPost_ret (results_row2 rfl _ _ (w.heap.size + 1) (l := zero64) rfl (hz1.setRow _) Tryd.underlying24 rfl z64_info) rfl ?_
    exact ⟨by rw [HC.out, HV.out]; rfl, below_setRow hB1 (by omega) _⟩
theorem swap_ref {p : Int} (h0 : 0 ≤ p) (h1 : p ≤ 12) : (if 7 ≤ p then p - 6 else if 1 ≤ p then p + 6 else p) = swapV p := by
  unfold swapV
  by_cases a : 7 ≤ p
  · rw [if_pos a, if_pos ⟨by omega, h1⟩, if_pos a]
  · rw [if_neg a]
    by_cases c : 1 ≤ p
    · rw [if_pos c, if_pos ⟨c, h1⟩, if_neg a]
    · rw [if_neg c, if_neg (fun h => c h.1)]; omega
set_option maxRecDepth 100000 in
set_option maxHeartbeats 1000000 in
theorem flipr_any (b : List Int) (hb : b.length = 64) (w : World) :
    Calls Tryd.prog 34 #[.agg (ints b)] w fun e w' => e = .returned (.tuple #[.agg (ints (flV b)), .int .i64 (chkB b)]) ∧ Below w.heap.size w w' := by
  have hi : (Tryd.prog.info? 24).map (·.size) = some b.length := by rw [hb]; kernel_rfl
  have hg : Holds ((w.alloc (.cells (intsK .i64 b) 24)).alloc (.cells (intsK .i64 zero64) 24)) w.heap.size .i64 24 b := (Holds.new w .i64 24 b).alloc _
  have hz : Holds ((w.alloc (.cells (intsK .i64 b) 24)).alloc (.cells (intsK .i64 zero64) 24)) (w.heap.size + 1) .i64 24 zero64 := Holds.newAt .i64 24 zero64 (by simp)
  have hB : Below w.heap.size w ((w.alloc (.cells (intsK .i64 b) 24)).alloc (.cells (intsK .i64 zero64) 24)) := ((Below.refl _ _).alloc (Nat.le_refl _) _).alloc (by simp) _
  by_cases h : okB b
  · have HC := Lib.hid (chkB_t h)
    have HV := Lib.hid (flV_t h)
    have Hok := Lib.hid h
    clear h
    go_enter Tryd.func34, Tryd.ntmps34
    go_upto_region 3 with (first
      | (with_reducible refine wpl_load (g := w.heap.size) (k := .i64) (t := 24) (l := b) hg1 rfl 24 _ rfl rfl Tryd.underlying24 hi ?_)
      | (with_reducible refine wpl_load (g := w.heap.size) (k := .i64) (t := 24) (l := b) ?hg rfl 24 _ rfl rfl Tryd.underlying24 hi ?_)
      | (go_at_call 23; refine (checkr_any b hb _).mono ?_; rintro e w1 ⟨rfl, hb1⟩; rw [HC.out]; have hg1 := hg.below hb1 (by simp; omega); have hz1 := hz.below hb1 (by simp); have hB1 := hB.trans (hb1.mono hB.size); clear hg hz))
    case hg => exact (Holds.new w .i64 24 b).alloc _
    obtain ⟨go, hgo⟩ : ∃ g, w1.heap.size = g := ⟨_, rfl⟩
    have hgo2 : w.heap.size + 1 < go := by have := hz1.lt; omega
    have ho2 : Holds (w1.alloc (.cells (intsK .i64 zero64) 24)) w1.heap.size .i64 24 zero64 := Holds.new w1 .i64 24 zero64
    have hg2 := hg1.alloc (.cells (intsK .i64 zero64) 24)
    have hz2 := hz1.alloc (.cells (intsK .i64 zero64) 24)
    have hB2 := hB1.alloc hB1.size (.cells (intsK .i64 zero64) 24)
    clear hB hg1 hz1 hB1
    have Hgo := Lib.hid hgo
    rw [hgo] at ho2
    clear hgo
    go_wp2_with fail
    rw [Hgo.out]
    generalize World.alloc _ _ = w2 at *
    go_loopg [5] 64 (fun m i wr => ∃ k : Nat, m = 64 - k ∧ k ≤ 64 ∧ i = .int .i64 k ∧ Holds wr go .i64 24 (flK b k) ∧ Holds wr w.heap.size .i64 24 b ∧ Holds wr (w.heap.size + 1) .i64 24 zero64 ∧ Below w.heap.size w wr)
    case atStart => exact ⟨0, rfl, by omega, rfl, ho2, hg2, hz2, hB2⟩
    case round =>
      clear ho2 hg2 hz2 hB2
      obtain ⟨k, hkm, hk, rfl, ho, hg, hz, hB⟩ := hrel
      have HK := Lib.hid hkm
      clear hkm
      by_cases hlt : k < 64
      · have hdi : decide ((k : Int) < 64) = true := by simp; omega
        have c0 := hg.cell k (by omega)
        have hpb := okB_get Hok.out k
        obtain ⟨p, hp⟩ : ∃ p, b.getD k 0 = p := ⟨_, rfl⟩
        rw [hp] at c0 hpb
        have HP := Lib.hid hp
        clear hp
        have HSw := Lib.hid (swap_ref hpb.1 hpb.2)
        have hq := flI_lt k
        have hqe : 8 * (7 - (k : Int) / 8) + (k : Int) % 8 = ((flI k : Nat) : Int) := by unfold flI; omega
        have c1 := ho.cell (flI k) (by rw [flK_len]; exact hq)
        have c2 := ho.frozen (flI k)
        have HO : Hid (Holds _ go .i64 24 (flK b (k + 1))) := Lib.hid (by have := ho.set (flI k) (swapV p); rw [← HP.out] at this; exact this)
        rw [HP.out] at HO
        have HG := Lib.hid (hg.setOther (a := ⟨go, flI k, none⟩) (.int .i64 (swapV p)) (by simp; omega))
        have HR := Lib.hid (hz.setOther (a := ⟨go, flI k, none⟩) (.int .i64 (swapV p)) (by simp; omega))
        have HB := Lib.hid (hB.setCell (p := ⟨go, flI k, none⟩) (by simp; omega) (.int .i64 (swapV p)))
        generalize flI k = q at *
        generalize (flK b k).getD q 0 = old at c1
        clear ho hz hB hg
        by_cases h7 : 7 ≤ p
        · have e7 : swapV p = p - 6 := by rw [← HSw.out, if_pos h7]
          rw [e7] at HO HG HR HB
          have d7 : decide (7 ≤ p) = true := by simpa using h7
          clear e7 HSw
          go_wp2_with fail
          go_roundg (64 - (k + 1))
          case measure => have := HK.out; omega
          case rel => exact ⟨k + 1, rfl, by omega, by go_num, HO.out, HG.out, HR.out, HB.out⟩
        · have d7 : decide (7 ≤ p) = false := by simpa using h7
          by_cases h1 : 1 ≤ p
          · have e7 : swapV p = p + 6 := by rw [← HSw.out, if_neg h7, if_pos h1]
            rw [e7] at HO HG HR HB
            have d1 : decide (1 ≤ p) = true := by simpa using h1
            clear e7 HSw
            go_wp2_with fail
            go_roundg (64 - (k + 1))
            case measure => have := HK.out; omega
            case rel => exact ⟨k + 1, rfl, by omega, by go_num, HO.out, HG.out, HR.out, HB.out⟩
          · have e7 : swapV p = p := by rw [← HSw.out, if_neg h7, if_neg h1]
            rw [e7] at HO HG HR HB
            have d1 : decide (1 ≤ p) = false := by simpa using h1
            clear e7 HSw
            go_wp2_with fail
            go_roundg (64 - (k + 1))
            case measure => have := HK.out; omega
            case rel => exact ⟨k + 1, rfl, by omega, by go_num, HO.out, HG.out, HR.out, HB.out⟩
      · have hk64 : k = 64 := by omega
        subst hk64
        have il : (Tryd.prog.info? 24).map (·.size) = some (flK b 64).length := by rw [flK_len]; kernel_rfl
        have hl1 : (flK b 64).length = zero64.length := flK_len b 64
        go_wp2_with (first
          | (with_reducible refine wpl_load (g := go) (k := .i64) (t := 24) ho rfl 24 _ rfl rfl Tryd.underlying24 il ?_)
          | (with_reducible refine wpl_store (g := w.heap.size + 1) (k := .i64) (t := 24) (l := zero64) hz rfl 24 _ _ rfl rfl _ rfl hl1 z64_info ?_))
        refine bodyPost_ret (results_row2 rfl _ _ (w.heap.size + 1) rfl (hz.setRow _) Tryd.underlying24 rfl il) rfl ?_
        exact ⟨by rw [HC.out, HV.out]; rfl, below_setRow hB (by omega) _⟩
  · have HC := Lib.hid (chkB_f h)
    have HV := Lib.hid (flV_f h)
    clear h
    go_enter Tryd.func34, Tryd.ntmps34
    go_wp2_with (first
      | (with_reducible refine wpl_load (g := w.heap.size) (k := .i64) (t := 24) (l := b) hg1 rfl 24 _ rfl rfl Tryd.underlying24 hi ?_)
      | (with_reducible refine wpl_load (g := w.heap.size) (k := .i64) (t := 24) (l := b) ?hg rfl 24 _ rfl rfl Tryd.underlying24 hi ?_)
      | (go_at_call 23; refine (checkr_any b hb _).mono ?_; rintro e w1 ⟨rfl, hb1⟩; rw [HC.out]; have hz1 := hz.below hb1 (by simp); have hB1 := hB.trans (hb1.mono hB.size); clear hg)
      | (with_reducible refine wpl_store (g := w.heap.size + 1) (k := .i64) (t := 24) (l := zero64) hz1 rfl 24 _ _ rfl rfl zero64 rfl rfl z64_info ?_))
    case hg => exact (Holds.new w .i64 24 b).alloc _
    refine bodyPost_ret (results_row2 rfl _ _ (w.heap.size + 1) (l := zero64) rfl (hz1.setRow _) Tryd.underlying24 rfl z64_info) rfl ?_
    exact ⟨by rw [HC.out, HV.out]; rfl, below_setRow hB1 (by omega) _⟩
end Go.Proofs.YthbbnhhofkadgaaDoor
