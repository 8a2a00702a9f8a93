/- The contracts of the reference's Of, Color and King. No condition. -/
import Derived.Test.YthbbnhhofkadgaaDoorBr5
namespace Go.Proofs.YthbbnhhofkadgaaDoor
open Go Go.RowKit
set_option maxRecDepth 100000 in
set_option maxHeartbeats 2000000 in
theorem rof2_any (b : List Int) (hb : b.length = 64) (c : Int) (w : World) :
    Calls Tryd.prog 25 #[.agg (ints b), .int .i64 c] w fun e w' => e = .returned (.int .u64 (bsum (fun x => x == c) b 64 : Nat)) ∧ Below w.heap.size w w' := by
  obtain ⟨i0, hi0, hz0, hz1, hz2⟩ := info_parts infoInt
  have hg : Holds (w.alloc (.cells (intsK .i64 b) 24)) w.heap.size .i64 24 b := Holds.new w .i64 24 b
  have hB : Below w.heap.size w (w.alloc (.cells (intsK .i64 b) 24)) := (Below.refl _ _).alloc (Nat.le_refl _) _
  have hgs : w.heap.size < (w.alloc (.cells (intsK .i64 b) 24)).heap.size := hg.lt
  have HS := Lib.hid (bsum_bsT (fun x => x == c) b 64)
  obtain ⟨t, ht⟩ : ∃ t, (fun i => decide (inP (b.getD i 0)) && (fun x => x == c) (b.getD i 0)) = t := ⟨_, rfl⟩
  rw [ht] at HS
  have Ht : Hid (∀ i, t i = (decide (inP (b.getD i 0)) && (fun x => x == c) (b.getD i 0))) := Lib.hid (fun i => by rw [← ht])
  clear ht
  go_enter Tryd.func25, Tryd.ntmps25
  go_wp2_with fail
  generalize hgw : w.heap.size = gb at hg hgs
  generalize hW : w.alloc _ = w1 at *
  have HB0 := Lib.hid (And.intro hgw (And.intro hW hB))
  clear hW hB hgw
  go_loopg [5, 6] 64 (fun mm o i wr => ∃ k : Nat, mm = 64 - k ∧ k ≤ 64 ∧ i = .int .i64 k ∧ Row w1 wr o (sqL t k))
  case atStart => exact ⟨0, rfl, by omega, rfl, ⟨World.ownsRow_nil _ _ _ _, Below.refl _ _⟩⟩
  case round =>
    obtain ⟨k, hkm, hk, rfl, hr⟩ := hrel
    have HK := Lib.hid hkm
    clear hkm
    by_cases hlt : k < 64
    · have hdi : decide ((k : Int) < 64) = true := by simp; omega
      have hg1 := hg.below hr.bel hgs
      have c1 := hg1.cell k (by omega)
      have HL : Hid (sqL t (k + 1) = sqL t k ++ if t k = true then [(k : Int)] else []) := Lib.hid rfl
      have hlen : (sqL t k).length ≤ 64 := by rw [sqL_len]; have := cnT_le t k; omega
      have hsz := hr.bel.size
      have htk := Ht.out k
      generalize b.getD k 0 = x at c1 htk
      clear hg1
      by_cases hbt : t k = true
      · have HL2 := Lib.hid (HL.out.trans (by rw [if_pos hbt]))
        rw [hbt] at htk
        generalize sqL t k = l at *
        have Hr := Lib.hid hr
        clear hbt HL hr
        have hq : inP x ∧ x = c := by
          have := htk.symm
          rw [Bool.and_eq_true] at this
          exact ⟨of_decide_eq_true this.1, by simpa using this.2⟩
        obtain ⟨⟨q1, q2⟩, q3⟩ := hq
        have d1 : (x == c) = true := by simpa using q3
        have d2 : decide (1 ≤ c) = true := by simp; omega
        have d3 : decide (c ≤ 12) = true := by simp; omega
        clear htk q3
        go_wp2_with (at_builtin; refine wpList_append_own _ rfl _ _ 56 rfl w1.heap.size 3 i0 (.int .i64 0) 1 8 Tryd.underlying56 hi0 hz0 hz1 hz2 rfl (by decide) _ _ _ rfl (Hr.out.own.alloc _) ⟨wr.heap.size, 0, none⟩ 1 1 [.int .i64 k] rfl rfl (cell_one_new _ _ _) (by simp [Value.oneCell']) (by unfold maxLen; omega) (by omega) (by simp; omega) ?_; intro v' w5 hown' hgrow _; have HO := Lib.hid hown'; have HG := Lib.hid hgrow; clear hown' hgrow)
        go_roundg (64 - (k + 1))
        case measure => have := HK.out; omega
        case rel => exact ⟨k + 1, rfl, by omega, by go_num, by rw [HL2.out]; exact Hr.out.app HO.out HG.out⟩

      · have HL2 := Lib.hid (HL.out.trans (by rw [if_neg hbt, List.append_nil]))
        have hbt' : t k = false := by simpa using hbt
        rw [hbt'] at htk
        have Hr := Lib.hid hr
        clear hbt hbt' HL hr
        by_cases d0 : x = c
        · have d1 : (x == c) = true := by simpa using d0
          by_cases e1 : 1 ≤ c
          · have d2 : decide (1 ≤ c) = true := by simpa using e1
            have d3 : decide (c ≤ 12) = false := by
              rw [decide_eq_false_iff_not]
              intro e2
              have : inP x := by rw [d0]; exact ⟨e1, e2⟩
              rw [decide_eq_true this] at htk
              simp [d1] at htk
            clear htk d0 e1
            go_wp2_with fail
            go_roundg (64 - (k + 1))
            case measure => have := HK.out; omega
            case rel => exact ⟨k + 1, rfl, by omega, by go_num, by rw [HL2.out]; exact Hr.out⟩
          · have d2 : decide (1 ≤ c) = false := by simpa using e1
            clear htk d0 e1
            go_wp2_with fail
            go_roundg (64 - (k + 1))
            case measure => have := HK.out; omega
            case rel => exact ⟨k + 1, rfl, by omega, by go_num, by rw [HL2.out]; exact Hr.out⟩
        · have d1 : (x == c) = false := by simpa using d0
          clear htk d0
          go_wp2_with fail
          go_roundg (64 - (k + 1))
          case measure => have := HK.out; omega
          case rel => exact ⟨k + 1, rfl, by omega, by go_num, by rw [HL2.out]; exact Hr.out⟩

    · have hk64 : k = 64 := by omega
      subst hk64
      have hsh := Lib.hid hr.shape
      have Hr := Lib.hid hr.bel
      clear hr
      go_wp2_with (go_at_call 57; refine (rof_any t _ _ hsh.out).mono ?_; rintro e w' ⟨rfl, rfl⟩)
      go_ret
      obtain ⟨q1, q2, q3⟩ := HB0.out
      refine ⟨by rw [HS.out]; rfl, ?_⟩
      rw [← q1] at hgs
      exact q3.trans (Hr.out.mono (Nat.le_of_lt hgs))
set_option maxRecDepth 100000 in
set_option maxHeartbeats 2000000 in
theorem rcolor_any (b : List Int) (hb : b.length = 64) (c : Int) (w : World) :
    Calls Tryd.prog 27 #[.agg (ints b), .int .i64 c] w fun e w' => e = .returned (.int .u64 (bsum (fun x => isB x c) b 64 : Nat)) ∧ Below w.heap.size w w' := by
  obtain ⟨i0, hi0, hz0, hz1, hz2⟩ := info_parts infoInt
  have hg : Holds (w.alloc (.cells (intsK .i64 b) 24)) w.heap.size .i64 24 b := Holds.new w .i64 24 b
  have hB : Below w.heap.size w (w.alloc (.cells (intsK .i64 b) 24)) := (Below.refl _ _).alloc (Nat.le_refl _) _
  have hgs : w.heap.size < (w.alloc (.cells (intsK .i64 b) 24)).heap.size := hg.lt
  have HS := Lib.hid (bsum_bsT (fun x => isB x c) b 64)
  obtain ⟨t, ht⟩ : ∃ t, (fun i => decide (inP (b.getD i 0)) && (fun x => isB x c) (b.getD i 0)) = t := ⟨_, rfl⟩
  rw [ht] at HS
  have Ht : Hid (∀ i, t i = (decide (inP (b.getD i 0)) && (fun x => isB x c) (b.getD i 0))) := Lib.hid (fun i => by rw [← ht])
  clear ht
  go_enter Tryd.func27, Tryd.ntmps27
  go_wp2_with fail
  generalize hgw : w.heap.size = gb at hg hgs
  generalize hW : w.alloc _ = w1 at *
  have HB0 := Lib.hid (And.intro hgw (And.intro hW hB))
  clear hW hB hgw
  go_loopg [5, 6] 64 (fun mm o i wr => ∃ k : Nat, mm = 64 - k ∧ k ≤ 64 ∧ i = .int .i64 k ∧ Row w1 wr o (sqL t k))
  case atStart => exact ⟨0, rfl, by omega, rfl, ⟨World.ownsRow_nil _ _ _ _, Below.refl _ _⟩⟩
  case round =>
    obtain ⟨k, hkm, hk, rfl, hr⟩ := hrel
    have HK := Lib.hid hkm
    clear hkm
    by_cases hlt : k < 64
    · have hdi : decide ((k : Int) < 64) = true := by simp; omega
      have hg1 := hg.below hr.bel hgs
      have c1 := hg1.cell k (by omega)
      have HL : Hid (sqL t (k + 1) = sqL t k ++ if t k = true then [(k : Int)] else []) := Lib.hid rfl
      have hlen : (sqL t k).length ≤ 64 := by rw [sqL_len]; have := cnT_le t k; omega
      have hsz := hr.bel.size
      have htk := Ht.out k
      generalize b.getD k 0 = x at c1 htk
      clear hg1
      by_cases hbt : t k = true
      · have HL2 := Lib.hid (HL.out.trans (by rw [if_pos hbt]))
        rw [hbt] at htk
        generalize sqL t k = l at *
        have Hr := Lib.hid hr
        clear hbt HL hr
        have hq : (c = 0 ∧ 1 ≤ x ∧ x ≤ 6) ∨ (c = 1 ∧ 7 ≤ x ∧ x ≤ 12) := by
          have h2 := htk.symm
          rw [Bool.and_eq_true] at h2
          have h3 : (1 ≤ x ∧ x ≤ 12) ∧ colV x = c := of_decide_eq_true h2.2
          unfold colV at h3
          obtain ⟨h4, h5⟩ := h3
          split at h5 <;> omega
        clear htk
        rcases hq with ⟨rfl, q1, q2⟩ | ⟨rfl, q1, q2⟩
        · skip
          have d1 : decide (1 ≤ x) = true := by simp; omega
          have d2 : decide (x ≤ 6) = true := by simp; omega
          go_wp2_with (at_builtin; refine wpList_append_own _ rfl _ _ 56 rfl w1.heap.size 3 i0 (.int .i64 0) 1 8 Tryd.underlying56 hi0 hz0 hz1 hz2 rfl (by decide) _ _ _ rfl (Hr.out.own.alloc _) ⟨wr.heap.size, 0, none⟩ 1 1 [.int .i64 k] rfl rfl (cell_one_new _ _ _) (by simp [Value.oneCell']) (by unfold maxLen; omega) (by omega) (by simp; omega) ?_; intro v' w5 hown' hgrow _; have HO := Lib.hid hown'; have HG := Lib.hid hgrow; clear hown' hgrow)
          go_roundg (64 - (k + 1))
          case measure => have := HK.out; omega
          case rel => exact ⟨k + 1, rfl, by omega, by go_num, by rw [HL2.out]; exact Hr.out.app HO.out HG.out⟩
        · skip
          have d1 : decide (7 ≤ x) = true := by simp; omega
          have d2 : decide (x ≤ 12) = true := by simp; omega
          go_wp2_with (at_builtin; refine wpList_append_own _ rfl _ _ 56 rfl w1.heap.size 3 i0 (.int .i64 0) 1 8 Tryd.underlying56 hi0 hz0 hz1 hz2 rfl (by decide) _ _ _ rfl (Hr.out.own.alloc _) ⟨wr.heap.size, 0, none⟩ 1 1 [.int .i64 k] rfl rfl (cell_one_new _ _ _) (by simp [Value.oneCell']) (by unfold maxLen; omega) (by omega) (by simp; omega) ?_; intro v' w5 hown' hgrow _; have HO := Lib.hid hown'; have HG := Lib.hid hgrow; clear hown' hgrow)
          go_roundg (64 - (k + 1))
          case measure => have := HK.out; omega
          case rel => exact ⟨k + 1, rfl, by omega, by go_num, by rw [HL2.out]; exact Hr.out.app HO.out HG.out⟩

      · have HL2 := Lib.hid (HL.out.trans (by rw [if_neg hbt, List.append_nil]))
        have hbt' : t k = false := by simpa using hbt
        rw [hbt'] at htk
        have Hr := Lib.hid hr
        clear hbt hbt' HL hr
        have hq : ¬ ((c = 0 ∧ 1 ≤ x ∧ x ≤ 6) ∨ (c = 1 ∧ 7 ≤ x ∧ x ≤ 12)) := by
          intro h
          have h1 : inP x := by unfold inP; omega
          have h2 : isB x c = true := by
            unfold isB colV
            apply decide_eq_true
            split <;> omega
          rw [decide_eq_true h1, h2] at htk
          exact absurd htk (by decide)
        clear htk
        by_cases z0 : c = 0
        · subst z0
          by_cases z1 : 1 ≤ x
          · have d1 : decide (1 ≤ x) = true := by simpa using z1
            have d2 : decide (x ≤ 6) = false := by simp; omega
            clear hq
            go_wp2_with fail
            go_roundg (64 - (k + 1))
            case measure => have := HK.out; omega
            case rel => exact ⟨k + 1, rfl, by omega, by go_num, by rw [HL2.out]; exact Hr.out⟩
          · have d1 : decide (1 ≤ x) = false := by simpa using z1
            clear hq
            go_wp2_with fail
            go_roundg (64 - (k + 1))
            case measure => have := HK.out; omega
            case rel => exact ⟨k + 1, rfl, by omega, by go_num, by rw [HL2.out]; exact Hr.out⟩
        · have y0 : (c == 0) = false := by simpa using z0
          by_cases z2 : c = 1
          · have y1 : (c == 1) = true := by simpa using z2
            by_cases z1 : 7 ≤ x
            · have d1 : decide (7 ≤ x) = true := by simpa using z1
              have d2 : decide (x ≤ 12) = false := by simp; omega
              clear hq z0 z2
              go_wp2_with fail
              go_roundg (64 - (k + 1))
              case measure => have := HK.out; omega
              case rel => exact ⟨k + 1, rfl, by omega, by go_num, by rw [HL2.out]; exact Hr.out⟩
            · have d1 : decide (7 ≤ x) = false := by simpa using z1
              clear hq z0 z2
              go_wp2_with fail
              go_roundg (64 - (k + 1))
              case measure => have := HK.out; omega
              case rel => exact ⟨k + 1, rfl, by omega, by go_num, by rw [HL2.out]; exact Hr.out⟩
          · have y1 : (c == 1) = false := by simpa using z2
            clear hq z0 z2
            go_wp2_with fail
            go_roundg (64 - (k + 1))
            case measure => have := HK.out; omega
            case rel => exact ⟨k + 1, rfl, by omega, by go_num, by rw [HL2.out]; exact Hr.out⟩

    · have hk64 : k = 64 := by omega
      subst hk64
      have hsh := Lib.hid hr.shape
      have Hr := Lib.hid hr.bel
      clear hr
      go_wp2_with (go_at_call 57; refine (rof_any t _ _ hsh.out).mono ?_; rintro e w' ⟨rfl, rfl⟩)
      go_ret
      obtain ⟨q1, q2, q3⟩ := HB0.out
      refine ⟨by rw [HS.out]; rfl, ?_⟩
      rw [← q1] at hgs
      exact q3.trans (Hr.out.mono (Nat.le_of_lt hgs))
theorem sqL_congr {t u : Nat → Bool} (k : Nat) (h : ∀ i, i < k → t i = u i) : sqL t k = sqL u k := by
  induction k with
  | zero => rfl
  | succ k ih => simp only [sqL]; rw [ih (fun i hi => h i (by omega)), h k (by omega)]
theorem bits_bsT (t : Nat → Bool) : sqL (fun i => (bsT t 64).testBit i) 64 = sqL t 64 :=
  sqL_congr 64 (fun i hi => by rw [bsT_bit, decide_eq_true hi, Bool.true_and])
theorem cn_bsT (t : Nat → Bool) : cnT (fun i => (bsT t 64).testBit i) 64 = cnT t 64 :=
  cnT_congr 64 (fun i hi => by rw [bsT_bit, decide_eq_true hi, Bool.true_and])
theorem ctz_one {t : Nat → Bool} (h : cnT t 64 = 1) : sqL t 64 = [((Lib.ctz 64 (bsT t 64) : Nat) : Int)] := by
  have hl : (sqL t 64).length = 1 := by rw [sqL_len]; exact h
  obtain ⟨k, h1, h2, h3, h4⟩ := sqL_at t 64 0 (by omega)
  have hne : bsT t 64 ≠ 0 := by
    intro e
    have := oc_bsT t
    rw [e, h] at this
    exact absurd this (by decide)
  obtain ⟨z1, z2⟩ := low_bit hne (bsT_lt64 t)
  generalize Lib.ctz 64 (bsT t 64) = z at *
  rw [bsT_bit, decide_eq_true z2, Bool.true_and] at z1
  match hs : sqL t 64, hl with
  | [x], _ =>
    rw [hs] at h2
    simp at h2
    subst h2
    have hmem : ∀ n i, i < n → t i = true → (i : Int) ∈ sqL t n := fun n => by
      induction n with
      | zero => intro i hi; omega
      | succ n ih =>
        intro i hi hti
        simp only [sqL]
        by_cases hin : i < n
        · exact List.mem_append_left _ (ih i hin hti)
        · obtain rfl : i = n := by omega
          rw [if_pos hti]; simp
    have := hmem 64 z z2 z1
    rw [hs] at this
    simp at this
    rw [this]
set_option maxHeartbeats 1000000 in
theorem kingr_any (b : List Int) (hb : b.length = 64) (c : Int) (w : World) :
    Calls Tryd.prog 22 #[.agg (ints b), .int .i64 c] w fun e w' => e = .returned (.tuple #[.int .i64 (kgV b c), .bool (kgB b c)]) ∧ Below w.heap.size w w' := by
  have hi := i24 hb
  have hg : Holds (w.alloc (.cells (intsK .i64 b) 24)) w.heap.size .i64 24 b := Holds.new w .i64 24 b
  have hB : Below w.heap.size w (w.alloc (.cells (intsK .i64 b) 24)) := (Below.refl _ _).alloc (Nat.le_refl _) _
  by_cases hc : c = 0 ∨ c = 1
  · have hofv : ofV c 6 = 6 + 6 * c := if_pos ⟨hc, by decide, by decide⟩
    have hkt := @kg_t b c
    have hkf := @kg_f b c
    have hks0 : kgS b c = bsum (fun x => x == 6 + 6 * c) b 64 := by unfold kgS; rw [hofv]
    have HO := Lib.hid (fun W : World => rof2_any b hb (6 + 6 * c) W)
    rw [bsum_bsT] at hks0
    have hbb := bsum_bsT (fun x => x == 6 + 6 * c) b 64
    generalize (fun i => decide (inP (b.getD i 0)) && (fun x => x == 6 + 6 * c) (b.getD i 0)) = t at *
    rw [hbb] at HO
    rw [hks0, oc_bsT] at hkt hkf
    have hs64 := bsT_lt64 t
    have h1 := cn_bsT t
    have h2 := bits_bsT t
    have h3 := @ctz_one t
    have hne : cnT t 64 = 1 → bsT t 64 ≠ 0 := by
      intro h e
      have := oc_bsT t
      rw [e, h] at this
      exact absurd this (by decide)
    generalize hS : bsT t 64 = s at *
    have HLen := Lib.hid (fun W : World => rlen_any s hs64 W)
    rw [h1] at HLen
    have HLow := Lib.hid (fun (W : World) x r h => rlow_any s hs64 W x r h)
    rw [h2] at HLow
    generalize hN : cnT t 64 = n at *
    have Hc := Lib.hid hc
    clear hbb hks0 hS hN h1 h2 hs64
    by_cases hn : n = 1
    · obtain ⟨q1, q2⟩ := hkt ⟨hc, hn⟩
      have q3 : kgV b c = ((Lib.ctz 64 s : Nat) : Int) := by rw [q1]; unfold lowV; rw [if_neg (hne hn)]
      have h4 := h3 hn
      rw [h4] at HLow
      have HL := Lib.hid (fun W : World => HLow.out W _ _ rfl)
      rw [q3, q2]
      subst hn
      generalize Lib.ctz 64 s = z at *
      clear h3 h4 hkt hkf q1 q2 q3 hne HLow
      rcases hc with rfl | rfl
      all_goals
        go_enter Tryd.func22, Tryd.ntmps22
        go_wp2_with (first
          | (with_reducible refine wpl_load (g := w.heap.size) (k := .i64) (t := 24) (l := b) hg rfl 24 _ rfl rfl Tryd.underlying24 hi ?_)
          | (go_at_call 25; refine (HO.out _).mono ?_; rintro e w1 ⟨rfl, hb1⟩)
          | (go_at_call 53; refine (HLen.out _).mono ?_; rintro e w2 ⟨rfl, hb2⟩)
          | (go_at_call 54; refine (HL.out _).mono ?_; rintro e w3 ⟨rfl, hb3⟩))
        go_ret2
        have hB1 := hB.trans (hb1.mono hB.size)
        have hB2 := hB1.trans (hb2.mono hB1.size)
        exact ⟨rfl, hB2.trans (hb3.mono hB2.size)⟩
    · obtain ⟨q1, q2⟩ := hkf (fun h => hn h.2)
      rw [q1, q2]
      have hn1 : ((n : Int) != 1) = true := by rw [bne_iff_ne]; omega
      clear h3 hkt hkf q1 q2 hne HLow hn
      rcases hc with rfl | rfl
      all_goals
        go_enter Tryd.func22, Tryd.ntmps22
        go_wp2_with (first
          | (with_reducible refine wpl_load (g := w.heap.size) (k := .i64) (t := 24) (l := b) hg rfl 24 _ rfl rfl Tryd.underlying24 hi ?_)
          | (go_at_call 25; refine (HO.out _).mono ?_; rintro e w1 ⟨rfl, hb1⟩)
          | (go_at_call 53; refine (HLen.out _).mono ?_; rintro e w2 ⟨rfl, hb2⟩))
        go_ret2
        have hB1 := hB.trans (hb1.mono hB.size)
        exact ⟨rfl, hB1.trans (hb2.mono hB1.size)⟩
  · obtain ⟨q1, q2⟩ := kg_f (b := b) (c := c) (fun h => hc h.1)
    rw [q1, q2]
    have d0 : (c != 0) = true := by rw [bne_iff_ne]; omega
    have d1 : (c != 1) = true := by rw [bne_iff_ne]; omega
    clear q1 q2 hc
    go_enter Tryd.func22, Tryd.ntmps22
    go_wp2_with fail
    go_ret2
    exact ⟨rfl, hB⟩
end Go.Proofs.YthbbnhhofkadgaaDoor
