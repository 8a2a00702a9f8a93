/- The contract of the reference of material.Read. No condition. -/
import Derived.Test.YtcnflmbnnobocaaDoorMrd
namespace Go.Proofs.YtcnflmbnnobocaaDoor
open Go Go.RowKit

theorem numFrom_step (w : List UInt8) (n k : Nat) : numFrom w n (k + 1) = if Lib.decDigits n = w then (n : Int) else numFrom w (n + 1) k := rfl
set_option maxHeartbeats 1000000 in
theorem number_any (s : ByteArray) (w : World) : Calls Tryd.prog 32 #[.string s] w fun e w' => e = .returned (.int .i64 (numV s.data.toList)) ∧ w = w' := by
  go_enter Tryd.func32, Tryd.ntmps32
  go_wp2_with fail
  go_loop [3] (fun i => ∃ k : Nat, k ≤ 16 ∧ i = .int .i64 k ∧ Hid (numV s.data.toList = numFrom s.data.toList k (16 - k))) (fun i => 16 - (intOf i).toNat)
  case atStart => exact ⟨0, by omega, rfl, rfl⟩
  case round =>
    obtain ⟨k, hk, rfl, HN⟩ := hrel
    by_cases hlt : k < 16
    · have hst : numFrom s.data.toList k (16 - k) = if Lib.decDigits k = s.data.toList then (k : Int) else numFrom s.data.toList (k + 1) (16 - (k + 1)) := by
        obtain ⟨m, hm⟩ : ∃ m, 16 - k = m + 1 := ⟨15 - k, by omega⟩
        rw [hm, numFrom_step]
        have : 16 - (k + 1) = m := by omega
        rw [this]
      have HST := Lib.hid hst
      clear hst
      by_cases he : Lib.decDigits k = s.data.toList
      · have g : ((numS k).toList == s.toList) = true := by rw [ByteArray.toList_eq, ByteArray.toList_eq, beq_iff_eq]; exact he
        have HF : Hid (numV s.data.toList = k) := by show _ = _; rw [HN.out, HST.out, if_pos he]
        clear he
        go_wp2_with (go_at_call 29; refine (digits_any _ _ (by omega)).mono ?_; rintro e w' ⟨rfl, rfl⟩)
        go_ret
        exact ⟨ret_int HF.out.symm, rfl⟩
      · have g : ((numS k).toList == s.toList) = false := by rw [ByteArray.toList_eq, ByteArray.toList_eq, beq_eq_false_iff_ne]; exact he
        have HF : Hid (numV s.data.toList = numFrom s.data.toList (k + 1) (16 - (k + 1))) := by show _ = _; rw [HN.out, HST.out, if_neg he]
        clear he
        go_wp2_with (go_at_call 29; refine (digits_any _ _ (by omega)).mono ?_; rintro e w' ⟨rfl, rfl⟩)
        go_round
        case rel => exact ⟨k + 1, by omega, by go_num, HF.out⟩
        case measure => simp [intOf]; omega
    · have hk : k = 16 := by omega
      subst hk
      have HF : Hid (numV s.data.toList = -1) := by show _ = _; rw [HN.out]; rfl
      go_wp2_with fail
      go_ret
      exact ⟨ret_int HF.out.symm, rfl⟩
open Instr Exit in
/-- A struct whose cells are numbers is loaded, behind a guard that holds. -/
theorem wpl_loadSG {P : Program} {ops : Array Oper} {rest : List Oper} {o : Oper} {a : Act} {w : World} {Q : Exit → Act → World → Prop} {g : Nat} {k : IntKind} {t : TypeId} {l : List Int} (hg : Holds w g k t l) (hgd : Region.wanted o (yielded ops a.tmps) = true) (ty : TypeId) (x : Operand) (ho : o.op = .load ty x)
    (hx : a.eval x = .pointer (some ⟨g, 0, none⟩)) {fs : Array Field} (hu : P.underlying ty = some (.struct fs)) (hi : (P.info? ty).map (·.size) = some l.length)
    (h : wpList P ops Q rest (a.put o.dst (.agg (intsK k l))) w) : wpList P ops Q (o :: rest) a w :=
  wpList_step fun K hK => by simp only [hgd, if_true]; exact wp_load_row ty x ho g hx t (intsK k l) (0, 0) _ hg hu rfl (by rw [intsK_size]; exact hi) (hK _ _ h)
def fillL (done : List (List UInt8)) : List Int := done.map numV ++ List.replicate (10 - done.length) 0
theorem fillL_len {done : List (List UInt8)} (h : done.length ≤ 10) : (fillL done).length = 10 := by simp [fillL]; omega
theorem fillL_set {done : List (List UInt8)} (h : done.length < 10) (x : List UInt8) : (fillL done).set done.length (numV x) = fillL (done ++ [x]) := by
  unfold fillL
  obtain ⟨m, hm⟩ : ∃ m, 10 - done.length = m + 1 := ⟨9 - done.length, by omega⟩
  have hm2 : 10 - (done ++ [x]).length = m := by simp; omega
  rw [hm, hm2, List.map_append, List.set_append_right _ _ (by simp)]
  simp [List.replicate_succ]
/-- How far the scan has come: before the byte i, the words that are done, and where the next one begins. -/
def Scan (s : ByteArray) (i fr : Nat) (done : List (List UInt8)) : Prop :=
  (i ≤ s.size ∧ fr ≤ i ∧ wordsOf s = done ++ partsA 32 ((s.data.toList.take i).drop fr) (s.data.toList.drop i)) ∨ (i = s.size + 1 ∧ wordsOf s = done)
theorem scan_start (s : ByteArray) : Scan s 0 0 [] := .inl ⟨Nat.zero_le _, Nat.le_refl _, by simp [wordsOf]; rfl⟩
theorem ba_len (s : ByteArray) : s.data.toList.length = s.size := by simp
theorem drop_at (s : ByteArray) (i : Nat) (h : i < s.size) : s.data.toList.drop i = s[i] :: s.data.toList.drop (i + 1) := by
  rw [List.drop_eq_getElem_cons (by rw [ba_len]; exact h)]; rfl
theorem scan_on {s : ByteArray} {i fr : Nat} {done : List (List UInt8)} (h : Scan s i fr done) (hi : i < s.size) (hc : s[i] ≠ 32) : Scan s (i + 1) fr done := by
  rcases h with ⟨h1, h2, h3⟩ | ⟨h1, _⟩
  · refine .inl ⟨by omega, by omega, ?_⟩
    rw [h3, drop_at s i hi, partsA_cons, if_neg hc]
    have : (s.data.toList.take (i + 1)).drop fr = (s.data.toList.take i).drop fr ++ [s[i]] := by
      rw [List.take_succ_eq_append_getElem (by rw [ba_len]; exact hi), List.drop_append_of_le_length (by simp; omega)]; rfl
    rw [this]
  · omega
theorem scan_sep {s : ByteArray} {i fr : Nat} {done : List (List UInt8)} (h : Scan s i fr done) (hi : i < s.size) (hc : s[i] = 32) : Scan s (i + 1) (i + 1) (done ++ [(s.extract fr i).data.toList]) ∧ done.length < (wordsOf s).length := by
  rcases h with ⟨h1, h2, h3⟩ | ⟨h1, _⟩
  · rw [drop_at s i hi, partsA_cons, if_pos hc] at h3
    have e : (s.extract fr i).data.toList = (s.data.toList.take i).drop fr := by rw [Lib.extract_data, List.drop_take]
    refine ⟨.inl ⟨by omega, Nat.le_refl _, ?_⟩, by rw [h3]; simp⟩
    rw [h3, e]
    have : (s.data.toList.take (i + 1)).drop (i + 1) = [] := by simp
    rw [this]; simp
  · omega
theorem scan_last {s : ByteArray} {fr : Nat} {done : List (List UInt8)} (h : Scan s s.size fr done) : Scan s (s.size + 1) (s.size + 1) (done ++ [(s.extract fr s.size).data.toList]) ∧ done.length < (wordsOf s).length := by
  rcases h with ⟨h1, h2, h3⟩ | ⟨h1, _⟩
  · have hd : s.data.toList.drop s.size = [] := by rw [List.drop_eq_nil_iff, ba_len]; exact Nat.le_refl _
    rw [hd] at h3
    have e : (s.extract fr s.size).data.toList = (s.data.toList.take s.size).drop fr := by rw [Lib.extract_data, List.drop_take]
    refine ⟨.inr ⟨rfl, ?_⟩, by rw [h3]; simp [partsA]⟩
    rw [h3, e]; rfl
  · omega
theorem scan_fr {s : ByteArray} {i fr : Nat} {done : List (List UInt8)} (h : Scan s i fr done) (hi : i ≤ s.size) : fr ≤ i := by
  rcases h with ⟨_, h2, _⟩ | ⟨h1, _⟩ <;> omega
theorem scan_end {s : ByteArray} {i fr : Nat} {done : List (List UInt8)} (h : Scan s i fr done) (hi : s.size < i) : wordsOf s = done := by
  rcases h with ⟨h1, _, _⟩ | ⟨_, h2⟩
  · omega
  · exact h2
theorem scan_over {s : ByteArray} {n : Nat} (h : 10 ≤ n) (h2 : n < (wordsOf s).length) : ¬ rdOk s := fun h' => by have := h'.1; omega

set_option maxRecDepth 100000 in
set_option maxHeartbeats 4000000 in
theorem read_ref (s : ByteArray) (hs : s.size ≤ 100000) (w : World) :
    Calls Tryd.prog 23 #[.string s] w fun e w' => e = .returned (.tuple #[.agg (ints (rdV s)), .int .i64 (rdE s)]) ∧ Below w.heap.size w w' := by
  go_enter Tryd.func23, Tryd.ntmps23
  go_wp2_with fail
  go_loopw [5, 6, 7] (fun f n i wr => ∃ (fr k : Nat) (done : List (List UInt8)), f = .int .i64 fr ∧ n = .int .i64 done.length ∧ i = .int .i64 k ∧ k ≤ s.size + 1 ∧ done.length ≤ 10 ∧ Hid (Scan s k fr done) ∧ Holds wr w.heap.size .i64 28 zero10p ∧ Holds wr (w.heap.size + 1) .i64 28 (fillL done) ∧ Below w.heap.size w wr) (fun _ _ i _ => s.size + 1 - (intOf i).toNat)
  case atStart => exact ⟨0, 0, [], rfl, rfl, rfl, by omega, by simp, scan_start s, (Holds.new w .i64 28 zero10p).alloc _, Holds.newAt .i64 28 zero10p (by simp), by go_grown⟩
  case round =>
    obtain ⟨fr, k, done, rfl, rfl, rfl, hk, hd, HSc, hZ, hV, hB⟩ := hrel
    by_cases hlt : k < s.size
    · by_cases hc : s[k] = 32
      · have hc' : ((s[k].toNat : Int) != 32) = false := by rw [hc]; rfl
        obtain ⟨h1, h2⟩ := scan_sep HSc.out hlt hc
        have H1 := Lib.hid h1
        have hfr := scan_fr HSc.out (by omega)
        clear hc h1
        by_cases hn : done.length = 10
        · have hr := scan_over (by omega) h2
          have HR := Lib.hid (rdV_f hr)
          have HE := Lib.hid (rdE_f hr)
          rw [hn]
          clear hr h2 H1 HSc
          go_wp2_with (with_reducible refine wpl_store (g := w.heap.size) (k := .i64) (t := 28) (l := zero10p) hZ rfl 28 _ _ rfl rfl zero10p rfl ?hl ?hj ?_)
          case hl => rfl
          case hj => kernel_rfl
          refine bodyPost_ret (results_row2 rfl _ _ w.heap.size (l := zero10p) rfl (hZ.setRow _) Tryd.underlying28 rfl (by kernel_rfl)) rfl ?_
          exact ⟨by rw [HR.out, HE.out]; rfl, below_setRow hB (Nat.le_refl _) _⟩
        · have hl := fillL_len hd
          have c2 := hV.cell done.length (by omega)
          have c3 := hV.frozen done.length
          have e2 : (s.extract fr k).data.toList = List.take (k - fr) (List.drop fr s.data.toList) := Lib.extract_data ..
          have HS2 := Lib.hid (hV.set done.length (numV (List.take (k - fr) (List.drop fr s.data.toList))))
          have HF := Lib.hid (fillL_set (done := done) (by omega) (List.take (k - fr) (List.drop fr s.data.toList)))
          rw [e2] at H1
          clear e2
          have hn2 : ((done.length : Int) == 10) = false := by rw [beq_eq_false_iff_ne]; omega
          have hn3 : (done.length : Int) < 10 := by omega
          clear h2 HSc hn
          go_wp2_with (go_at_call 32; refine (number_any _ _).mono ?_; rintro e w' ⟨rfl, rfl⟩)
          go_roundw
          case rel => exact ⟨k + 1, k + 1, done ++ [List.take (k - fr) (List.drop fr s.data.toList)], by go_num, by simp, by go_num, by omega, by simp; omega, H1.out, hZ.setOther _ (by simp), by rw [← HF.out]; exact HS2.out, hB.setCell (by simp) _⟩
          case measure => simp [intOf]; omega
      · have hc' : ((s[k].toNat : Int) != 32) = true := by
          rw [bne_iff_ne]
          intro e
          apply hc
          apply UInt8.toNat_inj.1
          show s[k].toNat = 32
          omega
        have H1 := Lib.hid (scan_on HSc.out hlt hc)
        clear hc HSc
        go_wp2_with fail
        go_roundw
        case rel => exact ⟨fr, k + 1, done, rfl, rfl, by go_num, by omega, hd, H1.out, hZ, hV, hB⟩
        case measure => simp [intOf]; omega
    · by_cases he : k = s.size
      · subst he
        obtain ⟨h1, h2⟩ := scan_last HSc.out
        have H1 := Lib.hid h1
        have hfr := scan_fr HSc.out (Nat.le_refl _)
        clear h1
        by_cases hn : done.length = 10
        · have hr := scan_over (by omega) h2
          have HR := Lib.hid (rdV_f hr)
          have HE := Lib.hid (rdE_f hr)
          rw [hn]
          clear hr h2 H1 HSc
          go_wp2_with (with_reducible refine wpl_store (g := w.heap.size) (k := .i64) (t := 28) (l := zero10p) hZ rfl 28 _ _ rfl rfl zero10p rfl ?hl ?hj ?_)
          case hl => rfl
          case hj => kernel_rfl
          refine bodyPost_ret (results_row2 rfl _ _ w.heap.size (l := zero10p) rfl (hZ.setRow _) Tryd.underlying28 rfl (by kernel_rfl)) rfl ?_
          exact ⟨by rw [HR.out, HE.out]; rfl, below_setRow hB (Nat.le_refl _) _⟩
        · have hl := fillL_len hd
          have c2 := hV.cell done.length (by omega)
          have c3 := hV.frozen done.length
          have e2 : (s.extract fr s.size).data.toList = List.take (s.size - fr) (List.drop fr s.data.toList) := Lib.extract_data ..
          have HS2 := Lib.hid (hV.set done.length (numV (List.take (s.size - fr) (List.drop fr s.data.toList))))
          have HF := Lib.hid (fillL_set (done := done) (by omega) (List.take (s.size - fr) (List.drop fr s.data.toList)))
          rw [e2] at H1
          clear e2
          have hn2 : ((done.length : Int) == 10) = false := by rw [beq_eq_false_iff_ne]; omega
          have hn3 : (done.length : Int) < 10 := by omega
          clear h2 HSc hn
          go_wp2_with (go_at_call 32; refine (number_any _ _).mono ?_; rintro e w' ⟨rfl, rfl⟩)
          go_roundw
          case rel => exact ⟨s.size + 1, s.size + 1, done ++ [List.take (s.size - fr) (List.drop fr s.data.toList)], by go_num, by simp, by go_num, by omega, by simp; omega, H1.out, hZ.setOther _ (by simp), by rw [← HF.out]; exact HS2.out, hB.setCell (by simp) _⟩
          case measure => simp [intOf]
      · have hw := scan_end HSc.out (by omega)
        have hl := fillL_len hd
        clear HSc
        by_cases hn : done.length = 10
        · have hf : fillL done = (wordsOf s).map numV := by rw [hw]; unfold fillL; rw [hn]; simp
          rw [hf] at hV hl
          have hwl : (wordsOf s).length = 10 := by rw [hw]; exact hn
          rw [hn]
          have hZlt := hZ.lt
          have hVlt := hV.lt
          have HC : Hid (okL ((wordsOf s).map numV) ∨ ¬ okL ((wordsOf s).map numV)) := by show _ ∨ _; exact Decidable.em _
          have HX : Hid (∀ h : okL ((wordsOf s).map numV), rdOk s) := fun h => ⟨hwl, h⟩
          have HVR : Hid (∀ h : rdOk s, rdV s = (wordsOf s).map numV) := fun h => rdV_t h
          clear hw hf hwl hn
          have HY : Hid (∀ h : ¬ okL ((wordsOf s).map numV), ¬ rdOk s) := fun h h' => h h'.2
          generalize (wordsOf s).map numV = l at *
          go_wp2_with (refine wpl_loadSG (g := w.heap.size + 1) (k := .i64) (t := 28) (l := l) hV rfl 28 _ rfl rfl Tryd.underlying28 ?hi ?_)
          case hi => rw [hl]; kernel_rfl
          refine (check_Lr l hl _).mono ?_
          rintro e w1 ⟨rfl, hb1⟩
          have hZ1 := hZ.below hb1 hZlt
          have hV1 := hV.below hb1 hVlt
          have hB1 := hB.trans (hb1.mono hB.size)
          clear hZ hV hB hb1 hZlt hVlt
          rcases HC.out with ho | ho
          · have g1 := chkL_t ho
            have HR := Lib.hid (HVR.out (HX.out ho))
            have HE := Lib.hid (rdE_t (HX.out ho))
            clear HC HX HY HVR ho
            go_wp2_with (first
              | (with_reducible refine wpl_loadS (g := w.heap.size + 1) (k := .i64) (t := 28) (l := l) hV1 rfl 28 _ rfl rfl Tryd.underlying28 ?hi ?_)
              | (with_reducible refine wpl_store (g := w.heap.size) (k := .i64) (t := 28) (l := zero10p) hZ1 rfl 28 _ _ rfl rfl l rfl ?hl ?hj ?_))
            case hi => rw [hl]; kernel_rfl
            case hl => rw [hl]; rfl
            case hj => kernel_rfl
            refine bodyPost_ret (results_row2 rfl _ _ w.heap.size (l := l) rfl (hZ1.setRow _) Tryd.underlying28 rfl (by rw [hl]; kernel_rfl)) rfl ?_
            exact ⟨by rw [HR.out, HE.out]; rfl, below_setRow hB1 (Nat.le_refl _) _⟩
          · have g1 := chkL_f ho
            have HR := Lib.hid (rdV_f (HY.out ho))
            have HE := Lib.hid (rdE_f (HY.out ho))
            clear HC HX HY HVR ho
            go_wp2_with (with_reducible refine wpl_store (g := w.heap.size) (k := .i64) (t := 28) (l := zero10p) hZ1 rfl 28 _ _ rfl rfl zero10p rfl ?hl ?hj ?_)
            case hl => rfl
            case hj => kernel_rfl
            refine bodyPost_ret (results_row2 rfl _ _ w.heap.size (l := zero10p) rfl (hZ1.setRow _) Tryd.underlying28 rfl (by kernel_rfl)) rfl ?_
            exact ⟨by rw [HR.out, HE.out]; rfl, below_setRow hB1 (Nat.le_refl _) _⟩
        · have hr : ¬ rdOk s := fun h => hn (by have := h.1; rw [hw] at this; exact this)
          have HR := Lib.hid (rdV_f hr)
          have HE := Lib.hid (rdE_f hr)
          have hn2 : ((done.length : Int) != 10) = true := by rw [bne_iff_ne]; omega
          clear hr hw hn
          go_wp2_with (with_reducible refine wpl_store (g := w.heap.size) (k := .i64) (t := 28) (l := zero10p) hZ rfl 28 _ _ rfl rfl zero10p rfl ?hl ?hj ?_)
          case hl => rfl
          case hj => kernel_rfl
          refine bodyPost_ret (results_row2 rfl _ _ w.heap.size (l := zero10p) rfl (hZ.setRow _) Tryd.underlying28 rfl (by kernel_rfl)) rfl ?_
          exact ⟨by rw [HR.out, HE.out]; rfl, below_setRow hB (Nat.le_refl _) _⟩
end Go.Proofs.YtcnflmbnnobocaaDoor

