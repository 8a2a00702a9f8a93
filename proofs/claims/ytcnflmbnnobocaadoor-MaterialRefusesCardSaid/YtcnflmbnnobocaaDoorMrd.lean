/- The contract of material.Read. Conditions: the variables of strconv and of internal/bytealg lie in memory as the library lays them. -/
import Derived.Test.YtcnflmbnnobocaaDoorMrp
import Derived.Test.YtcnflmbnnobocaaDoorMof
namespace Go.Proofs.YtcnflmbnnobocaaDoor
open Go Go.RowKit

/-- The variables that the package and the library read. -/
structure Env (w : World) : Prop where
  places : Places w
  maxlen : ∃ m, w.cell? ⟨4, 0, none⟩ = some (.int .i64 m)
  syn : ∃ te pe, w.cell? ⟨1, 0, none⟩ = some (.iface te pe)
  rng : ∃ te pe, w.cell? ⟨2, 0, none⟩ = some (.iface te pe)
  size : 9 ≤ w.heap.size
theorem Env.below {w w' : World} (h : Env w) (hb : Below w.heap.size w w') : Env w' where
  places := h.places.below hb
  maxlen := by obtain ⟨m, hm⟩ := h.maxlen; exact ⟨m, (hb.cell (p := ⟨4, 0, none⟩) (by have := h.size; simp; omega)).trans hm⟩
  syn := by obtain ⟨m, n, hm⟩ := h.syn; exact ⟨m, n, (hb.cell (p := ⟨1, 0, none⟩) (by have := h.size; simp; omega)).trans hm⟩
  rng := by obtain ⟨m, n, hm⟩ := h.rng; exact ⟨m, n, (hb.cell (p := ⟨2, 0, none⟩) (by have := h.size; simp; omega)).trans hm⟩
  size := Nat.le_trans h.size hb.size
theorem Env.alloc {w : World} (h : Env w) (o : Obj) : Env (w.alloc o) := h.below ((Below.refl _ _).alloc (Nat.le_refl _) o)

theorem below_bytes (w : World) (e : TypeId) (t : ByteArray) : Below w.heap.size w (Lib.bytesWorld w e t) := by
  refine ((Below.refl w.heap.size w).drew.alloc (Nat.le_refl _) (.cells (Lib.bytesCells w e t) e)).trans ?_
  unfold Lib.bytesWorld
  simp only [World.freeze]
  rw [if_neg (by decide)]
  exact ⟨rfl, rfl, rfl, by simp, fun k hk => by
    simp only [Array.getElem?_modify]
    rw [if_neg (by omega)]⟩
theorem atoi_good (s : ByteArray) (v : Int) (h : Lib.atoiAll s.data.toList = .ok v) (hs : s.size ≤ 100000) (w : World) :
    Calls Tryd.prog 31 #[.string s] w fun e w' => e = .returned (.tuple #[.int .i64 v, .nilIface]) ∧ Below w.heap.size w w' :=
  (Tryd.strconv_Atoi_ok s (by omega) v h w).mono fun e w' ⟨he, hw⟩ => ⟨he, by
    rcases hw with rfl | ⟨t, rfl⟩
    · exact Below.refl _ _
    · exact below_bytes w 5 t⟩
/-- Atoi's answer at what is no number: an error. -/
def BadNum (w : World) (e : Ending) (w' : World) : Prop := ∃ (n : Int) (N : Nat), e = .returned (.tuple #[.int .i64 n, .iface 86 (.pointer (some ⟨N, 0, none⟩))]) ∧ Below w.heap.size w w'
theorem atoi_bad (s : ByteArray) (h : ∀ v, Lib.atoiAll s.data.toList ≠ .ok v) (hs : s.size ≤ 100000) (w : World) (hw : Env w) :
    Calls Tryd.prog 31 #[.string s] w (BadNum w) := by
  by_cases hr : Lib.atoiAll s.data.toList = .range
  · obtain ⟨te, pe, hv⟩ := hw.rng
    exact (Tryd.strconv_Atoi_range s (by omega) hr _ w hv (.inr ⟨_, _, rfl⟩)).mono fun e w' ⟨N, he, _, _, hb⟩ => ⟨_, N, he, hb⟩
  · have hq : Lib.atoiAll s.data.toList = Lib.atoiAll [] := by
      cases hq : Lib.atoiAll s.data.toList <;> first | rfl | exact absurd hq (h _) | exact absurd hq hr
    obtain ⟨te, pe, hv⟩ := hw.syn
    exact (Tryd.strconv_Atoi_syntax s (by omega) hq _ w hv (.inr ⟨_, _, rfl⟩)).mono fun e w' ⟨N, he, _, _, hb⟩ => ⟨_, N, he, hb⟩
/-- The words of a string lie in a block. -/
def Words (w : World) (g : Nat) (ws : List ByteArray) : Prop := w.heap[g]? = some (.cells (ws.map Value.string).toArray 9 (0, 0))
theorem Words.cell {w : World} {g : Nat} {ws : List ByteArray} (h : Words w g ws) (i : Nat) (hi : i < ws.length) : w.cell? ⟨g, i, none⟩ = some (.string (ws.getD i ⟨#[]⟩)) := by
  rw [cell_of_row w g i _ _ _ h]; simp [hi]
theorem Words.below {w w' : World} {g : Nat} {ws : List ByteArray} {B : Nat} (h : Words w g ws) (hb : Below B w w') (hg : g < B) : Words w' g ws := by
  unfold Words; rw [hb.block g hg]; exact h
theorem Words.setOther {w : World} {g : Nat} {ws : List ByteArray} (h : Words w g ws) {a : Addr} (v : Value) (ha : g ≠ a.block) : Words (w.setCell a v) g ws := by
  unfold Words; rw [heap_setCell_other w a g v ha]; exact h
theorem split_words (s : ByteArray) : ∃ ws : List ByteArray, Lib.splitB ⟨#[32]⟩ 0 (Lib.countB s ⟨#[32]⟩) s = ws ∧ ws.map (·.data.toList) = wordsOf s ∧ Lib.countB s ⟨#[32]⟩ + 1 = ws.length := by
  obtain ⟨h1, h2⟩ := splitB_parts 32 s
  exact ⟨_, rfl, h1, by rw [h2, ← h1, List.length_map]⟩

set_option maxRecDepth 100000 in
set_option maxHeartbeats 4000000 in
theorem read_any (s : ByteArray) (hs : s.size ≤ 100000) (w : World) (hw : Env w) :
    Calls Tryd.prog 22 #[.string s] w fun e w' => e = .returned (.tuple #[.agg (ints (rdV s)), .int .i64 (rdE s)]) ∧ Below w.heap.size w w' := by
  obtain ⟨m, hm⟩ := hw.maxlen
  have hsz := hw.size
  obtain ⟨ws, e1, e2, e3⟩ := split_words s
  have HSP : Hid (∀ W : World, W.cell? ⟨4, 0, none⟩ = some (.int .i64 m) → Calls Tryd.prog 30 #[.string s, .string ⟨#[32]⟩] W fun e w' => e = .returned (.slice (some ⟨W.heap.size, 0, none⟩) ws.length ws.length) ∧ w' = W.alloc (.cells (ws.map Value.string).toArray 9)) := fun W hW => by
    have := Tryd.strings_Split s ⟨#[32]⟩ m W (by omega) hW (by decide)
    rw [e1, e3] at this
    exact this
  have hwl : (wordsOf s).length = ws.length := by rw [← e2, List.length_map]
  clear e1 e3
  have hm2 : ((w.alloc (.cells #[.int .i64 0, .int .i64 0, .int .i64 0, .int .i64 0, .int .i64 0, .int .i64 0, .int .i64 0, .int .i64 0, .int .i64 0, .int .i64 0] 25)).alloc (.cells #[.int .i64 0, .int .i64 0, .int .i64 0, .int .i64 0, .int .i64 0, .int .i64 0, .int .i64 0, .int .i64 0, .int .i64 0, .int .i64 0] 25)).cell? ⟨4, 0, none⟩ = some (.int .i64 m) := by
    rw [World.cell?_alloc_past _ _ _ (by simp; omega), World.cell?_alloc_past _ _ _ (by omega)]; exact hm
  have hZ : Holds ((w.alloc (.cells #[.int .i64 0, .int .i64 0, .int .i64 0, .int .i64 0, .int .i64 0, .int .i64 0, .int .i64 0, .int .i64 0, .int .i64 0, .int .i64 0] 25)).alloc (.cells #[.int .i64 0, .int .i64 0, .int .i64 0, .int .i64 0, .int .i64 0, .int .i64 0, .int .i64 0, .int .i64 0, .int .i64 0, .int .i64 0] 25)) w.heap.size .i64 25 zero10p := (Holds.new w .i64 25 zero10p).alloc _
  have hZ2 : Holds ((w.alloc (.cells #[.int .i64 0, .int .i64 0, .int .i64 0, .int .i64 0, .int .i64 0, .int .i64 0, .int .i64 0, .int .i64 0, .int .i64 0, .int .i64 0] 25)).alloc (.cells #[.int .i64 0, .int .i64 0, .int .i64 0, .int .i64 0, .int .i64 0, .int .i64 0, .int .i64 0, .int .i64 0, .int .i64 0, .int .i64 0] 25)) (w.heap.size + 1) .i64 25 zero10p := Holds.newAt .i64 25 zero10p (by simp)
  have hB : Below w.heap.size w ((w.alloc (.cells #[.int .i64 0, .int .i64 0, .int .i64 0, .int .i64 0, .int .i64 0, .int .i64 0, .int .i64 0, .int .i64 0, .int .i64 0, .int .i64 0] 25)).alloc (.cells #[.int .i64 0, .int .i64 0, .int .i64 0, .int .i64 0, .int .i64 0, .int .i64 0, .int .i64 0, .int .i64 0, .int .i64 0, .int .i64 0] 25)) := ((Below.refl _ _).alloc (Nat.le_refl _) _).alloc (by simp) _
  by_cases hN : ws.length = 10
  · rw [hN] at HSP hwl
    have HN := Lib.hid hN
    clear hN
    go_enter Tryd.func22, Tryd.ntmps22
    go_wp2_with (go_at_call 30; refine (HSP.out _ hm2).mono ?_; rintro e w' ⟨rfl, rfl⟩)
    have hW : Words (((w.alloc (.cells #[.int .i64 0, .int .i64 0, .int .i64 0, .int .i64 0, .int .i64 0, .int .i64 0, .int .i64 0, .int .i64 0, .int .i64 0, .int .i64 0] 25)).alloc (.cells #[.int .i64 0, .int .i64 0, .int .i64 0, .int .i64 0, .int .i64 0, .int .i64 0, .int .i64 0, .int .i64 0, .int .i64 0, .int .i64 0] 25)).alloc (.cells (ws.map Value.string).toArray 9)) (w.heap.size + 1 + 1) ws := by
      have := heap_alloc_new ((w.alloc (.cells #[.int .i64 0, .int .i64 0, .int .i64 0, .int .i64 0, .int .i64 0, .int .i64 0, .int .i64 0, .int .i64 0, .int .i64 0, .int .i64 0] 25)).alloc (.cells #[.int .i64 0, .int .i64 0, .int .i64 0, .int .i64 0, .int .i64 0, .int .i64 0, .int .i64 0, .int .i64 0, .int .i64 0, .int .i64 0] 25)) (.cells (ws.map Value.string).toArray 9)
      simpa [Words] using this
    have HZ := Lib.hid (hZ.alloc (.cells (ws.map Value.string).toArray 9))
    have HZ2 := Lib.hid (hZ2.alloc (.cells (ws.map Value.string).toArray 9))
    have HB := Lib.hid (hB.alloc (by simp; omega) (.cells (ws.map Value.string).toArray 9))
    have HW := Lib.hid hW
    have HEW := Lib.hid hw
    clear hZ hZ2 hB hW hm2 hw hm
    go_loopw [20] (fun i wr => ∃ (k : Nat) (l : List Int), k ≤ 10 ∧ i = .int .i64 k ∧ l.length = 10 ∧ (∀ j, j < k → Lib.atoiAll ((wordsOf s).getD j []) = .ok (l.getD j 0)) ∧ Holds wr w.heap.size .i64 25 zero10p ∧ Holds wr (w.heap.size + 1) .i64 25 l ∧ Words wr (w.heap.size + 1 + 1) ws ∧ Below w.heap.size w wr) (fun i _ => 10 - (intOf i).toNat)
    case atStart => exact ⟨0, zero10p, by omega, rfl, rfl, fun j hj => absurd hj (by omega), HZ.out, HZ2.out, HW.out, HB.out⟩
    case round =>
      obtain ⟨k, l, hk, rfl, hl, hat, hZ, hV, hW, hB⟩ := hrel
      have HAT := Lib.hid hat
      clear HZ HZ2 HB HW hat
      by_cases hlt : k < 10
      · have hc : wr.cell? ⟨w.heap.size + 1 + 1, k, none⟩ = some (.string (ws.getD k ⟨#[]⟩)) := hW.cell k (by have := HN.out; omega)
        have hd : (wordsOf s).getD k [] = (ws.getD k ⟨#[]⟩).data.toList := by
          have := HN.out
          rw [← e2]; simp [this, hlt]
        have hs1 : (ws.getD k ⟨#[]⟩).size ≤ 100000 := by
          have h1 : (ws.getD k ⟨#[]⟩).data.toList ∈ wordsOf s := by rw [← hd]; exact List.mem_of_getElem? (by simp [hwl, hlt] : (wordsOf s)[k]? = some ((wordsOf s).getD k []))
          have h2 := parts_len 32 s.data.toList _ h1
          have h3 : (ws.getD k ⟨#[]⟩).size = (ws.getD k ⟨#[]⟩).data.toList.length := by simp
          have h4 : s.size = s.data.toList.length := by simp
          omega
        have HD := Lib.hid hd
        clear hd
        generalize ws.getD k ⟨#[]⟩ = q at *
        have henv := HEW.out.below hB
        by_cases hok : ∃ v, Lib.atoiAll q.data.toList = .ok v
        · obtain ⟨v, hv⟩ := hok
          have HQ : Hid (Calls Tryd.prog 31 #[.string q] wr fun e w' => e = .returned (.tuple #[.int .i64 v, .nilIface]) ∧ Below wr.heap.size wr w') := atoi_good q v hv hs1 wr
          have HV := Lib.hid hv
          clear hv hs1
          have hVlt := hV.lt
          have hWlt : w.heap.size + 1 + 1 < wr.heap.size := (Array.getElem?_eq_some_iff.1 hW).1
          go_wp2_with (go_at_call 31; refine HQ.out.mono ?_; rintro e w1 ⟨rfl, hb1⟩; have hV1 := hV.below hb1 hVlt; have c2 := hV1.cell k (by omega); have c3 := hV1.frozen k)
          have hZ1 := hZ.below hb1 (by omega)
          have hW1 := hW.below hb1 hWlt
          have hB1 := hB.trans (hb1.mono hB.size)
          go_roundw
          case rel =>
            refine ⟨k + 1, l.set k v, by omega, by go_num, by simpa using hl, ?_, hZ1.setOther _ (by simp), hV1.set k v, hW1.setOther _ (by simp), hB1.setCell (by simp) _⟩
            intro j hj
            by_cases hjk : j = k
            · subst hjk
              rw [HD.out, HV.out]; simp [hl, hlt]
            · rw [HAT.out j (by omega)]
              simp [Ne.symm hjk]
          case measure => simp [intOf]; omega
        · have hno : ∀ v, Lib.atoiAll q.data.toList ≠ .ok v := fun v hv => hok ⟨v, hv⟩
          have hr : ¬ rdOk s := rd_no_atoi k hlt (by rw [HD.out]; exact hno)
          have HR := Lib.hid (rdV_f hr)
          have HE := Lib.hid (rdE_f hr)
          have HQ : Hid (Calls Tryd.prog 31 #[.string q] wr (BadNum wr)) := atoi_bad q hno hs1 wr henv
          clear hok hno hr hs1
          have hVlt := hZ.lt
          go_wp2_with (first
            | (go_at_call 31; refine HQ.out.mono ?_; rintro e w1 ⟨n, N, rfl, hb1⟩; have hZ1 := hZ.below hb1 hVlt)
            | (with_reducible refine wpl_store (g := w.heap.size) (k := .i64) (t := 25) (l := zero10p) hZ1 rfl 25 _ _ rfl rfl zero10p rfl ?hl ?hj ?_))
          case hl => rfl
          case hj => kernel_rfl
          refine bodyPost_ret (results_row2 rfl _ _ w.heap.size (l := zero10p) rfl (hZ1.setRow _) Tryd.underlying25 rfl (by kernel_rfl)) rfl ?_
          exact ⟨by rw [HR.out, HE.out]; rfl, below_setRow (hB.trans (hb1.mono hB.size)) (Nat.le_refl _) _⟩
      · have hk : k = 10 := by omega
        subst hk
        have hZlt := hZ.lt
        have hVlt := hV.lt
        have HC : Hid ((okL l ∧ rdOk s ∧ rdV s = l ∧ ((txtL l).toList == s.toList) = true) ∨ (okL l ∧ ¬ rdOk s ∧ ((txtL l).toList == s.toList) = false) ∨ (¬ okL l ∧ ¬ rdOk s)) := by
          show _ ∨ _
          by_cases ho : okL l
          · by_cases he : txtL l = s
            · have h1 := rd_txt hl ho
              rw [he] at h1
              exact .inl ⟨ho, h1.1, h1.2, by rw [he]; simp⟩
            · refine .inr (.inl ⟨ho, fun hr => he ?_, ?_⟩)
              · have := rd_of_atoi hr l hl HAT.out
                rw [← this]; exact rd_join hr
              · rw [beq_eq_false_iff_ne]
                intro e
                rw [ByteArray.toList_eq, ByteArray.toList_eq] at e
                exact he (ba_ext e)
          · refine .inr (.inr ⟨ho, fun hr => ho ?_⟩)
            have := rd_of_atoi hr l hl HAT.out
            rw [← this, rdV_t hr]; exact hr.2
        clear HAT
        go_wp2_with (with_reducible refine wpl_load (g := w.heap.size + 1) (k := .i64) (t := 25) (l := l) hV rfl 25 _ rfl rfl Tryd.underlying25 ?hi ?_)
        case hi => rw [hl]; kernel_rfl
        refine (text_L l hl _).mono ?_
        rintro e w1 ⟨rfl, hb1⟩
        have hZ1 := hZ.below hb1 hZlt
        have hV1 := hV.below hb1 hVlt
        have hB1 := hB.trans (hb1.mono hB.size)
        clear hZ hV hW hB hb1 hZlt hVlt
        rcases HC.out with ⟨ho, hr, hv, hq⟩ | ⟨ho, hr, hq⟩ | ⟨ho, hr⟩
        · have g1 := chkL_t ho
          have HR := Lib.hid hv
          have HE := Lib.hid (rdE_t hr)
          clear HC ho hr hv
          go_wp2_with (first
            | (with_reducible refine wpl_load (g := w.heap.size + 1) (k := .i64) (t := 25) (l := l) hV1 rfl 25 _ rfl rfl Tryd.underlying25 ?hi ?_)
            | (with_reducible refine wpl_store (g := w.heap.size) (k := .i64) (t := 25) (l := zero10p) hZ1 rfl 25 _ _ rfl rfl l rfl ?hl ?hj ?_))
          case hi => rw [hl]; kernel_rfl
          case hl => rw [hl]; rfl
          case hj => kernel_rfl
          refine bodyPost_ret (results_row2 rfl _ _ w.heap.size (l := l) rfl (hZ1.setRow _) Tryd.underlying25 rfl (by rw [hl]; kernel_rfl)) rfl ?_
          exact ⟨by rw [HR.out, HE.out]; rfl, below_setRow hB1 (Nat.le_refl _) _⟩
        · have g1 := chkL_t ho
          have HR := Lib.hid (rdV_f hr)
          have HE := Lib.hid (rdE_f hr)
          clear HC ho hr
          go_wp2_with (with_reducible refine wpl_store (g := w.heap.size) (k := .i64) (t := 25) (l := zero10p) hZ1 rfl 25 _ _ rfl rfl zero10p rfl ?hl ?hj ?_)
          case hl => rfl
          case hj => kernel_rfl
          refine bodyPost_ret (results_row2 rfl _ _ w.heap.size (l := zero10p) rfl (hZ1.setRow _) Tryd.underlying25 rfl (by kernel_rfl)) rfl ?_
          exact ⟨by rw [HR.out, HE.out]; rfl, below_setRow hB1 (Nat.le_refl _) _⟩
        · have g1 := chkL_f ho
          have HR := Lib.hid (rdV_f hr)
          have HE := Lib.hid (rdE_f hr)
          clear HC ho hr
          go_wp2_with (with_reducible refine wpl_store (g := w.heap.size) (k := .i64) (t := 25) (l := zero10p) hZ1 rfl 25 _ _ rfl rfl zero10p rfl ?hl ?hj ?_)
          case hl => rfl
          case hj => kernel_rfl
          refine bodyPost_ret (results_row2 rfl _ _ w.heap.size (l := zero10p) rfl (hZ1.setRow _) Tryd.underlying25 rfl (by kernel_rfl)) rfl ?_
          exact ⟨by rw [HR.out, HE.out]; rfl, below_setRow hB1 (Nat.le_refl _) _⟩
  · have hb : ((ws.length : Int) != 10) = true := by rw [bne_iff_ne]; omega
    have hr : ¬ rdOk s := fun h => hN (by have := h.1; omega)
    have HR := Lib.hid (rdV_f hr)
    have HE := Lib.hid (rdE_f hr)
    clear hr hN hwl
    go_enter Tryd.func22, Tryd.ntmps22
    go_wp2_with (first
      | (go_at_call 30; refine (HSP.out _ hm2).mono ?_; rintro e w' ⟨rfl, rfl⟩)
      | (with_reducible refine wpl_store (g := w.heap.size) (k := .i64) (t := 25) (l := zero10p) (hZ.alloc _) rfl 25 _ _ rfl rfl zero10p rfl ?hl ?hj ?_))
    case hl => rfl
    case hj => kernel_rfl
    refine bodyPost_ret (results_row2 rfl _ _ w.heap.size (l := zero10p) rfl ((hZ.alloc _).setRow _) Tryd.underlying25 rfl (by kernel_rfl)) rfl ?_
    exact ⟨by rw [HR.out, HE.out]; rfl, below_setRow (hB.alloc (by simp; omega) _) (Nat.le_refl _) _⟩
end Go.Proofs.YtcnflmbnnobocaaDoor
