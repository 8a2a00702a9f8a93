/- The law BoardPlaces. Conditions: as in EnvB. -/
import Derived.Test.YthbbnhhofkadgaaDoorBs10
import Derived.Test.YthbbnhhofkadgaaDoorBpx
import Derived.Test.YthbbnhhofkadgaaDoorBrp
namespace Go.Proofs.YthbbnhhofkadgaaDoor
open Go Go.RowKit
theorem Rch.iterAt {w0 w : World} {hs : List (Nat × TypeId × List Int)} (h : Rch w0 hs w) (e0 : EnvB w0) {k : Nat} (hk : w0.heap.size ≤ k) (ha : ∀ x ∈ hs, x.1 ≠ k) (q : ByteArray) (pos : Nat) : Rch w0 hs (w.iterAt k q pos) := by
  have hb := Lib.below_iterAt h.bel hk q pos
  exact ⟨e0.below hb e0.size, hb, fun x hx => (Lib.iterAt_other w k _ q pos (ha x hx)).trans (h.held x hx)⟩
/-- Reading the ranks: the boards, the words, and where the reader stands. -/
structure PlJ (w0 : World) (hs : List (Nat × TypeId × List Int)) (gw : Nat) (ws : List ByteArray) (k : Nat) (q : ByteArray) (pos : Nat) (wr : World) : Prop where
  rch : Rch w0 hs wr
  wds : Words wr gw ws
  it : wr.heap[k]? = some (.stringIter q pos)
section
variable {w0 wr : World} {hs : List (Nat × TypeId × List Int)} {gw : Nat} {ws : List ByteArray} {k : Nat} {q : ByteArray} {pos : Nat}
theorem PlJ.go (h : PlJ w0 hs gw ws k q pos wr) {w' : World} (hb : Below wr.heap.size wr w') : PlJ w0 hs gw ws k q pos w' := ⟨h.rch.go hb, h.wds.below hb h.wds.lt, (hb.block k (Array.getElem?_eq_some_iff.1 h.it).1).trans h.it⟩
theorem PlJ.move (h : PlJ w0 hs gw ws k q pos wr) (e0 : EnvB w0) (hk : w0.heap.size ≤ k) (ha : ∀ x ∈ hs, x.1 ≠ k) (hw : gw ≠ k) (pos' : Nat) : PlJ w0 hs gw ws k q pos' (wr.iterAt k q pos') :=
  ⟨h.rch.iterAt e0 hk ha q pos', (Lib.iterAt_other wr k _ q pos' hw).trans h.wds, Lib.iterAt_heap wr k q pos pos' h.it⟩
end
/-- A whole array is stored into a variable that is new; what was there before lies as it lay. -/
theorem wpl_storeNewB {w0 w : World} {hs : List (Nat × TypeId × List Int)} {ops : Array Oper} {rest : List Oper} {o : Oper} {a : Act} {Q : Exit → Act → World → Prop} (h : Rch w0 hs w) (t : TypeId) (l l' : List Int) {cs : Array Value} (hcs : cs = ints l) (hgd : o.guard = none) (ty : TypeId) (x y : Operand) (ho : o.op = .store ty x y)
    (hx : a.eval x = .pointer (some ⟨w.heap.size, 0, none⟩)) (hy : a.eval y = .agg (ints l')) (hl : l'.length = l.length) (hi : (Tryd.prog.info? ty).map (·.size) = some l.length)
    (hK : ∀ w', Below w.heap.size w w' → Rch w0 ((w.heap.size, t, l') :: hs) w' → wpList Tryd.prog ops Q rest (a.put o.dst undef) w') : wpList Tryd.prog ops Q (o :: rest) a (w.alloc (.cells cs t)) := by
  subst hcs
  exact wpl_store (Holds.new w .i64 t l) hgd ty x y ho hx l' hy hl hi (hK _ (below_setRow ((Below.refl _ _).alloc (Nat.le_refl _) _) (Nat.le_refl _) _) (h.new t l l'))
set_option maxRecDepth 100000 in
set_option maxHeartbeats 40000000 in
theorem places_any (n : List Int) (hn : n.length = 64) (h8 : u8s n) (w : World) (hw : EnvB w) :
    Calls Tryd.prog 4 #[.agg (intsK .u8 n)] w fun e w' => e = .returned (.bool true) ∧ Below w.heap.size w w' := by
  have hok := mdV_ok h8
  obtain ⟨b, hb⟩ : ∃ b, mdV n = b := ⟨_, rfl⟩
  rw [hb] at hok
  have lb : b.length = 64 := by rw [← hb]; exact mdV_len n
  have HB := Lib.hid hb
  have HN := Lib.hid hn
  have Hok := Lib.hid hok
  have H8 := Lib.hid h8
  have He := Lib.hid hw
  have HCk := Lib.hid (chkB_t hok)
  have HV := Lib.hid (plV_t hok)
  have hps := ps_yes lb hok
  have hsz : (plS b).size ≤ 300 := by have := rpl_size b 8; rw [rpl_8] at this; omega
  have hpp := parts_plS hok
  obtain ⟨s, hs⟩ : ∃ s, plS b = s := ⟨_, rfl⟩
  rw [hs] at HV hps hsz hpp
  have HS := Lib.hid hs
  have HPV := Lib.hid hps.1
  have HPE := Lib.hid hps.2
  obtain ⟨mx, hmx⟩ := hw.maxlen
  have Hmx := Lib.hid hmx
  obtain ⟨ws, e2, hwl, HSP⟩ := split_call s (by omega) mx
  rw [hpp] at e2 hwl
  have hwl8 : ws.length = 8 := hwl.symm
  rw [hwl8] at HSP
  have He2 := Lib.hid e2
  have hs0 : 0 < s.size := by
    have : s.size = s.data.toList.length := by simp
    obtain ⟨A, hA⟩ := plS_last b
    rw [hs] at hA
    rw [this, hA]; simp; omega
  have zb : b.length = zero64.length := lb
  have ib := i24 lb
  have i1 := i29 hn
  have hR := (Rch.start hw).alloc (.cells (intsK .u8 n) 29)
  have hP : Holds (w.alloc (.cells (intsK .u8 n) 29)) w.heap.size .u8 29 n := Holds.new w .u8 29 n
  clear hb hw h8 hn hok hs hps hpp e2 hwl hmx
  have t1 := trivial
  go_enter Tryd.func4, Tryd.ntmps4
  go_upto_region 4 with (first
    | (with_reducible refine wpl_load (g := w.heap.size) (k := .u8) (t := 29) (l := n) hP rfl 29 _ rfl rfl Tryd.underlying29 i1 ?_)
    | (go_at_call 14; refine (made_R hR HN.out H8.out).mono ?_; clear hR; rintro e wa ⟨rfl, hR⟩; rw [HB.out])
    | (have _t := t1; with_reducible refine wpl_storeAt' hR 24 zero64 b (by with_unfolding_all rfl) (by simp) rfl 24 _ _ rfl rfl rfl zb z64_info ?_; clear hR t1 _t; intro wb z4 y4 hR)
    | (with_reducible refine wpl_storeAt' hR 24 zero64 b (by with_unfolding_all rfl) (by simp) rfl 24 _ _ rfl rfl rfl zb z64_info ?_; clear hR; intro wd z5 y5 hR)
    | (with_reducible refine wpl_loadG hR.hd (by with_unfolding_all rfl) 24 _ rfl rfl Tryd.underlying24 ib ?_)
    | (go_at_call 15; refine (place_R hR b lb).mono ?_; clear hR; rintro e wp ⟨rfl, hR⟩; rw [HV.out, HCk.out])
    | (go_at_call 12; refine (psr_R hR s (by omega)).mono ?_; clear hR; rintro e we ⟨rfl, hR⟩; rw [HPV.out, HPE.out]))
  have hm2 := (hR.bel.cell (p := ⟨1, 0, none⟩) (by have := He.out.size; simp; omega)).trans Hmx.out
  have hs1 : ((s.size : Int) == 0) = false := by rw [beq_eq_false_iff_ne]; omega
  have hgw := hR.bel.size
  have haw : ∀ x ∈ [(we.heap.size, 24, b), (wa.heap.size, 24, b)], x.1 ≠ wd.heap.size := fun x hx e => by have := (hR.held x hx).lt; omega
  have Haw := Lib.hid haw
  have hW0 : Words (wd.alloc (.cells (ws.map Value.string).toArray 9)) wd.heap.size ws := by
    have := heap_alloc_new wd (.cells (ws.map Value.string).toArray 9)
    simpa [Words] using this
  have HW := Lib.hid hW0
  have hR2 := hR.alloc (.cells (ws.map Value.string).toArray 9)
  clear hR haw hW0 z4 y4 z5 y5
  go_wp2_with (first
    | (go_at_call 16; refine (HSP.out _ hm2).mono ?_; rintro e w' ⟨rfl, rfl⟩)
    | (with_reducible refine wpl_loadG hR2.hd (by with_unfolding_all rfl) 24 _ rfl rfl Tryd.underlying24 ib ?_)
    | (with_reducible refine wpl_loadG hR2.tl.hd (by with_unfolding_all rfl) 24 _ rfl rfl Tryd.underlying24 ib ?_)
    | (with_reducible refine wpl_neB lb lb rfl (by with_unfolding_all rfl) _ _ _ rfl rfl (by with_unfolding_all rfl) ?_)
    | (go_at_call 17; refine (check_any b lb _).mono ?_; rintro e w8 ⟨rfl, hb8⟩; rw [HCk.out]; have hR3 := hR2.go hb8; have HW3 := Lib.hid (HW.out.below hb8 HW.out.lt); clear hR2 hb8))
  clear hm2
  generalize wa.heap.size = gb at *
  generalize we.heap.size = gv at *
  generalize wd.heap.size = gw at *
  go_loopg [63] 8 (fun mm i wr => ∃ j : Nat, mm = 8 - j ∧ j ≤ 8 ∧ i = .int .i64 j ∧ Rch w [(gv, 24, b), (gb, 24, b)] wr ∧ Words wr gw ws)
  case atStart => exact ⟨0, rfl, by omega, rfl, hR3, HW3.out⟩
  case round =>
    rename World => W0
    clear hR3 HW3 HW
    obtain ⟨i, him, hi, rfl, hR, hW⟩ := hrel
    have HI := Lib.hid him
    clear him
    by_cases hi8 : i < 8
    · have hdi : decide ((i : Int) < 8) = true := by simp; omega
      have hc : W0.cell? ⟨gw, i, none⟩ = some (.string (ws.getD i ⟨#[]⟩)) := hW.cell i (by omega)
      obtain ⟨q, hq⟩ : ∃ q, ws.getD i ⟨#[]⟩ = q := ⟨_, rfl⟩
      have hk7 : ((7 : Int) - i) = ((7 - i : Nat) : Int) := by omega
      have hqd : q.data.toList = (lineB b (7 - i)).data.toList := by
        have h1 : (ws.map (·.data.toList)).getD i [] = (lns b 8).getD i [] := by rw [He2.out]
        have h2 : (ws.map (·.data.toList)).getD i [] = q.data.toList := by rw [← hq]; simp [show i < ws.length by omega]
        have h3 : ∀ j : Nat, j < 8 → (lns b 8).getD j [] = (lineB b (7 - j)).data.toList := by
          intro j hj
          have hc : j = 0 ∨ j = 1 ∨ j = 2 ∨ j = 3 ∨ j = 4 ∨ j = 5 ∨ j = 6 ∨ j = 7 := by omega
          rcases hc with rfl | rfl | rfl | rfl | rfl | rfl | rfl | rfl <;> rfl
        rw [← h2, h1, h3 i hi8]
      have hrd := rd_line Hok.out (7 - i)
      rw [← hqd] at hrd
      obtain ⟨r, hr⟩ : ∃ r, 7 - i = r := ⟨_, rfl⟩
      rw [hr] at hrd hk7
      have hr7 : r ≤ 7 := by omega
      rw [hq] at hc
      have HI0 := Lib.hid (PlJ.mk (w0 := w) (hs := [(gv, 24, b), (gb, 24, b)]) (gw := gw) (ws := ws) (k := W0.heap.size) (q := q) (pos := 0) (wr := W0.iter q 0) (hR.go ((Below.refl _ _).alloc (Nat.le_refl _) _)) (hW.below ((Below.refl _ _).alloc (Nat.le_refl _) _) hW.lt) (by simp [World.iter_heap]))
      have hk0 := hR.bel.size
      have hka : ∀ x ∈ [(gv, 24, b), (gb, 24, b)], x.1 ≠ W0.heap.size := fun x hx e => by have := (hR.held x hx).lt; omega
      have hkw : gw ≠ W0.heap.size := by have := hW.lt; omega
      have Hka := Lib.hid (And.intro hk0 (And.intro hka hkw))
      have HRD := Lib.hid hrd
      clear hR hW hq hqd hrd hk0 hka hkw hr
      go_wp2_with fail
      generalize W0.heap.size = kk at *
      go_loopg [11, 12] q.size (fun mm f l wr' => ∃ (pos ff : Nat) (ll : Bool), mm = q.size - pos ∧ pos ≤ q.size ∧ f = .int .i64 ff ∧ l = .bool ll ∧ Hid (rd b r (q.data.toList.drop pos) ff ll) ∧ Hid (PlJ w [(gv, 24, b), (gb, 24, b)] gw ws kk q pos wr'))
      case atStart => exact ⟨0, 0, false, rfl, by omega, rfl, rfl, Lib.hid (by simpa using HRD.out), HI0⟩
      case round =>
        obtain ⟨pos, ff, ll, hpm, hp, rfl, rfl, HD, HP⟩ := hrel
        have HM := Lib.hid hpm
        clear HI0 hpm hc
        have hit := HP.out.it
        by_cases hlp : pos < q.size
        · have hdr := drop_at q pos hlp
          obtain ⟨c, hc⟩ : ∃ c, c = q[pos]'hlp := ⟨_, rfl⟩
          have hres := HD.out
          rw [hdr, ← hc] at hres
          simp only [rd] at hres
          have hff : ff ≤ 8 := by
            split at hres
            · omega
            · omega
          by_cases hdg : 49 ≤ c.toNat ∧ c.toNat ≤ 56
          · rw [if_pos hdg] at hres
            obtain ⟨rfl, h1, h2, h3⟩ := hres
            obtain ⟨g1, g2⟩ := hdg
            have hnx := fun ty => Lib.run_next_ascii_at (P := Tryd.prog) wr kk q pos ty hit hlp (by rw [← hc]; omega)
            rw [← hc] at hnx
            have HP2 := Lib.hid (HP.out.move He.out Hka.out.1 Hka.out.2.1 Hka.out.2.2 (pos + 1))
            have HD2 := Lib.hid h3
            have HZ := Lib.hid h2
            obtain ⟨d, hd⟩ : ∃ d, c.toNat - 48 = d := ⟨_, rfl⟩
            rw [hd] at h1 HD2 HZ
            have hdI : ((c.toNat : Int) - 48) = (d : Int) := by omega
            clear h2 h3 hdr hc HD HP hd
            go_wp2_with fail
            generalize wr.iterAt kk q (pos + 1) = w9 at *
            go_loopg [11, 83] d (fun mm f jj wr' => ∃ (j F : Nat), mm = d - j ∧ j ≤ d ∧ F = ff + j ∧ f = .int .i64 F ∧ jj = .int .i64 j ∧ w9 = wr')
            case atStart => exact ⟨0, ff, rfl, by omega, rfl, rfl, rfl, rfl⟩
            case round =>
              obtain ⟨j, F, hjm, hj, hF, rfl, rfl, rfl⟩ := hrel
              have HJ := Lib.hid (And.intro hjm hF)
              by_cases hjd : j < d
              · have e1 : decide ((j : Int) < (d : Int)) = true := by simp; omega
                have e2 : decide (7 < (F : Int)) = false := by simp; omega
                have hidx : 8 * (r : Int) + (F : Int) = ((8 * r + F : Nat) : Int) := by omega
                have c1 := HP2.out.rch.tl.hd.cell (8 * r + F) (by omega)
                rw [HZ.out F (by omega) (by omega)] at c1
                have hF8 : F ≤ 7 := by omega
                clear hjm hF
                generalize 8 * r + F = ix at hidx c1
                go_wp2_with fail
                go_roundg (d - (j + 1))
                case measure => have := HJ.out.1; omega
                case rel => exact ⟨j + 1, F + 1, rfl, by omega, by have := HJ.out.2; omega, by go_num, by go_num, rfl⟩
              · have hjd0 : j = d := by omega
                subst hjd0
                have hF8 : F ≤ 8 := by omega
                rw [← hF] at HD2
                clear hjm hF
                go_wp2_with fail
                go_roundg (q.size - (pos + 1))
                case measure => have := HM.out; omega
                case rel => exact ⟨pos + 1, F, true, rfl, by omega, rfl, rfl, HD2, HP2⟩
          · rw [if_neg hdg] at hres
            obtain ⟨h1, h2, h3, h4, h5⟩ := hres
            have hnx := fun ty => Lib.run_next_ascii_at (P := Tryd.prog) wr kk q pos ty hit hlp (by rw [← hc]; omega)
            rw [← hc] at hnx
            have HP2 := Lib.hid (HP.out.move He.out Hka.out.1 Hka.out.2.1 Hka.out.2.2 (pos + 1))
            have HD2 := Lib.hid h5
            have HPA := Lib.hid (fun W => par_good (c := c) h1 h2 W)
            have hidx : 8 * (r : Int) + (ff : Int) = ((8 * r + ff : Nat) : Int) := by omega
            have e2 : decide (7 < (ff : Int)) = false := by simp; omega
            have hor : c.toNat < 49 ∨ (49 ≤ c.toNat ∧ 56 < c.toNat) := by omega
            have hixb : 8 * r + ff < 64 := by omega
            have hbx : b.getD (8 * r + ff) 0 = letP c := h4
            generalize 8 * r + ff = ix at *
            have HC1 := Lib.hid hbx
            clear hbx
            clear h2 h4 h5 hdr hc HD HP hdg
            rcases hor with h49 | ⟨h49, h56⟩
            · have d1 : decide (49 ≤ (c.toNat : Int)) = false := by simp; omega
              go_wp2_with (go_at_call 18; refine (HPA.out _).mono ?_; rintro e w1 ⟨rfl, hb1⟩; have HP3 := Lib.hid (HP2.out.go (by simpa only [Lib.iterAt_size] using hb1)); have c1 := HP3.out.rch.tl.hd.cell ix (by omega); rw [HC1.out] at c1)
              go_roundg (q.size - (pos + 1))
              case measure => have := HM.out; omega
              case rel => exact ⟨pos + 1, ff + 1, false, rfl, by omega, by go_num, rfl, HD2, HP3⟩
            · have d1 : decide (49 ≤ (c.toNat : Int)) = true := by simp; omega
              have d2 : decide ((c.toNat : Int) ≤ 56) = false := by simp; omega
              go_wp2_with (go_at_call 18; refine (HPA.out _).mono ?_; rintro e w1 ⟨rfl, hb1⟩; have HP3 := Lib.hid (HP2.out.go (by simpa only [Lib.iterAt_size] using hb1)); have c1 := HP3.out.rch.tl.hd.cell ix (by omega); rw [HC1.out] at c1)
              go_roundg (q.size - (pos + 1))
              case measure => have := HM.out; omega
              case rel => exact ⟨pos + 1, ff + 1, false, rfl, by omega, by go_num, rfl, HD2, HP3⟩
        · have hnx := fun ty => Lib.run_next_end_at (P := Tryd.prog) wr kk q pos ty hit hlp
          have h8 := HD.out
          rw [List.drop_eq_nil_of_le (by simp; omega)] at h8
          simp only [rd] at h8
          subst h8
          go_wp2_with fail
          go_roundg (8 - (i + 1))
          case measure => have := HI.out; omega
          case rel => exact ⟨i + 1, rfl, by omega, by go_num, HP.out.rch, HP.out.wds⟩
    · have h8 : i = 8 := by omega
      subst h8
      have q1 := bad_cut Hok.out
      have q2 := bad_more Hok.out 49 (by decide)
      have q3 := bad_rank Hok.out
      have q4 := bad_front Hok.out
      have q5 := bad_more Hok.out 32 (by decide)
      rw [HS.out] at q1 q2 q3 q4 q5
      have hall : ∀ j, j < 5 → psV ([s.extract 0 (s.size - 1), s ++ ⟨#[49]⟩, s ++ ⟨#[47, 56]⟩, ⟨#[47]⟩ ++ s, s ++ ⟨#[32]⟩].getD j ⟨#[]⟩) = zero64 ∧ psE ([s.extract 0 (s.size - 1), s ++ ⟨#[49]⟩, s ++ ⟨#[47, 56]⟩, ⟨#[47]⟩ ++ s, s ++ ⟨#[32]⟩].getD j ⟨#[]⟩) = 15 ∧ ([s.extract 0 (s.size - 1), s ++ ⟨#[49]⟩, s ++ ⟨#[47, 56]⟩, ⟨#[47]⟩ ++ s, s ++ ⟨#[32]⟩].getD j ⟨#[]⟩).size ≤ 100000 := by
        intro j hj
        have hc : j = 0 ∨ j = 1 ∨ j = 2 ∨ j = 3 ∨ j = 4 := by omega
        rcases hc with rfl | rfl | rfl | rfl | rfl
        · exact ⟨q1.1, q1.2, by simp; omega⟩
        · exact ⟨q2.1, q2.2, by simp [ByteArray.size_append]; have : (⟨#[49]⟩ : ByteArray).size = 1 := rfl; omega⟩
        · exact ⟨q3.1, q3.2, by simp [ByteArray.size_append]; have : (⟨#[47, 56]⟩ : ByteArray).size = 2 := rfl; omega⟩
        · exact ⟨q4.1, q4.2, by simp [ByteArray.size_append]; have : (⟨#[47]⟩ : ByteArray).size = 1 := rfl; omega⟩
        · exact ⟨q5.1, q5.2, by simp [ByteArray.size_append]; have : (⟨#[32]⟩ : ByteArray).size = 1 := rfl; omega⟩
      obtain ⟨ts, hts⟩ : ∃ ts, [s.extract 0 (s.size - 1), s ++ ⟨#[49]⟩, s ++ ⟨#[47, 56]⟩, ⟨#[47]⟩ ++ s, s ++ ⟨#[32]⟩] = ts := ⟨_, rfl⟩
      rw [hts] at hall
      have lts : ts.length = 5 := by rw [← hts]; rfl
      have Hall := Lib.hid hall
      have Hts := Lib.hid hts
      clear q1 q2 q3 q4 q5 hall hts
      go_wp2_with fail
      generalize hWW : World.alloc _ _ = w6
      have hW6 : Words w6 W0.heap.size ts := by
        rw [← hWW, ← Hts.out]
        have := heap_alloc_new W0 (.cells ([s.extract 0 (s.size - 1), s ++ ⟨#[49]⟩, s ++ ⟨#[47, 56]⟩, ⟨#[47]⟩ ++ s, s ++ ⟨#[32]⟩].map Value.string).toArray 9)
        exact this
      have hR6 : Rch w [(gv, 24, b), (gb, 24, b)] w6 := by rw [← hWW]; exact hR.alloc _
      clear hWW hR hW
      generalize W0.heap.size = gt at *
      go_loopg [143] 5 (fun mm i wr => ∃ j : Nat, mm = 5 - j ∧ j ≤ 5 ∧ i = .int .i64 j ∧ Rch w [(gv, 24, b), (gb, 24, b)] wr ∧ Words wr gt ts)
      case atStart => exact ⟨0, rfl, by omega, rfl, hR6, hW6⟩
      case round =>
        clear hR6 hW6
        obtain ⟨j, hjm, hj, rfl, hR, hW⟩ := hrel
        have HJ := Lib.hid hjm
        clear hjm
        by_cases hj5 : j < 5
        · have hdj : decide ((j : Int) < 5) = true := by simp; omega
          have hc := hW.cell j (by omega)
          obtain ⟨u1, u2, u3⟩ := Hall.out j hj5
          generalize ts.getD j ⟨#[]⟩ = tt at *
          have HU1 := Lib.hid u1
          have HU2 := Lib.hid u2
          have HW1 := Lib.hid hW
          clear u1 u2 hW
          go_wp2_with (first
            | (go_at_call 12; refine (bparse_any tt u3 _ hR.env).mono ?_; rintro e w1 ⟨rfl, hb1⟩; rw [HU1.out, HU2.out]; have hR1 := hR.go hb1; have HW2 := Lib.hid (HW1.out.below hb1 HW1.out.lt); clear hR hb1 hc)
            | (with_reducible refine wpl_storeNewB hR1 24 zero64 zero64 (by with_unfolding_all rfl) rfl 24 _ _ rfl rfl rfl rfl z64_info ?_; intro w2 hb2 hR2; have HW3 := Lib.hid (HW2.out.below hb2 HW2.out.lt); clear hR1 hb2)
            | (with_reducible refine wpl_loadG hR2.hd (by with_unfolding_all rfl) 24 _ rfl rfl Tryd.underlying24 z64_info ?_)
            | (with_reducible refine wpl_neB z64_ln z64_ln rfl (by with_unfolding_all rfl) _ _ _ rfl rfl (by with_unfolding_all rfl) ?_))
          go_roundg (5 - (j + 1))
          case measure => have := HJ.out; omega
          case rel => exact ⟨j + 1, rfl, by omega, by go_num, hR2.tl, HW3.out⟩
        · have h5 : j = 5 := by omega
          subst h5
          go_wp2_with (go_at_call 11; refine (works_R hR).mono ?_; clear hR; rintro e w1 ⟨rfl, hR⟩)
          go_ret
          exact ⟨rfl, hR.bel⟩
end Go.Proofs.YthbbnhhofkadgaaDoor
