/- The law MaterialRefuses. Conditions: as in Env. -/
import Derived.Test.YtcnflmbnnobocaaDoorMcm
namespace Go.Proofs.YtcnflmbnnobocaaDoor
open Go Go.RowKit
theorem txt_pos {l : List Int} (hl : l.length = 10) (h : okL l) : 1 ≤ (txtL l).size := by
  have := txt_ne hl h
  have h2 : (txtL l).size = (txtL l).data.toList.length := by simp
  rw [h2]
  exact List.length_pos_iff.2 this
theorem txt_nil {l : List Int} (hl : l.length = 10) (h : okL l) : (txtL l).toList.isEmpty = false := by
  have := txt_ne hl h
  rw [← ByteArray.toList_eq] at this
  simpa using this
/-- The strings that are tried. -/
def badL (v : List Int) : List ByteArray := [⟨#[32]⟩ ++ txtL v, txtL v ++ ⟨#[32]⟩, txtL v ++ ⟨#[32, 48]⟩, ⟨#[48]⟩ ++ txtL v, (txtL v).extract 1 (txtL v).size, txtL v ++ ⟨#[10]⟩, ⟨#[43]⟩ ++ txtL v]
theorem ba_size (a b : ByteArray) : (a ++ b).size = a.size + b.size := by simp
theorem ba_ne {a b : ByteArray} (h : a.size ≠ b.size) : (a.toList == b.toList) = false := by
  rw [beq_eq_false_iff_ne]
  intro e
  rw [ByteArray.toList_eq, ByteArray.toList_eq] at e
  exact h (by rw [ba_ext e])
theorem bad_all {v : List Int} (lv : v.length = 10) (kv : okL v) : ∀ j, j < 7 → ((badL v).getD j ⟨#[]⟩).size ≤ 2000 ∧ ((¬ rdOk ((badL v).getD j ⟨#[]⟩) ∧ (((badL v).getD j ⟨#[]⟩).toList == ((txtL v).extract 1 (txtL v).size).toList) = false) ∨ (badL v).getD j ⟨#[]⟩ = (txtL v).extract 1 (txtL v).size) := by
  have sz := txtL_size lv kv
  have s1 := txt_pos lv kv
  have e1 : ((txtL v).extract 1 (txtL v).size).size = (txtL v).size - 1 := by simp
  intro j hj
  have hc : j = 0 ∨ j = 1 ∨ j = 2 ∨ j = 3 ∨ j = 4 ∨ j = 5 ∨ j = 6 := by omega
  rcases hc with rfl | rfl | rfl | rfl | rfl | rfl | rfl
  · exact ⟨by show (⟨#[32]⟩ ++ txtL v : ByteArray).size ≤ 2000; have := ba_size (⟨#[32]⟩ : ByteArray) (txtL v : ByteArray); have hq : (⟨#[32]⟩ : ByteArray).size = 1 := rfl; omega, .inl ⟨no_front lv kv, ba_ne (by show (⟨#[32]⟩ ++ txtL v : ByteArray).size ≠ _; have := ba_size (⟨#[32]⟩ : ByteArray) (txtL v : ByteArray); have hq : (⟨#[32]⟩ : ByteArray).size = 1 := rfl; omega)⟩⟩
  · exact ⟨by show (txtL v ++ ⟨#[32]⟩ : ByteArray).size ≤ 2000; have := ba_size (txtL v : ByteArray) (⟨#[32]⟩ : ByteArray); have hq : (⟨#[32]⟩ : ByteArray).size = 1 := rfl; omega, .inl ⟨no_end lv kv, ba_ne (by show (txtL v ++ ⟨#[32]⟩ : ByteArray).size ≠ _; have := ba_size (txtL v : ByteArray) (⟨#[32]⟩ : ByteArray); have hq : (⟨#[32]⟩ : ByteArray).size = 1 := rfl; omega)⟩⟩
  · exact ⟨by show (txtL v ++ ⟨#[32, 48]⟩ : ByteArray).size ≤ 2000; have := ba_size (txtL v : ByteArray) (⟨#[32, 48]⟩ : ByteArray); have hq : (⟨#[32, 48]⟩ : ByteArray).size = 2 := rfl; omega, .inl ⟨no_more lv kv, ba_ne (by show (txtL v ++ ⟨#[32, 48]⟩ : ByteArray).size ≠ _; have := ba_size (txtL v : ByteArray) (⟨#[32, 48]⟩ : ByteArray); have hq : (⟨#[32, 48]⟩ : ByteArray).size = 2 := rfl; omega)⟩⟩
  · exact ⟨by show (⟨#[48]⟩ ++ txtL v : ByteArray).size ≤ 2000; have := ba_size (⟨#[48]⟩ : ByteArray) (txtL v : ByteArray); have hq : (⟨#[48]⟩ : ByteArray).size = 1 := rfl; omega, .inl ⟨no_zero lv kv, ba_ne (by show (⟨#[48]⟩ ++ txtL v : ByteArray).size ≠ _; have := ba_size (⟨#[48]⟩ : ByteArray) (txtL v : ByteArray); have hq : (⟨#[48]⟩ : ByteArray).size = 1 := rfl; omega)⟩⟩
  · exact ⟨by show ((txtL v).extract 1 (txtL v).size).size ≤ 2000; omega, .inr rfl⟩
  · exact ⟨by show (txtL v ++ ⟨#[10]⟩ : ByteArray).size ≤ 2000; have := ba_size (txtL v : ByteArray) (⟨#[10]⟩ : ByteArray); have hq : (⟨#[10]⟩ : ByteArray).size = 1 := rfl; omega, .inl ⟨no_feed, ba_ne (by show (txtL v ++ ⟨#[10]⟩ : ByteArray).size ≠ _; have := ba_size (txtL v : ByteArray) (⟨#[10]⟩ : ByteArray); have hq : (⟨#[10]⟩ : ByteArray).size = 1 := rfl; omega)⟩⟩
  · exact ⟨by show (⟨#[43]⟩ ++ txtL v : ByteArray).size ≤ 2000; have := ba_size (⟨#[43]⟩ : ByteArray) (txtL v : ByteArray); have hq : (⟨#[43]⟩ : ByteArray).size = 1 := rfl; omega, .inl ⟨no_plus, ba_ne (by show (⟨#[43]⟩ ++ txtL v : ByteArray).size ≠ _; have := ba_size (⟨#[43]⟩ : ByteArray) (txtL v : ByteArray); have hq : (⟨#[43]⟩ : ByteArray).size = 1 := rfl; omega)⟩⟩
theorem bad_set {v : List Int} (lv : v.length = 10) (k : Nat) (hk : k < 10) (x : Int) (hx : x < 0 ∨ 15 < x) : ¬ okL (v.set k x) := fun h => by
  have := okL_mem (by rw [List.length_set]; exact lv) h x (List.mem_of_getElem? (i := k) (by simp [lv, hk]))
  omega
theorem bad_sum0 {v : List Int} (lv : v.length = 10) : ¬ okL (v.set 4 (v.getD 4 0 + (16 - (v.getD 0 0 + v.getD 1 0 + v.getD 2 0 + v.getD 3 0 + v.getD 4 0)))) := fun h => by
  obtain ⟨a0, a1, a2, a3, a4, a5, a6, a7, a8, a9, rfl⟩ := list10 v lv
  obtain ⟨h0, h0', h1, h2, h3, h4, hs, _⟩ := h
  simp at hs
  omega
theorem bad_sum1 {v : List Int} (lv : v.length = 10) : ¬ okL (v.set 9 (v.getD 9 0 + (16 - (v.getD 5 0 + v.getD 6 0 + v.getD 7 0 + v.getD 8 0 + v.getD 9 0)))) := fun h => by
  obtain ⟨a0, a1, a2, a3, a4, a5, a6, a7, a8, a9, rfl⟩ := list10 v lv
  obtain ⟨_, _, _, _, _, _, _, _, _, _, _, _, _, hs⟩ := h
  simp at hs
  omega
theorem bad_nine0 {v : List Int} (lv : v.length = 10) : ¬ okL (v.set 0 9) := fun h => by
  obtain ⟨a0, a1, a2, a3, a4, a5, a6, a7, a8, a9, rfl⟩ := list10 v lv
  obtain ⟨_, h, _⟩ := h
  simp at h
theorem bad_nine1 {v : List Int} (lv : v.length = 10) : ¬ okL (v.set 5 9) := fun h => by
  obtain ⟨a0, a1, a2, a3, a4, a5, a6, a7, a8, a9, rfl⟩ := list10 v lv
  obtain ⟨_, _, _, _, _, _, _, _, h, _⟩ := h
  simp at h
theorem wpl_storeAtW {w0 w : World} {hs : List (Nat × TypeId × List Int)} {gw : Nat} {ws : List ByteArray} {ops : Array Oper} {rest : List Oper} {o : Oper} {a : Act} {Q : Exit → Act → World → Prop} (h : Rch w0 hs w) (hW : Words w gw ws) (t : TypeId) (l l' : List Int) {cs : Array Value} (hcs : cs = ints l) {g : Nat} (hg : g = w.heap.size) (hgd : o.guard = none) (ty : TypeId) (x y : Operand) (ho : o.op = .store ty x y)
    (hx : a.eval x = .pointer (some ⟨g, 0, none⟩)) (hy : a.eval y = .agg (ints l')) (hl : l'.length = l.length) (hi : (Tryd.prog.info? ty).map (·.size) = some l.length)
    (hK : ∀ w', Words w' gw ws → Rch w0 ((g, t, l') :: hs) w' → wpList Tryd.prog ops Q rest (a.put o.dst undef) w') : wpList Tryd.prog ops Q (o :: rest) a (w.alloc (.cells cs t)) := by
  subst hg hcs
  have hlt : gw < w.heap.size := (Array.getElem?_eq_some_iff.1 hW).1
  refine wpl_store (Holds.new w .i64 t l) hgd ty x y ho hx l' hy hl hi (hK _ ?_ (h.new t l l'))
  have h1 : Words (w.alloc (.cells (ints l) t)) gw ws := by unfold Words; rw [heap_alloc_old w _ hlt]; exact hW
  unfold Words
  rw [setRow_other _ _ _ _ (by omega)]
  exact h1
set_option maxRecDepth 100000 in
set_option maxHeartbeats 4000000 in
theorem refuses_any (n : List Int) (hn : Ten n) (wh far : Int) (k0 : 0 ≤ wh) (k1 : wh ≤ 255) (f0 : 0 ≤ far) (f1 : far ≤ 65535) (w : World) (hw : Env w) : Calls Tryd.prog 10 #[.agg (intsK .u8 n), .int .u8 wh, .int .u16 far] w fun e w' => e = .returned (.bool true) ∧ Below w.heap.size w w' := by
  have Hn := Lib.hid hn
  have He := Lib.hid hw
  have hR := (Rch.start hw).alloc (.cells (intsK .u8 n) 50)
  have hP : Holds (w.alloc (.cells (intsK .u8 n) 50)) w.heap.size .u8 50 n := Holds.new w .u8 50 n
  have i1 : (Tryd.prog.info? 50).map (·.size) = some n.length := by rw [hn.1]; kernel_rfl
  clear hn hw
  obtain ⟨k, hk⟩ : ∃ q : Nat, wh % 10 = q := ⟨(wh % 10).toNat, by omega⟩
  have hk1 : k < 10 := by omega
  go_enter Tryd.func10, Tryd.ntmps10
  go_wp2_with (first
      | (with_reducible refine wpl_load (g := w.heap.size) (k := .u8) (t := 50) (l := n) hP rfl 50 _ rfl rfl Tryd.underlying50 i1 ?_)
      | (go_at_call 24; refine (valid_P hR Hn.out).mono ?_; clear hR; rintro e wa ⟨v, lv, kv, rfl, hR⟩; have iv : (Tryd.prog.info? 25).map (·.size) = some v.length := (by rw [lv]; kernel_rfl); have hz : v.length = zero10.length := lv; have sz := txtL_size lv kv; have s1 := txt_pos lv kv; have s2 := txt_nil lv kv; have cv := Lib.hid (chkL_ok kv))
      | (with_reducible refine wpl_storeAt' hR 25 zero10 v (by with_unfolding_all rfl) (by simp) rfl 25 _ _ rfl rfl rfl hz (by kernel_rfl) ?_; clear hR; intro w2 z5 y5 hR)
      | (with_reducible refine wpl_loadG hR.hd (by with_unfolding_all rfl) 25 _ rfl rfl Tryd.underlying25 iv ?_)
      | (go_at_call 16; refine (text_R hR v lv).mono ?_; clear hR; rintro e w3 ⟨rfl, hR⟩; rw [cv.out]))
  have hW : Words (w3.alloc (.cells #[.string (⟨#[32]⟩ ++ txtL v), .string (txtL v ++ ⟨#[32]⟩), .string (txtL v ++ ⟨#[32, 48]⟩), .string (⟨#[48]⟩ ++ txtL v), .string ((txtL v).extract 1 (txtL v).size), .string (txtL v ++ ⟨#[10]⟩), .string (⟨#[43]⟩ ++ txtL v)] 9)) w3.heap.size (badL v) := heap_alloc_new _ _
  have hR0 := hR.alloc (.cells #[.string (⟨#[32]⟩ ++ txtL v), .string (txtL v ++ ⟨#[32]⟩), .string (txtL v ++ ⟨#[32, 48]⟩), .string (⟨#[48]⟩ ++ txtL v), .string ((txtL v).extract 1 (txtL v).size), .string (txtL v ++ ⟨#[10]⟩), .string (⟨#[43]⟩ ++ txtL v)] 9)
  clear hR y5 i1 hP
  generalize w3.heap.size = gw at *
  generalize wa.heap.size = g7 at *
  have HBD := Lib.hid (bad_all lv kv)
  have lbd : (badL v).length = 7 := rfl
  have hEz : ∀ w : World, (Op.equalIn 10000 25 (.agg (ints zero10)) (.agg #[.int .i64 0, .int .i64 0, .int .i64 0, .int .i64 0, .int .i64 0, .int .i64 0, .int .i64 0, .int .i64 0, .int .i64 0, .int .i64 0])).run Tryd.prog w = .ok true w := eqOne zero10 rfl
  go_loopg [56] 7 (fun m i wr => ∃ j : Nat, m = 7 - j ∧ j ≤ 7 ∧ i = .int .i64 j ∧ Words wr gw (badL v) ∧ Rch w [(g7, 25, v)] wr)
  case atStart => exact ⟨0, rfl, by omega, rfl, hW, hR0⟩
  case round =>
    clear hW hR0
    obtain ⟨j, hjm, hj, rfl, hW, hR⟩ := hrel
    have HK := Lib.hid hjm
    clear hjm
    by_cases hlt : j < 7
    · have hdi : decide ((j : Int) < 7) = true := by simp; omega
      have c1 := hW.cell j (by rw [lbd]; exact hlt)
      obtain ⟨ht, hcase⟩ := HBD.out j hlt
      generalize (badL v).getD j ⟨#[]⟩ = t at *
      have ht : t.size ≤ 100000 := by omega
      have lr := rdV_ln t
      have zr : (rdV t).length = zero10.length := lr
      rcases hcase with ⟨hno, htl⟩ | rfl
      · have E8 := Lib.hid (rdE_f hno)
        have EV : Hid (rdV t = zero10) := Lib.hid (rdV_f hno)
        clear hno lr zr
        go_wp2_with (first
          | (go_at_call 22; refine (read_any t ht _ hR.env).mono ?_; rintro e w4 ⟨rfl, hb⟩; have hW := hW.below hb (Array.getElem?_eq_some_iff.1 hW).1; have hR := hR.go hb; clear hb; rw [E8.out, EV.out])
          | (with_reducible refine wpl_storeAtW hR hW 25 zero10 zero10 (by with_unfolding_all rfl) (by simp) rfl 25 _ _ rfl rfl rfl rfl (by kernel_rfl) ?_; clear hR hW; intro w5 hW hR)
          | (with_reducible refine wpl_loadG hR.hd (by with_unfolding_all rfl) 25 _ rfl rfl Tryd.underlying25 (by kernel_rfl) ?_)
          | (with_reducible refine wpl_neSame zero10 rfl (by with_unfolding_all rfl) _ _ _ rfl rfl (by with_unfolding_all rfl) ?_))
        go_roundg (7 - (j + 1))
        case measure => have := HK.out; omega
        case rel => exact ⟨j + 1, rfl, by omega, by go_num, hW, hR.tl⟩
      · by_cases hok : rdOk ((txtL v).extract 1 (txtL v).size)
        · have E8 := Lib.hid (rdE_t hok)
          clear hok
          go_wp2_with (first
            | (go_at_call 22; refine (read_any _ ht _ hR.env).mono ?_; rintro e w4 ⟨rfl, hb⟩; have hW := hW.below hb (Array.getElem?_eq_some_iff.1 hW).1; have hR := hR.go hb; clear hb; rw [E8.out])
            | (with_reducible refine wpl_storeAtW hR hW 25 zero10 (rdV ((txtL v).extract 1 (txtL v).size)) (by with_unfolding_all rfl) (by simp) rfl 25 _ _ rfl rfl rfl zr (by kernel_rfl) ?_; clear hR hW; intro w5 hW hR)
            | (with_reducible refine wpl_loadG hR.hd (by with_unfolding_all rfl) 25 _ rfl rfl Tryd.underlying25 (by kernel_rfl) ?_)
            | (with_reducible refine wpl_neSame zero10 rfl (by with_unfolding_all rfl) _ _ _ rfl rfl (by with_unfolding_all rfl) ?_))
          go_roundg (7 - (j + 1))
          case measure => have := HK.out; omega
          case rel => exact ⟨j + 1, rfl, by omega, by go_num, hW, hR.tl⟩
        · have E8 := Lib.hid (rdE_f hok)
          have EV : Hid (rdV ((txtL v).extract 1 (txtL v).size) = zero10) := Lib.hid (rdV_f hok)
          clear hok
          go_wp2_with (first
            | (go_at_call 22; refine (read_any _ ht _ hR.env).mono ?_; rintro e w4 ⟨rfl, hb⟩; have hW := hW.below hb (Array.getElem?_eq_some_iff.1 hW).1; have hR := hR.go hb; clear hb; rw [E8.out, EV.out])
            | (with_reducible refine wpl_storeAtW hR hW 25 zero10 zero10 (by with_unfolding_all rfl) (by simp) rfl 25 _ _ rfl rfl rfl rfl (by kernel_rfl) ?_; clear hR hW; intro w5 hW hR)
            | (with_reducible refine wpl_loadG hR.hd (by with_unfolding_all rfl) 25 _ rfl rfl Tryd.underlying25 (by kernel_rfl) ?_)
            | (with_reducible refine wpl_neSame zero10 rfl (by with_unfolding_all rfl) _ _ _ rfl rfl (by with_unfolding_all rfl) ?_))
          go_roundg (7 - (j + 1))
          case measure => have := HK.out; omega
          case rel => exact ⟨j + 1, rfl, by omega, by go_num, hW, hR.tl⟩
    · have hj7 : j = 7 := by omega
      subst hj7
      clear hlt HK hW HBD hEz lbd
      have hv := okL_get lv kv
      have hq : ((k : Int) / 5 = 0 ∧ k < 5) ∨ ((k : Int) / 5 = 1 ∧ 5 ≤ k) := by omega
      have B1 := Lib.hid (chkL_f (bad_set lv k hk1 (-1 - far) (.inl (by omega))))
      have B2 := Lib.hid (chkL_f (bad_set lv k hk1 (16 + far) (.inr (by omega))))
      have HN0 := Lib.hid (chkL_f (bad_nine0 lv))
      have HN1 := Lib.hid (chkL_f (bad_nine1 lv))
      have HS0 := Lib.hid (chkL_f (bad_sum0 lv))
      have HS1 := Lib.hid (chkL_f (bad_sum1 lv))
      have l1 : (v.set k (-1 - far)).length = 10 := by rw [List.length_set]; exact lv
      have l2 : (v.set k (16 + far)).length = 10 := by rw [List.length_set]; exact lv
      have j1 : (Tryd.prog.info? 25).map (·.size) = some (v.set k (-1 - far)).length := by rw [l1]; kernel_rfl
      have j2 : (Tryd.prog.info? 25).map (·.size) = some (v.set k (16 + far)).length := by rw [l2]; kernel_rfl
      have hz' : v.length = zero10.length := lv
      clear cv sz s1 s2 kv hk
      go_upto_region 15 with (first
        | (with_reducible refine wpl_loadG hR.hd (by with_unfolding_all rfl) 25 _ rfl rfl Tryd.underlying25 iv ?_)
        | (with_reducible refine wpl_storeAt' hR 25 zero10 v (by with_unfolding_all rfl) (by simp) rfl 25 _ _ rfl rfl rfl hz' (by kernel_rfl) ?_; clear hR; intro w8 z8 y8 hR))
      generalize wr.heap.size = g8 at *
      have c1 := hR.hd.cell k (by rw [lv]; exact hk1)
      have c2 := hR.hd.frozen k
      have hR1 := hR.setc He.out z8 y8 k (-1 - far)
      have c3 := hR1.hd.cell k (by rw [l1]; exact hk1)
      have c4 := hR1.hd.frozen k
      have HR1 := Lib.hid hR1
      clear hR hR1
      go_upto_region 16 with fail
      have hR := HR1.out
      clear HR1 c1 c2 c3 c4
      go_upto_region 17 with (first
        | (with_reducible refine wpl_loadG hR.hd (by with_unfolding_all rfl) 25 _ rfl rfl Tryd.underlying25 j1 ?_)
        | (go_at_call 14; refine (sign_R hR _ l1).mono ?_; clear hR; rintro e w9 ⟨rfl, hR⟩; rw [B1.out]))
      have c1 := hR.hd.cell k (by rw [l1]; exact hk1)
      have c2 := hR.hd.frozen k
      have hR1 := hR.setc He.out z8 y8 k (16 + far)
      rw [List.set_set] at hR1
      have HR1 := Lib.hid hR1
      clear hR hR1
      go_upto_region 18 with fail
      have hR := HR1.out
      clear HR1 c1 c2 B1
      go_upto_region 20 with (first
        | (with_reducible refine wpl_loadG hR.hd (by with_unfolding_all rfl) 25 _ rfl rfl Tryd.underlying25 j2 ?_)
        | (go_at_call 14; refine (sign_R hR _ l2).mono ?_; clear hR; rintro e w9 ⟨rfl, hR⟩; rw [B2.out]; have HR1 := Lib.hid (hR.set0 He.out z8 y8 v))
        | (with_reducible refine wpl_loadG hR.tl.hd (by with_unfolding_all rfl) 25 _ rfl rfl Tryd.underlying25 iv ?_)
        | (with_reducible refine wpl_store (g := g8) (k := .i64) (t := 25) hR.hd rfl 25 _ _ rfl rfl v rfl ?hl ?hj ?_))
      case hl => rw [lv, l2]
      case hj => exact j2
      clear hR
      have hR := HR1.out
      clear HR1 B2 j1 j2 l1 l2
      generalize World.setRow _ _ _ = w9 at *
      rcases hq with ⟨hq, hk5⟩ | ⟨hq, hk5⟩
      · have d0 := hR.hd.cell 0 (by rw [lv]; decide)
        have d1 := hR.hd.cell 1 (by rw [lv]; decide)
        have d2 := hR.hd.cell 2 (by rw [lv]; decide)
        have d3 := hR.hd.cell 3 (by rw [lv]; decide)
        have d4 := hR.hd.cell 4 (by rw [lv]; decide)
        have d5 := hR.hd.frozen 4
        have d6 := hR.hd.frozen 0
        have b0 := hv 0
        have b1 := hv 1
        have b2 := hv 2
        have b3 := hv 3
        have b4 := hv 4
        have HR := Lib.hid hR
        clear hR hv HS1 HN1
        have HX : Hid (∀ x, Rch w [(g8, 25, v), (g7, 25, v)] w9 → Rch w [(g8, 25, v.set 4 x), (g7, 25, v)] (w9.setCell ⟨g8, 4, none⟩ (.int .i64 x))) := Lib.hid fun x h => h.setc He.out z8 y8 4 x
        generalize hx0 : v.getD 0 0 = x0 at *
        clear hx0
        generalize hx1 : v.getD 1 0 = x1 at *
        clear hx1
        generalize hx2 : v.getD 2 0 = x2 at *
        clear hx2
        generalize hx3 : v.getD 3 0 = x3 at *
        clear hx3
        generalize hx4 : v.getD 4 0 = x4 at *
        clear hx4
        go_wp2_with fail
        refine wp_loop_rounds 6 ?_
        rw [rounds_succ]
        go_wp2_with fail
        rw [rounds_succ]
        go_wp2_with fail
        rw [rounds_succ]
        go_wp2_with fail
        rw [rounds_succ]
        go_wp2_with fail
        rw [rounds_succ]
        go_wp2_with fail
        rw [rounds_succ]
        go_upto_region 26 with fail
        have hR := HX.out (x4 + (16 - (x0 + x1 + x2 + x3 + x4))) HR.out
        have l3 : (v.set 4 (x4 + (16 - (x0 + x1 + x2 + x3 + x4)))).length = 10 := by rw [List.length_set]; exact lv
        clear d0 d1 d2 d3 d4 d5 d6 b0 b1 b2 b3 b4 HX HR
        generalize v.set 4 (x4 + (16 - (x0 + x1 + x2 + x3 + x4))) = v3 at *
        generalize World.setCell _ _ _ = w10 at *
        have j3 : (Tryd.prog.info? 25).map (·.size) = some v3.length := by rw [l3]; kernel_rfl
        go_upto_region 28 with (first
          | (with_reducible refine wpl_loadG hR.hd (by with_unfolding_all rfl) 25 _ rfl rfl Tryd.underlying25 j3 ?_)
          | (go_at_call 16; refine (text_R hR v3 l3).mono ?_; clear hR; rintro e w11 ⟨rfl, hR⟩; rw [HS0.out]; have HR1 := Lib.hid (hR.set0 He.out z8 y8 v))
          | (with_reducible refine wpl_loadG hR.tl.hd (by with_unfolding_all rfl) 25 _ rfl rfl Tryd.underlying25 iv ?_)
          | (with_reducible refine wpl_store (g := g8) (k := .i64) (t := 25) hR.hd rfl 25 _ _ rfl rfl v rfl ?hl ?hj ?_))
        case hl => rw [lv, l3]
        case hj => exact j3
        clear hR
        have hR := HR1.out
        clear HR1
        generalize World.setRow _ _ _ = w12 at *
        have d0 := hR.hd.cell 0 (by rw [lv]; decide)
        have d6 := hR.hd.frozen 0
        have HR1 := Lib.hid (hR.setc He.out z8 y8 0 9)
        clear hR
        go_upto_region 29 with fail
        have hR := HR1.out
        clear HR1 d0 d6
        generalize World.setCell _ _ _ = w13 at *
        have l4 : (v.set 0 9).length = 10 := by rw [List.length_set]; exact lv
        generalize v.set 0 9 = v4 at *
        have j4 : (Tryd.prog.info? 25).map (·.size) = some v4.length := by rw [l4]; kernel_rfl
        go_wp2_with (first
          | (with_reducible refine wpl_loadG hR.hd (by with_unfolding_all rfl) 25 _ rfl rfl Tryd.underlying25 j4 ?_)
          | (go_at_call 18; refine (check_R hR v4 l4).mono ?_; clear hR; rintro e w14 ⟨rfl, hR⟩; rw [HN0.out])
          | (go_at_call 13; refine (works_R hR).mono ?_; clear hR; rintro e w14 ⟨rfl, hR⟩))
        go_ret
        exact ⟨rfl, hR.bel⟩
      · have d0 := hR.hd.cell 5 (by rw [lv]; decide)
        have d1 := hR.hd.cell 6 (by rw [lv]; decide)
        have d2 := hR.hd.cell 7 (by rw [lv]; decide)
        have d3 := hR.hd.cell 8 (by rw [lv]; decide)
        have d4 := hR.hd.cell 9 (by rw [lv]; decide)
        have d5 := hR.hd.frozen 9
        have d6 := hR.hd.frozen 5
        have b0 := hv 5
        have b1 := hv 6
        have b2 := hv 7
        have b3 := hv 8
        have b4 := hv 9
        have HR := Lib.hid hR
        clear hR hv HS0 HN0
        have HX : Hid (∀ x, Rch w [(g8, 25, v), (g7, 25, v)] w9 → Rch w [(g8, 25, v.set 9 x), (g7, 25, v)] (w9.setCell ⟨g8, 9, none⟩ (.int .i64 x))) := Lib.hid fun x h => h.setc He.out z8 y8 9 x
        generalize hx0 : v.getD 5 0 = x0 at *
        clear hx0
        generalize hx1 : v.getD 6 0 = x1 at *
        clear hx1
        generalize hx2 : v.getD 7 0 = x2 at *
        clear hx2
        generalize hx3 : v.getD 8 0 = x3 at *
        clear hx3
        generalize hx4 : v.getD 9 0 = x4 at *
        clear hx4
        go_wp2_with fail
        refine wp_loop_rounds 6 ?_
        rw [rounds_succ]
        go_wp2_with fail
        rw [rounds_succ]
        go_wp2_with fail
        rw [rounds_succ]
        go_wp2_with fail
        rw [rounds_succ]
        go_wp2_with fail
        rw [rounds_succ]
        go_wp2_with fail
        rw [rounds_succ]
        go_upto_region 26 with fail
        have hR := HX.out (x4 + (16 - (x0 + x1 + x2 + x3 + x4))) HR.out
        have l3 : (v.set 9 (x4 + (16 - (x0 + x1 + x2 + x3 + x4)))).length = 10 := by rw [List.length_set]; exact lv
        clear d0 d1 d2 d3 d4 d5 d6 b0 b1 b2 b3 b4 HX HR
        generalize v.set 9 (x4 + (16 - (x0 + x1 + x2 + x3 + x4))) = v3 at *
        generalize World.setCell _ _ _ = w10 at *
        have j3 : (Tryd.prog.info? 25).map (·.size) = some v3.length := by rw [l3]; kernel_rfl
        go_upto_region 28 with (first
          | (with_reducible refine wpl_loadG hR.hd (by with_unfolding_all rfl) 25 _ rfl rfl Tryd.underlying25 j3 ?_)
          | (go_at_call 16; refine (text_R hR v3 l3).mono ?_; clear hR; rintro e w11 ⟨rfl, hR⟩; rw [HS1.out]; have HR1 := Lib.hid (hR.set0 He.out z8 y8 v))
          | (with_reducible refine wpl_loadG hR.tl.hd (by with_unfolding_all rfl) 25 _ rfl rfl Tryd.underlying25 iv ?_)
          | (with_reducible refine wpl_store (g := g8) (k := .i64) (t := 25) hR.hd rfl 25 _ _ rfl rfl v rfl ?hl ?hj ?_))
        case hl => rw [lv, l3]
        case hj => exact j3
        clear hR
        have hR := HR1.out
        clear HR1
        generalize World.setRow _ _ _ = w12 at *
        have d0 := hR.hd.cell 5 (by rw [lv]; decide)
        have d6 := hR.hd.frozen 5
        have HR1 := Lib.hid (hR.setc He.out z8 y8 5 9)
        clear hR
        go_upto_region 29 with fail
        have hR := HR1.out
        clear HR1 d0 d6
        generalize World.setCell _ _ _ = w13 at *
        have l4 : (v.set 5 9).length = 10 := by rw [List.length_set]; exact lv
        generalize v.set 5 9 = v4 at *
        have j4 : (Tryd.prog.info? 25).map (·.size) = some v4.length := by rw [l4]; kernel_rfl
        go_wp2_with (first
          | (with_reducible refine wpl_loadG hR.hd (by with_unfolding_all rfl) 25 _ rfl rfl Tryd.underlying25 j4 ?_)
          | (go_at_call 18; refine (check_R hR v4 l4).mono ?_; clear hR; rintro e w14 ⟨rfl, hR⟩; rw [HN1.out])
          | (go_at_call 13; refine (works_R hR).mono ?_; clear hR; rintro e w14 ⟨rfl, hR⟩))
        go_ret
        exact ⟨rfl, hR.bel⟩
end Go.Proofs.YtcnflmbnnobocaaDoor
