/- The law BoardSteps. Conditions: as in EnvB. -/
import Derived.Test.YthbbnhhofkadgaaDoorBcm
import Derived.Deep.DeepCutAuto
import Derived.Deep.QuietTactic
import Derived.BigQuiet
namespace Go.Proofs.YthbbnhhofkadgaaDoor
open Go Go.RowKit
set_option maxRecDepth 100000 in
set_option maxHeartbeats 4000000 in
theorem steps_A (n : List Int) (hn : n.length = 64) (h8 : u8s n) (f t : Int) (f0 : 0 ≤ f) (f1 : f ≤ 255) (t0 : 0 ≤ t) (t1 : t ≤ 255) (w : World) (hw : EnvB w) (hxy : f % 64 = t % 64) :
    Calls Tryd.prog 5 #[.agg (intsK .u8 n), .int .u8 f, .int .u8 t] w fun e w' => e = .returned (.bool true) ∧ Below w.heap.size w w' := by
  obtain ⟨b, hb⟩ : ∃ b, mdV n = b := ⟨_, rfl⟩
  have lb : b.length = 64 := by rw [← hb]; exact mdV_len n
  have HB := Lib.hid hb
  have HN := Lib.hid hn
  have hz : b.length = zero64.length := lb
  have ib := i24 lb
  have i1 := i29 hn
  have H8 := Lib.hid h8
  have He := Lib.hid hw
  have hR := (Rch.start hw).alloc (.cells (intsK .u8 n) 29)
  have hP : Holds (w.alloc (.cells (intsK .u8 n) 29)) w.heap.size .u8 29 n := Holds.new w .u8 29 n
  obtain ⟨x, hx⟩ : ∃ x, f % 64 = x := ⟨_, rfl⟩
  have hy : t % 64 = x := by omega
  have x0 : 0 ≤ x := by omega
  have x1 : x ≤ 63 := by omega
  have HE : Hid (mvE b x x = 2) := Lib.hid (mv2 (.inr rfl))
  have HV := Lib.hid (mvV_f HE.out (by decide))
  clear hb hw h8 hn hxy
  go_enter Tryd.func5, Tryd.ntmps5
  go_wp2_with (first
    | (with_reducible refine wpl_load (g := w.heap.size) (k := .u8) (t := 29) (l := n) hP rfl 29 _ rfl rfl Tryd.underlying29 i1 ?_)
    | (go_at_call 14; refine (made_R hR HN.out H8.out).mono ?_; clear hR; rintro e w1 ⟨rfl, hR⟩; rw [HB.out])
    | (with_reducible refine wpl_storeAt' hR 24 zero64 b (by with_unfolding_all rfl) (by simp) rfl 24 _ _ rfl rfl rfl hz z64_info ?_; clear hR; intro w2 z5 y5 hR)
    | (with_reducible refine wpl_storeAt' hR 24 zero64 zero64 (by with_unfolding_all rfl) (by simp) rfl 24 _ _ rfl rfl rfl rfl z64_info ?_; clear hR; intro w2 z6 y6 hR)
    | (with_reducible refine wpl_loadG hR.hd (by with_unfolding_all rfl) 24 _ rfl rfl Tryd.underlying24 ib ?_)
    | (with_reducible refine wpl_loadG hR.hd (by with_unfolding_all rfl) 24 _ rfl rfl Tryd.underlying24 z64_info ?_)
    | (go_at_call 19; refine (move_R hR b lb x x).mono ?_; clear hR; rintro e w1 ⟨rfl, hR⟩; rw [HV.out, HE.out])
    | (with_reducible refine wpl_eqB z64_ln z64_ln rfl (by with_unfolding_all rfl) _ _ _ rfl rfl (by with_unfolding_all rfl) ?_)
    | (go_at_call 11; refine (works_R hR).mono ?_; clear hR; rintro e w1 ⟨rfl, hR⟩))
  go_ret
  exact ⟨rfl, hR.bel⟩
set_option maxRecDepth 100000 in
set_option maxHeartbeats 4000000 in
theorem steps_B (n : List Int) (hn : n.length = 64) (h8 : u8s n) (f t : Int) (f0 : 0 ≤ f) (f1 : f ≤ 255) (t0 : 0 ≤ t) (t1 : t ≤ 255) (w : World) (hw : EnvB w) (x y : Nat) (hx : f % 64 = (x : Int)) (hy : t % 64 = (y : Int)) (hxy : x ≠ y) (hb0 : (mdV n).getD x 0 = 0) :
    Calls Tryd.prog 5 #[.agg (intsK .u8 n), .int .u8 f, .int .u8 t] w fun e w' => e = .returned (.bool true) ∧ Below w.heap.size w w' := by
  have hok := mdV_ok h8
  obtain ⟨b, hb⟩ : ∃ b, mdV n = b := ⟨_, rfl⟩
  rw [hb] at hok hb0
  have lb : b.length = 64 := by rw [← hb]; exact mdV_len n
  have HB := Lib.hid hb
  have HN := Lib.hid hn
  have hz : b.length = zero64.length := lb
  have ib := i24 lb
  have i1 := i29 hn
  have H8 := Lib.hid h8
  have He := Lib.hid hw
  have hR := (Rch.start hw).alloc (.cells (intsK .u8 n) 29)
  have hP : Holds (w.alloc (.cells (intsK .u8 n) 29)) w.heap.size .u8 29 n := Holds.new w .u8 29 n
  have x1 : x < 64 := by omega
  have y1 : y < 64 := by omega
  have HE : Hid (mvE b x y = 5) := Lib.hid (mv5 hok (by omega) ⟨by omega, by omega⟩ ⟨by omega, by omega⟩ hb0)
  have HV := Lib.hid (mvV_f HE.out (by decide))
  have HZ := Lib.hid hb0
  have hne : ((x : Int) == (y : Int)) = false := by simp; omega
  clear hb hw h8 hn hxy hb0 hok
  go_enter Tryd.func5, Tryd.ntmps5
  go_wp2_with (first
    | (with_reducible refine wpl_load (g := w.heap.size) (k := .u8) (t := 29) (l := n) hP rfl 29 _ rfl rfl Tryd.underlying29 i1 ?_)
    | (go_at_call 14; refine (made_R hR HN.out H8.out).mono ?_; clear hR; rintro e w1 ⟨rfl, hR⟩; rw [HB.out])
    | (with_reducible refine wpl_storeAt' hR 24 zero64 b (by with_unfolding_all rfl) (by simp) rfl 24 _ _ rfl rfl rfl hz z64_info ?_; clear hR; intro w2 z5 y5 hR)
    | (with_reducible refine wpl_storeAt' hR 24 zero64 zero64 (by with_unfolding_all rfl) (by simp) rfl 24 _ _ rfl rfl rfl rfl z64_info ?_; clear hR; intro w2 z6 y6 hR; have c1 := hR.tl.hd.cell x (by omega); rw [HZ.out] at c1)
    | (with_reducible refine wpl_loadG hR.hd (by with_unfolding_all rfl) 24 _ rfl rfl Tryd.underlying24 ib ?_)
    | (with_reducible refine wpl_loadG hR.hd (by with_unfolding_all rfl) 24 _ rfl rfl Tryd.underlying24 z64_info ?_)
    | (go_at_call 19; refine (move_R hR b lb x y).mono ?_; clear hR; rintro e w1 ⟨rfl, hR⟩; rw [HV.out, HE.out])
    | (with_reducible refine wpl_eqB z64_ln z64_ln rfl (by with_unfolding_all rfl) _ _ _ rfl rfl (by with_unfolding_all rfl) ?_)
    | (go_at_call 11; refine (works_R hR).mono ?_; clear hR; rintro e w1 ⟨rfl, hR⟩))
  go_ret
  exact ⟨rfl, hR.bel⟩
theorem getD_set_self {l : List Int} {i : Nat} {v : Int} (h : i < l.length) : (l.set i v).getD i 0 = v := by
  rw [List.getD_eq_getElem?_getD, List.getElem?_set_self h]; rfl
theorem getD_set_ne {l : List Int} {i j : Nat} {v : Int} (h : i ≠ j) : (l.set i v).getD j 0 = l.getD j 0 := by
  rw [List.getD_eq_getElem?_getD, List.getElem?_set_ne h, ← List.getD_eq_getElem?_getD]
/-- The board behind a move, and behind the move back. -/
structure Moved (b m k : List Int) (x y : Nat) (v : Int) : Prop where
  ln : m.length = 64
  lk : k.length = 64
  ok : okB m
  my : m.getD y 0 = v
  mx : m.getD x 0 = 0
  same : ∀ i, i ≠ x → i ≠ y → m.getD i 0 = b.getD i 0
  back : k.set y (b.getD y 0) = b
theorem moved {b : List Int} (lb : b.length = 64) (hok : okB b) {x y : Nat} (hx : x < 64) (hy : y < 64) (hxy : x ≠ y) {v : Int} (hv : b.getD x 0 = v) :
    Moved b ((b.set y v).set x 0) ((((b.set y v).set x 0).set x v).set y 0) x y v := by
  refine ⟨by simp [lb], by simp [lb], ?_, ?_, ?_, ?_, ?_⟩
  · intro z hz
    rcases List.mem_or_eq_of_mem_set hz with h | h
    · rcases List.mem_or_eq_of_mem_set h with h | h
      · exact hok z h
      · have : b[x] = v := by rw [← hv]; simp [lb, hx]
        have := hok b[x] (List.getElem_mem _)
        omega
    · omega
  · rw [getD_set_ne (by omega), getD_set_self (by omega)]
  · rw [getD_set_self (by simp [lb]; omega)]
  · intro i h1 h2
    rw [getD_set_ne (by omega), getD_set_ne (by omega)]
  · apply List.ext_getElem (by simp)
    intro i h1 h2
    simp only [List.getElem_set]
    have e : ∀ j (hj : j < b.length), b.getD j 0 = b[j] := fun j hj => by simp [hj]
    by_cases a : y = i
    · subst a; simp; rw [List.getElem?_eq_getElem (by omega)]; rfl
    · by_cases c : x = i
      · subst c; simp [a]; rw [← hv, e x (by omega)]
      · simp [a, c]
set_option maxRecDepth 100000 in
set_option maxHeartbeats 4000000 in
theorem steps_C (n : List Int) (hn : n.length = 64) (h8 : u8s n) (f t : Int) (f0 : 0 ≤ f) (f1 : f ≤ 255) (t0 : 0 ≤ t) (t1 : t ≤ 255) (w : World) (hw : EnvB w) (x y : Nat) (hx : f % 64 = (x : Int)) (hy : t % 64 = (y : Int)) (hxy : x ≠ y) (v : Int) (hbv : (mdV n).getD x 0 = v) (hv : v ≠ 0) :
    Calls Tryd.prog 5 #[.agg (intsK .u8 n), .int .u8 f, .int .u8 t] w fun e w' => e = .returned (.bool true) ∧ Below w.heap.size w w' := by
  have hok := mdV_ok h8
  obtain ⟨b, hb⟩ : ∃ b, mdV n = b := ⟨_, rfl⟩
  rw [hb] at hok hbv
  have lb : b.length = 64 := by rw [← hb]; exact mdV_len n
  have HB := Lib.hid hb
  have HN := Lib.hid hn
  have hz : b.length = zero64.length := lb
  have ib := i24 lb
  have i1 := i29 hn
  have H8 := Lib.hid h8
  have He := Lib.hid hw
  have hR := (Rch.start hw).alloc (.cells (intsK .u8 n) 29)
  have hP : Holds (w.alloc (.cells (intsK .u8 n) 29)) w.heap.size .u8 29 n := Holds.new w .u8 29 n
  have x1 : x < 64 := by omega
  have y1 : y < 64 := by omega
  have HE : Hid (mvE b x y = 0) := Lib.hid (mv0 hok (by omega) ⟨by omega, by omega⟩ ⟨by omega, by omega⟩ (by rw [Int.toNat_natCast, hbv]; exact hv))
  have HV := Lib.hid (mvV_t HE.out)
  have HM := moved lb hok x1 y1 hxy hbv
  rw [Int.toNat_natCast, Int.toNat_natCast, hbv] at HV
  generalize hm : (b.set y v).set x 0 = m at HM HV
  generalize hk : (m.set x v).set y 0 = k at HM
  obtain ⟨lm, lk, okm, my, mx, same, back⟩ := HM
  have HE2 : Hid (mvE m y x = 0) := Lib.hid (mv0 okm (by omega) ⟨by omega, by omega⟩ ⟨by omega, by omega⟩ (by rw [Int.toNat_natCast, my]; exact hv))
  have HV2 := Lib.hid (mvV_t HE2.out)
  rw [Int.toNat_natCast, Int.toNat_natCast, my, hk] at HV2
  have hzm : m.length = zero64.length := lm
  have hzk : k.length = zero64.length := lk
  have im := i24 lm
  have ik := i24 lk
  have HZ := Lib.hid hbv
  have Hmy := Lib.hid my
  have Hmx := Lib.hid mx
  have Hsame := Lib.hid same
  obtain ⟨uy, huy⟩ : ∃ u, b.getD y 0 = u := ⟨_, rfl⟩
  rw [huy] at back
  have Huy := Lib.hid huy
  have Hback := Lib.hid back
  clear huy
  have hne : ((x : Int) == (y : Int)) = false := by simp; omega
  have hv0 : (v == 0) = false := by simpa using hv
  clear hb hw h8 hn hbv hok hm hk my mx same back
  go_enter Tryd.func5, Tryd.ntmps5
  go_upto_region 8 with (first
    | (with_reducible refine wpl_load (g := w.heap.size) (k := .u8) (t := 29) (l := n) hP rfl 29 _ rfl rfl Tryd.underlying29 i1 ?_)
    | (go_at_call 14; refine (made_R hR HN.out H8.out).mono ?_; clear hR; rintro e wa ⟨rfl, hR⟩; rw [HB.out])
    | (with_reducible refine wpl_storeAt' hR 24 zero64 b (by with_unfolding_all rfl) (by simp) rfl 24 _ _ rfl rfl rfl hz z64_info ?_; clear hR; intro w2 z5 y5 hR)
    | (with_reducible refine wpl_storeAt' hR 24 zero64 m (by with_unfolding_all rfl) (by simp) rfl 24 _ _ rfl rfl rfl hzm z64_info ?_; clear hR; intro w2 z6 y6 hR; have c1 := hR.tl.hd.cell x (by omega); rw [HZ.out] at c1)
    | (with_reducible refine wpl_loadG hR.hd (by with_unfolding_all rfl) 24 _ rfl rfl Tryd.underlying24 ib ?_)
    | (go_at_call 19; refine (move_R hR b lb x y).mono ?_; clear hR; rintro e wb ⟨rfl, hR⟩; rw [HV.out, HE.out]))
  have c2 := hR.hd.cell y (by omega)
  rw [Hmy.out] at c2
  have c3 := hR.hd.cell x (by omega)
  rw [Hmx.out] at c3
  go_quiet (fail)
  replace hR := hR.drewN nq
  generalize World.drewN _ _ = w4 at *
  clear c1 c2 c3
  generalize wa.heap.size = gb at *
  generalize wb.heap.size = gm at *
  go_wp2_with fail
  go_loopg [76] 64 (fun mm i wr => ∃ j : Nat, mm = 64 - j ∧ j ≤ 64 ∧ i = .int .i64 j ∧ Rch w [(gm, 24, m), (gb, 24, b)] wr)
  case atStart => exact ⟨0, rfl, by omega, rfl, hR⟩
  case round =>
    clear hR
    obtain ⟨j, hkm, hj, rfl, hR⟩ := hrel
    have HK := Lib.hid hkm
    clear hkm
    by_cases hlt : j < 64
    · have hdi : decide ((j : Int) < 64) = true := by simp; omega
      by_cases ex : j = x
      · have e1 : ((j : Int) != (x : Int)) = false := by simp; omega
        clear ex
        go_wp2_with fail
        go_quiet (fail)
        replace hR := hR.drewN nq
        generalize World.drewN _ _ = w5 at *
        go_wp2_with fail
        go_roundg (64 - (j + 1))
        case measure => have := HK.out; omega
        case rel => exact ⟨j + 1, rfl, by omega, by go_num, hR⟩
      · have e1 : ((j : Int) != (x : Int)) = true := by simp; omega
        by_cases ey : j = y
        · have e2 : ((j : Int) != (y : Int)) = false := by simp; omega
          clear ex ey
          go_wp2_with fail
          go_quiet (fail)
          replace hR := hR.drewN nq
          generalize World.drewN _ _ = w5 at *
          go_wp2_with fail
          go_roundg (64 - (j + 1))
          case measure => have := HK.out; omega
          case rel => exact ⟨j + 1, rfl, by omega, by go_num, hR⟩
        · have e2 : ((j : Int) != (y : Int)) = true := by simp; omega
          have c1 := hR.hd.cell j (by omega)
          rw [Hsame.out j ex ey] at c1
          have c2 := hR.tl.hd.cell j (by omega)
          generalize b.getD j 0 = u at c1 c2
          clear ex ey
          go_wp2_with fail
          go_quiet (fail)
          replace hR := hR.drewN nq
          clear c1 c2
          generalize World.drewN _ _ = w5 at *
          go_wp2_with fail
          go_roundg (64 - (j + 1))
          case measure => have := HK.out; omega
          case rel => exact ⟨j + 1, rfl, by omega, by go_num, hR⟩
    · have h64 : j = 64 := by omega
      subst h64
      go_upto_region 20 with (first
        | (with_reducible refine wpl_loadG hR.hd (by with_unfolding_all rfl) 24 _ rfl rfl Tryd.underlying24 im ?_)
        | (go_at_call 19; refine (move_R hR m lm y x).mono ?_; clear hR; rintro e wc ⟨rfl, hR⟩; rw [HV2.out, HE2.out])
        | (with_reducible refine wpl_storeAt' hR 24 zero64 k (by with_unfolding_all rfl) (by simp) rfl 24 _ _ rfl rfl rfl hzk z64_info ?_; clear hR; intro w5 z7 y7 hR; have c1 := hR.tl.tl.hd.cell y (by omega); rw [Huy.out] at c1; have c2 := hR.hd.cell y (by omega); have c3 := hR.hd.frozen y))
      have hR3 := hR.setc He.out z7 y7 y uy
      clear c1 c2 c3 hR
      rw [Hback.out] at hR3
      generalize World.setCell _ _ _ = w6 at *
      go_wp2_with (first
        | (with_reducible refine wpl_loadG hR3.hd (by with_unfolding_all rfl) 24 _ rfl rfl Tryd.underlying24 ib ?_)
        | (with_reducible refine wpl_loadG hR3.tl.tl.hd (by with_unfolding_all rfl) 24 _ rfl rfl Tryd.underlying24 ib ?_)
        | (with_reducible refine wpl_eqB lb lb rfl (by with_unfolding_all rfl) _ _ _ rfl rfl (by with_unfolding_all rfl) ?_)
        | (go_at_call 11; refine (works_R hR3).mono ?_; clear hR3; rintro e w1 ⟨rfl, hR3⟩))
      go_ret
      exact ⟨rfl, hR3.bel⟩
theorem steps_any (n : List Int) (hn : n.length = 64) (h8 : u8s n) (f t : Int) (f0 : 0 ≤ f) (f1 : f ≤ 255) (t0 : 0 ≤ t) (t1 : t ≤ 255) (w : World) (hw : EnvB w) :
    Calls Tryd.prog 5 #[.agg (intsK .u8 n), .int .u8 f, .int .u8 t] w fun e w' => e = .returned (.bool true) ∧ Below w.heap.size w w' := by
  by_cases hxy : f % 64 = t % 64
  · exact steps_A n hn h8 f t f0 f1 t0 t1 w hw hxy
  · have hx : f % 64 = ((f % 64).toNat : Int) := by omega
    have hy : t % 64 = ((t % 64).toNat : Int) := by omega
    by_cases hv : (mdV n).getD (f % 64).toNat 0 = 0
    · exact steps_B n hn h8 f t f0 f1 t0 t1 w hw _ _ hx hy (by omega) hv
    · exact steps_C n hn h8 f t f0 f1 t0 t1 w hw _ _ hx hy (by omega) _ rfl hv
end Go.Proofs.YthbbnhhofkadgaaDoor
