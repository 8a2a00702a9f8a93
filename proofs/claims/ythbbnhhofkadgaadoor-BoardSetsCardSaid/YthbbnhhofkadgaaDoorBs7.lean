/- The law BoardSets. Conditions: as in EnvB. -/
import Derived.Test.YthbbnhhofkadgaaDoorBs9
import Derived.Test.YthbbnhhofkadgaaDoorBhs
namespace Go.Proofs.YthbbnhhofkadgaaDoor
open Go Go.RowKit
/-- As Rch, and a block of two sets. -/
structure RcC (w0 : World) (hs : List (Nat × TypeId × List Int)) (gc : Nat) (cl : List Int) (w : World) : Prop where
  rch : Rch w0 hs w
  col : Holds w gc .u64 51 cl
section
variable {w0 w : World} {hs : List (Nat × TypeId × List Int)} {gc : Nat} {cl : List Int}
theorem RcC.go (h : RcC w0 hs gc cl w) {w' : World} (hb : Below w.heap.size w w') : RcC w0 hs gc cl w' := ⟨h.rch.go hb, h.col.below hb h.col.lt⟩
theorem RcC.drewN (h : RcC w0 hs gc cl w) (n : Nat) : RcC w0 hs gc cl (w.drewN n) := h.go (below_dn _ n)
theorem RcC.setcol (h : RcC w0 hs gc cl w) (e0 : EnvB w0) (hg : w0.heap.size ≤ gc) (ha : ∀ x ∈ hs, x.1 ≠ gc) (i : Nat) (x : Int) : RcC w0 hs gc (cl.set i x) (w.setCell ⟨gc, i, none⟩ (.int .u64 x)) := by
  have hb := h.rch.bel.setCell (p := ⟨gc, i, none⟩) hg (.int .u64 x)
  exact ⟨⟨e0.below hb e0.size, hb, fun y hy => (h.rch.held y hy).setOther _ (ha y hy)⟩, h.col.set i x⟩
theorem of_C (h : RcC w0 hs gc cl w) (b : List Int) (hb : b.length = 64) (p : Int) : Calls Tryd.prog 24 #[.agg (ints b), .int .i64 p] w fun e w' => e = .returned (.int .u64 (bsum (fun x => x == p) b 64 : Nat)) ∧ RcC w0 hs gc cl w' := (of_any' b hb p w).mono fun _ _ ⟨a, b⟩ => ⟨a, h.go b⟩
theorem color_C (h : RcC w0 hs gc cl w) (b : List Int) (hb : b.length = 64) (p : Int) : Calls Tryd.prog 26 #[.agg (ints b), .int .i64 p] w fun e w' => e = .returned (.int .u64 (bsum (fun x => isB x p) b 64 : Nat)) ∧ RcC w0 hs gc cl w' := (color_any b hb p w).mono fun _ _ ⟨a, b⟩ => ⟨a, h.go b⟩
end
/-- The squares of piece p; of the pieces below p; of those of a color below p. -/
def tP (b : List Int) (p : Int) (i : Nat) : Bool := b.getD i 0 == p
def tA (b : List Int) (p : Int) (i : Nat) : Bool := decide (1 ≤ b.getD i 0 ∧ b.getD i 0 < p)
def tC (b : List Int) (c p : Int) (i : Nat) : Bool := decide (1 + 6 * c ≤ b.getD i 0 ∧ b.getD i 0 ≤ 6 + 6 * c ∧ b.getD i 0 < p)
theorem of_tP {b : List Int} {p : Int} (h1 : 1 ≤ p) (h2 : p ≤ 12) : bsum (fun x => x == p) b 64 = bsT (tP b p) 64 := by
  rw [bsum_bsT]
  refine bsT_congr 64 (fun i _ => ?_)
  unfold tP
  by_cases h : b.getD i 0 = p
  · have : inP (b.getD i 0) := by rw [h]; exact ⟨h1, h2⟩
    rw [decide_eq_true this, Bool.true_and]
  · have : (b.getD i 0 == p) = false := by simpa using h
    rw [this, Bool.and_false]
theorem and_PA (b : List Int) (p : Int) : bsT (tP b p) 64 &&& bsT (tA b p) 64 = 0 :=
  bsT_and0 (fun i _ => by rintro ⟨h1, h2⟩; unfold tP at h1; unfold tA at h2; have a : b.getD i 0 = p := by simpa using h1
                          have c := of_decide_eq_true h2; omega)
theorem or_AP (b : List Int) (p : Int) (h : 1 ≤ p) : bsT (tA b p) 64 ||| bsT (tP b p) 64 = bsT (tA b (p + 1)) 64 := by
  rw [bsT_or]
  refine bsT_congr 64 (fun i _ => ?_)
  unfold tA tP
  rw [Bool.eq_iff_iff]
  simp only [Bool.or_eq_true, decide_eq_true_eq, beq_iff_eq]
  omega
theorem or_CP (b : List Int) (c p : Int) (h : 1 + 6 * c ≤ p ∧ p ≤ 6 + 6 * c) : bsT (tC b c p) 64 ||| bsT (tP b p) 64 = bsT (tC b c (p + 1)) 64 := by
  rw [bsT_or]
  refine bsT_congr 64 (fun i _ => ?_)
  unfold tC tP
  rw [Bool.eq_iff_iff]
  simp only [Bool.or_eq_true, decide_eq_true_eq, beq_iff_eq]
  omega
theorem tC_same (b : List Int) (c p : Int) (h : p ≤ 1 + 6 * c - 1 ∨ 6 + 6 * c < p) : bsT (tC b c (p + 1)) 64 = bsT (tC b c p) 64 := by
  refine bsT_congr 64 (fun i _ => ?_)
  unfold tC
  rw [Bool.eq_iff_iff]
  simp only [decide_eq_true_eq]
  omega
theorem bsT_none {t : Nat → Bool} (h : ∀ i, t i = false) : bsT t 64 = 0 := by
  have : ∀ k, bsT t k = 0 := fun k => by
    induction k with
    | zero => rfl
    | succ k ih => simp only [bsT]; rw [ih, if_neg (by rw [h k]; exact Bool.false_ne_true)]
  exact this 64
theorem tA_1 (b : List Int) : bsT (tA b 1) 64 = 0 := bsT_none (fun i => by unfold tA; exact decide_eq_false (by omega))
theorem tC_1 (b : List Int) (c : Int) (hc : 0 ≤ c) : bsT (tC b c 1) 64 = 0 := bsT_none (fun i => by unfold tC; exact decide_eq_false (by omega))
theorem col_one {x : Int} (hx : 0 ≤ x ∧ x ≤ 12) (c : Int) (hc : c = 0 ∨ c = 1) : (decide (inP x) && isB x c) = decide (1 + 6 * c ≤ x ∧ x ≤ 6 + 6 * c ∧ x < 13) := by
  by_cases hp : inP x
  · rw [decide_eq_true hp, Bool.true_and]
    unfold isB colV
    unfold inP at hp
    rw [Bool.eq_iff_iff]
    simp only [decide_eq_true_eq]
    rcases hc with rfl | rfl <;> split <;> omega
  · rw [decide_eq_false hp, Bool.false_and]
    unfold inP at hp
    symm
    exact decide_eq_false (by omega)
theorem col_tC {b : List Int} (hok : okB b) (c : Int) (hc : c = 0 ∨ c = 1) : bsum (fun x => isB x c) b 64 = bsT (tC b c 13) 64 := by
  rw [bsum_bsT]
  exact bsT_congr 64 (fun i _ => col_one (okB_get hok i) c hc)
theorem cn_tP {b : List Int} {p : Nat} (h1 : 1 ≤ p) (h2 : p ≤ 12) : (cnB b 64).getD p 0 = ((ocN (bsT (tP b p) 64) : Nat) : Int) := by
  rw [cnB_get b 64 p (by omega), oc_bsT]
  congr 1
  refine cnT_congr 64 (fun i _ => ?_)
  unfold tP pieceAt
  rw [Bool.eq_iff_iff]
  simp only [beq_iff_eq]
  split <;> omega
theorem cn_0 {b : List Int} (hok : okB b) : ((ocN (bsT (tA b 13) 64) : Nat) : Int) + (cnB b 64).getD 0 0 = 64 := by
  rw [cnB_get b 64 0 (by omega), oc_bsT]
  have := cnT_add (t := tA b 13) (u := fun i => pieceAt (b.getD i 0) == 0) 64 (fun i _ => by
    have := okB_get hok i
    unfold tA pieceAt
    generalize b.getD i 0 = x at *
    simp only [decide_eq_true_eq, beq_iff_eq]
    split <;> omega)
  omega
theorem or_i {a b c : Nat} (ha : a < 18446744073709551616) (hb : b < 18446744073709551616) (h : a ||| b = c) : bits BinOp.or IntKind.u64 (a : Int) (b : Int) = (c : Int) := by rw [u64_or_nat _ _ ha hb, h]
theorem and_i {a b : Nat} (ha : a < 18446744073709551616) (hb : b < 18446744073709551616) (h : a &&& b = 0) : bits BinOp.and IntKind.u64 (a : Int) (b : Int) = 0 := by rw [u64_and_nat _ _ ha hb, h]; rfl
theorem tP_bit (b : List Int) (p : Int) {i : Nat} (hi : i < 64) : (bsT (tP b p) 64).testBit i = (b.getD i 0 == p) := by rw [bsT_bit, decide_eq_true hi, Bool.true_and]; rfl
set_option maxRecDepth 100000 in
set_option linter.unusedSimpArgs false in
set_option maxHeartbeats 40000000 in
theorem sets_any (n : List Int) (hn : n.length = 64) (h8 : u8s n) (w : World) (hw : EnvB w) :
    Calls Tryd.prog 7 #[.agg (intsK .u8 n)] w fun e w' => e = .returned (.bool true) ∧ Below w.heap.size w w' := by
  have hok := mdV_ok h8
  obtain ⟨b, hb⟩ : ∃ b, mdV n = b := ⟨_, rfl⟩
  rw [hb] at hok
  have lb : b.length = 64 := by rw [← hb]; exact mdV_len n
  obtain ⟨cn, hcn⟩ : ∃ c, cnB b 64 = c := ⟨_, rfl⟩
  have lcn : cn.length = 13 := by rw [← hcn]; exact cnB_len b 64
  have Hcn := Lib.hid hcn
  have HB := Lib.hid hb
  have HN := Lib.hid hn
  have Hok := Lib.hid hok
  have zb : b.length = zero64.length := lb
  have zcn : cn.length = zero13.length := lcn
  have ib := i24 lb
  have i1 := i29 hn
  have H8 := Lib.hid h8
  have He := Lib.hid hw
  have hR := (Rch.start hw).alloc (.cells (intsK .u8 n) 29)
  have hP : Holds (w.alloc (.cells (intsK .u8 n) 29)) w.heap.size .u8 29 n := Holds.new w .u8 29 n
  clear hb hw h8 hn hok hcn
  go_enter Tryd.func7, Tryd.ntmps7
  go_upto_region 5 with (first
    | (with_reducible refine wpl_load (g := w.heap.size) (k := .u8) (t := 29) (l := n) hP rfl 29 _ rfl rfl Tryd.underlying29 i1 ?_)
    | (go_at_call 14; refine (made_R hR HN.out H8.out).mono ?_; clear hR; rintro e wa ⟨rfl, hR⟩; rw [HB.out])
    | (go_at_call 28; refine (count_R hR b lb).mono ?_; clear hR; rintro e wb ⟨rfl, hR⟩; rw [Hcn.out])
    | (with_reducible refine wpl_storeAt' hR 24 zero64 b (by with_unfolding_all rfl) (by simp) rfl 24 _ _ rfl rfl rfl zb z64_info ?_; clear hR; intro wd z5 y5 hR)
    | (with_reducible refine wpl_storeAt' hR 48 zero13 cn (by with_unfolding_all rfl) (by simp) rfl 48 _ _ rfl rfl rfl zcn z13_info ?_; clear hR; intro wf z6 y6 hR)
    | (with_reducible refine wpl_loadG hR.hd (by with_unfolding_all rfl) 24 _ rfl rfl Tryd.underlying24 ib ?_))
  generalize hW : World.alloc _ _ = w6
  have hgc := hR.bel.size
  have hac : ∀ x ∈ [(wb.heap.size, 48, cn), (wa.heap.size, 24, b)], x.1 ≠ wf.heap.size := fun x hx e => by have := (hR.held x hx).lt; omega
  have hC : RcC w [(wb.heap.size, 48, cn), (wa.heap.size, 24, b)] wf.heap.size [0, 0] w6 := by rw [← hW]; exact ⟨hR.alloc _, Holds.new wf .u64 51 [0, 0]⟩
  have Hac := Lib.hid hac
  clear hW hR z5 y5 z6 y6 hac
  generalize wa.heap.size = gb at *
  generalize wb.heap.size = gn at *
  generalize wf.heap.size = gc at *
  go_wp2_with fail
  go_loopg [5, 7] 12 (fun mm al i wr => ∃ p : Nat, mm = 13 - p ∧ 1 ≤ p ∧ p ≤ 13 ∧ i = .int .i64 p ∧ al = .int .u64 (bsT (tA b p) 64 : Nat) ∧ RcC w [(gn, 48, cn), (gb, 24, b)] gc [((bsT (tC b 0 p) 64 : Nat) : Int), ((bsT (tC b 1 p) 64 : Nat) : Int)] wr)
  case atStart => exact ⟨1, rfl, by omega, by omega, rfl, by rw [show ((1 : Nat) : Int) = 1 from rfl, tA_1]; rfl, by rw [show ((1 : Nat) : Int) = 1 from rfl, tC_1 b 0 (by omega), tC_1 b 1 (by omega)]; exact hC⟩
  case round =>
    clear hC
    obtain ⟨p, hkm, hp1, hp13, rfl, rfl, hC⟩ := hrel
    have HK := Lib.hid hkm
    clear hkm
    by_cases hlt : p ≤ 12
    · have hdi : decide ((p : Int) ≤ 12) = true := by simp; omega
      obtain ⟨sp, hsp⟩ : ∃ s, bsT (tP b p) 64 = s := ⟨_, rfl⟩
      have lsp : sp < 18446744073709551616 := by rw [← hsp]; exact bsT_lt64 _
      have hof := of_tP (b := b) (p := p) (by omega) (by omega)
      have hand := and_PA b p
      have hor := or_AP b p (by omega)
      have hcn := cn_tP (b := b) hp1 hlt
      have hbit := fun i (hi : i < 64) => tP_bit b p hi
      obtain ⟨al, hal⟩ : ∃ s, bsT (tA b p) 64 = s := ⟨_, rfl⟩
      have lal : al < 18446744073709551616 := by rw [← hal]; exact bsT_lt64 _
      rw [hsp] at hof hand hor hcn hbit
      rw [hal] at hand hor
      obtain ⟨al2, hal2⟩ : ∃ s, bsT (tA b ((p : Int) + 1)) 64 = s := ⟨_, rfl⟩
      rw [hal2] at hor
      have hand' := and_i lsp lal hand
      have Hor := Lib.hid (or_i lal lsp hor)
      have Hof := Lib.hid hof
      have Hbit := Lib.hid hbit
      have Hal2 := Lib.hid hal2
      have Hsp := Lib.hid hsp
      rw [Hcn.out] at hcn
      have c1 := hC.rch.hd.cell p (by omega)
      rw [hcn] at c1
      have HLen := Lib.hid (fun W : World => len_any sp lsp W)
      generalize hon : ocN sp = on at *
      have Lsp := Lib.hid lsp
      have Lal := Lib.hid lal
      rw [hal]
      clear hof hand hor hbit hal2 hal hsp hon lsp lal
      go_wp2_with (first
        | (with_reducible refine wpl_loadG hC.rch.tl.hd (by with_unfolding_all rfl) 24 _ rfl rfl Tryd.underlying24 ib ?_)
        | (go_at_call 24; refine (of_C hC b lb p).mono ?_; clear hC c1; rintro e w1 ⟨rfl, hC⟩; rw [Hof.out]; have c1 := hC.rch.hd.cell p (by omega)))
      rw [hcn] at c1
      go_quiet ((go_at_call 30; exact Calls.quiet_of_same ((HLen.out _).mono fun _ _ ⟨a, b⟩ => ⟨a, b.symm⟩)))
      replace hC := hC.drewN nq
      clear c1
      generalize World.drewN _ _ = w7 at *
      obtain ⟨d0, hd0⟩ : ∃ s, bsT (tC b 0 p) 64 = s := ⟨_, rfl⟩
      obtain ⟨d1, hd1⟩ : ∃ s, bsT (tC b 1 p) 64 = s := ⟨_, rfl⟩
      obtain ⟨e0, he0⟩ : ∃ s, bsT (tC b 0 ((p : Int) + 1)) 64 = s := ⟨_, rfl⟩
      obtain ⟨e1, he1⟩ : ∃ s, bsT (tC b 1 ((p : Int) + 1)) 64 = s := ⟨_, rfl⟩
      have hl0 : d0 < 18446744073709551616 := by rw [← hd0]; exact bsT_lt64 _
      have hl1 : d1 < 18446744073709551616 := by rw [← hd1]; exact bsT_lt64 _
      rw [hd0, hd1] at hC
      have Hd0 := Lib.hid hd0
      have Hd1 := Lib.hid hd1
      have He0 := Lib.hid he0
      have He1 := Lib.hid he1
      have Hl0 := Lib.hid hl0
      have Hl1 := Lib.hid hl1
      clear hd0 hd1 he0 he1 hl0 hl1
      go_wp2_with fail
      go_loopg [37] 64 (fun mm i wr => ∃ j : Nat, mm = 64 - j ∧ j ≤ 64 ∧ i = .int .i64 j ∧ RcC w [(gn, 48, cn), (gb, 24, b)] gc [(d0 : Int), (d1 : Int)] wr)
      case atStart => exact ⟨0, rfl, by omega, rfl, hC⟩
      case round =>
        clear hC
        obtain ⟨j, hjm, hj, rfl, hC⟩ := hrel
        have HJ := Lib.hid hjm
        clear hjm
        by_cases hj64 : j < 64
        · have hdj : decide ((j : Int) < 64) = true := by simp; omega
          have c1 := hC.rch.tl.hd.cell j (by omega)
          have HH := Lib.hid (fun W : World => has_any sp j Lsp.out hj64 W)
          rw [Hbit.out j hj64] at HH
          generalize b.getD j 0 = x at c1 HH
          by_cases hxp : x = p
          · have hx1 : (x == (p : Int)) = true := by simpa using hxp
            rw [hx1] at HH
            clear hxp
            go_wp2_with fail
            go_quiet ((go_at_call 31; exact Calls.quiet_of_same ((HH.out _).mono fun _ _ ⟨a, b⟩ => ⟨a, b.symm⟩)))
            replace hC := hC.drewN nq
            clear c1
            generalize World.drewN _ _ = w8 at *
            go_wp2_with fail
            go_roundg (64 - (j + 1))
            case measure => have := HJ.out; omega
            case rel => exact ⟨j + 1, rfl, by omega, by go_num, hC⟩
          · have hx1 : (x == (p : Int)) = false := by simpa using hxp
            rw [hx1] at HH
            clear hxp
            go_wp2_with fail
            go_quiet ((go_at_call 31; exact Calls.quiet_of_same ((HH.out _).mono fun _ _ ⟨a, b⟩ => ⟨a, b.symm⟩)))
            replace hC := hC.drewN nq
            clear c1
            generalize World.drewN _ _ = w8 at *
            go_wp2_with fail
            go_roundg (64 - (j + 1))
            case measure => have := HJ.out; omega
            case rel => exact ⟨j + 1, rfl, by omega, by go_num, hC⟩
        · have hj0 : j = 64 := by omega
          subst hj0
          have hor := Hor.out
          by_cases h6 : p ≤ 6
          · skip
            have hdiv : ((p : Int) - 1) / 6 = 0 := by omega
            have hin : 1 + 6 * (0 : Int) ≤ p ∧ (p : Int) ≤ 6 + 6 * 0 := by omega
            have Ho1 := or_CP b 0 p hin
            have Ho2 := tC_same b 1 p (by omega)
            rw [Hsp.out, Hd0.out, He0.out] at Ho1
            rw [Hd1.out, He1.out] at Ho2
            have hor1 := or_i (Hl0.out) Lsp.out Ho1
            have cc := hC.col.cell 0 (by simp)
            simp only [List.getD_cons_zero, List.getD_cons_succ] at cc
            have cf := hC.col.frozen 0
            have hC2 := Lib.hid (hC.setcol He.out hgc Hac.out 0 (e0 : Int))
            have HQ := Lib.hid Ho2
            clear Ho1 Ho2 hin hC
            go_wp2_with fail
            have HQ2 := HQ.out
            have hpp : ((p + 1 : Nat) : Int) = (p : Int) + 1 := by omega
            go_roundg (13 - (p + 1))
            case measure => have := HK.out; omega
            case rel => exact ⟨p + 1, rfl, by omega, by omega, by go_num, by rw [hpp, Hal2.out], by rw [hpp, He0.out, He1.out,  HQ2]; exact hC2.out⟩
          · skip
            have hdiv : ((p : Int) - 1) / 6 = 1 := by omega
            have hin : 1 + 6 * (1 : Int) ≤ p ∧ (p : Int) ≤ 6 + 6 * 1 := by omega
            have Ho1 := or_CP b 1 p hin
            have Ho2 := tC_same b 0 p (by omega)
            rw [Hsp.out, Hd1.out, He1.out] at Ho1
            rw [Hd0.out, He0.out] at Ho2
            have hor1 := or_i (Hl1.out) Lsp.out Ho1
            have cc := hC.col.cell 1 (by simp)
            simp only [List.getD_cons_zero, List.getD_cons_succ] at cc
            have cf := hC.col.frozen 1
            have hC2 := Lib.hid (hC.setcol He.out hgc Hac.out 1 (e1 : Int))
            have HQ := Lib.hid Ho2
            clear Ho1 Ho2 hin hC
            go_wp2_with fail
            have HQ2 := HQ.out
            have hpp : ((p + 1 : Nat) : Int) = (p : Int) + 1 := by omega
            go_roundg (13 - (p + 1))
            case measure => have := HK.out; omega
            case rel => exact ⟨p + 1, rfl, by omega, by omega, by go_num, by rw [hpp, Hal2.out], by rw [hpp, He0.out, He1.out,  HQ2]; exact hC2.out⟩
    · have hp : p = 13 := by omega
      subst hp
      have a1 := cn_0 Hok.out
      have a2 := col_tC Hok.out 0 (.inl rfl)
      have a3 := col_tC Hok.out 1 (.inr rfl)
      rw [Hcn.out] at a1
      have a4 : bsT (tA b 13) 64 < 18446744073709551616 := bsT_lt64 _
      rw [show (((13 : Nat) : Int)) = 13 from rfl] at hC
      rw [show (((13 : Nat) : Int)) = 13 from rfl]
      generalize bsT (tA b 13) 64 = a13 at *
      generalize bsT (tC b 0 13) 64 = d0 at *
      generalize bsT (tC b 1 13) 64 = d1 at *
      have Ha13 := Lib.hid a4
      have Hs0 := Lib.hid a2
      have Hs1 := Lib.hid a3
      obtain ⟨n13, hn13⟩ : ∃ n, ocN a13 = n := ⟨_, rfl⟩
      obtain ⟨k0, hk0⟩ : ∃ k, cn.getD 0 0 = k := ⟨_, rfl⟩
      rw [hn13, hk0] at a1
      have Hn13 := Lib.hid hn13
      have Hc0 := Lib.hid hk0
      have jb := i24m lb
      go_wp2_with fail
      have hsum2 : IntKind.i64.wrap 64 = 64 := rfl
      clear a2 a3 a4 hn13 hk0
      refine wp_region_noPanic ?_
      refine wp_region_held_drew (S := fun w' => RcC w _ _ _ w') (by kernel_rfl) (hC.drewN 1) (fun hH => ?_)
      refine takeD 0 (some 61) (v := ?_) rfl rfl (by kernel_rfl) (by kernel_rfl) (by kernel_rfl) (fun _ _ _ h => h) (Or.inl ⟨by rfl, ?_⟩) hH ?_
      rotate_left
      · intro w hSw; go_simp; try with_reducible rfl
      try simp only [Act.put, List.setIfInBounds_toArray, List.set_cons_zero, List.set_cons_succ]
      refine takeD 2 (some 63) (v := ?_) rfl rfl (by kernel_rfl) (by kernel_rfl) (by kernel_rfl) (fun _ _ _ h => h) (Or.inl ⟨by rfl, ?_⟩) hH ?_
      rotate_left
      · intro w hSw; go_simp; try with_reducible rfl
      try simp only [Act.put, List.setIfInBounds_toArray, List.set_cons_zero, List.set_cons_succ]
      refine takeD 3 (some 64) (v := ?_) rfl rfl (by kernel_rfl) (by kernel_rfl) (by kernel_rfl) (fun _ _ _ h => h) (Or.inl ⟨by rfl, ?_⟩) hH ?_
      rotate_left
      · intro w hSw; have c := hSw.rch.hd.cell 0 (by rw [lcn]; decide); rw [Hc0.out] at c; go_simp; try with_reducible rfl
      try simp only [Act.put, List.setIfInBounds_toArray, List.set_cons_zero, List.set_cons_succ]
      refine wpAnyH_ready (rs := [1]) (by kernel_rfl) (by simp) ?_
      refine AllReadyH.cons rfl (fun K hK => ?_) AllReadyH.nil
      go_simp
      go_at_call 30; refine (len_any a13 Ha13.out _).mono ?_; rintro e w' ⟨rfl, rfl⟩; rw [Hn13.out]
      go_wp2_with fail
      refine hK.out _ _ (hH) (fun hH => ?_)
      clear hK K
      try simp only [Act.put, List.setIfInBounds_toArray, List.set_cons_zero, List.set_cons_succ]
      refine takeD 4 (some 65) (v := ?_) rfl rfl (by kernel_rfl) (by kernel_rfl) (by kernel_rfl) (fun _ _ _ h => h) (Or.inl ⟨by rfl, ?_⟩) hH ?_
      rotate_left
      · intro w hSw; go_simp; try with_reducible rfl
      try simp only [Act.put, List.setIfInBounds_toArray, List.set_cons_zero, List.set_cons_succ]
      refine takeD 5 (some 66) (v := ?_) rfl rfl (by kernel_rfl) (by kernel_rfl) (by kernel_rfl) (fun _ _ _ h => h) (Or.inl ⟨by rfl, ?_⟩) hH ?_
      rotate_left
      · intro w hSw; go_simp; try with_reducible rfl
      try simp only [Act.put, List.setIfInBounds_toArray, List.set_cons_zero, List.set_cons_succ]
      refine takeD 6 (some 67) (v := ?_) rfl rfl (by kernel_rfl) (by kernel_rfl) (by kernel_rfl) (fun _ _ _ h => h) (Or.inl ⟨by rfl, ?_⟩) hH ?_
      rotate_left
      · intro w hSw; go_simp; try with_reducible rfl
      try simp only [Act.put, List.setIfInBounds_toArray, List.set_cons_zero, List.set_cons_succ]
      refine takeD 7 (some 68) rfl rfl (by kernel_rfl) (by kernel_rfl) (by kernel_rfl) (fun _ _ _ h => h) (yieldsIf_load_mid (by rfl) _ _ rfl _ _ rfl _ _ (fun w h => h.rch.tl.hd.range) Tryd.underlying24 rfl jb) hH ?_
      try simp only [Act.put, List.setIfInBounds_toArray, List.set_cons_zero, List.set_cons_succ]
      refine takeD 9 (some 70) (v := ?_) rfl rfl (by kernel_rfl) (by kernel_rfl) (by kernel_rfl) (fun _ _ _ h => h) (Or.inl ⟨by rfl, ?_⟩) hH ?_
      rotate_left
      · intro w hSw; go_simp; try with_reducible rfl
      try simp only [Act.put, List.setIfInBounds_toArray, List.set_cons_zero, List.set_cons_succ]
      refine takeD 10 (some 71) (v := ?_) rfl rfl (by kernel_rfl) (by kernel_rfl) (by kernel_rfl) (fun _ _ _ h => h) (Or.inl ⟨by rfl, ?_⟩) hH ?_
      rotate_left
      · intro w hSw; have c := hSw.col.cell 0 (by simp); simp only [List.getD_cons_zero] at c; go_simp; try with_reducible rfl
      try simp only [Act.put, List.setIfInBounds_toArray, List.set_cons_zero, List.set_cons_succ]
      refine wpAnyH_ready (rs := [8]) (by kernel_rfl) (by simp) ?_
      refine AllReadyH.cons rfl (fun K hK => ?_) AllReadyH.nil
      go_simp
      go_at_call 26; refine (color_C hH b lb 0).mono ?_; clear hH; rintro e w' ⟨rfl, hH⟩; rw [Hs0.out]
      go_wp2_with fail
      refine hK.out _ _ (hH) (fun hH => ?_)
      clear hK K
      try simp only [Act.put, List.setIfInBounds_toArray, List.set_cons_zero, List.set_cons_succ]
      refine takeD 11 (some 72) (v := ?_) rfl rfl (by kernel_rfl) (by kernel_rfl) (by kernel_rfl) (fun _ _ _ h => h) (Or.inl ⟨by rfl, ?_⟩) hH ?_
      rotate_left
      · intro w hSw; go_simp; try with_reducible rfl
      try simp only [Act.put, List.setIfInBounds_toArray, List.set_cons_zero, List.set_cons_succ]
      refine takeD 12 (some 73) (v := ?_) rfl rfl (by kernel_rfl) (by kernel_rfl) (by kernel_rfl) (fun _ _ _ h => h) (Or.inl ⟨by rfl, ?_⟩) hH ?_
      rotate_left
      · intro w hSw; go_simp; try with_reducible rfl
      try simp only [Act.put, List.setIfInBounds_toArray, List.set_cons_zero, List.set_cons_succ]
      refine takeD 13 (some 74) (v := ?_) rfl rfl (by kernel_rfl) (by kernel_rfl) (by kernel_rfl) (fun _ _ _ h => h) (Or.inl ⟨by rfl, ?_⟩) hH ?_
      rotate_left
      · intro w hSw; go_simp; try with_reducible rfl
      try simp only [Act.put, List.setIfInBounds_toArray, List.set_cons_zero, List.set_cons_succ]
      refine takeD 14 (some 75) rfl rfl (by kernel_rfl) (by kernel_rfl) (by kernel_rfl) (fun _ _ _ h => h) (yieldsIf_load_mid (by rfl) _ _ rfl _ _ rfl _ _ (fun w h => h.rch.tl.hd.range) Tryd.underlying24 rfl jb) hH ?_
      try simp only [Act.put, List.setIfInBounds_toArray, List.set_cons_zero, List.set_cons_succ]
      refine takeD 16 (some 77) (v := ?_) rfl rfl (by kernel_rfl) (by kernel_rfl) (by kernel_rfl) (fun _ _ _ h => h) (Or.inl ⟨by rfl, ?_⟩) hH ?_
      rotate_left
      · intro w hSw; go_simp; try with_reducible rfl
      try simp only [Act.put, List.setIfInBounds_toArray, List.set_cons_zero, List.set_cons_succ]
      refine takeD 17 (some 78) (v := ?_) rfl rfl (by kernel_rfl) (by kernel_rfl) (by kernel_rfl) (fun _ _ _ h => h) (Or.inl ⟨by rfl, ?_⟩) hH ?_
      rotate_left
      · intro w hSw; have c := hSw.col.cell 1 (by simp); simp only [List.getD_cons_zero, List.getD_cons_succ] at c; go_simp; try with_reducible rfl
      try simp only [Act.put, List.setIfInBounds_toArray, List.set_cons_zero, List.set_cons_succ]
      refine wpAnyH_ready (rs := [15]) (by kernel_rfl) (by simp) ?_
      refine AllReadyH.cons rfl (fun K hK => ?_) AllReadyH.nil
      go_simp
      go_at_call 26; refine (color_C hH b lb 1).mono ?_; clear hH; rintro e w' ⟨rfl, hH⟩; rw [Hs1.out]
      go_wp2_with fail
      refine hK.out _ _ (hH) (fun hH => ?_)
      clear hK K
      try simp only [Act.put, List.setIfInBounds_toArray, List.set_cons_zero, List.set_cons_succ]
      refine takeD 18 (some 79) (v := ?_) rfl rfl (by kernel_rfl) (by kernel_rfl) (by kernel_rfl) (fun _ _ _ h => h) (Or.inl ⟨by rfl, ?_⟩) hH ?_
      rotate_left
      · intro w hSw; go_simp; try with_reducible rfl
      try simp only [Act.put, List.setIfInBounds_toArray, List.set_cons_zero, List.set_cons_succ]
      refine takeD 19 (some 80) (v := ?_) rfl rfl (by kernel_rfl) (by kernel_rfl) (by kernel_rfl) (fun _ _ _ h => h) (Or.inl ⟨by rfl, ?_⟩) hH ?_
      rotate_left
      · intro w hSw; go_simp; try with_reducible rfl
      try simp only [Act.put, List.setIfInBounds_toArray, List.set_cons_zero, List.set_cons_succ]
      refine wpAnyH_done (by kernel_rfl) ?_ _
      refine NoPanic.normal ?_
      clear hsum2 a1
      have hR := hH.rch
      clear hH
      go_wp2_with fail
      go_loopg [81] 2 (fun mm i wr => ∃ c : Nat, mm = 2 - c ∧ c ≤ 2 ∧ i = .int .i64 c ∧ Rch w [(gn, 48, cn), (gb, 24, b)] wr)
      case atStart => exact ⟨0, rfl, by omega, rfl, hR⟩
      case round =>
        clear hR
        obtain ⟨c, hcm, hc, rfl, hR⟩ := hrel
        have HJ := Lib.hid hcm
        clear hcm
        by_cases hc2 : c < 2
        · have hdj : decide ((c : Int) < 2) = true := by simp; omega
          have hcc : (c : Int) = 0 ∨ (c : Int) = 1 := by omega
          have hofv : ofV c 6 = 6 + 6 * (c : Int) := if_pos ⟨hcc, by decide, by decide⟩
          have hkt := @kg_t b c
          have hkf := @kg_f b c
          have hks0 : kgS b c = bsum (fun x => x == 6 + 6 * (c : Int)) b 64 := by unfold kgS; rw [hofv]
          have hlt : bsum (fun x => x == 6 + 6 * (c : Int)) b 64 < 18446744073709551616 := bsum_lt64 _ _
          rw [hks0] at hkt hkf
          obtain ⟨ks, hks⟩ : ∃ s, bsum (fun x => x == 6 + 6 * (c : Int)) b 64 = s := ⟨_, rfl⟩
          rw [hks] at hkt hkf hlt
          obtain ⟨kv, hkv⟩ : ∃ s, kgV b c = s := ⟨_, rfl⟩
          obtain ⟨kb, hkb⟩ : ∃ s, kgB b c = s := ⟨_, rfl⟩
          obtain ⟨on, hon⟩ : ∃ s, ocN ks = s := ⟨_, rfl⟩
          rw [hkv, hkb, hon] at hkt hkf
          have Hks := Lib.hid hks
          have Hkv := Lib.hid hkv
          have Hkb := Lib.hid hkb
          have Hon := Lib.hid hon
          have lks := Lib.hid hlt
          clear hks0 hofv hks hkv hkb
          by_cases h1 : on = 1
          · obtain ⟨q1, q2⟩ := hkt ⟨hcc, h1⟩
            have hne : ks ≠ 0 := by rintro rfl; rw [← hon] at h1; exact absurd h1 (by decide)
            obtain ⟨z1, z2⟩ := low_bit hne hlt
            have q3 : kv = ((Lib.ctz 64 ks : Nat) : Int) := by rw [q1]; unfold lowV; rw [if_neg hne]
            have HH := Lib.hid (fun W : World => has_any ks _ hlt z2 W)
            rw [z1] at HH
            generalize Lib.ctz 64 ks = z at *
            subst q3
            subst q2
            subst h1
            clear hkt hkf hne hlt z1 q1 hon hcc
            go_wp2_with (first
          | (with_reducible refine wpl_loadG hR.tl.hd (by with_unfolding_all rfl) 24 _ rfl rfl Tryd.underlying24 ib ?_)
          | (go_at_call 21; refine (king_R hR b lb c).mono ?_; clear hR; rintro e w1 ⟨rfl, hR⟩; rw [Hkv.out, Hkb.out])
          | (go_at_call 24; refine (of_R hR b lb (6 + 6 * (c : Int))).mono ?_; clear hR; rintro e w1 ⟨rfl, hR⟩; rw [Hks.out])
          | (go_at_call 30; refine (len_any ks lks.out _).mono ?_; rintro e w' ⟨rfl, rfl⟩; rw [Hon.out])
          | (go_at_call 31; refine (HH.out _).mono ?_; rintro e w' ⟨rfl, rfl⟩))
            go_roundg (2 - (c + 1))
            case measure => have := HJ.out; omega
            case rel => exact ⟨c + 1, rfl, by omega, by go_num, hR⟩
          · obtain ⟨q1, q2⟩ := hkf (fun h => h1 h.2)
            subst q1
            subst q2
            have hn1 : ((on : Int) == 1) = false := by rw [beq_eq_false_iff_ne]; omega
            have HH := Lib.hid trivial
            clear hkt hkf hlt hon h1 hcc
            go_wp2_with (first
          | (with_reducible refine wpl_loadG hR.tl.hd (by with_unfolding_all rfl) 24 _ rfl rfl Tryd.underlying24 ib ?_)
          | (go_at_call 21; refine (king_R hR b lb c).mono ?_; clear hR; rintro e w1 ⟨rfl, hR⟩; rw [Hkv.out, Hkb.out])
          | (go_at_call 24; refine (of_R hR b lb (6 + 6 * (c : Int))).mono ?_; clear hR; rintro e w1 ⟨rfl, hR⟩; rw [Hks.out])
          | (go_at_call 30; refine (len_any ks lks.out _).mono ?_; rintro e w' ⟨rfl, rfl⟩; rw [Hon.out])
          | (go_at_call 31; refine (HH.out _).mono ?_; rintro e w' ⟨rfl, rfl⟩))
            go_roundg (2 - (c + 1))
            case measure => have := HJ.out; omega
            case rel => exact ⟨c + 1, rfl, by omega, by go_num, hR⟩
        · have hc3 : c = 2 := by omega
          subst hc3
          go_wp2_with (go_at_call 11; refine (works_R hR).mono ?_; clear hR; rintro e w1 ⟨rfl, hR⟩)
          go_ret
          exact ⟨rfl, hR.bel⟩
end Go.Proofs.YthbbnhhofkadgaaDoor
