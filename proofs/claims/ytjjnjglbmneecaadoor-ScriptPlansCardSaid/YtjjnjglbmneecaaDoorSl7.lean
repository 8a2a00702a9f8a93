/- The law ScriptPlans, walked. -/
import Derived.Test.YtjjnjglbmneecaaDoorSnp
import Derived.Deep.RegionWith
namespace Go.Proofs.YtjjnjglbmneecaaDoor
open Go Go.RowKit
theorem dec_len2 (n : Nat) (h : n < 1000000) : (Lib.itoa (n : Int)).length ≤ 21 := Lib.itoa_length_le _ (by omega) (by omega)
/-- What is carried: the argument's block, the operation's, the plan's, its numbers. -/
structure PlS (w : World) (a : Nat) (sl : Value) (l : List UInt8) (x : Opx) (nums : List Int) (g5 g6 g cap : Nat) (W : World) : Prop where
  par : Rw W w.heap.size 35 #[.int .u8 7, .int .u32 a, sl]
  opr : Rw W g5 24 #[.int .i64 x.1, .int .i64 x.2.1, .string ⟨x.2.2.toArray⟩]
  plr : Rw W g6 50 #[.int .i64 x.2.1, .slice (some ⟨g, 0, none⟩) nums.length cap]
  num : Nums W g nums ∧ g < W.heap.size
  bel : Below w.heap.size w W
theorem PlS.below {w W W' : World} {a : Nat} {sl : Value} {l : List UInt8} {x : Opx} {nums : List Int} {g5 g6 g cap : Nat} (h : PlS w a sl l x nums g5 g6 g cap W) (hb : Below W.heap.size W W') : PlS w a sl l x nums g5 g6 g cap W' :=
  ⟨h.par.below hb h.par.lt, h.opr.below hb h.opr.lt, h.plr.below hb h.plr.lt, ⟨h.num.1.below hb h.num.2, Nat.lt_of_lt_of_le h.num.2 hb.size⟩, h.bel.trans (below_le hb h.bel.size)⟩
theorem opP_at7 (a : Nat) (l : List UInt8) : opP 7 a l = (8, ((a % 1000001 : Nat) : Int), 48 :: comL (l.take 63)) := opP_8 rfl
def plN (l : List UInt8) : List Int := 0 :: (l.take 63).map fun c => ((c.toNat % 129 : Nat) : Int)
theorem plN_len (l : List UInt8) : (plN l).length = 1 + min l.length 63 := by unfold plN; simp; omega
theorem plN_at (l : List UInt8) (i : Nat) (h : i + 1 < (plN l).length) (h2 : i < l.length) : (plN l)[i + 1] = (((l[i]).toNat % 129 : Nat) : Int) := by
  unfold plN
  simp
/-- The operations whose plans are refused. -/
def wrD (n : Int) (ds : List UInt8) : List Opx := [(8, 1000001 + n, [48]), (8, -1 - n, [48]), (8, 0, ds), (8, 0, [48, 44] ++ ds), (8, 0, []), (2, n, []), (10 + n, 0, []), (-n, 0, [])]
def wrL (n : Nat) : List Opx := wrD n (Lib.itoa ((129 + n : Nat) : Int))
theorem crash_none {a : Int} {v : List UInt8} (h : crashB a v = false) : ¬ chkZ 8 a v = 0 := fun e => by
  have := (chk_iff.1 e).2.2
  rw [show validB (8 : Int).toNat a v = crashB a v from rfl, h] at this
  cases this
theorem wrL_no (n : Nat) (hn : 129 + n < 1000000000000000000) : ∀ x ∈ wrL n, ¬ (chkZ x.1 x.2.1 x.2.2 = 0 ∧ x.1 = 8) := by
  have h44 : (44 : UInt8) ∉ Lib.itoa ((129 + n : Nat) : Int) := itoa_no44 _
  have hp0 : planP [48] = some [0] := by decide +kernel
  intro x hx
  simp only [wrL, wrD, List.mem_cons, List.not_mem_nil, or_false] at hx
  rcases hx with rfl | rfl | rfl | rfl | rfl | rfl | rfl | rfl
  · refine fun h => crash_none ?_ h.1
    unfold crashB; dsimp only; rw [hp0]
    exact decide_eq_false (fun h => by have := h.2.1; omega)
  · refine fun h => crash_none ?_ h.1
    unfold crashB; dsimp only; rw [hp0]
    exact decide_eq_false (fun h => by have := h.1; omega)
  · refine fun h => crash_none ?_ h.1
    unfold crashB planP; dsimp only; rw [splitC_free h44, numsP, numsP]
    rw [numP_itoa _ hn]
    exact decide_eq_false (fun h => by have := (h.2.2.2.2 ((129 + n : Nat) : Int) (by simp)).2; omega)
  · refine fun h => crash_none ?_ h.1
    unfold crashB planP; dsimp only
    rw [show ([48, 44] ++ Lib.itoa ((129 + n : Nat) : Int) : List UInt8) = [48] ++ 44 :: Lib.itoa ((129 + n : Nat) : Int) from rfl, splitC_hit (by decide), splitC_free h44, numsP, numsP, numsP]
    rw [numP_itoa _ hn, show numP [48] = some 0 by decide +kernel]
    exact decide_eq_false (fun h => by have := (h.2.2.2.2 ((129 + n : Nat) : Int) (by simp)).2; omega)
  · refine fun h => crash_none ?_ h.1
    unfold crashB; dsimp only; rw [show planP [] = none by decide +kernel]
  · exact fun h => by have := h.2; dsimp only at this; omega
  · exact fun h => by have := h.2; dsimp only at this; omega
  · exact fun h => by have := h.2; dsimp only at this; omega
def wrA (n : Nat) (ds : List UInt8) : Array Value := #[.int .i64 8, .int .i64 (1000001 + (n : Int)), .string ⟨#[48]⟩, .int .i64 8, .int .i64 (-1 - (n : Int)), .string ⟨#[48]⟩, .int .i64 8, .int .i64 0, .string ⟨ds.toArray⟩, .int .i64 8, .int .i64 0, .string (⟨#[48, 44]⟩ ++ ⟨ds.toArray⟩), .int .i64 8, .int .i64 0, .string ⟨#[]⟩, .int .i64 2, .int .i64 (n : Int), .string ⟨#[]⟩, .int .i64 (10 + (n : Int)), .int .i64 0, .string ⟨#[]⟩, .int .i64 (-(n : Int)), .int .i64 0, .string ⟨#[]⟩]
theorem wr_cells (w : World) (n : Nat) (ds : List UInt8) : OpsAt (w.alloc (.cells (wrA n ds) 24)) w.heap.size (wrD n ds) := by
  intro i hi
  have hi' : i = 0 ∨ i = 1 ∨ i = 2 ∨ i = 3 ∨ i = 4 ∨ i = 5 ∨ i = 6 ∨ i = 7 := by have : i < 8 := hi; omega
  have hb : (⟨([48, 44] ++ ds).toArray⟩ : ByteArray) = ⟨#[48, 44]⟩ ++ ⟨ds.toArray⟩ := bs_app [48, 44] ds
  rcases hi' with rfl | rfl | rfl | rfl | rfl | rfl | rfl | rfl <;> refine ⟨?_, ?_, ?_⟩ <;> rw [Lib.cell_of_heap (heap_alloc_new _ _)] <;> first | rfl | (simp only [wrD, List.getElem_cons_succ, List.getElem_cons_zero]; rw [hb]; rfl)
set_option linter.unusedSimpArgs false in
set_option maxRecDepth 100000 in
set_option maxHeartbeats 8000000 in
theorem plans_law {w : World} (hw : EnvS w) (k a : Nat) (sl : Value) (l : List UInt8) (ha : a ≤ 4294967295) (hs : ByS w sl l) (far : Int) (hf0 : 0 ≤ far) (hf1 : far ≤ 65535) :
    Calls Tryd.prog 7 #[nmV k a sl, .int .u16 far] w fun e w' => e = .returned (.bool true) ∧ Below w.heap.size w w' := by
  have HWk := Lib.hid (fun (W : World) (h : EnvS W) => works_any h)
  have HB0 := Lib.hid (below_al w (.cells #[.int .u8 k, .int .u32 a, sl] 35))
  obtain ⟨ao, cap, hsl, hcap, hne⟩ := hs.sl
  have HS := Lib.hid hs
  subst hsl
  unfold nmV
  by_cases h1 : 100 < l.length
  · have d1 : decide ((100 : Int) < (l.length : Int)) = true := by simp; omega
    clear hs hne
    go_enter Tryd.func7, Tryd.ntmps7
    go_wp2_with (go_at_call 12; refine (HWk.out _ (hw.below HB0.out)).mono ?_; rintro e w' ⟨rfl, hE⟩)
    go_ret
    exact ⟨rfl, HB0.out.trans (below_le hE HB0.out.size)⟩
  have d1 : decide ((100 : Int) < (l.length : Int)) = false := by simp; omega
  have hl1 : l.length ≤ 100 := by omega
  have HNE := Lib.hid hne
  have hx := opP_at7 a l
  have hzx := opP_ok 7 a l (by omega)
  rw [hx] at hzx
  have hpl : planP (48 :: comL (l.take 63)) = some (plN l) := plan_com _
  have hvl : (48 :: comL (l.take 63)).length ≤ 1500 := by have := comL_len (l.take 63); have := List.length_take_le 63 l; simp only [List.length_cons]; omega
  have HX : Hid (∀ W : World, Below w.heap.size w W → Calls Tryd.prog 19 #[.agg #[.int .u8 7, .int .u32 a, .slice ao l.length cap]] W fun e w' => e = .returned (.agg #[.int .i64 8, .int .i64 ((a % 1000001 : Nat) : Int), .string ⟨(48 :: comL (l.take 63)).toArray⟩]) ∧ Below W.heap.size W w') := Lib.hid (fun W hb => by have := nop_any 7 a (by decide) ha l _ W (HS.out.below hb); rw [hx] at this; exact this)
  have hdrv : drvOk ((a % 1000001 : Nat) : Int) (plN l) := by
    obtain ⟨nn, hn1, hn2⟩ := chk8 hzx
    rw [hpl] at hn1; rw [Option.some.inj hn1]; exact hn2
  have HPl : Hid (∀ W : World, EnvS W → Calls Tryd.prog 25 #[.agg #[.int .i64 8, .int .i64 ((a % 1000001 : Nat) : Int), .string ⟨(48 :: comL (l.take 63)).toArray⟩]] W fun e w' => (∃ g cap, e = .returned (.tuple #[.agg #[.int .i64 ((a % 1000001 : Nat) : Int), .slice (some ⟨g, 0, none⟩) (plN l).length cap], .int .i64 0]) ∧ W.heap.size ≤ g ∧ g < w'.heap.size ∧ (plN l).length ≤ cap ∧ Nums w' g (plN l)) ∧ Below W.heap.size W w') := Lib.hid (fun W hW =>
    splan_ok hW _ ⟨(48 :: comL (l.take 63)).toArray⟩ (by simp only [ByteArray.size]; simp only [List.size_toArray]; omega) hzx hpl)
  have hnl := plN_len l
  have HDc : Hid (∀ (W : World) (g cap : Nat), Nums W g (plN l) → g < W.heap.size → Calls Tryd.prog 26 #[.agg #[.int .i64 ((a % 1000001 : Nat) : Int), .slice (some ⟨g, 0, none⟩) (plN l).length cap]] W fun e w' => e = .returned (.int .i64 0) ∧ Below W.heap.size W w') := Lib.hid (fun W g cap hN hg => by
    have := dcheck_any ((a % 1000001 : Nat) : Int) (plN l) g cap W (by omega) hN hg
    rw [if_pos hdrv] at this
    exact this)
  obtain ⟨n, rfl⟩ : ∃ n : Nat, far = n := ⟨far.toNat, by omega⟩
  have hn16 : n ≤ 65535 := by omega
  have HD1 := Lib.hid (fun W : World => decimal_any (129 + n) (by omega) W)
  have hdl := dec_len2 (129 + n) (by omega)
  have HWr : Hid (∀ x ∈ wrD n (Lib.itoa ((129 + n : Nat) : Int)), ¬ (chkZ x.1 x.2.1 x.2.2 = 0 ∧ x.1 = 8)) := Lib.hid (wrL_no n (by omega))
  generalize Lib.itoa ((129 + n : Nat) : Int) = ds at *
  rw [show ((129 + n : Nat) : Int) = 129 + (n : Int) by omega] at HD1
  have m1 := trivial
  have HNA := Lib.hid (plN_at l)
  have h0 : (plN l)[0]? = some 0 := rfl
  have hnp : 1 ≤ (plN l).length := by omega
  have hmin : 1 + min (l.length : Int) 63 = ((plN l).length : Int) := by omega
  have HN0 : Hid (∀ (W : World) (g : Nat), Nums W g (plN l) → W.cell? ⟨g, 0, none⟩ = some (.int .i64 0)) := Lib.hid (fun W g hN => hN 0 (by omega))
  have hR0 := Lib.hid (Rw.new w 35 #[.int .u8 7, .int .u32 a, .slice ao l.length cap])
  have hB1 := Lib.hid (below_al w (.cells #[.int .u8 7, .int .u32 a, .slice ao l.length cap] 35))
  generalize ((a % 1000001 : Nat) : Int) = a' at *
  generalize 48 :: comL (l.take 63) = vv at *
  generalize plN l = nums at *
  clear hs hne h1 hx hzx hpl hvl hdrv hnl h0 hf0 hf1
  go_enter Tryd.func7, Tryd.ntmps7
  go_wp2_with (first
    | (go_at_call 19; refine (HX.out _ hB1.out).mono ?_; rintro e w1 ⟨rfl, hE⟩; have hb := hE.trans (below_le (below_al w1 (.cells #[.int .i64 8, .int .i64 a', .string ⟨vv.toArray⟩] 24)) hE.size); have R1 := Lib.hid (hR0.out.below hb hR0.out.lt); have O1 := Lib.hid (Rw.new w1 24 #[.int .i64 8, .int .i64 a', .string ⟨vv.toArray⟩]); have B1 := Lib.hid (hB1.out.trans (below_le hb hB1.out.size)); clear hE hb)
    | (go_at_call 25; refine (HPl.out _ (hw.below B1.out)).mono ?_; rintro e w2 ⟨⟨g, cp, rfl, hg0, hg1, hcp, hN⟩, hE⟩; have hb := hE.trans (below_le (below_al w2 (.cells #[.int .i64 a', .slice (some ⟨g, 0, none⟩) nums.length cp] 50)) hE.size)
       have S2 := Lib.hid (PlS.mk (l := l) (x := (8, a', vv)) (R1.out.below hb R1.out.lt) (O1.out.below hb O1.out.lt) (Rw.new w2 50 #[.int .i64 a', .slice (some ⟨g, 0, none⟩) nums.length cp]) ⟨hN.below (below_al w2 _) hg1, by simp; omega⟩ (B1.out.trans (below_le hb B1.out.size)))
       have hgg : g < (w2.alloc (.cells #[.int .i64 a', .slice (some ⟨g, 0, none⟩) nums.length cp] 50)).heap.size := by simp; omega
       clear hE hb hN hg0 hg1)
    | (go_at_call 26; refine (HDc.out _ _ _ S2.out.num.1 S2.out.num.2).mono ?_; rintro e w3 ⟨rfl, hE⟩; have S3 := Lib.hid (S2.out.below hE); clear hE
       obtain ⟨p0, p1, p2, _, _, _⟩ := S3.out.par.facts
       obtain ⟨o0, o1, o2, _, _, _⟩ := S3.out.opr.facts
       obtain ⟨q0, q1, _, _⟩ := S3.out.plr.facts2
       have n0 := HN0.out _ _ S3.out.num.1
       dsimp only at o1 q0))
  clear p0 p1 p2 o0 o1 o2 q0 q1 n0
  go_loopg [8] (nums.length - 1) (fun mm i wr => ∃ j : Nat, mm = nums.length - (j + 1) ∧ j + 1 ≤ nums.length ∧ i = .int .i64 ((j : Int) + 1) ∧ PlS w a (.slice ao l.length cap) l (8, a', vv) nums w1.heap.size w2.heap.size g cp wr)
  case atStart => exact ⟨0, by simp, hnp, rfl, S3.out⟩
  case round =>
    obtain ⟨j, hkm, hj, rfl, hS⟩ := hrel
    have HK := Lib.hid hkm
    have HSS := Lib.hid hS
    obtain ⟨p0, p1, p2, _, _, _⟩ := hS.par.facts
    obtain ⟨q0, q1, _, _⟩ := hS.plr.facts2
    clear hkm
    by_cases hjl : j + 1 < nums.length
    · have dl : decide ((j : Int) + 1 < (nums.length : Int)) = true := by simp; omega
      have hjl2 : j < l.length := by omega
      have hne := HNE.out (fun e => by rw [e] at hjl2; simp at hjl2)
      obtain ⟨gb, off, rfl⟩ := hne
      have hcn := hS.num.1 (j + 1) hjl
      rw [HNA.out j hjl hjl2] at hcn
      have hcb : wr.cell? ⟨gb, off + j, none⟩ = some (.int .u8 l[j].toNat) := by
        obtain ⟨ao', cap', h, _, h4⟩ := HS.out.below hS.bel
        cases h
        obtain ⟨g', off', h5, _, h6⟩ := h4 (fun e => by rw [e] at hjl2; simp at hjl2)
        cases h5; exact h6 j hjl2
      generalize l[j] = x at hcn hcb
      have hx := x.toNat_lt
      rw [show ((x.toNat % 129 : Nat) : Int) = (x.toNat : Int) % 129 by omega] at hcn
      have hxw : IntKind.i64.wrap (Int.tmod (x.toNat : Int) 129) = (x.toNat : Int) % 129 := by
        rw [Int.tmod_eq_emod_of_nonneg (by omega)]
        simp [IntKind.wrap, IntKind.signed, IntKind.bits]
        omega
      clear hS
      go_wp2_with fail
      go_region
      go_wp2_with fail
      go_roundg (nums.length - (j + 1 + 1))
      case measure => have := HK.out; omega
      case rel => exact ⟨j + 1, rfl, by omega, by go_num, HSS.out.below (Below.refl _ _).drew⟩
    · have dl : decide ((j : Int) + 1 < (nums.length : Int)) = false := by simp; omega
      clear hS q0 p0 p1 p2
      generalize w1.heap.size = g5 at *
      generalize w2.heap.size = g6 at *
      go_wp2_with (first
        | (have _t := m1; go_at_call 27; refine (HD1.out _).mono ?_; clear m1 _t; rintro e w4 ⟨rfl, hE⟩; have S4 := Lib.hid (HSS.out.below hE); clear hE)
        | (go_at_call 27; refine (HD1.out _).mono ?_; rintro e w5 ⟨rfl, hE⟩; have S5 := Lib.hid (S4.out.below hE); clear hE))
      have hB6 := Lib.hid (S5.out.bel.alloc S5.out.bel.size (.cells #[.int .i64 8, .int .i64 (1000001 + (n : Int)), .string ⟨#[48]⟩, .int .i64 8, .int .i64 (-1 - (n : Int)), .string ⟨#[48]⟩, .int .i64 8, .int .i64 0, .string ⟨ds.toArray⟩, .int .i64 8, .int .i64 0, .string (⟨#[48, 44]⟩ ++ ⟨ds.toArray⟩), .int .i64 8, .int .i64 0, .string ⟨#[]⟩, .int .i64 2, .int .i64 (n : Int), .string ⟨#[]⟩, .int .i64 (10 + (n : Int)), .int .i64 0, .string ⟨#[]⟩, .int .i64 (-(n : Int)), .int .i64 0, .string ⟨#[]⟩] 24))
      have hO6 := Lib.hid (wr_cells w5 n ds)
      unfold wrA at hO6
      have hl8 : (wrD n ds).length = 8 := rfl
      have hg6 : w5.heap.size < (w5.alloc (.cells #[.int .i64 8, .int .i64 (1000001 + (n : Int)), .string ⟨#[48]⟩, .int .i64 8, .int .i64 (-1 - (n : Int)), .string ⟨#[48]⟩, .int .i64 8, .int .i64 0, .string ⟨ds.toArray⟩, .int .i64 8, .int .i64 0, .string (⟨#[48, 44]⟩ ++ ⟨ds.toArray⟩), .int .i64 8, .int .i64 0, .string ⟨#[]⟩, .int .i64 2, .int .i64 (n : Int), .string ⟨#[]⟩, .int .i64 (10 + (n : Int)), .int .i64 0, .string ⟨#[]⟩, .int .i64 (-(n : Int)), .int .i64 0, .string ⟨#[]⟩] 24)).heap.size := by simp
      have HFN : Hid (∀ x ∈ wrD n ds, x.2.2.length ≤ 900000) := Lib.hid (fun x hx => by
        simp only [wrD, List.mem_cons, List.not_mem_nil, or_false] at hx
        rcases hx with rfl | rfl | rfl | rfl | rfl | rfl | rfl | rfl <;> simp <;> omega)
      clear q1 dl hj
      generalize w5.heap.size = gw at *
      generalize w5.alloc _ = w6 at *
      generalize wrD n ds = wl at *
      go_loopg [11] 8 (fun mm i wr => ∃ q : Nat, mm = 8 - q ∧ q ≤ 8 ∧ i = .int .i64 q ∧ Below w6.heap.size w6 wr)
      case atStart => exact ⟨0, rfl, by omega, rfl, Below.refl _ _⟩
      case round =>
        obtain ⟨q, hkm, hq, rfl, hb⟩ := hrel
        have HK2 := Lib.hid hkm
        clear hkm
        by_cases hq8 : q < 8
        · have dq : decide ((q : Int) < 8) = true := by simp; omega
          obtain ⟨c0, c1, c2⟩ := (hO6.out.below hb hg6) q (by omega)
          have hno := HWr.out _ (List.getElem_mem (show q < wl.length by omega))
          have hfn := HFN.out _ (List.getElem_mem (show q < wl.length by omega))
          generalize wl[q] = x at c0 c1 c2 hno hfn
          have HP := Lib.hid (fun (W : World) (hW : EnvS W) => splan_no hW x.1 x.2.1 ⟨x.2.2.toArray⟩ (by simpa [ByteArray.size] using hfn) hno)
          unfold opV at HP
          have HBr := Lib.hid hb
          have HWr2 := Lib.hid (hw.below (hB6.out.trans (below_le hb hB6.out.size)))
          have hle := hb.size
          clear hno hfn hb
          obtain ⟨xk, xa, xv⟩ := x
          dsimp only at *
          go_wp2_with (go_at_call 25; refine (HP.out _ HWr2.out).mono ?_; rintro e w7 ⟨rfl, hE⟩; have HB7 := Lib.hid ((HBr.out.trans (below_le hE HBr.out.size)).alloc (Nat.le_trans HBr.out.size hE.size) (.cells #[.int .i64 0, .slice none 0 0] 50)); clear hE)
          go_roundg (8 - (q + 1))
          case measure => have := HK2.out; omega
          case rel => exact ⟨q + 1, rfl, by omega, by go_num, HB7.out⟩
        · have dq : decide ((q : Int) < 8) = false := by simp; omega
          have HBr := Lib.hid (hB6.out.trans (below_le hb hB6.out.size))
          clear hb
          go_wp2_with (go_at_call 12; refine (HWk.out _ (hw.below HBr.out)).mono ?_; rintro e w7 ⟨rfl, hE⟩)
          go_ret
          exact ⟨rfl, HBr.out.trans (below_le hE HBr.out.size)⟩
end Go.Proofs.YtjjnjglbmneecaaDoor
