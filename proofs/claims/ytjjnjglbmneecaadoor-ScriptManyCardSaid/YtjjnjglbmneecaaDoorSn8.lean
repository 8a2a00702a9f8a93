/- The contract of the law's method Numbers.Op. -/
import Derived.Test.YtjjnjglbmneecaaDoorSno
import Derived.Deep.RegionWith
namespace Go.Proofs.YtjjnjglbmneecaaDoor
open Go Go.RowKit
theorem comL_app (a b : List UInt8) : comL (a ++ b) = comL a ++ comL b := by
  induction a with
  | nil => rfl
  | cons c r ih => simp [comL, ih]
theorem dec_len (n : Nat) (h : n < 1000) : (Lib.itoa (n : Int)).length ≤ 21 := Lib.itoa_length_le _ (by omega) (by omega)
theorem comL_len (l : List UInt8) : (comL l).length ≤ 22 * l.length := by
  induction l with
  | nil => simp [comL]
  | cons c r ih => have := dec_len (c.toNat % 129) (by omega); simp only [comL, List.length_cons, List.length_append]; omega
theorem below_set1 {B : Nat} {w0 w : World} {g i : Nat} (h : Below B w0 w) (hg : B ≤ g) (a : Value) : Below B w0 (w.setCell ⟨g, i, none⟩ a) := h.setCell (p := ⟨g, i, none⟩) hg a
set_option maxRecDepth 100000 in
set_option maxHeartbeats 800000 in
theorem nop_8 (k a : Nat) (hk : k % 9 = 7) (hk2 : k ≤ 255) (ha : a ≤ 4294967295) (l : List UInt8) (v : Value) (w : World) (hv : ByS w v l) :
    Calls Tryd.prog 19 #[nmV k a v] w fun e w' => e = .returned (opx (8, (a % 1000001 : Nat), 48 :: comL (l.take 63))) ∧ Below w.heap.size w w' := by
  have hki : (k : Int) % 9 = 7 := by omega
  unfold nmV opx opV
  dsimp only
  obtain ⟨a', ha'⟩ : ∃ a', ((a % 1000001 : Nat) : Int) = a' := ⟨_, rfl⟩
  rw [ha']
  have ha2 : (a : Int) % 1000001 = a' := by omega
  have HV := Lib.hid hv
  have hB0 := Lib.hid (nop_w w (.cells #[.int .u8 k, .int .u32 a, v] 35) (.cells #[.int .i64 0, .int .i64 0, .string ⟨#[]⟩] 24) (.cells #[.int .i64 8, .int .i64 a', .string ⟨#[48]⟩] 24))
  have hR0 := Lib.hid (Rw.new ((w.alloc (.cells #[.int .u8 k, .int .u32 a, v] 35)).alloc (.cells #[.int .i64 0, .int .i64 0, .string ⟨#[]⟩] 24)) 24 #[.int .i64 8, .int .i64 a', .string ⟨#[48]⟩])
  have hX0 := Lib.hid (((Rw.new w 35 #[.int .u8 k, .int .u32 a, v]).alloc (.cells #[.int .i64 0, .int .i64 0, .string ⟨#[]⟩] 24)).alloc (.cells #[.int .i64 8, .int .i64 a', .string ⟨#[48]⟩] 24))
  have hZ0 := Lib.hid (((Rw.new (w.alloc (.cells #[.int .u8 k, .int .u32 a, v] 35)) 24 #[.int .i64 0, .int .i64 0, .string ⟨#[]⟩])).alloc (.cells #[.int .i64 8, .int .i64 a', .string ⟨#[48]⟩] 24))
  obtain ⟨ao, cap, rfl, hcap, hne⟩ := hv.sl
  have HNE := Lib.hid hne
  have hn1 : (w.alloc (.cells #[.int .u8 k, .int .u32 a, .slice ao l.length cap] 35)).heap.size = w.heap.size + 1 := by simp
  have hn2 : ((w.alloc (.cells #[.int .u8 k, .int .u32 a, .slice ao l.length cap] 35)).alloc (.cells #[.int .i64 0, .int .i64 0, .string ⟨#[]⟩] 24)).heap.size = w.heap.size + 1 + 1 := by simp
  rw [hn2] at hR0
  rw [hn1] at hZ0
  clear hv hk hn1 hn2 ha' hne
  go_enter Tryd.func19, Tryd.ntmps19
  go_wp2_with fail
  generalize ((w.alloc _).alloc _).alloc _ = w3 at *
  go_loopg [4] (64) (fun mm i wr => ∃ j : Nat, mm = 64 - j ∧ j ≤ l.length ∧ j ≤ 63 ∧ i = .int .i64 j ∧ Below w.heap.size w wr ∧ Rw wr (w.heap.size + 1 + 1) 24 #[.int .i64 8, .int .i64 a', .string ⟨(48 :: comL (l.take j)).toArray⟩] ∧ Rw wr w.heap.size 35 #[.int .u8 k, .int .u32 a, .slice ao l.length cap] ∧ Rw wr (w.heap.size + 1) 24 #[.int .i64 0, .int .i64 0, .string ⟨#[]⟩])
  case atStart => exact ⟨0, rfl, by omega, by omega, rfl, hB0.out, by simpa [comL] using hR0.out, hX0.out, hZ0.out⟩
  case round =>
    obtain ⟨j, hkm, hj, hj3, rfl, hb, h1, h2, h3⟩ := hrel
    have HK := Lib.hid hkm
    have HB := Lib.hid hb
    have H1 := Lib.hid h1
    have H2 := Lib.hid h2
    have H3 := Lib.hid h3
    obtain ⟨c0, c1, c2, f0, f1, f2⟩ := h1.facts
    obtain ⟨d0, d1, d2, _, _, _⟩ := h2.facts
    obtain ⟨e0, e1, e2, g0, g1, g2⟩ := h3.facts
    clear hkm hb h1 h2 h3 hki ha2
    by_cases hjl : j < l.length
    · have dl : decide ((j : Int) < (l.length : Int)) = true := by simp; omega
      by_cases hj63 : j < 63
      · have dj : decide ((j : Int) < 63) = true := by simp; omega
        obtain ⟨g, off, rfl⟩ := HNE.out (fun e => by rw [e] at hjl; simp at hjl)
        have hbs : ∀ i (h : i < l.length), wr.cell? ⟨g, off + i, none⟩ = some (.int .u8 l[i].toNat) := by
          obtain ⟨ao', cap', h, _, h4⟩ := HV.out.below HB.out
          cases h
          obtain ⟨g', off', h5, _, h6⟩ := h4 (fun e => by rw [e] at hjl; simp at hjl)
          cases h5; exact h6
        have hcell := hbs j hjl
        clear hbs
        have HT : Hid (48 :: comL (l.take (j + 1)) = 48 :: comL (l.take j) ++ 44 :: Lib.itoa ((l[j].toNat % 129 : Nat) : Int)) := Lib.hid (by rw [List.take_succ_eq_append_getElem hjl, comL_app]; simp [comL])
        have hlen : (48 :: comL (l.take j)).length ≤ 1500 := by have := comL_len (l.take j); have := List.length_take_le j l; simp only [List.length_cons]; omega
        generalize 48 :: comL (l.take j) = acc at *
        generalize l[j] = x at *
        have hx := x.toNat_lt
        have hxi : ((x.toNat % 129 : Nat) : Int) = (x.toNat : Int) % 129 := by omega
        have HDc := Lib.hid (fun W : World => decimal_any (x.toNat % 129) (by omega) W)
        have hdl := dec_len (x.toNat % 129) (by omega)
        have HXW : Hid (IntKind.i64.wrap (Int.tmod (x.toNat : Int) 129) = (x.toNat : Int) % 129) := Lib.hid (by
          rw [Int.tmod_eq_emod_of_nonneg (by omega)]
          simp [IntKind.wrap, IntKind.signed, IntKind.bits]
          omega)
        rw [hxi] at HDc HT hdl
        generalize Lib.itoa ((x.toNat : Int) % 129) = ds at *
        have HS8 : Hid ((⟨acc.toArray⟩ ++ ⟨#[44]⟩ ++ ⟨ds.toArray⟩ : ByteArray) = ⟨(48 :: comL (l.take (j + 1))).toArray⟩) := Lib.hid (by rw [HT.out, show acc ++ 44 :: ds = (acc ++ [44]) ++ ds by simp, bs_app, bs_app])
        go_wp2_with fail
        go_region_with (go_at_call 27; (try rw [HXW.out]); refine (HDc.out _).mono ?_; rintro e w4 ⟨rfl, hE⟩; have J1 := Lib.hid (Rw.below (w := wr.drew) H1.out hE H1.out.lt); have J2 := Lib.hid (Rw.below (w := wr.drew) H2.out hE H2.out.lt); have J3 := Lib.hid (Rw.below (w := wr.drew) H3.out hE H3.out.lt); have JB := Lib.hid ((HB.out.trans (Below.refl _ _).drew).trans (below_le hE HB.out.size)); clear hE; obtain ⟨x0, x1, x2, y0, y1, y2⟩ := J1.out.facts)
        all_goals
          go_wp2_with fail
          go_roundg (64 - (j + 1))
          case measure => have := HK.out; omega
          case rel => exact ⟨j + 1, rfl, by omega, by omega, by go_num, below_set1 JB.out (by omega) _, HS8.out ▸ J1.out.cell 2 _, J2.out.setCellOther J1.out (by omega) 2 _, J3.out.setCellOther J1.out (by omega) 2 _⟩
      · have dj : decide ((j : Int) < 63) = false := by simp; omega
        have hjj : l.take j = l.take 63 := by congr 1; omega
        rw [hjj] at c2
        go_wp2_with fail
        refine bodyPost_ret (ret_op (fn := Tryd.f19) (g := w.heap.size + 1) rfl rfl H3.out.set3) rfl ?_
        exact ⟨rfl, below_set3 HB.out (by omega) _ _ _⟩
    · have dl : decide ((j : Int) < (l.length : Int)) = false := by simp; omega
      have hjj : l.take j = l.take 63 := by rw [List.take_of_length_le (by omega), List.take_of_length_le (by omega)]
      rw [hjj] at c2
      go_wp2_with fail
      refine bodyPost_ret (ret_op (fn := Tryd.f19) (g := w.heap.size + 1) rfl rfl H3.out.set3) rfl ?_
      exact ⟨rfl, below_set3 HB.out (by omega) _ _ _⟩
end Go.Proofs.YtjjnjglbmneecaaDoor
