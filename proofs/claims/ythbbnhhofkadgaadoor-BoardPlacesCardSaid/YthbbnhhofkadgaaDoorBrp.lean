/- The contract of the reference's Placement. No condition. -/
import Derived.Test.YthbbnhhofkadgaaDoorBrf
import Derived.Test.YthbbnhhofkadgaaDoorBpl
import Derived.Test.YthbbnhhofkadgaaDoorBps
import Derived.Test.YthbbnhhofkadgaaDoorKit
namespace Go.Proofs.YthbbnhhofkadgaaDoor
open Go Go.RowKit
/-- The placement of the first k ranks, from the eighth on, as the reference writes it. -/
def rpl (b : List Int) : Nat → ByteArray
  | 0 => ⟨#[]⟩
  | k + 1 => if k < 7 then (rpl b k ++ lineB b (7 - k)) ++ ⟨#[47]⟩ else rpl b k ++ lineB b (7 - k)
theorem dat_app (a b : ByteArray) : (a ++ b).data.toList = a.data.toList ++ b.data.toList := by simp
theorem rpl_8 (b : List Int) : rpl b 8 = plS b := by
  show rpl b 8 = ⟨(Lib.join (((List.range 8).reverse.map (lineB b)).map (·.data.toList)) [47]).toArray⟩
  refine ba_of_list ?_
  show (rpl b 8).data.toList = Lib.join (((List.range 8).reverse.map (lineB b)).map (·.data.toList)) [47]
  have hr : (List.range 8).reverse = [7, 6, 5, 4, 3, 2, 1, 0] := by decide
  rw [hr]
  simp only [List.map_cons, List.map_nil, join_cons, join_one]
  simp only [rpl, Nat.reduceLT, if_true, if_false, Nat.lt_irrefl, dat_app, Nat.reduceSub, Nat.sub_zero, List.append_assoc]
  rfl
theorem rpl_size (b : List Int) (k : Nat) : (rpl b k).size ≤ 27 * k := by
  induction k with
  | zero => simp [rpl, ByteArray.size]
  | succ k ih =>
    have h := lineB_size b (7 - k)
    have e : ∀ x y : ByteArray, (x ++ y).size = x.size + y.size := fun x y => by simp
    have e1 : (⟨#[47]⟩ : ByteArray).size = 1 := rfl
    simp only [rpl]
    split
    · rw [e, e, e1]; omega
    · rw [e]; omega
theorem dig_sl (n : Nat) (h : n < 9) : (⟨#[48, 49, 50, 51, 52, 53, 54, 55, 56]⟩ : ByteArray).extract n (n + 1) = numS n := by
  have : ∀ i : Fin 9, (⟨#[48, 49, 50, 51, 52, 53, 54, 55, 56]⟩ : ByteArray).extract i.val (i.val + 1) = numS i.val := by decide +kernel
  exact this ⟨n, h⟩
theorem ba_assoc (a b c : ByteArray) : (a ++ b) ++ c = a ++ (b ++ c) := ByteArray.append_assoc
set_option maxHeartbeats 400000 in
theorem rletters_any (w : World) : Calls Tryd.prog 39 #[] w fun e w' => e = .returned (.string ⟨#[80, 78, 66, 82, 81, 75, 112, 110, 98, 114, 113, 107]⟩) ∧ w = w' := by
  go_enter Tryd.func39, Tryd.ntmps39
  go_wp2
  go_ret
  exact ⟨rfl, rfl⟩
set_option maxRecDepth 100000 in
set_option maxHeartbeats 4000000 in
theorem placer_any (b : List Int) (hb : b.length = 64) (w : World) :
    Calls Tryd.prog 20 #[.agg (ints b)] w fun e w' => e = .returned (.tuple #[.string (plV b), .int .i64 (chkB b)]) ∧ Below w.heap.size w w' := by
  have hi : (Tryd.prog.info? 24).map (·.size) = some b.length := by rw [hb]; kernel_rfl
  have hg : Holds (w.alloc (.cells (intsK .i64 b) 24)) w.heap.size .i64 24 b := Holds.new w .i64 24 b
  have hB : Below w.heap.size w (w.alloc (.cells (intsK .i64 b) 24)) := (Below.refl _ _).alloc (Nat.le_refl _) _
  by_cases h : okB b
  · have HC := Lib.hid (chkB_t h)
    have HV := Lib.hid ((plV_t h).trans (rpl_8 b).symm)
    have Hok := Lib.hid h
    clear h
    go_enter Tryd.func20, Tryd.ntmps20
    go_wp2_with (first
      | (with_reducible refine wpl_load (g := w.heap.size) (k := .i64) (t := 24) (l := b) hg rfl 24 _ rfl rfl Tryd.underlying24 hi ?_)
      | (go_at_call 23; refine (checkr_any b hb _).mono ?_; rintro e w1 ⟨rfl, hb1⟩; rw [HC.out]; have hg1 := hg.below hb1 (by simp); have hB1 := hB.trans (hb1.mono hB.size)))
    have HBl := Lib.hid hB1
    clear hg hB hb1 hB1
    generalize w.heap.size = gb at hg1
    go_loopg [4, 5] 8 (fun mm s i wr => ∃ q : Nat, mm = q ∧ q ≤ 8 ∧ i = .int .i64 ((q : Int) - 1) ∧ s = .string (rpl b (8 - q)) ∧ w1 = wr)
    case atStart => exact ⟨8, rfl, by omega, rfl, rfl, rfl⟩
    case round =>
      obtain ⟨q, hqm, hq, rfl, rfl, rfl⟩ := hrel
      have HK := Lib.hid hqm
      clear hqm
      cases q with
      | zero =>
        rw [show ((0 : Nat) : Int) - 1 = -1 from rfl]
        go_wp2_with fail
        go_ret2
        exact ⟨by rw [HC.out, HV.out]; rfl, HBl.out⟩
      | succ q =>
        have hq1 : (((q + 1 : Nat) : Int) - 1) = (q : Int) := by omega
        rw [hq1]
        have hq0 : 0 ≤ (q : Int) := by omega
        have hR : Hid (rpl b (8 - q) = if 0 < q then (rpl b (8 - (q + 1)) ++ lineB b q) ++ ⟨#[47]⟩ else rpl b (8 - (q + 1)) ++ lineB b q) := Lib.hid (by
          have e : 8 - q = (8 - (q + 1)) + 1 := by omega
          rw [e]
          simp only [rpl]
          have e2 : 7 - (8 - (q + 1)) = q := by omega
          rw [e2]
          by_cases z : 0 < q
          · rw [if_pos z, if_pos (by omega)]
          · rw [if_neg z, if_neg (by omega)])
        have hsz := rpl_size b (8 - (q + 1))
        obtain ⟨P, hP⟩ : ∃ P, rpl b (8 - (q + 1)) = P := ⟨_, rfl⟩
        rw [hP] at hR hsz
        rw [hP]
        have hsP : P.size ≤ 1000 := by omega
        have hln := lineB_size b q
        clear hq1 hP hsz
        go_wp2_with fail
        go_loopg [4, 6, 7] 8 (fun mm s e i wr => ∃ j : Nat, mm = 8 - j ∧ j ≤ 8 ∧ i = .int .i64 j ∧ ((j < 8 → s = .string (P ++ (lnK b q j).1) ∧ e = .int .i64 ((lnK b q j).2 : Nat)) ∧ (j = 8 → s = .string (P ++ lineB b q))) ∧ w1 = wr)
        case atStart => exact ⟨0, rfl, by omega, rfl, ⟨fun _ => ⟨by simp [lnK]; exact (ByteArray.append_empty).symm, rfl⟩, fun h => absurd h (by decide)⟩, rfl⟩
        case round =>
          obtain ⟨j, hjm, hj, rfl, ⟨hs1, hs2⟩, rfl⟩ := hrel
          have HJ := Lib.hid hjm
          clear hjm
          by_cases hlt : j < 8
          · have hdi : decide ((j : Int) < 8) = true := by simp; omega
            obtain ⟨rfl, rfl⟩ := hs1 hlt
            have hidx : 8 * (q : Int) + (j : Int) = ((8 * q + j : Nat) : Int) := by omega
            have c1 := hg1.cell (8 * q + j) (by omega)
            have hpb := okB_get Hok.out (8 * q + j)
            have HL : Hid (lnK b q (j + 1) = if b.getD (8 * q + j) 0 = 0 then ((lnK b q j).1, (lnK b q j).2 + 1) else (flS (lnK b q j).1 (lnK b q j).2 ++ letS (b.getD (8 * q + j) 0), 0)) := Lib.hid rfl
            have hbd := lnK_bd b q j hj
            have H8 : Hid (j = 7 → lineB b q = flS (lnK b q (j + 1)).1 (lnK b q (j + 1)).2) := Lib.hid (fun e => by subst e; rfl)
            obtain ⟨p, hp⟩ : ∃ p, b.getD (8 * q + j) 0 = p := ⟨_, rfl⟩
            obtain ⟨⟨L, n⟩, hln2⟩ : ∃ x, lnK b q j = x := ⟨_, rfl⟩
            rw [hp] at c1 hpb HL
            rw [hln2] at HL hbd
            rw [hln2]
            simp only at HL hbd ⊢
            obtain ⟨hb1, hb2⟩ := hbd
            have hsz : (P ++ L).size ≤ 2000 := by have : (P ++ L).size = P.size + L.size := by simp
                                                  omega
            have HA := Lib.hid (ba_assoc P L)
            generalize 8 * q + j = ix at *
            obtain ⟨S, hS⟩ : ∃ S, P ++ L = S := ⟨_, rfl⟩
            rw [hS] at hsz HA
            have HS := Lib.hid hS
            rw [hS]
            have hn1 : n + 1 ≤ 8 := by omega
            clear hs1 hs2 hp hln2 hS hln
            by_cases hp0 : p = 0
            · rw [if_pos hp0] at HL
              subst hp0
              by_cases h7 : j = 7
              · have d7 : ((j : Int) == 7) = true := by simp; omega
                have H9 := H8.out h7
                rw [HL.out] at H9
                simp only at H9
                have H10 : Hid (P ++ lineB b q = S ++ numS (n + 1)) := Lib.hid (by rw [H9]; unfold flS; rw [if_neg (by omega), HA.out])
                have HD := Lib.hid (dig_sl (n + 1) (by omega))
                clear H9
                have hj7 : 7 ≤ j := by omega
                clear h7
                go_wp2_with fail
                go_roundg (8 - (j + 1))
                case measure => have := HJ.out; omega
                case rel => exact ⟨j + 1, rfl, by omega, by go_num, ⟨fun h => absurd h (by omega), fun _ => by rw [H10.out, ← HD.out]⟩, rfl⟩
              · have d7 : ((j : Int) == 7) = false := by simp; omega
                have hj7 : j < 7 := by omega
                clear h7
                go_wp2_with fail
                go_roundg (8 - (j + 1))
                case measure => have := HJ.out; omega
                case rel => exact ⟨j + 1, rfl, by omega, by go_num, ⟨fun _ => ⟨by rw [HL.out, HS.out], by rw [HL.out]; go_num⟩, fun h => absurd h (by omega)⟩, rfl⟩
            · rw [if_neg hp0] at HL
              obtain ⟨m, rfl⟩ : ∃ m : Nat, p = (m : Int) + 1 := ⟨(p - 1).toNat, by omega⟩
              have hm : m < 12 := by omega
              have e0 : ((m : Int) + 1 == 0) = false := by rw [beq_eq_false_iff_ne]; omega
              have e1 : ((m : Int) + 1 != 0) = true := by rw [bne_iff_ne]; omega
              have HLt := Lib.hid (letS_at m hm)
              have HLe : Hid (∀ h : j = 7, lineB b q = (lnK b q (j + 1)).1) := Lib.hid (fun h => by have := H8.out h; rw [HL.out] at this; rw [this, HL.out]; rfl)
              clear hp0 hpb
              by_cases hn : n = 0
              · subst hn
                rw [show ((0 : Nat) : Int) = 0 from rfl]
                have HN : Hid (P ++ (flS L 0 ++ letS ((m : Int) + 1)) = S ++ letS ((m : Int) + 1)) := Lib.hid (by unfold flS; rw [if_pos rfl, HA.out])
                go_wp2_with (go_at_call 39; refine (rletters_any _).mono ?_; rintro e w' ⟨rfl, rfl⟩)
                go_roundg (8 - (j + 1))
                case measure => have := HJ.out; omega
                case rel => exact ⟨j + 1, rfl, by omega, by go_num, ⟨fun _ => ⟨by rw [HL.out, HN.out, HLt.out], by rw [HL.out]; rfl⟩, fun h => by rw [HLe.out (by omega), HL.out, HN.out, HLt.out]⟩, rfl⟩
              · have dn : decide (0 < (n : Int)) = true := by simp; omega
                have dn2 : 0 < n := by omega
                have HD := Lib.hid (dig_sl n (by omega))
                have HN : Hid (P ++ (flS L n ++ letS ((m : Int) + 1)) = (S ++ numS n) ++ letS ((m : Int) + 1)) := Lib.hid (by unfold flS; rw [if_neg hn, ← HS.out, ba_assoc, ba_assoc, ba_assoc])
                clear hn
                go_wp2_with (go_at_call 39; refine (rletters_any _).mono ?_; rintro e w' ⟨rfl, rfl⟩)
                go_roundg (8 - (j + 1))
                case measure => have := HJ.out; omega
                case rel => exact ⟨j + 1, rfl, by omega, by go_num, ⟨fun _ => ⟨by rw [HL.out, HN.out, HLt.out, ← HD.out], by rw [HL.out]; rfl⟩, fun h => by rw [HLe.out (by omega), HL.out, HN.out, HLt.out, ← HD.out]⟩, rfl⟩
          · have hj8 : j = 8 := by omega
            obtain rfl := hs2 hj8
            subst hj8
            clear hs1 hs2
            have hsz : (P ++ lineB b q).size ≤ 2000 := by have : (P ++ lineB b q).size = P.size + (lineB b q).size := by simp
                                                          omega
            generalize P ++ lineB b q = S at *
            by_cases z : 0 < q
            · have dz : decide (0 < (q : Int)) = true := by simp; omega
              have HR2 := Lib.hid (hR.out.trans (if_pos z))
              clear hR
              go_wp2_with fail
              go_roundg q
              case measure => have := HK.out; omega
              case rel => exact ⟨q, rfl, by omega, rfl, by rw [HR2.out], rfl⟩
            · have dz : decide (0 < (q : Int)) = false := by simp; omega
              have HR2 := Lib.hid (hR.out.trans (if_neg z))
              clear hR
              go_wp2_with fail
              go_roundg q
              case measure => have := HK.out; omega
              case rel => exact ⟨q, rfl, by omega, rfl, by rw [HR2.out], rfl⟩
  · have HC := Lib.hid (chkB_f h)
    have HV := Lib.hid (plV_f h)
    clear h
    go_enter Tryd.func20, Tryd.ntmps20
    go_wp2_with (first
      | (with_reducible refine wpl_load (g := w.heap.size) (k := .i64) (t := 24) (l := b) hg rfl 24 _ rfl rfl Tryd.underlying24 hi ?_)
      | (go_at_call 23; refine (checkr_any b hb _).mono ?_; rintro e w1 ⟨rfl, hb1⟩; rw [HC.out]; have hB1 := hB.trans (hb1.mono hB.size)))
    go_ret2
    exact ⟨by rw [HC.out, HV.out]; rfl, hB1⟩
end Go.Proofs.YthbbnhhofkadgaaDoor
