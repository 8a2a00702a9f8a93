/- The contract of the reference's Parse. No condition. -/
import Derived.Test.YthbbnhhofkadgaaDoorBpt
import Derived.Test.YthbbnhhofkadgaaDoorBrp
namespace Go.Proofs.YthbbnhhofkadgaaDoor
open Go Go.RowKit
theorem let_at (c : UInt8) (m : Nat) (hm : m < 12) : (((lets.getD m 0).toNat : Int) == (c.toNat : Int)) = decide (letP c = (m : Int) + 1) := by
  have e : UInt8.ofNat c.toNat = c := by simp
  have hc := c.toNat_lt
  rw [← e]
  generalize c.toNat = k at hc
  have hk : k < 256 := hc
  have hcs : m = 0 ∨ m = 1 ∨ m = 2 ∨ m = 3 ∨ m = 4 ∨ m = 5 ∨ m = 6 ∨ m = 7 ∨ m = 8 ∨ m = 9 ∨ m = 10 ∨ m = 11 := by omega
  rcases hcs with rfl | rfl | rfl | rfl | rfl | rfl | rfl | rfl | rfl | rfl | rfl | rfl
  · exact (show ∀ i : Fin 256, (((lets.getD 0 0).toNat : Int) == ((UInt8.ofNat i.val).toNat : Int)) = decide (letP (UInt8.ofNat i.val) = ((0 : Nat) : Int) + 1) by decide +kernel) ⟨k, hk⟩
  · exact (show ∀ i : Fin 256, (((lets.getD 1 0).toNat : Int) == ((UInt8.ofNat i.val).toNat : Int)) = decide (letP (UInt8.ofNat i.val) = ((1 : Nat) : Int) + 1) by decide +kernel) ⟨k, hk⟩
  · exact (show ∀ i : Fin 256, (((lets.getD 2 0).toNat : Int) == ((UInt8.ofNat i.val).toNat : Int)) = decide (letP (UInt8.ofNat i.val) = ((2 : Nat) : Int) + 1) by decide +kernel) ⟨k, hk⟩
  · exact (show ∀ i : Fin 256, (((lets.getD 3 0).toNat : Int) == ((UInt8.ofNat i.val).toNat : Int)) = decide (letP (UInt8.ofNat i.val) = ((3 : Nat) : Int) + 1) by decide +kernel) ⟨k, hk⟩
  · exact (show ∀ i : Fin 256, (((lets.getD 4 0).toNat : Int) == ((UInt8.ofNat i.val).toNat : Int)) = decide (letP (UInt8.ofNat i.val) = ((4 : Nat) : Int) + 1) by decide +kernel) ⟨k, hk⟩
  · exact (show ∀ i : Fin 256, (((lets.getD 5 0).toNat : Int) == ((UInt8.ofNat i.val).toNat : Int)) = decide (letP (UInt8.ofNat i.val) = ((5 : Nat) : Int) + 1) by decide +kernel) ⟨k, hk⟩
  · exact (show ∀ i : Fin 256, (((lets.getD 6 0).toNat : Int) == ((UInt8.ofNat i.val).toNat : Int)) = decide (letP (UInt8.ofNat i.val) = ((6 : Nat) : Int) + 1) by decide +kernel) ⟨k, hk⟩
  · exact (show ∀ i : Fin 256, (((lets.getD 7 0).toNat : Int) == ((UInt8.ofNat i.val).toNat : Int)) = decide (letP (UInt8.ofNat i.val) = ((7 : Nat) : Int) + 1) by decide +kernel) ⟨k, hk⟩
  · exact (show ∀ i : Fin 256, (((lets.getD 8 0).toNat : Int) == ((UInt8.ofNat i.val).toNat : Int)) = decide (letP (UInt8.ofNat i.val) = ((8 : Nat) : Int) + 1) by decide +kernel) ⟨k, hk⟩
  · exact (show ∀ i : Fin 256, (((lets.getD 9 0).toNat : Int) == ((UInt8.ofNat i.val).toNat : Int)) = decide (letP (UInt8.ofNat i.val) = ((9 : Nat) : Int) + 1) by decide +kernel) ⟨k, hk⟩
  · exact (show ∀ i : Fin 256, (((lets.getD 10 0).toNat : Int) == ((UInt8.ofNat i.val).toNat : Int)) = decide (letP (UInt8.ofNat i.val) = ((10 : Nat) : Int) + 1) by decide +kernel) ⟨k, hk⟩
  · exact (show ∀ i : Fin 256, (((lets.getD 11 0).toNat : Int) == ((UInt8.ofNat i.val).toNat : Int)) = decide (letP (UInt8.ofNat i.val) = ((11 : Nat) : Int) + 1) by decide +kernel) ⟨k, hk⟩
set_option maxRecDepth 100000 in
theorem let_ix (m : Nat) (hm : m < 12) : ∀ w : World, (Instr.index 9 (.string ⟨#[80, 78, 66, 82, 81, 75, 112, 110, 98, 114, 113, 107]⟩) (.int .i64 (m : Int))).run Tryd.prog w = .ok (.int .u8 ((lets.getD m 0).toNat : Int)) w := by
  have hc : m = 0 ∨ m = 1 ∨ m = 2 ∨ m = 3 ∨ m = 4 ∨ m = 5 ∨ m = 6 ∨ m = 7 ∨ m = 8 ∨ m = 9 ∨ m = 10 ∨ m = 11 := by omega
  rcases hc with rfl | rfl | rfl | rfl | rfl | rfl | rfl | rfl | rfl | rfl | rfl | rfl
  · exact fun _ => by kernel_rfl
  · exact fun _ => by kernel_rfl
  · exact fun _ => by kernel_rfl
  · exact fun _ => by kernel_rfl
  · exact fun _ => by kernel_rfl
  · exact fun _ => by kernel_rfl
  · exact fun _ => by kernel_rfl
  · exact fun _ => by kernel_rfl
  · exact fun _ => by kernel_rfl
  · exact fun _ => by kernel_rfl
  · exact fun _ => by kernel_rfl
  · exact fun _ => by kernel_rfl
/-- The board behind the letters below m were tried. -/
def tryM (bb : List Int) (ix f : Nat) (c : UInt8) (m : Nat) : List Int := if f < 8 ∧ 1 ≤ letP c ∧ letP c ≤ m then bb.set ix (letP c) else bb
theorem tryM_len (bb : List Int) (ix f : Nat) (c : UInt8) (m : Nat) : (tryM bb ix f c m).length = bb.length := by unfold tryM; split <;> simp
theorem tryM_hit {bb : List Int} {ix f : Nat} {c : UInt8} {m : Nat} (hf : f < 8) (h : letP c = (m : Int) + 1) : (tryM bb ix f c m).set ix ((m : Int) + 1) = tryM bb ix f c (m + 1) := by
  unfold tryM; rw [if_neg (by omega), if_pos ⟨hf, by omega, by omega⟩, h]
theorem tryM_f8 {bb : List Int} {ix f : Nat} {c : UInt8} {m m' : Nat} (hf : ¬ f < 8) : tryM bb ix f c m = tryM bb ix f c m' := by
  unfold tryM; rw [if_neg (fun h => hf h.1), if_neg (fun h => hf h.1)]
theorem tryM_miss {bb : List Int} {ix f : Nat} {c : UInt8} {m : Nat} (h : letP c ≠ (m : Int) + 1) : tryM bb ix f c (m + 1) = tryM bb ix f c m := by
  unfold tryM
  by_cases h1 : f < 8 ∧ 1 ≤ letP c ∧ letP c ≤ m
  · rw [if_pos h1, if_pos ⟨h1.1, h1.2.1, by omega⟩]
  · rw [if_neg h1, if_neg (fun h2 => h1 ⟨h2.1, h2.2.1, by omega⟩)]
theorem tryM_12 {bb : List Int} {ix f : Nat} {c : UInt8} (hf : f < 8) : tryM bb ix f c 12 = if letP c = 0 then bb else bb.set ix (letP c) := by
  unfold tryM
  have := letP_bd c
  by_cases h : letP c = 0
  · rw [if_pos h, if_neg (by omega)]
  · rw [if_neg h, if_pos ⟨hf, by omega, by omega⟩]
set_option maxRecDepth 100000 in
set_option maxHeartbeats 40000000 in
theorem rparse_any (s : ByteArray) (hs : s.size ≤ 100000) (w : World) :
    Calls Tryd.prog 13 #[.string s] w fun e w' => e = .returned (.tuple #[.agg (ints (rpV s)), .int .i64 (rpE s)]) ∧ Below w.heap.size w w' := by
  have hz : Holds ((w.alloc (.cells (ints zero64) 24)).alloc (.cells (ints zero64) 24)) w.heap.size .i64 24 zero64 := (Holds.new w .i64 24 zero64).alloc _
  have hb : Holds ((w.alloc (.cells (ints zero64) 24)).alloc (.cells (ints zero64) 24)) (w.heap.size + 1) .i64 24 zero64 := Holds.newAt .i64 24 zero64 (by simp)
  have hB : Below w.heap.size w ((w.alloc (.cells (ints zero64) 24)).alloc (.cells (ints zero64) 24)) := ((Below.refl _ _).alloc (Nat.le_refl _) _).alloc (by simp) _
  go_enter Tryd.func13, Tryd.ntmps13
  go_wp2_with fail
  go_loopg [5, 6, 7] s.size (fun mm r f i wr => ∃ (n q ff : Nat) (bb : List Int), mm = s.size - n ∧ n ≤ s.size ∧ r = .int .i64 q ∧ f = .int .i64 ff ∧ i = .int .i64 n ∧ ff ≤ 8 ∧ q ≤ 7 ∧ bb.length = 64 ∧ rf s.data.toList 7 0 zero64 = rf (s.data.toList.drop n) q ff bb ∧
    Holds wr (w.heap.size + 1) .i64 24 bb ∧ Holds wr w.heap.size .i64 24 zero64 ∧ Below w.heap.size w wr)
  case atStart => exact ⟨0, 7, 0, zero64, rfl, by omega, rfl, rfl, rfl, by omega, by omega, rfl, rfl, hb, hz, hB⟩
  case round =>
    clear hb hz hB
    obtain ⟨n, q, ff, bb, hkm, hn, rfl, rfl, rfl, hf8, hq7, lbb, hrf, hb, hz, hB⟩ := hrel
    have HK := Lib.hid hkm
    clear hkm
    by_cases hlt : n < s.size
    · have hdi : decide ((n : Int) < (s.size : Int)) = true := by simp; omega
      have HD : Hid (s.data.toList.drop n = s[n] :: s.data.toList.drop (n + 1)) := Lib.hid (by rw [List.drop_eq_getElem_cons (by simpa using hlt)]; rfl)
      have HR := Lib.hid hrf
      obtain ⟨c, hc⟩ : ∃ c, s[n] = c := ⟨_, rfl⟩
      rw [hc] at HD
      have HM := Lib.hid (And.intro hb (And.intro hz hB))
      clear hrf hb hz hB
      by_cases h47 : c.toNat = 47
      · have hc47 : c = 47 := UInt8.toNat_inj.1 h47
        have d47 : ((c.toNat : Int) == 47) = true := by simp; omega
        have hstep := HR.out
        rw [HD.out, rf, if_pos hc47] at hstep
        obtain ⟨hb, hz, hB⟩ := HM.out
        by_cases hq0 : q = 0
        · rw [if_pos hq0] at hstep
          have HV := Lib.hid (rp_none (s := s) hstep).1
          have HE := Lib.hid (rp_none (s := s) hstep).2
          subst hq0
          rw [show ((0 : Nat) : Int) = 0 from rfl]
          clear hstep h47 hb
          go_wp2_with (with_reducible refine wpl_store (g := w.heap.size) (k := .i64) (t := 24) (l := zero64) hz rfl 24 _ _ rfl rfl zero64 rfl rfl z64_info ?_)
          refine bodyPost_ret (results_row2 rfl _ _ w.heap.size (l := zero64) rfl (hz.setRow _) Tryd.underlying24 rfl z64_info) rfl ?_
          exact ⟨by rw [HV.out, HE.out]; rfl, below_setRow hB (Nat.le_refl _) _⟩
        · rw [if_neg hq0] at hstep
          have HS := Lib.hid hstep
          obtain ⟨q', rfl⟩ : ∃ q', q = q' + 1 := ⟨q - 1, by omega⟩
          have hqe : (((q' + 1 : Nat) : Int) - 1) = (q' : Int) := by omega
          have hq0' : decide ((q' : Int) < 0) = false := by simp
          rw [Nat.add_sub_cancel] at HS
          clear hstep h47 hq0 hb hz hB
          go_wp2_with fail
          go_roundg (s.size - (n + 1))
          case measure => have := HK.out; omega
          case rel => exact ⟨n + 1, q', 0, bb, rfl, by omega, rfl, rfl, by go_num, by omega, by omega, lbb, HS.out, HM.out.1, HM.out.2.1, HM.out.2.2⟩
      · have hc47 : c ≠ 47 := fun e => h47 (by rw [e]; rfl)
        have d47 : ((c.toNat : Int) == 47) = false := by simp; omega
        have hqn : decide ((q : Int) < 0) = false := by simp
        by_cases hdg : 49 ≤ c.toNat ∧ c.toNat ≤ 56
        · have hstep := HR.out
          rw [HD.out, rf, if_neg hc47, if_pos hdg] at hstep
          obtain ⟨g1, g2⟩ := hdg
          have d1 : decide (49 ≤ (c.toNat : Int)) = true := by simp; omega
          have d2 : decide ((c.toNat : Int) ≤ 56) = true := by simp; omega
          obtain ⟨g, hg⟩ : ∃ g, ff + (c.toNat - 48) = g := ⟨_, rfl⟩
          rw [hg] at hstep
          have hgi : (ff : Int) + ((c.toNat : Int) - 48) = (g : Int) := by omega
          obtain ⟨hb, hz, hB⟩ := HM.out
          by_cases h8 : 8 < g
          · rw [if_pos h8] at hstep
            have HV := Lib.hid (rp_none (s := s) hstep).1
            have HE := Lib.hid (rp_none (s := s) hstep).2
            have d8 : decide (8 < (g : Int)) = true := by simp; omega
            clear hstep h47 hg hb hc47
            go_wp2_with (with_reducible refine wpl_store (g := w.heap.size) (k := .i64) (t := 24) (l := zero64) hz rfl 24 _ _ rfl rfl zero64 rfl rfl z64_info ?_)
            refine bodyPost_ret (results_row2 rfl _ _ w.heap.size (l := zero64) rfl (hz.setRow _) Tryd.underlying24 rfl z64_info) rfl ?_
            exact ⟨by rw [HV.out, HE.out]; rfl, below_setRow hB (Nat.le_refl _) _⟩
          · rw [if_neg h8] at hstep
            have HS := Lib.hid hstep
            have d8 : decide (8 < (g : Int)) = false := by simp; omega
            clear hstep h47 hg hb hz hB hc47
            go_wp2_with fail
            go_roundg (s.size - (n + 1))
            case measure => have := HK.out; omega
            case rel => exact ⟨n + 1, q, g, bb, rfl, by omega, rfl, rfl, by go_num, by omega, hq7, lbb, HS.out, HM.out.1, HM.out.2.1, HM.out.2.2⟩
        · have hstep := HR.out
          rw [HD.out, rf, if_neg hc47, if_neg hdg] at hstep
          have HS := Lib.hid hstep
          have hor : c.toNat < 49 ∨ (49 ≤ c.toNat ∧ 56 < c.toNat) := by omega
          have hlp := letP_bd c
          have hix : 8 * q + ff < 72 := by omega
          clear hstep h47 hdg hc47
          rcases hor with h49 | ⟨h49, h56⟩
          · have d1 : decide (49 ≤ (c.toNat : Int)) = false := by simp; omega
            go_wp2_with fail
            have hM0 : tryM bb (8 * q + ff) ff c 0 = bb := if_neg (by omega)
            go_loopg [9] 12 (fun mm p wr => ∃ m : Nat, mm = 12 - m ∧ m ≤ 12 ∧ p = .int .i64 ((m : Int) + 1) ∧ Holds wr (w.heap.size + 1) .i64 24 (tryM bb (8 * q + ff) ff c m) ∧ Holds wr w.heap.size .i64 24 zero64 ∧ Below w.heap.size w wr)
            case atStart => exact ⟨0, rfl, by omega, rfl, by rw [hM0]; exact HM.out.1, HM.out.2.1, HM.out.2.2⟩
            case round =>
              clear hM0
              obtain ⟨m, hmm, hm, rfl, hb, hz, hB⟩ := hrel
              have HJ := Lib.hid hmm
              clear hmm
              by_cases hm12 : m < 12
              · have hdm : decide ((m : Int) + 1 ≤ 12) = true := by simp; omega
                have hLA := let_at c m hm12
                have hLI := let_ix m hm12
                generalize (lets.getD m 0).toNat = x at hLA hLI
                have hqq : decide (0 ≤ (q : Int)) = true := by simp
                by_cases hl : letP c = (m : Int) + 1
                · rw [decide_eq_true hl] at hLA
                  by_cases hf : ff < 8
                  · have df : decide ((ff : Int) < 8) = true := by simp; omega
                    have hidx : 8 * (q : Int) + (ff : Int) = ((8 * q + ff : Nat) : Int) := by omega
                    have c1 := hb.cell (8 * q + ff) (by rw [tryM_len]; omega)
                    have c2 := hb.frozen (8 * q + ff)
                    have HT := Lib.hid (tryM_hit (bb := bb) (ix := 8 * q + ff) hf hl)
                    have H1 := Lib.hid (hb.set (8 * q + ff) ((m : Int) + 1))
                    have H2 := Lib.hid (hz.setOther (a := ⟨w.heap.size + 1, 8 * q + ff, none⟩) (.int .i64 ((m : Int) + 1)) (by simp))
                    have H3 := Lib.hid (hB.setCell (p := ⟨w.heap.size + 1, 8 * q + ff, none⟩) (by simp) (.int .i64 ((m : Int) + 1)))
                    rw [HT.out] at H1
                    generalize (tryM bb (8 * q + ff) ff c m).getD (8 * q + ff) 0 = old at c1
                    generalize hixg : 8 * q + ff = ix at *
                    clear hb hz hB hl HT
                    go_wp2_with (go_at_call 39; refine (rletters_any _).mono ?_; rintro e w' ⟨rfl, rfl⟩)
                    go_roundg (12 - (m + 1))
                    case measure => have := HJ.out; omega
                    case rel => exact ⟨m + 1, rfl, by omega, by go_num, H1.out, H2.out, H3.out⟩
                  · have df : decide ((ff : Int) < 8) = false := by simp; omega
                    have HT := Lib.hid (tryM_f8 (bb := bb) (ix := 8 * q + ff) (c := c) (m := m) (m' := m + 1) hf)
                    have H1 := Lib.hid (And.intro hb (And.intro hz hB))
                    clear hb hz hB hl hf
                    go_wp2_with (go_at_call 39; refine (rletters_any _).mono ?_; rintro e w' ⟨rfl, rfl⟩)
                    go_roundg (12 - (m + 1))
                    case measure => have := HJ.out; omega
                    case rel => exact ⟨m + 1, rfl, by omega, by go_num, by rw [← HT.out]; exact H1.out.1, H1.out.2.1, H1.out.2.2⟩
                · rw [decide_eq_false hl] at hLA
                  have HT := Lib.hid (tryM_miss (bb := bb) (ix := 8 * q + ff) (f := ff) hl)
                  have H1 := Lib.hid (And.intro hb (And.intro hz hB))
                  clear hb hz hB hl
                  go_wp2_with (go_at_call 39; refine (rletters_any _).mono ?_; rintro e w' ⟨rfl, rfl⟩)
                  go_roundg (12 - (m + 1))
                  case measure => have := HJ.out; omega
                  case rel => exact ⟨m + 1, rfl, by omega, by go_num, by rw [HT.out]; exact H1.out.1, H1.out.2.1, H1.out.2.2⟩
              · have hm0 : m = 12 := by omega
                subst hm0
                by_cases hf : ff < 8
                · have df : decide (8 < (ff : Int) + 1) = false := by simp; omega
                  have hS2 := HS.out
                  rw [if_neg (by omega), ← tryM_12 (ix := 8 * q + ff) (c := c) (bb := bb) hf] at hS2
                  have HS2 := Lib.hid hS2
                  have H1 := Lib.hid (And.intro hb (And.intro hz hB))
                  clear hb hz hB hS2
                  go_wp2_with fail
                  go_roundg (s.size - (n + 1))
                  case measure => have := HK.out; omega
                  case rel => exact ⟨n + 1, q, ff + 1, _, rfl, by omega, rfl, by go_num, by go_num, by omega, hq7, (tryM_len _ _ _ _ _).trans lbb, HS2.out, H1.out.1, H1.out.2.1, H1.out.2.2⟩
                · have df : decide (8 < (ff : Int) + 1) = true := by simp; omega
                  have hS2 := HS.out
                  rw [if_pos (by omega)] at hS2
                  have HV := Lib.hid (rp_none (s := s) hS2).1
                  have HE := Lib.hid (rp_none (s := s) hS2).2
                  clear hb hS2
                  go_wp2_with (with_reducible refine wpl_store (g := w.heap.size) (k := .i64) (t := 24) (l := zero64) hz rfl 24 _ _ rfl rfl zero64 rfl rfl z64_info ?_)
                  refine bodyPost_ret (results_row2 rfl _ _ w.heap.size (l := zero64) rfl (hz.setRow _) Tryd.underlying24 rfl z64_info) rfl ?_
                  exact ⟨by rw [HV.out, HE.out]; rfl, below_setRow hB (Nat.le_refl _) _⟩
          · have d1 : decide (49 ≤ (c.toNat : Int)) = true := by simp; omega
            have d2 : decide ((c.toNat : Int) ≤ 56) = false := by simp; omega
            go_wp2_with fail
            have hM0 : tryM bb (8 * q + ff) ff c 0 = bb := if_neg (by omega)
            go_loopg [9] 12 (fun mm p wr => ∃ m : Nat, mm = 12 - m ∧ m ≤ 12 ∧ p = .int .i64 ((m : Int) + 1) ∧ Holds wr (w.heap.size + 1) .i64 24 (tryM bb (8 * q + ff) ff c m) ∧ Holds wr w.heap.size .i64 24 zero64 ∧ Below w.heap.size w wr)
            case atStart => exact ⟨0, rfl, by omega, rfl, by rw [hM0]; exact HM.out.1, HM.out.2.1, HM.out.2.2⟩
            case round =>
              clear hM0
              obtain ⟨m, hmm, hm, rfl, hb, hz, hB⟩ := hrel
              have HJ := Lib.hid hmm
              clear hmm
              by_cases hm12 : m < 12
              · have hdm : decide ((m : Int) + 1 ≤ 12) = true := by simp; omega
                have hLA := let_at c m hm12
                have hLI := let_ix m hm12
                generalize (lets.getD m 0).toNat = x at hLA hLI
                have hqq : decide (0 ≤ (q : Int)) = true := by simp
                by_cases hl : letP c = (m : Int) + 1
                · rw [decide_eq_true hl] at hLA
                  by_cases hf : ff < 8
                  · have df : decide ((ff : Int) < 8) = true := by simp; omega
                    have hidx : 8 * (q : Int) + (ff : Int) = ((8 * q + ff : Nat) : Int) := by omega
                    have c1 := hb.cell (8 * q + ff) (by rw [tryM_len]; omega)
                    have c2 := hb.frozen (8 * q + ff)
                    have HT := Lib.hid (tryM_hit (bb := bb) (ix := 8 * q + ff) hf hl)
                    have H1 := Lib.hid (hb.set (8 * q + ff) ((m : Int) + 1))
                    have H2 := Lib.hid (hz.setOther (a := ⟨w.heap.size + 1, 8 * q + ff, none⟩) (.int .i64 ((m : Int) + 1)) (by simp))
                    have H3 := Lib.hid (hB.setCell (p := ⟨w.heap.size + 1, 8 * q + ff, none⟩) (by simp) (.int .i64 ((m : Int) + 1)))
                    rw [HT.out] at H1
                    generalize (tryM bb (8 * q + ff) ff c m).getD (8 * q + ff) 0 = old at c1
                    generalize hixg : 8 * q + ff = ix at *
                    clear hb hz hB hl HT
                    go_wp2_with (go_at_call 39; refine (rletters_any _).mono ?_; rintro e w' ⟨rfl, rfl⟩)
                    go_roundg (12 - (m + 1))
                    case measure => have := HJ.out; omega
                    case rel => exact ⟨m + 1, rfl, by omega, by go_num, H1.out, H2.out, H3.out⟩
                  · have df : decide ((ff : Int) < 8) = false := by simp; omega
                    have HT := Lib.hid (tryM_f8 (bb := bb) (ix := 8 * q + ff) (c := c) (m := m) (m' := m + 1) hf)
                    have H1 := Lib.hid (And.intro hb (And.intro hz hB))
                    clear hb hz hB hl hf
                    go_wp2_with (go_at_call 39; refine (rletters_any _).mono ?_; rintro e w' ⟨rfl, rfl⟩)
                    go_roundg (12 - (m + 1))
                    case measure => have := HJ.out; omega
                    case rel => exact ⟨m + 1, rfl, by omega, by go_num, by rw [← HT.out]; exact H1.out.1, H1.out.2.1, H1.out.2.2⟩
                · rw [decide_eq_false hl] at hLA
                  have HT := Lib.hid (tryM_miss (bb := bb) (ix := 8 * q + ff) (f := ff) hl)
                  have H1 := Lib.hid (And.intro hb (And.intro hz hB))
                  clear hb hz hB hl
                  go_wp2_with (go_at_call 39; refine (rletters_any _).mono ?_; rintro e w' ⟨rfl, rfl⟩)
                  go_roundg (12 - (m + 1))
                  case measure => have := HJ.out; omega
                  case rel => exact ⟨m + 1, rfl, by omega, by go_num, by rw [HT.out]; exact H1.out.1, H1.out.2.1, H1.out.2.2⟩
              · have hm0 : m = 12 := by omega
                subst hm0
                by_cases hf : ff < 8
                · have df : decide (8 < (ff : Int) + 1) = false := by simp; omega
                  have hS2 := HS.out
                  rw [if_neg (by omega), ← tryM_12 (ix := 8 * q + ff) (c := c) (bb := bb) hf] at hS2
                  have HS2 := Lib.hid hS2
                  have H1 := Lib.hid (And.intro hb (And.intro hz hB))
                  clear hb hz hB hS2
                  go_wp2_with fail
                  go_roundg (s.size - (n + 1))
                  case measure => have := HK.out; omega
                  case rel => exact ⟨n + 1, q, ff + 1, _, rfl, by omega, rfl, by go_num, by go_num, by omega, hq7, (tryM_len _ _ _ _ _).trans lbb, HS2.out, H1.out.1, H1.out.2.1, H1.out.2.2⟩
                · have df : decide (8 < (ff : Int) + 1) = true := by simp; omega
                  have hS2 := HS.out
                  rw [if_pos (by omega)] at hS2
                  have HV := Lib.hid (rp_none (s := s) hS2).1
                  have HE := Lib.hid (rp_none (s := s) hS2).2
                  clear hb hS2
                  go_wp2_with (with_reducible refine wpl_store (g := w.heap.size) (k := .i64) (t := 24) (l := zero64) hz rfl 24 _ _ rfl rfl zero64 rfl rfl z64_info ?_)
                  refine bodyPost_ret (results_row2 rfl _ _ w.heap.size (l := zero64) rfl (hz.setRow _) Tryd.underlying24 rfl z64_info) rfl ?_
                  exact ⟨by rw [HV.out, HE.out]; rfl, below_setRow hB (Nat.le_refl _) _⟩
    · have hns : n = s.size := by omega
      subst hns
      have hP : rfB s = some bb := by
        unfold rfB
        rw [hrf, List.drop_eq_nil_of_le (by simp)]; rfl
      have hZlt := hz.lt
      have hVlt := hb.lt
      have hia : (Tryd.prog.info? 24).map (·.size) = some bb.length := by rw [lbb]; kernel_rfl
      have hzz : bb.length = zero64.length := lbb
      clear hrf
      by_cases he : plV bb = s
      · have hq : ((plV bb).toList == s.toList) = true := by rw [he]; simp
        have HR := Lib.hid (rp_good hP he).1
        have HE := Lib.hid (rp_good hP he).2
        clear hP he
        go_wp2_with (first
          | (with_reducible refine wpl_load (g := w.heap.size + 1) (k := .i64) (t := 24) (l := bb) hb rfl 24 _ rfl rfl Tryd.underlying24 hia ?_)
          | (with_reducible refine wpl_load (g := w.heap.size + 1) (k := .i64) (t := 24) (l := bb) hV1 rfl 24 _ rfl rfl Tryd.underlying24 hia ?_)
          | (go_at_call 20; refine (placer_any bb lbb _).mono ?_; rintro e w1 ⟨rfl, hb1⟩; have hZ1 := hz.below hb1 hZlt; have hV1 := hb.below hb1 hVlt; have hB1 := hB.trans (hb1.mono hB.size); clear hz hb hB hb1)
          | (with_reducible refine wpl_store (g := w.heap.size) (k := .i64) (t := 24) (l := zero64) hZ1 rfl 24 _ _ rfl rfl bb rfl hzz z64_info ?_))
        refine bodyPost_ret (results_row2 rfl _ _ w.heap.size (l := bb) rfl (hZ1.setRow _) Tryd.underlying24 rfl hia) rfl ?_
        exact ⟨by rw [HR.out, HE.out]; rfl, below_setRow hB1 (Nat.le_refl _) _⟩
      · have hq : ((plV bb).toList == s.toList) = false := by
          rw [beq_eq_false_iff_ne]
          intro e
          rw [ByteArray.toList_eq, ByteArray.toList_eq] at e
          exact he (ByteArray.ext (Array.ext' e))
        have HR := Lib.hid (rp_bad hP he).1
        have HE := Lib.hid (rp_bad hP he).2
        clear hP he
        go_wp2_with (first
          | (with_reducible refine wpl_load (g := w.heap.size + 1) (k := .i64) (t := 24) (l := bb) hb rfl 24 _ rfl rfl Tryd.underlying24 hia ?_)
          | (go_at_call 20; refine (placer_any bb lbb _).mono ?_; rintro e w1 ⟨rfl, hb1⟩; have hZ1 := hz.below hb1 hZlt; have hB1 := hB.trans (hb1.mono hB.size); clear hz hb hB hb1)
          | (with_reducible refine wpl_store (g := w.heap.size) (k := .i64) (t := 24) (l := zero64) hZ1 rfl 24 _ _ rfl rfl zero64 rfl rfl z64_info ?_))
        refine bodyPost_ret (results_row2 rfl _ _ w.heap.size (l := zero64) rfl (hZ1.setRow _) Tryd.underlying24 rfl z64_info) rfl ?_
        exact ⟨by rw [HR.out, HE.out]; rfl, below_setRow hB1 (Nat.le_refl _) _⟩
end Go.Proofs.YthbbnhhofkadgaaDoor
