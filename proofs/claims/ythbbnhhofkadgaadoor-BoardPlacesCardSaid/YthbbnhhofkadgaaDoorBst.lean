/- The contracts of board.Of and board.Color: the sets of squares. No condition. -/
import Derived.Test.YthbbnhhofkadgaaDoorBck
import Derived.Deep.DeepCutAuto
import Derived.Deep.RegionWith
namespace Go.Proofs.YthbbnhhofkadgaaDoor
open Go Go.RowKit
instance (p : Int) : Decidable (inP p) := by unfold inP; infer_instance
/-- The squares with what is wanted, of the first k. -/
def bsum (f : Int → Bool) (b : List Int) : Nat → Nat
  | 0 => 0
  | k + 1 => bsum f b k + if inP (b.getD k 0) ∧ f (b.getD k 0) = true then 2 ^ k else 0
theorem bsum_lt (f : Int → Bool) (b : List Int) (k : Nat) : bsum f b k < 2 ^ k := by
  induction k with
  | zero => simp [bsum]
  | succ k ih =>
    have : 2 ^ (k + 1) = 2 ^ k + 2 ^ k := by rw [Nat.pow_succ]; omega
    simp only [bsum]
    split <;> omega
theorem or_bit (s k : Nat) (h : s < 2 ^ k) (hk : k < 64) : bits BinOp.or IntKind.u64 (s : Int) ((2 ^ k : Nat) : Int) = ((s + 2 ^ k : Nat) : Int) := by
  have h2 : 2 ^ k ≤ 2 ^ 63 := Nat.pow_le_pow_right (by decide) (by omega)
  have h3 : (2 : Nat) ^ 63 = 9223372036854775808 := by decide
  rw [u64_or_nat s (2 ^ k) (by omega) (by omega), Nat.or_comm]
  have := Nat.two_pow_add_eq_or_of_lt h 1
  rw [Nat.mul_one] at this
  rw [← this, Nat.add_comm]
theorem or_bitw (s k : Nat) (h : s < 2 ^ k) (hk : k < 64) : bits BinOp.or IntKind.u64 (s : Int) (IntKind.u64.wrap (2 ^ k)) = ((s + 2 ^ k : Nat) : Int) := by
  have h2 : 2 ^ k ≤ 2 ^ 63 := Nat.pow_le_pow_right (by decide) (by omega)
  have h3 : (2 : Nat) ^ 63 = 9223372036854775808 := by decide
  have e : IntKind.u64.wrap (2 ^ k : Int) = ((2 ^ k : Nat) : Int) := by
    have : ((2 : Int) ^ k) = ((2 ^ k : Nat) : Int) := by simp
    rw [this]
    generalize (2 ^ k : Nat) = q at *
    unfold IntKind.wrap
    simp [IntKind.bits, IntKind.signed]
    omega
  rw [e]
  exact or_bit s k h hk
set_option maxHeartbeats 400000 in
theorem ofc_any (q p : Int) (g : Nat) (t : TypeId) (w : World) (h : Holds w g .i64 t [p]) : Calls Tryd.prog 56 #[.int .i64 q, .pointer (some ⟨g, 0, none⟩)] w fun e w' => e = .returned (.bool (q == p)) ∧ w = w' := by
  have c := h.cell 0 (by simp)
  simp only [List.getD_cons_zero] at c
  go_enter Tryd.func56, Tryd.ntmps56
  go_wp2
  go_ret
  exact ⟨rfl, rfl⟩
set_option maxRecDepth 100000 in
set_option maxHeartbeats 600000 in
theorem where_of (b : List Int) (hb : b.length = 64) (p : Int) (gp : Nat) (t : TypeId) (w : World) (hp : Holds w gp .i64 t [p]) :
    Calls Tryd.prog 55 #[.agg (ints b), .func (.func 56) #[] #[.pointer (some ⟨gp, 0, none⟩)]] w fun e w' => e = .returned (.int .u64 (bsum (fun x => (x == p)) b 64 : Nat)) ∧ Below w.heap.size w w' := by
  have hi : (Tryd.prog.info? 24).map (·.size) = some b.length := by rw [hb]; kernel_rfl
  have hg : Holds (w.alloc (.cells (intsK .i64 b) 24)) w.heap.size .i64 24 b := Holds.new w .i64 24 b
  have hp1 : Holds (w.alloc (.cells (intsK .i64 b) 24)) gp .i64 t [p] := hp.alloc _
  have hB : Below w.heap.size w (w.alloc (.cells (intsK .i64 b) 24)) := (Below.refl _ _).alloc (Nat.le_refl _) _
  go_enter Tryd.func55, Tryd.ntmps55
  go_wp2_with (with_reducible refine wpl_load (g := w.heap.size) (k := .i64) (t := 24) (l := b) hg rfl 24 _ rfl rfl Tryd.underlying24 hi ?_)
  generalize w.alloc _ = w1 at *
  go_loopg [5, 9] 64 (fun m s i wr => ∃ k : Nat, m = 64 - k ∧ k ≤ 64 ∧ i = .int .i64 k ∧ s = .int .u64 (bsum (fun x => (x == p)) b k : Nat) ∧ w1 = wr)
  case atStart => exact ⟨0, rfl, by omega, rfl, rfl, rfl⟩
  case round =>
    obtain ⟨k, hkm, hk, rfl, rfl, rfl⟩ := hrel
    have HK := Lib.hid hkm
    clear hkm
    by_cases hlt : k < 64
    · have hix : ∀ w : World, (Instr.index 24 (.agg (intsK .i64 b)) (.int .i64 k)).run Tryd.prog w = .ok (.int .i64 (b.getD k 0)) w := fun w => run_index_ints k Tryd.underlying24 Tryd.underlying3 (by kernel_rfl) hb hlt
      have HN : Hid (bsum (fun x => (x == p)) b (k + 1) = bsum (fun x => (x == p)) b k + if inP (b.getD k 0) ∧ ((fun x => (x == p)) (b.getD k 0)) = true then 2 ^ k else 0) := Lib.hid rfl
      have hlt2 := bsum_lt (fun x => (x == p)) b k
      have HO := Lib.hid (or_bitw (bsum (fun x => (x == p)) b k) k hlt2 hlt)
      have hdi : decide ((k : Int) < 64) = true := by simp; omega
      generalize b.getD k 0 = x at *
      generalize bsum (fun x => (x == p)) b k = s at *
      by_cases hx : inP x
      · by_cases hc : (x == p) = true
        · have HS : Hid (bsum (fun x => (x == p)) b (k + 1) = s + 2 ^ k) := Lib.hid (by rw [HN.out, if_pos ⟨hx, hc⟩])
          have HX := Lib.hid hc
          clear hc

          go_wp2_with (first
            | (go_at_call 49; refine (bis_t _ _ hx).mono ?_; rintro e w' ⟨rfl, rfl⟩)
            | (go_at_call 56; refine (ofc_any x p gp t _ hp1).mono ?_; rintro e w' ⟨rfl, rfl⟩; rw [HX.out]))
          go_roundg (64 - (k + 1))
          case measure => have := HK.out; omega
          case rel => exact ⟨k + 1, rfl, by omega, by go_num, by rw [HS.out, HO.out], rfl⟩
        · have hc' : ((x == p)) = false := by simpa using hc
          have HS : Hid (bsum (fun x => (x == p)) b (k + 1) = s) := Lib.hid (by rw [HN.out, if_neg (fun h => hc h.2)]; rfl)
          have HX := Lib.hid hc'
          clear hc hc'
          go_wp2_with (first
            | (go_at_call 49; refine (bis_t _ _ hx).mono ?_; rintro e w' ⟨rfl, rfl⟩)
            | (go_at_call 56; refine (ofc_any x p gp t _ hp1).mono ?_; rintro e w' ⟨rfl, rfl⟩; rw [HX.out]))
          go_roundg (64 - (k + 1))
          case measure => have := HK.out; omega
          case rel => exact ⟨k + 1, rfl, by omega, by go_num, by rw [HS.out], rfl⟩
      · have HS : Hid (bsum (fun x => (x == p)) b (k + 1) = s) := Lib.hid (by rw [HN.out, if_neg (fun h => hx h.1)]; rfl)
        go_wp2_with (go_at_call 49; refine (bis_f _ _ hx).mono ?_; rintro e w' ⟨rfl, rfl⟩)
        go_roundg (64 - (k + 1))
        case measure => have := HK.out; omega
        case rel => exact ⟨k + 1, rfl, by omega, by go_num, by rw [HS.out], rfl⟩
    · have hk64 : k = 64 := by omega
      subst hk64
      go_wp2_with fail
      go_ret
      exact ⟨rfl, hB⟩
set_option maxHeartbeats 400000 in
theorem colc_any (q p : Int) (g : Nat) (t : TypeId) (w : World) (h : Holds w g .i64 t [p]) : Calls Tryd.prog 58 #[.int .i64 q, .pointer (some ⟨g, 0, none⟩)] w fun e w' => e = .returned (.bool (isB q p)) ∧ w = w' := by
  have c := h.cell 0 (by simp)
  simp only [List.getD_cons_zero] at c
  go_enter Tryd.func58, Tryd.ntmps58
  go_wp2_with (go_at_call 59; refine (isq_any q p _).mono ?_; rintro e w' ⟨rfl, rfl⟩)
  go_ret
  exact ⟨rfl, rfl⟩
set_option maxRecDepth 100000 in
set_option maxHeartbeats 600000 in
theorem where_color (b : List Int) (hb : b.length = 64) (p : Int) (gp : Nat) (t : TypeId) (w : World) (hp : Holds w gp .i64 t [p]) :
    Calls Tryd.prog 55 #[.agg (ints b), .func (.func 58) #[] #[.pointer (some ⟨gp, 0, none⟩)]] w fun e w' => e = .returned (.int .u64 (bsum (fun x => isB x p) b 64 : Nat)) ∧ Below w.heap.size w w' := by
  have hi : (Tryd.prog.info? 24).map (·.size) = some b.length := by rw [hb]; kernel_rfl
  have hg : Holds (w.alloc (.cells (intsK .i64 b) 24)) w.heap.size .i64 24 b := Holds.new w .i64 24 b
  have hp1 : Holds (w.alloc (.cells (intsK .i64 b) 24)) gp .i64 t [p] := hp.alloc _
  have hB : Below w.heap.size w (w.alloc (.cells (intsK .i64 b) 24)) := (Below.refl _ _).alloc (Nat.le_refl _) _
  go_enter Tryd.func55, Tryd.ntmps55
  go_wp2_with (with_reducible refine wpl_load (g := w.heap.size) (k := .i64) (t := 24) (l := b) hg rfl 24 _ rfl rfl Tryd.underlying24 hi ?_)
  generalize w.alloc _ = w1 at *
  go_loopg [5, 9] 64 (fun m s i wr => ∃ k : Nat, m = 64 - k ∧ k ≤ 64 ∧ i = .int .i64 k ∧ s = .int .u64 (bsum (fun x => isB x p) b k : Nat) ∧ w1 = wr)
  case atStart => exact ⟨0, rfl, by omega, rfl, rfl, rfl⟩
  case round =>
    obtain ⟨k, hkm, hk, rfl, rfl, rfl⟩ := hrel
    have HK := Lib.hid hkm
    clear hkm
    by_cases hlt : k < 64
    · have hix : ∀ w : World, (Instr.index 24 (.agg (intsK .i64 b)) (.int .i64 k)).run Tryd.prog w = .ok (.int .i64 (b.getD k 0)) w := fun w => run_index_ints k Tryd.underlying24 Tryd.underlying3 (by kernel_rfl) hb hlt
      have HN : Hid (bsum (fun x => isB x p) b (k + 1) = bsum (fun x => isB x p) b k + if inP (b.getD k 0) ∧ ((fun x => isB x p) (b.getD k 0)) = true then 2 ^ k else 0) := Lib.hid rfl
      have hlt2 := bsum_lt (fun x => isB x p) b k
      have HO := Lib.hid (or_bitw (bsum (fun x => isB x p) b k) k hlt2 hlt)
      have hdi : decide ((k : Int) < 64) = true := by simp; omega
      generalize b.getD k 0 = x at *
      generalize bsum (fun x => isB x p) b k = s at *
      by_cases hx : inP x
      · by_cases hc : isB x p = true
        · have HS : Hid (bsum (fun x => isB x p) b (k + 1) = s + 2 ^ k) := Lib.hid (by rw [HN.out, if_pos ⟨hx, hc⟩])
          have HX := Lib.hid hc
          clear hc

          go_wp2_with (first
            | (go_at_call 49; refine (bis_t _ _ hx).mono ?_; rintro e w' ⟨rfl, rfl⟩)
            | (go_at_call 58; refine (colc_any x p gp t _ hp1).mono ?_; rintro e w' ⟨rfl, rfl⟩; rw [HX.out]))
          go_roundg (64 - (k + 1))
          case measure => have := HK.out; omega
          case rel => exact ⟨k + 1, rfl, by omega, by go_num, by rw [HS.out, HO.out], rfl⟩
        · have hc' : (isB x p) = false := by simpa using hc
          have HS : Hid (bsum (fun x => isB x p) b (k + 1) = s) := Lib.hid (by rw [HN.out, if_neg (fun h => hc h.2)]; rfl)
          have HX := Lib.hid hc'
          clear hc hc'
          go_wp2_with (first
            | (go_at_call 49; refine (bis_t _ _ hx).mono ?_; rintro e w' ⟨rfl, rfl⟩)
            | (go_at_call 58; refine (colc_any x p gp t _ hp1).mono ?_; rintro e w' ⟨rfl, rfl⟩; rw [HX.out]))
          go_roundg (64 - (k + 1))
          case measure => have := HK.out; omega
          case rel => exact ⟨k + 1, rfl, by omega, by go_num, by rw [HS.out], rfl⟩
      · have HS : Hid (bsum (fun x => isB x p) b (k + 1) = s) := Lib.hid (by rw [HN.out, if_neg (fun h => hx h.1)]; rfl)
        go_wp2_with (go_at_call 49; refine (bis_f _ _ hx).mono ?_; rintro e w' ⟨rfl, rfl⟩)
        go_roundg (64 - (k + 1))
        case measure => have := HK.out; omega
        case rel => exact ⟨k + 1, rfl, by omega, by go_num, by rw [HS.out], rfl⟩
    · have hk64 : k = 64 := by omega
      subst hk64
      go_wp2_with fail
      go_ret
      exact ⟨rfl, hB⟩
set_option maxRecDepth 100000 in
set_option maxHeartbeats 400000 in
theorem of_any' (b : List Int) (hb : b.length = 64) (p : Int) (w : World) :
    Calls Tryd.prog 24 #[.agg (ints b), .int .i64 p] w fun e w' => e = .returned (.int .u64 (bsum (fun x => x == p) b 64 : Nat)) ∧ Below w.heap.size w w' := by
  have hi : (Tryd.prog.info? 24).map (·.size) = some b.length := by rw [hb]; kernel_rfl
  have hg : Holds ((w.alloc (.cells (intsK .i64 b) 24)).alloc (.cells #[.int .i64 p] 3)) w.heap.size .i64 24 b := (Holds.new w .i64 24 b).alloc _
  have hp : Holds ((w.alloc (.cells (intsK .i64 b) 24)).alloc (.cells #[.int .i64 p] 3)) (w.heap.size + 1) .i64 3 [p] := Holds.newAt .i64 3 [p] (by simp)
  have hB : Below w.heap.size w ((w.alloc (.cells (intsK .i64 b) 24)).alloc (.cells #[.int .i64 p] 3)) := ((Below.refl _ _).alloc (Nat.le_refl _) _).alloc (by simp) _
  go_enter Tryd.func24, Tryd.ntmps24
  go_wp2_with (first
    | (with_reducible refine wpl_load (g := w.heap.size) (k := .i64) (t := 24) (l := b) hg rfl 24 _ rfl rfl Tryd.underlying24 hi ?_)
    | (go_at_call 55; refine (where_of b hb p _ 3 _ hp).mono ?_; rintro e w1 ⟨rfl, hb1⟩))
  go_ret
  exact ⟨rfl, hB.trans (hb1.mono hB.size)⟩
set_option maxRecDepth 100000 in
set_option maxHeartbeats 400000 in
theorem color_any (b : List Int) (hb : b.length = 64) (p : Int) (w : World) :
    Calls Tryd.prog 26 #[.agg (ints b), .int .i64 p] w fun e w' => e = .returned (.int .u64 (bsum (fun x => isB x p) b 64 : Nat)) ∧ Below w.heap.size w w' := by
  have hi : (Tryd.prog.info? 24).map (·.size) = some b.length := by rw [hb]; kernel_rfl
  have hg : Holds ((w.alloc (.cells (intsK .i64 b) 24)).alloc (.cells #[.int .i64 p] 3)) w.heap.size .i64 24 b := (Holds.new w .i64 24 b).alloc _
  have hp : Holds ((w.alloc (.cells (intsK .i64 b) 24)).alloc (.cells #[.int .i64 p] 3)) (w.heap.size + 1) .i64 3 [p] := Holds.newAt .i64 3 [p] (by simp)
  have hB : Below w.heap.size w ((w.alloc (.cells (intsK .i64 b) 24)).alloc (.cells #[.int .i64 p] 3)) := ((Below.refl _ _).alloc (Nat.le_refl _) _).alloc (by simp) _
  go_enter Tryd.func26, Tryd.ntmps26
  go_wp2_with (first
    | (with_reducible refine wpl_load (g := w.heap.size) (k := .i64) (t := 24) (l := b) hg rfl 24 _ rfl rfl Tryd.underlying24 hi ?_)
    | (go_at_call 55; refine (where_color b hb p _ 3 _ hp).mono ?_; rintro e w1 ⟨rfl, hb1⟩))
  go_ret
  exact ⟨rfl, hB.trans (hb1.mono hB.size)⟩
end Go.Proofs.YthbbnhhofkadgaaDoor
