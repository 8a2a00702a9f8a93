/- The contracts of material.Parse and of its reference: the same material, or the same error. No condition. -/
import Derived.Test.YtcnflmbnnobocaaDoorMsg
namespace Go.Proofs.YtcnflmbnnobocaaDoor
open Go Go.RowKit

theorem and15 (x : Int) (h0 : 0 ≤ x) (h1 : x < 18446744073709551616) : bits BinOp.and IntKind.u64 x 15 = x % 16 := by
  obtain ⟨n, rfl⟩ := Int.eq_ofNat_of_zero_le h0
  rw [show (15 : Int) = ((15 : Nat) : Int) from rfl, u64_and_nat n 15 (by omega) (by omega), show (15 : Nat) = 2 ^ 4 - 1 from rfl, Nat.and_two_pow_sub_one_eq_mod]
  omega
def digL (s : Int) : List Int := [s % 16, s / 16 % 16, s / 256 % 16, s / 4096 % 16, s / 65536 % 16, s / 1048576 % 16, s / 16777216 % 16, s / 268435456 % 16, s / 4294967296 % 16, s / 68719476736 % 16]
def prsOk (s : Int) : Prop := s < 1099511627776 ∧ okM (s % 16) (s / 16 % 16) (s / 256 % 16) (s / 4096 % 16) (s / 65536 % 16) (s / 1048576 % 16) (s / 16777216 % 16) (s / 268435456 % 16) (s / 4294967296 % 16) (s / 68719476736 % 16)
instance (s : Int) : Decidable (prsOk s) := by unfold prsOk; infer_instance
def zero10p : List Int := [0, 0, 0, 0, 0, 0, 0, 0, 0, 0]
def prsV (s : Int) : List Int := if prsOk s then digL s else zero10p
def prsE (s : Int) : Int := if prsOk s then 0 else 8
theorem prsV_t {s : Int} (h : prsOk s) : prsV s = digL s := if_pos h
theorem prsV_f {s : Int} (h : ¬ prsOk s) : prsV s = zero10p := if_neg h
theorem prsE_t {s : Int} (h : prsOk s) : prsE s = 0 := if_pos h
theorem prsE_f {s : Int} (h : ¬ prsOk s) : prsE s = 8 := if_neg h
theorem sum_lt {s : Int} (h0 : 0 ≤ s) (h : s < 1099511627776) : s % 16 + s / 16 % 16 * 16 + s / 256 % 16 * 256 + s / 4096 % 16 * 4096 + s / 65536 % 16 * 65536 + s / 1048576 % 16 * 1048576 + s / 16777216 % 16 * 16777216 + s / 268435456 % 16 * 268435456 + s / 4294967296 % 16 * 4294967296 + s / 68719476736 % 16 * 68719476736 = s := by omega
theorem sum_ge {s : Int} (h : 1099511627776 ≤ s) : s % 16 + s / 16 % 16 * 16 + s / 256 % 16 * 256 + s / 4096 % 16 * 4096 + s / 65536 % 16 * 65536 + s / 1048576 % 16 * 1048576 + s / 16777216 % 16 * 16777216 + s / 268435456 % 16 * 268435456 + s / 4294967296 % 16 * 4294967296 + s / 68719476736 % 16 * 68719476736 ≠ s := by omega

set_option maxRecDepth 100000 in
set_option maxHeartbeats 4000000 in
theorem parse_any (s : Int) (w : World) (h0 : 0 ≤ s) (h1 : s ≤ 18446744073709551615) :
    Calls Tryd.prog 20 #[.int .u64 s] w fun e w' => e = .returned (.tuple #[.agg (ints (prsV s)), .int .i64 (prsE s)]) ∧ Below w.heap.size w w' := by
  have HL0 : Hid (digL s = [s % 16, s / 16 % 16, s / 256 % 16, s / 4096 % 16, s / 65536 % 16, s / 1048576 % 16, s / 16777216 % 16, s / 268435456 % 16, s / 4294967296 % 16, s / 68719476736 % 16]) := rfl
  go_enter Tryd.func20, Tryd.ntmps20
  have HC : Hid (okM (s % 16) (s / 16 % 16) (s / 256 % 16) (s / 4096 % 16) (s / 65536 % 16) (s / 1048576 % 16) (s / 16777216 % 16) (s / 268435456 % 16) (s / 4294967296 % 16) (s / 68719476736 % 16) ∧ s < 1099511627776 ∨ okM (s % 16) (s / 16 % 16) (s / 256 % 16) (s / 4096 % 16) (s / 65536 % 16) (s / 1048576 % 16) (s / 16777216 % 16) (s / 268435456 % 16) (s / 4294967296 % 16) (s / 68719476736 % 16) ∧ ¬ s < 1099511627776 ∨ ¬ okM (s % 16) (s / 16 % 16) (s / 256 % 16) (s / 4096 % 16) (s / 65536 % 16) (s / 1048576 % 16) (s / 16777216 % 16) (s / 268435456 % 16) (s / 4294967296 % 16) (s / 68719476736 % 16)) := by
    show _ ∨ _
    by_cases hk : okM (s % 16) (s / 16 % 16) (s / 256 % 16) (s / 4096 % 16) (s / 65536 % 16) (s / 1048576 % 16) (s / 16777216 % 16) (s / 268435456 % 16) (s / 4294967296 % 16) (s / 68719476736 % 16)
    · by_cases hs : s < 1099511627776
      · exact .inl ⟨hk, hs⟩
      · exact .inr (.inl ⟨hk, hs⟩)
    · exact .inr (.inr hk)
  have e0 : bits BinOp.and IntKind.u64 s 15 = s % 16 := and15 s (by omega) (by omega)
  have e1 : bits BinOp.and IntKind.u64 (s / 16) 15 = s / 16 % 16 := and15 _ (by omega) (by omega)
  have e2 : bits BinOp.and IntKind.u64 (s / 256) 15 = s / 256 % 16 := and15 _ (by omega) (by omega)
  have e3 : bits BinOp.and IntKind.u64 (s / 4096) 15 = s / 4096 % 16 := and15 _ (by omega) (by omega)
  have e4 : bits BinOp.and IntKind.u64 (s / 65536) 15 = s / 65536 % 16 := and15 _ (by omega) (by omega)
  have e5 : bits BinOp.and IntKind.u64 (s / 1048576) 15 = s / 1048576 % 16 := and15 _ (by omega) (by omega)
  have e6 : bits BinOp.and IntKind.u64 (s / 16777216) 15 = s / 16777216 % 16 := and15 _ (by omega) (by omega)
  have e7 : bits BinOp.and IntKind.u64 (s / 268435456) 15 = s / 268435456 % 16 := and15 _ (by omega) (by omega)
  have e8 : bits BinOp.and IntKind.u64 (s / 4294967296) 15 = s / 4294967296 % 16 := and15 _ (by omega) (by omega)
  have e9 : bits BinOp.and IntKind.u64 (s / 68719476736) 15 = s / 68719476736 % 16 := and15 _ (by omega) (by omega)
  go_wp2_with fail
  refine wp_loop_rounds 11 ?_
  rw [rounds_succ]
  go_wp2_with fail
  rw [rounds_succ]
  go_wp2_with fail
  rw [rounds_succ]
  go_wp2_with fail
  rw [rounds_succ]
  go_wp2_with fail
  rw [rounds_succ]
  go_wp2_with fail
  rw [rounds_succ]
  go_wp2_with fail
  rw [rounds_succ]
  go_wp2_with fail
  rw [rounds_succ]
  go_wp2_with fail
  rw [rounds_succ]
  go_wp2_with fail
  rw [rounds_succ]
  go_wp2_with fail
  rw [rounds_succ]
  go_wp2_with fail
  clear e0 e1 e2 e3 e4 e5 e6 e7 e8 e9
  refine (sign_any _ _ _ _ _ _ _ _ _ _ _).mono ?_
  rintro e w1 ⟨rfl, hb1⟩
  have hb : Below w.heap.size w w1 := (((Below.refl _ _).alloc (Nat.le_refl _) _).alloc (by simp) _).trans (hb1.mono (by simp; omega))
  have hH0 : Holds w1 w.heap.size .i64 25 zero10p := ((Holds.new w .i64 25 zero10p).alloc _).below hb1 (by simp; omega)
  have hH1 : Holds w1 (w.heap.size + 1) .i64 25 [s % 16, s / 16 % 16, s / 256 % 16, s / 4096 % 16, s / 65536 % 16, s / 1048576 % 16, s / 16777216 % 16, s / 268435456 % 16, s / 4294967296 % 16, s / 68719476736 % 16] := (Holds.newAt .i64 25 [s % 16, s / 16 % 16, s / 256 % 16, s / 4096 % 16, s / 65536 % 16, s / 1048576 % 16, s / 16777216 % 16, s / 268435456 % 16, s / 4294967296 % 16, s / 68719476736 % 16] (by simp)).below hb1 (by simp)
  clear hb1
  rcases HC.out with ⟨hk, hs⟩ | ⟨hk, hs⟩ | hk
  · have g1 := chkE_t hk
    have g2 : sgnM (s % 16) (s / 16 % 16) (s / 256 % 16) (s / 4096 % 16) (s / 65536 % 16) (s / 1048576 % 16) (s / 16777216 % 16) (s / 268435456 % 16) (s / 4294967296 % 16) (s / 68719476736 % 16) = s := (sgnM_t hk).trans (sum_lt h0 hs)
    have HV := Lib.hid (prsV_t ⟨hs, hk⟩)
    have HE := Lib.hid (prsE_t ⟨hs, hk⟩)
    clear HC hk hs
    go_wp2_with (first
      | (with_reducible refine wpl_load (g := w.heap.size + 1) (k := .i64) (t := 25) (l := [s % 16, s / 16 % 16, s / 256 % 16, s / 4096 % 16, s / 65536 % 16, s / 1048576 % 16, s / 16777216 % 16, s / 268435456 % 16, s / 4294967296 % 16, s / 68719476736 % 16]) hH1 rfl 25 _ rfl rfl Tryd.underlying25 ?hi ?_)
      | (with_reducible refine wpl_store (g := w.heap.size) (k := .i64) (t := 25) (l := zero10p) hH0 rfl 25 _ _ rfl rfl [s % 16, s / 16 % 16, s / 256 % 16, s / 4096 % 16, s / 65536 % 16, s / 1048576 % 16, s / 16777216 % 16, s / 268435456 % 16, s / 4294967296 % 16, s / 68719476736 % 16] rfl ?hl ?hj ?_))
    case hi => kernel_rfl
    case hl => rfl
    case hj => kernel_rfl
    refine bodyPost_ret (results_row2 rfl _ _ w.heap.size (l := [s % 16, s / 16 % 16, s / 256 % 16, s / 4096 % 16, s / 65536 % 16, s / 1048576 % 16, s / 16777216 % 16, s / 268435456 % 16, s / 4294967296 % 16, s / 68719476736 % 16]) rfl (hH0.setRow _) Tryd.underlying25 rfl (by kernel_rfl)) rfl ?_
    exact ⟨by rw [HV.out, HL0.out, HE.out]; rfl, below_setRow hb (Nat.le_refl _) _⟩
  · have g1 := chkE_t hk
    have g2 : (sgnM (s % 16) (s / 16 % 16) (s / 256 % 16) (s / 4096 % 16) (s / 65536 % 16) (s / 1048576 % 16) (s / 16777216 % 16) (s / 268435456 % 16) (s / 4294967296 % 16) (s / 68719476736 % 16) == s) = false := by rw [beq_eq_false_iff_ne, sgnM_t hk]; exact sum_ge (by omega)
    have g3 : (sgnM (s % 16) (s / 16 % 16) (s / 256 % 16) (s / 4096 % 16) (s / 65536 % 16) (s / 1048576 % 16) (s / 16777216 % 16) (s / 268435456 % 16) (s / 4294967296 % 16) (s / 68719476736 % 16) != s) = true := by rw [bne_iff_ne, sgnM_t hk]; exact sum_ge (by omega)
    have HV := Lib.hid (prsV_f (fun h : prsOk s => by have := h.1; omega))
    have HE := Lib.hid (prsE_f (fun h : prsOk s => by have := h.1; omega))
    clear HC hk hs
    go_wp2_with (with_reducible refine wpl_store (g := w.heap.size) (k := .i64) (t := 25) (l := zero10p) hH0 rfl 25 _ _ rfl rfl zero10p rfl ?hl ?hj ?_)
    case hl => rfl
    case hj => kernel_rfl
    refine bodyPost_ret (results_row2 rfl _ _ w.heap.size (l := zero10p) rfl (hH0.setRow _) Tryd.underlying25 rfl (by kernel_rfl)) rfl ?_
    exact ⟨by rw [HV.out, HE.out]; rfl, below_setRow hb (Nat.le_refl _) _⟩
  · have g1 := chkE_f hk
    have HV := Lib.hid (prsV_f (fun h : prsOk s => hk h.2))
    have HE := Lib.hid (prsE_f (fun h : prsOk s => hk h.2))
    clear HC hk
    go_wp2_with (with_reducible refine wpl_store (g := w.heap.size) (k := .i64) (t := 25) (l := zero10p) hH0 rfl 25 _ _ rfl rfl zero10p rfl ?hl ?hj ?_)
    case hl => rfl
    case hj => kernel_rfl
    refine bodyPost_ret (results_row2 rfl _ _ w.heap.size (l := zero10p) rfl (hH0.setRow _) Tryd.underlying25 rfl (by kernel_rfl)) rfl ?_
    exact ⟨by rw [HV.out, HE.out]; rfl, below_setRow hb (Nat.le_refl _) _⟩

set_option maxRecDepth 100000 in
set_option maxHeartbeats 4000000 in
theorem parse_ref (s : Int) (w : World) (h0 : 0 ≤ s) (h1 : s ≤ 18446744073709551615) :
    Calls Tryd.prog 21 #[.int .u64 s] w fun e w' => e = .returned (.tuple #[.agg (ints (prsV s)), .int .i64 (prsE s)]) ∧ Below w.heap.size w w' := by
  have HL0 : Hid (digL s = [s % 16, s / 16 % 16, s / 256 % 16, s / 4096 % 16, s / 65536 % 16, s / 1048576 % 16, s / 16777216 % 16, s / 268435456 % 16, s / 4294967296 % 16, s / 68719476736 % 16]) := rfl
  go_enter Tryd.func21, Tryd.ntmps21
  have HC : Hid (okM (s % 16) (s / 16 % 16) (s / 256 % 16) (s / 4096 % 16) (s / 65536 % 16) (s / 1048576 % 16) (s / 16777216 % 16) (s / 268435456 % 16) (s / 4294967296 % 16) (s / 68719476736 % 16) ∧ s < 1099511627776 ∨ ¬ s < 1099511627776 ∨ s < 1099511627776 ∧ ¬ okM (s % 16) (s / 16 % 16) (s / 256 % 16) (s / 4096 % 16) (s / 65536 % 16) (s / 1048576 % 16) (s / 16777216 % 16) (s / 268435456 % 16) (s / 4294967296 % 16) (s / 68719476736 % 16)) := by
    show _ ∨ _
    by_cases hs : s < 1099511627776
    · by_cases hk : okM (s % 16) (s / 16 % 16) (s / 256 % 16) (s / 4096 % 16) (s / 65536 % 16) (s / 1048576 % 16) (s / 16777216 % 16) (s / 268435456 % 16) (s / 4294967296 % 16) (s / 68719476736 % 16)
      · exact .inl ⟨hk, hs⟩
      · exact .inr (.inr ⟨hs, hk⟩)
    · exact .inr (.inl hs)
  have f1 : s / 16 / 16 = s / 256 := by omega
  have f2 : s / 256 / 16 = s / 4096 := by omega
  have f3 : s / 4096 / 16 = s / 65536 := by omega
  have f4 : s / 65536 / 16 = s / 1048576 := by omega
  have f5 : s / 1048576 / 16 = s / 16777216 := by omega
  have f6 : s / 16777216 / 16 = s / 268435456 := by omega
  have f7 : s / 268435456 / 16 = s / 4294967296 := by omega
  have f8 : s / 4294967296 / 16 = s / 68719476736 := by omega
  have f9 : s / 68719476736 / 16 = s / 1099511627776 := by omega
  rcases HC.out with ⟨hk, hs⟩ | hs | ⟨hs, hk⟩
  · have gz : (s / 1099511627776 != 0) = false := by
      have : s / 1099511627776 = 0 := by omega
      rw [this]; rfl
    have g1 := chkE_t hk
    have HV := Lib.hid (prsV_t ⟨hs, hk⟩)
    have HE := Lib.hid (prsE_t ⟨hs, hk⟩)
    clear HC hk hs
    go_wp2_with fail
    refine wp_loop_rounds 11 ?_
    rw [rounds_succ]
    go_wp2_with fail
    rw [rounds_succ]
    go_wp2_with fail
    rw [rounds_succ]
    go_wp2_with fail
    rw [rounds_succ]
    go_wp2_with fail
    rw [rounds_succ]
    go_wp2_with fail
    rw [rounds_succ]
    go_wp2_with fail
    rw [rounds_succ]
    go_wp2_with fail
    rw [rounds_succ]
    go_wp2_with fail
    rw [rounds_succ]
    go_wp2_with fail
    rw [rounds_succ]
    go_wp2_with fail
    rw [rounds_succ]
    go_wp2_with fail
    refine (check_ref _ _ _ _ _ _ _ _ _ _ _).mono ?_
    rintro e w1 ⟨rfl, hb1⟩
    have hb : Below w.heap.size w w1 := (((Below.refl _ _).alloc (Nat.le_refl _) _).alloc (by simp) _).trans (hb1.mono (by simp; omega))
    have hH0 : Holds w1 w.heap.size .i64 28 zero10p := ((Holds.new w .i64 28 zero10p).alloc _).below hb1 (by simp; omega)
    have hH1 : Holds w1 (w.heap.size + 1) .i64 28 [s % 16, s / 16 % 16, s / 256 % 16, s / 4096 % 16, s / 65536 % 16, s / 1048576 % 16, s / 16777216 % 16, s / 268435456 % 16, s / 4294967296 % 16, s / 68719476736 % 16] := (Holds.newAt .i64 28 [s % 16, s / 16 % 16, s / 256 % 16, s / 4096 % 16, s / 65536 % 16, s / 1048576 % 16, s / 16777216 % 16, s / 268435456 % 16, s / 4294967296 % 16, s / 68719476736 % 16] (by simp)).below hb1 (by simp)
    clear hb1
    go_wp2_with (first
      | (with_reducible refine wpl_loadS (g := w.heap.size + 1) (k := .i64) (t := 28) (l := [s % 16, s / 16 % 16, s / 256 % 16, s / 4096 % 16, s / 65536 % 16, s / 1048576 % 16, s / 16777216 % 16, s / 268435456 % 16, s / 4294967296 % 16, s / 68719476736 % 16]) hH1 rfl 28 _ rfl rfl Tryd.underlying28 ?hi ?_)
      | (with_reducible refine wpl_store (g := w.heap.size) (k := .i64) (t := 28) (l := zero10p) hH0 rfl 28 _ _ rfl rfl [s % 16, s / 16 % 16, s / 256 % 16, s / 4096 % 16, s / 65536 % 16, s / 1048576 % 16, s / 16777216 % 16, s / 268435456 % 16, s / 4294967296 % 16, s / 68719476736 % 16] rfl ?hl ?hj ?_))
    case hi => kernel_rfl
    case hl => rfl
    case hj => kernel_rfl
    refine bodyPost_ret (results_row2 rfl _ _ w.heap.size (l := [s % 16, s / 16 % 16, s / 256 % 16, s / 4096 % 16, s / 65536 % 16, s / 1048576 % 16, s / 16777216 % 16, s / 268435456 % 16, s / 4294967296 % 16, s / 68719476736 % 16]) rfl (hH0.setRow _) Tryd.underlying28 rfl (by kernel_rfl)) rfl ?_
    exact ⟨by rw [HV.out, HL0.out, HE.out]; rfl, below_setRow hb (Nat.le_refl _) _⟩
  · have gz : (s / 1099511627776 != 0) = true := by
      rw [bne_iff_ne]; omega
    have HV := Lib.hid (prsV_f (fun h : prsOk s => by have := h.1; omega))
    have HE := Lib.hid (prsE_f (fun h : prsOk s => by have := h.1; omega))
    clear HC hs
    have hH0 : Holds ((w.alloc (.cells #[.int .i64 0, .int .i64 0, .int .i64 0, .int .i64 0, .int .i64 0, .int .i64 0, .int .i64 0, .int .i64 0, .int .i64 0, .int .i64 0] 28)).alloc (.cells #[.int .i64 (s % 16), .int .i64 (s / 16 % 16), .int .i64 (s / 256 % 16), .int .i64 (s / 4096 % 16), .int .i64 (s / 65536 % 16), .int .i64 (s / 1048576 % 16), .int .i64 (s / 16777216 % 16), .int .i64 (s / 268435456 % 16), .int .i64 (s / 4294967296 % 16), .int .i64 (s / 68719476736 % 16)] 28)) w.heap.size .i64 28 zero10p := (Holds.new w .i64 28 zero10p).alloc _
    have hb : Below w.heap.size w ((w.alloc (.cells #[.int .i64 0, .int .i64 0, .int .i64 0, .int .i64 0, .int .i64 0, .int .i64 0, .int .i64 0, .int .i64 0, .int .i64 0, .int .i64 0] 28)).alloc (.cells #[.int .i64 (s % 16), .int .i64 (s / 16 % 16), .int .i64 (s / 256 % 16), .int .i64 (s / 4096 % 16), .int .i64 (s / 65536 % 16), .int .i64 (s / 1048576 % 16), .int .i64 (s / 16777216 % 16), .int .i64 (s / 268435456 % 16), .int .i64 (s / 4294967296 % 16), .int .i64 (s / 68719476736 % 16)] 28)) := ((Below.refl _ _).alloc (Nat.le_refl _) _).alloc (by simp) _
    go_wp2_with fail
    refine wp_loop_rounds 11 ?_
    rw [rounds_succ]
    go_wp2_with fail
    rw [rounds_succ]
    go_wp2_with fail
    rw [rounds_succ]
    go_wp2_with fail
    rw [rounds_succ]
    go_wp2_with fail
    rw [rounds_succ]
    go_wp2_with fail
    rw [rounds_succ]
    go_wp2_with fail
    rw [rounds_succ]
    go_wp2_with fail
    rw [rounds_succ]
    go_wp2_with fail
    rw [rounds_succ]
    go_wp2_with fail
    rw [rounds_succ]
    go_wp2_with fail
    rw [rounds_succ]
    go_wp2_with (with_reducible refine wpl_store (g := w.heap.size) (k := .i64) (t := 28) (l := zero10p) hH0 rfl 28 _ _ rfl rfl zero10p rfl ?hl ?hj ?_)
    case hl => rfl
    case hj => kernel_rfl
    refine bodyPost_ret (results_row2 rfl _ _ w.heap.size (l := zero10p) rfl (hH0.setRow _) Tryd.underlying28 rfl (by kernel_rfl)) rfl ?_
    exact ⟨by rw [HV.out, HE.out]; rfl, below_setRow hb (Nat.le_refl _) _⟩
  · have gz : (s / 1099511627776 != 0) = false := by
      have : s / 1099511627776 = 0 := by omega
      rw [this]; rfl
    have g1 := chkE_f hk
    have HV := Lib.hid (prsV_f (fun h : prsOk s => hk h.2))
    have HE := Lib.hid (prsE_f (fun h : prsOk s => hk h.2))
    clear HC hk hs
    go_wp2_with fail
    refine wp_loop_rounds 11 ?_
    rw [rounds_succ]
    go_wp2_with fail
    rw [rounds_succ]
    go_wp2_with fail
    rw [rounds_succ]
    go_wp2_with fail
    rw [rounds_succ]
    go_wp2_with fail
    rw [rounds_succ]
    go_wp2_with fail
    rw [rounds_succ]
    go_wp2_with fail
    rw [rounds_succ]
    go_wp2_with fail
    rw [rounds_succ]
    go_wp2_with fail
    rw [rounds_succ]
    go_wp2_with fail
    rw [rounds_succ]
    go_wp2_with fail
    rw [rounds_succ]
    go_wp2_with fail
    refine (check_ref _ _ _ _ _ _ _ _ _ _ _).mono ?_
    rintro e w1 ⟨rfl, hb1⟩
    have hb : Below w.heap.size w w1 := (((Below.refl _ _).alloc (Nat.le_refl _) _).alloc (by simp) _).trans (hb1.mono (by simp; omega))
    have hH0 : Holds w1 w.heap.size .i64 28 zero10p := ((Holds.new w .i64 28 zero10p).alloc _).below hb1 (by simp; omega)
    clear hb1
    go_wp2_with (with_reducible refine wpl_store (g := w.heap.size) (k := .i64) (t := 28) (l := zero10p) hH0 rfl 28 _ _ rfl rfl zero10p rfl ?hl ?hj ?_)
    case hl => rfl
    case hj => kernel_rfl
    refine bodyPost_ret (results_row2 rfl _ _ w.heap.size (l := zero10p) rfl (hH0.setRow _) Tryd.underlying28 rfl (by kernel_rfl)) rfl ?_
    exact ⟨by rw [HV.out, HE.out]; rfl, below_setRow hb (Nat.le_refl _) _⟩

end Go.Proofs.YtcnflmbnnobocaaDoor
