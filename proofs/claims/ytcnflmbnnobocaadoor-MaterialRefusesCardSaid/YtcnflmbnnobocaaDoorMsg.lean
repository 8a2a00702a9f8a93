/- The contracts of material.Sign and of its reference: the same number of 40 bits, or the same error. No condition. -/
import Derived.Test.YtcnflmbnnobocaaDoorMck
namespace Go.Proofs.YtcnflmbnnobocaaDoor
open Go Go.RowKit

theorem or_add (s : Nat) (x n : Int) (h0 : 0 ≤ x) (hx : x < 2 ^ s) (hn : 0 ≤ n) (ht : x + n * 2 ^ s < 18446744073709551616) : bits BinOp.or IntKind.u64 x (n * 2 ^ s) = x + n * 2 ^ s := by
  obtain ⟨a, rfl⟩ := Int.eq_ofNat_of_zero_le h0
  obtain ⟨m, rfl⟩ := Int.eq_ofNat_of_zero_le hn
  have e : ((m : Int) * 2 ^ s) = ((m * 2 ^ s : Nat) : Int) := by simp
  rw [e] at ht ⊢
  have hx' : a < 2 ^ s := by exact_mod_cast hx
  rw [u64_or_nat a (m * 2 ^ s) (by omega) (by omega), Nat.or_comm, nat_join s (m * 2 ^ s) a (Nat.mul_mod_left _ _) hx']
  omega
def sgnM (a0 a1 a2 a3 a4 a5 a6 a7 a8 a9 : Int) : Int := if okM a0 a1 a2 a3 a4 a5 a6 a7 a8 a9 then a0 + a1 * 16 + a2 * 256 + a3 * 4096 + a4 * 65536 + a5 * 1048576 + a6 * 16777216 + a7 * 268435456 + a8 * 4294967296 + a9 * 68719476736 else 0
theorem sgnM_t {a0 a1 a2 a3 a4 a5 a6 a7 a8 a9 : Int} (h : okM a0 a1 a2 a3 a4 a5 a6 a7 a8 a9) : sgnM a0 a1 a2 a3 a4 a5 a6 a7 a8 a9 = a0 + a1 * 16 + a2 * 256 + a3 * 4096 + a4 * 65536 + a5 * 1048576 + a6 * 16777216 + a7 * 268435456 + a8 * 4294967296 + a9 * 68719476736 := if_pos h
theorem sgnM_f {a0 a1 a2 a3 a4 a5 a6 a7 a8 a9 : Int} (h : ¬ okM a0 a1 a2 a3 a4 a5 a6 a7 a8 a9) : sgnM a0 a1 a2 a3 a4 a5 a6 a7 a8 a9 = 0 := if_neg h
theorem ret2_u64 {a b c d : Int} (h : a = c) (h' : b = d) : Ending.returned (.tuple #[.int .u64 a, .int .i64 b]) = .returned (.tuple #[.int .u64 c, .int .i64 d]) := by rw [h, h']

set_option maxRecDepth 100000 in
set_option maxHeartbeats 4000000 in
theorem sign_any (a0 a1 a2 a3 a4 a5 a6 a7 a8 a9 : Int) (w : World) :
    Calls Tryd.prog 14 #[.agg #[.int .i64 a0, .int .i64 a1, .int .i64 a2, .int .i64 a3, .int .i64 a4, .int .i64 a5, .int .i64 a6, .int .i64 a7, .int .i64 a8, .int .i64 a9]] w fun e w' => e = .returned (.tuple #[.int .u64 (sgnM a0 a1 a2 a3 a4 a5 a6 a7 a8 a9), .int .i64 (chkE a0 a1 a2 a3 a4 a5 a6 a7 a8 a9)]) ∧ Below w.heap.size w w' := by
  by_cases h : okM a0 a1 a2 a3 a4 a5 a6 a7 a8 a9
  · have hE := chkE_t h
    have HS := Lib.hid (sgnM_t h)
    obtain ⟨h0, h0', h1, h2, h3, h4, hs, h5, h5', h6, h7, h8, h9, hs'⟩ := h
    go_enter Tryd.func14, Tryd.ntmps14
    go_wp2_with fail
    refine (check_any _ _ _ _ _ _ _ _ _ _ _).mono ?_
    rintro e w1 ⟨rfl, hb1⟩
    have hH : Holds w1 w.heap.size .i64 25 [a0, a1, a2, a3, a4, a5, a6, a7, a8, a9] := (Holds.new w .i64 25 [a0, a1, a2, a3, a4, a5, a6, a7, a8, a9]).below hb1 (by simp)
    have hb : Below w.heap.size w w1 := ((Below.refl _ _).alloc (Nat.le_refl _) _).trans (hb1.mono (by simp))
    clear hb1
    go_wp2_with (with_reducible refine wpl_load (g := w.heap.size) (k := .i64) (t := 25) (l := [a0, a1, a2, a3, a4, a5, a6, a7, a8, a9]) hH rfl 25 _ rfl rfl Tryd.underlying25 ?hi ?_)
    case hi => kernel_rfl
    have hix := fun (i : Nat) (hi : i < 10) => run_index_ints (P := Tryd.prog) (w := w1) (ty := 25) (k := .i64) (l := [a0, a1, a2, a3, a4, a5, a6, a7, a8, a9]) i Tryd.underlying25 Tryd.underlying3 (by kernel_rfl) rfl hi
    have x0 := hix 0 (by decide)
    have x1 := hix 1 (by decide)
    have x2 := hix 2 (by decide)
    have x3 := hix 3 (by decide)
    have x4 := hix 4 (by decide)
    have x5 := hix 5 (by decide)
    have x6 := hix 6 (by decide)
    have x7 := hix 7 (by decide)
    have x8 := hix 8 (by decide)
    have x9 := hix 9 (by decide)
    simp only [List.getD_cons_zero, List.getD_cons_succ, Int.cast_ofNat_Int] at x0 x1 x2 x3 x4 x5 x6 x7 x8 x9
    clear hix hH
    have e0 : bits BinOp.or IntKind.u64 0 a0 = a0 := by have := or_add 0 0 a0 (by omega) (by omega) (by omega) (by omega); simpa using this
    have e1 : bits BinOp.or IntKind.u64 (a0) (a1 * 16) = a0 + a1 * 16 := or_add 4 _ a1 (by omega) (by omega) (by omega) (by omega)
    have e2 : bits BinOp.or IntKind.u64 (a0 + a1 * 16) (a2 * 256) = a0 + a1 * 16 + a2 * 256 := or_add 8 _ a2 (by omega) (by omega) (by omega) (by omega)
    have e3 : bits BinOp.or IntKind.u64 (a0 + a1 * 16 + a2 * 256) (a3 * 4096) = a0 + a1 * 16 + a2 * 256 + a3 * 4096 := or_add 12 _ a3 (by omega) (by omega) (by omega) (by omega)
    have e4 : bits BinOp.or IntKind.u64 (a0 + a1 * 16 + a2 * 256 + a3 * 4096) (a4 * 65536) = a0 + a1 * 16 + a2 * 256 + a3 * 4096 + a4 * 65536 := or_add 16 _ a4 (by omega) (by omega) (by omega) (by omega)
    have e5 : bits BinOp.or IntKind.u64 (a0 + a1 * 16 + a2 * 256 + a3 * 4096 + a4 * 65536) (a5 * 1048576) = a0 + a1 * 16 + a2 * 256 + a3 * 4096 + a4 * 65536 + a5 * 1048576 := or_add 20 _ a5 (by omega) (by omega) (by omega) (by omega)
    have e6 : bits BinOp.or IntKind.u64 (a0 + a1 * 16 + a2 * 256 + a3 * 4096 + a4 * 65536 + a5 * 1048576) (a6 * 16777216) = a0 + a1 * 16 + a2 * 256 + a3 * 4096 + a4 * 65536 + a5 * 1048576 + a6 * 16777216 := or_add 24 _ a6 (by omega) (by omega) (by omega) (by omega)
    have e7 : bits BinOp.or IntKind.u64 (a0 + a1 * 16 + a2 * 256 + a3 * 4096 + a4 * 65536 + a5 * 1048576 + a6 * 16777216) (a7 * 268435456) = a0 + a1 * 16 + a2 * 256 + a3 * 4096 + a4 * 65536 + a5 * 1048576 + a6 * 16777216 + a7 * 268435456 := or_add 28 _ a7 (by omega) (by omega) (by omega) (by omega)
    have e8 : bits BinOp.or IntKind.u64 (a0 + a1 * 16 + a2 * 256 + a3 * 4096 + a4 * 65536 + a5 * 1048576 + a6 * 16777216 + a7 * 268435456) (a8 * 4294967296) = a0 + a1 * 16 + a2 * 256 + a3 * 4096 + a4 * 65536 + a5 * 1048576 + a6 * 16777216 + a7 * 268435456 + a8 * 4294967296 := or_add 32 _ a8 (by omega) (by omega) (by omega) (by omega)
    have e9 : bits BinOp.or IntKind.u64 (a0 + a1 * 16 + a2 * 256 + a3 * 4096 + a4 * 65536 + a5 * 1048576 + a6 * 16777216 + a7 * 268435456 + a8 * 4294967296) (a9 * 68719476736) = a0 + a1 * 16 + a2 * 256 + a3 * 4096 + a4 * 65536 + a5 * 1048576 + a6 * 16777216 + a7 * 268435456 + a8 * 4294967296 + a9 * 68719476736 := or_add 36 _ a9 (by omega) (by omega) (by omega) (by omega)
    refine wp_loop_rounds 11 ?_
    rw [rounds_succ]
    go_wp2_with fail
    rw [rounds_succ]
    go_wp2_with fail
    rw [rounds_succ]
    go_wp2_with fail
    rw [rounds_succ]
    go_wp2_with fail
    rw [rounds_succ]
    go_wp2_with fail
    rw [rounds_succ]
    go_wp2_with fail
    rw [rounds_succ]
    go_wp2_with fail
    rw [rounds_succ]
    go_wp2_with fail
    rw [rounds_succ]
    go_wp2_with fail
    rw [rounds_succ]
    go_wp2_with fail
    rw [rounds_succ]
    go_wp2_with fail
    go_ret2
    exact ⟨ret2_u64 HS.out.symm hE.symm, hb⟩
  · have hE := chkE_f h
    have HS := Lib.hid (sgnM_f h)
    go_enter Tryd.func14, Tryd.ntmps14
    go_wp2_with fail
    refine (check_any _ _ _ _ _ _ _ _ _ _ _).mono ?_
    rintro e w1 ⟨rfl, hb1⟩
    go_wp2_with fail
    go_ret2
    exact ⟨ret2_u64 HS.out.symm hE.symm, ((Below.refl _ _).alloc (Nat.le_refl _) _).trans (hb1.mono (by simp))⟩
set_option maxRecDepth 100000 in
set_option maxHeartbeats 4000000 in
theorem sign_ref (a0 a1 a2 a3 a4 a5 a6 a7 a8 a9 : Int) (w : World) :
    Calls Tryd.prog 15 #[.agg #[.int .i64 a0, .int .i64 a1, .int .i64 a2, .int .i64 a3, .int .i64 a4, .int .i64 a5, .int .i64 a6, .int .i64 a7, .int .i64 a8, .int .i64 a9]] w fun e w' => e = .returned (.tuple #[.int .u64 (sgnM a0 a1 a2 a3 a4 a5 a6 a7 a8 a9), .int .i64 (chkE a0 a1 a2 a3 a4 a5 a6 a7 a8 a9)]) ∧ Below w.heap.size w w' := by
  by_cases h : okM a0 a1 a2 a3 a4 a5 a6 a7 a8 a9
  · have hE := chkE_t h
    have HS := Lib.hid (sgnM_t h)
    obtain ⟨h0, h0', h1, h2, h3, h4, hs, h5, h5', h6, h7, h8, h9, hs'⟩ := h
    go_enter Tryd.func15, Tryd.ntmps15
    go_wp2_with fail
    refine (check_ref _ _ _ _ _ _ _ _ _ _ _).mono ?_
    rintro e w1 ⟨rfl, hb1⟩
    have hH : Holds w1 w.heap.size .i64 28 [a0, a1, a2, a3, a4, a5, a6, a7, a8, a9] := (Holds.new w .i64 28 [a0, a1, a2, a3, a4, a5, a6, a7, a8, a9]).below hb1 (by simp)
    have hb : Below w.heap.size w w1 := ((Below.refl _ _).alloc (Nat.le_refl _) _).trans (hb1.mono (by simp))
    clear hb1
    have c0 : w1.cell? ⟨w.heap.size, 0, none⟩ = some (.int .i64 a0) := hH.cell 0 (by simp)
    have c1 : w1.cell? ⟨w.heap.size, 1, none⟩ = some (.int .i64 a1) := hH.cell 1 (by simp)
    have c2 : w1.cell? ⟨w.heap.size, 2, none⟩ = some (.int .i64 a2) := hH.cell 2 (by simp)
    have c3 : w1.cell? ⟨w.heap.size, 3, none⟩ = some (.int .i64 a3) := hH.cell 3 (by simp)
    have c4 : w1.cell? ⟨w.heap.size, 4, none⟩ = some (.int .i64 a4) := hH.cell 4 (by simp)
    have c5 : w1.cell? ⟨w.heap.size, 5, none⟩ = some (.int .i64 a5) := hH.cell 5 (by simp)
    have c6 : w1.cell? ⟨w.heap.size, 6, none⟩ = some (.int .i64 a6) := hH.cell 6 (by simp)
    have c7 : w1.cell? ⟨w.heap.size, 7, none⟩ = some (.int .i64 a7) := hH.cell 7 (by simp)
    have c8 : w1.cell? ⟨w.heap.size, 8, none⟩ = some (.int .i64 a8) := hH.cell 8 (by simp)
    have c9 : w1.cell? ⟨w.heap.size, 9, none⟩ = some (.int .i64 a9) := hH.cell 9 (by simp)
    clear hH
    go_wp2_with fail
    refine wp_loop_rounds 11 ?_
    rw [rounds_succ]
    go_wp2_with fail
    rw [rounds_succ]
    go_wp2_with fail
    rw [rounds_succ]
    go_wp2_with fail
    rw [rounds_succ]
    go_wp2_with fail
    rw [rounds_succ]
    go_wp2_with fail
    rw [rounds_succ]
    go_wp2_with fail
    rw [rounds_succ]
    go_wp2_with fail
    rw [rounds_succ]
    go_wp2_with fail
    rw [rounds_succ]
    go_wp2_with fail
    rw [rounds_succ]
    go_wp2_with fail
    rw [rounds_succ]
    go_wp2_with fail
    go_ret2
    exact ⟨ret2_u64 (by rw [HS.out]; omega) hE.symm, hb⟩
  · have hE := chkE_f h
    have HS := Lib.hid (sgnM_f h)
    go_enter Tryd.func15, Tryd.ntmps15
    go_wp2_with fail
    refine (check_ref _ _ _ _ _ _ _ _ _ _ _).mono ?_
    rintro e w1 ⟨rfl, hb1⟩
    go_wp2_with fail
    go_ret2
    exact ⟨ret2_u64 HS.out.symm hE.symm, ((Below.refl _ _).alloc (Nat.le_refl _) _).trans (hb1.mono (by simp))⟩
end Go.Proofs.YtcnflmbnnobocaaDoor
