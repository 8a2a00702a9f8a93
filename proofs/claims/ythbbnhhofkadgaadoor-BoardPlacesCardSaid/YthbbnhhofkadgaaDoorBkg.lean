/- The contracts of math/bits.OnesCount64, of Set.Len, and of board.King. Conditions: the table deBruijn64tab lies as the library lays it (King). -/
import Derived.Test.YthbbnhhofkadgaaDoorBlo
namespace Go.Proofs.YthbbnhhofkadgaaDoor
open Go Go.RowKit
def n1 (x : Nat) : Nat := ((x / 2) &&& 6148914691236517205) + (x &&& 6148914691236517205)
def n2 (x : Nat) : Nat := ((x / 4) &&& 3689348814741910323) + (x &&& 3689348814741910323)
def n3 (x : Nat) : Nat := ((x / 16 + x) % 18446744073709551616) &&& 1085102592571150095
def n4 (x : Nat) : Nat := x + x / 256
def n5 (x : Nat) : Nat := x + x / 65536
def n6 (x : Nat) : Nat := x + x / 4294967296
/-- How many bits are set. -/
def ocN (x : Nat) : Nat := n6 (n5 (n4 (n3 (n2 (n1 x))))) % 128
theorem n1_lt (x : Nat) : n1 x ≤ 12297829382473034410 := by
  have h1 := Nat.and_le_right (n := x / 2) (m := 6148914691236517205)
  have h2 := Nat.and_le_right (n := x) (m := 6148914691236517205)
  unfold n1; omega
theorem n2_lt (x : Nat) : n2 x ≤ 7378697629483820646 := by
  have h1 := Nat.and_le_right (n := x / 4) (m := 3689348814741910323)
  have h2 := Nat.and_le_right (n := x) (m := 3689348814741910323)
  unfold n2; omega
theorem n3_lt (x : Nat) : n3 x ≤ 1085102592571150095 := Nat.and_le_right
theorem wrapN (x : Nat) (h : x < 18446744073709551616) : IntKind.u64.wrap (x : Int) = x := by
  rw [IntKind.wrap_u64]; omega
theorem i64_and127 (x : Nat) (h : x < 9223372036854775808) : bits BinOp.and IntKind.i64 (x : Int) 127 = ((x % 128 : Nat) : Int) := by
  have e : (127 : Int) = ((127 : Nat) : Int) := rfl
  rw [e]
  have h1 : x &&& 127 = x % 128 := Nat.and_two_pow_sub_one_eq_mod x 7
  show IntKind.i64.wrap ((BitVec.ofInt 64 (x : Int) &&& BitVec.ofInt 64 ((127 : Nat) : Int)).toNat : Int) = _
  rw [BitVec.toNat_and, ofInt_u64 x (by omega), ofInt_u64 127 (by omega), h1, wrap_small _ (by omega) (by omega)]
set_option maxHeartbeats 400000 in
theorem ones_any (x : Nat) (hx : x < 18446744073709551616) (w : World) : Calls Tryd.prog 60 #[.int .u64 x] w fun e w' => e = .returned (.int .i64 (ocN x : Nat)) ∧ w = w' := by
  have b1 := n1_lt x
  have b2 := n2_lt (n1 x)
  have b3 := n3_lt (n2 (n1 x))
  obtain ⟨y1, h1⟩ : ∃ y, y = n1 x := ⟨_, rfl⟩
  obtain ⟨y2, h2⟩ : ∃ y, y = n2 y1 := ⟨_, rfl⟩
  obtain ⟨y3, h3⟩ : ∃ y, y = n3 y2 := ⟨_, rfl⟩
  obtain ⟨y4, h4⟩ : ∃ y, y = n4 y3 := ⟨_, rfl⟩
  obtain ⟨y5, h5⟩ : ∃ y, y = n5 y4 := ⟨_, rfl⟩
  obtain ⟨y6, h6⟩ : ∃ y, y = n6 y5 := ⟨_, rfl⟩
  rw [← h1] at b1 b2 b3
  rw [← h2] at b2 b3
  rw [← h3] at b3
  have b6 : y6 < 9223372036854775808 := by rw [h6, h5, h4]; unfold n6 n5 n4; omega
  have e1 : IntKind.u64.wrap (bits BinOp.and IntKind.u64 ((x : Int) / 2) 6148914691236517205 + bits BinOp.and IntKind.u64 (x : Int) 6148914691236517205) = (y1 : Int) := by
    have p : ((x : Int) / 2) = ((x / 2 : Nat) : Int) := by omega
    have q : (6148914691236517205 : Int) = ((6148914691236517205 : Nat) : Int) := rfl
    rw [p, q, u64_and_nat _ _ (by omega) (by omega), u64_and_nat _ _ (by omega) (by omega), ← Int.natCast_add]
    rw [show (x / 2 &&& 6148914691236517205) + (x &&& 6148914691236517205) = y1 from h1.symm]
    exact wrapN _ (by omega)
  have e2 : IntKind.u64.wrap (bits BinOp.and IntKind.u64 ((y1 : Int) / 4) 3689348814741910323 + bits BinOp.and IntKind.u64 (y1 : Int) 3689348814741910323) = (y2 : Int) := by
    have p : ((y1 : Int) / 4) = ((y1 / 4 : Nat) : Int) := by omega
    have q : (3689348814741910323 : Int) = ((3689348814741910323 : Nat) : Int) := rfl
    rw [p, q, u64_and_nat _ _ (by omega) (by omega), u64_and_nat _ _ (by omega) (by omega), ← Int.natCast_add]
    rw [show (y1 / 4 &&& 3689348814741910323) + (y1 &&& 3689348814741910323) = y2 from h2.symm]
    exact wrapN _ (by omega)
  have e3 : bits BinOp.and IntKind.u64 (IntKind.u64.wrap ((y2 : Int) / 16 + (y2 : Int))) 1085102592571150095 = (y3 : Int) := by
    have p : ((y2 : Int) / 16 + (y2 : Int)) = ((y2 / 16 + y2 : Nat) : Int) := by omega
    have q : (1085102592571150095 : Int) = ((1085102592571150095 : Nat) : Int) := rfl
    rw [p, q, wrapN _ (by omega), u64_and_nat _ _ (by omega) (by omega)]
    rw [h3]; unfold n3; rw [Nat.mod_eq_of_lt (by omega)]
  have e4 : IntKind.u64.wrap ((y3 : Int) + (y3 : Int) / 256) = (y4 : Int) := by
    rw [show ((y3 : Int) + (y3 : Int) / 256) = (y4 : Int) by rw [h4]; unfold n4; omega]
    exact wrapN _ (by rw [h4]; unfold n4; omega)
  have e5 : IntKind.u64.wrap ((y4 : Int) + (y4 : Int) / 65536) = (y5 : Int) := by
    rw [show ((y4 : Int) + (y4 : Int) / 65536) = (y5 : Int) by rw [h5]; unfold n5; omega]
    exact wrapN _ (by rw [h5, h4]; unfold n5 n4; omega)
  have e6 : IntKind.u64.wrap ((y5 : Int) + (y5 : Int) / 4294967296) = (y6 : Int) := by
    rw [show ((y5 : Int) + (y5 : Int) / 4294967296) = (y6 : Int) by rw [h6]; unfold n6; omega]
    exact wrapN _ (by rw [h6, h5, h4]; unfold n6 n5 n4; omega)
  have HO : Hid (ocN x = y6 % 128) := Lib.hid (by unfold ocN; rw [h6, h5, h4, h3, h2, h1])
  have e7 := i64_and127 y6 b6
  clear h1 h2 h3 h4 h5 h6 b1 b2 b3 hx
  go_enter Tryd.func60, Tryd.ntmps60
  go_wp2
  go_ret
  exact ⟨by rw [HO.out, Int.natCast_emod]; rfl, rfl⟩
set_option maxHeartbeats 400000 in
theorem len_any (x : Nat) (hx : x < 18446744073709551616) (w : World) : Calls Tryd.prog 30 #[.int .u64 x] w fun e w' => e = .returned (.int .i64 (ocN x : Nat)) ∧ w = w' := by
  have HC := Lib.hid (ones_any x hx w)
  generalize ocN x = r at *
  go_enter Tryd.func30, Tryd.ntmps30
  go_wp2_with (go_at_call 60; refine HC.out.mono ?_; rintro e w' ⟨rfl, rfl⟩)
  go_ret
  exact ⟨rfl, rfl⟩
/-- The squares of the king of a color. -/
def kgS (b : List Int) (c : Int) : Nat := bsum (fun x => x == ofV c 6) b 64
def kgB (b : List Int) (c : Int) : Bool := decide ((c = 0 ∨ c = 1) ∧ ocN (kgS b c) = 1)
def kgV (b : List Int) (c : Int) : Int := if (c = 0 ∨ c = 1) ∧ ocN (kgS b c) = 1 then lowV (kgS b c) else 0
theorem kg_t {b : List Int} {c : Int} (h : (c = 0 ∨ c = 1) ∧ ocN (kgS b c) = 1) : kgV b c = lowV (kgS b c) ∧ kgB b c = true := ⟨if_pos h, decide_eq_true h⟩
theorem kg_f {b : List Int} {c : Int} (h : ¬ ((c = 0 ∨ c = 1) ∧ ocN (kgS b c) = 1)) : kgV b c = 0 ∧ kgB b c = false := ⟨if_neg h, decide_eq_false h⟩
theorem ofE_t {c : Int} (h : c = 0 ∨ c = 1) : ofE c 6 = 0 := if_pos ⟨h, by decide, by decide⟩
theorem ofE_f {c : Int} (h : ¬ (c = 0 ∨ c = 1)) : ofE c 6 = 3 := if_neg (fun k => h k.1)
theorem ret2_ib {v v' : Int} {b b' : Bool} (hv : v = v') (hb : b = b') : Ending.returned (.tuple #[.int .i64 v, .bool b]) = .returned (.tuple #[.int .i64 v', .bool b']) := by rw [hv, hb]
set_option maxHeartbeats 600000 in
theorem king_any (b : List Int) (hb : b.length = 64) (c : Int) (w : World) (hT : Tab64 w) :
    Calls Tryd.prog 21 #[.agg (ints b), .int .i64 c] w fun e w' => e = .returned (.tuple #[.int .i64 (kgV b c), .bool (kgB b c)]) ∧ Below w.heap.size w w' := by
  have hi : (Tryd.prog.info? 24).map (·.size) = some b.length := by rw [hb]; kernel_rfl
  have hg : Holds (w.alloc (.cells (intsK .i64 b) 24)) w.heap.size .i64 24 b := Holds.new w .i64 24 b
  have hB : Below w.heap.size w (w.alloc (.cells (intsK .i64 b) 24)) := (Below.refl _ _).alloc (Nat.le_refl _) _
  have hT1 := hT.below hB hT.1
  have hlt : kgS b c < 18446744073709551616 := bsum_lt _ b 64
  have HNZ : Hid (ocN (kgS b c) = 1 → kgS b c ≠ 0) := Lib.hid (fun h e => by rw [e] at h; exact absurd h (by decide))
  have HE1 := Lib.hid (@ofE_t c)
  have HE2 := Lib.hid (@ofE_f c)
  have HOA := Lib.hid (fun W => of_any c 6 W)
  have HL := Lib.hid (fun W => len_any (kgS b c) hlt W)
  have HLO := Lib.hid (fun W hW => low_any (kgS b c) hlt W hW)
  have HKT := Lib.hid (@kg_t b c)
  have HKF := Lib.hid (@kg_f b c)
  have HOF : Hid (∀ W : World, Calls Tryd.prog 24 #[.agg (ints b), .int .i64 (ofV c 6)] W fun e w' => e = .returned (.int .u64 (kgS b c : Nat)) ∧ Below W.heap.size W w') := Lib.hid (fun W => of_any' b hb (ofV c 6) W)
  generalize kgS b c = s at *
  generalize ofV c 6 = kp at *
  generalize hv : kgV b c = kv at *
  generalize hkb : kgB b c = kb at *
  generalize ocN s = n at *
  clear hT hv hkb hb
  by_cases hc : c = 0 ∨ c = 1
  · rw [HE1.out hc] at HOA
    clear HE1 HE2
    by_cases hn : n = 1
    · obtain ⟨rfl, rfl⟩ := HKT.out ⟨hc, hn⟩
      have HS : Hid ((!decide (s = 0)) = true) := Lib.hid (by simpa using HNZ.out hn)
      subst hn
      clear HKF HKT HNZ
      go_enter Tryd.func21, Tryd.ntmps21
      go_wp2_with (first
        | (with_reducible refine wpl_load (g := w.heap.size) (k := .i64) (t := 24) (l := b) hg rfl 24 _ rfl rfl Tryd.underlying24 hi ?_)
        | (go_at_call 51; refine (HOA.out _).mono ?_; rintro e w' ⟨rfl, rfl⟩)
        | (go_at_call 24; refine (HOF.out _).mono ?_; rintro e w2 ⟨rfl, hb2⟩; have hT2 := hT1.below hb2 (by simp); have hB2 := hB.trans (hb2.mono hB.size))
        | (go_at_call 30; refine (HL.out _).mono ?_; rintro e w' ⟨rfl, rfl⟩)
        | (go_at_call 52; refine (HLO.out _ hT2).mono ?_; rintro e w3 ⟨rfl, hb3⟩))
      go_ret2
      exact ⟨ret2_ib rfl HS.out, hB2.trans (hb3.mono hB2.size)⟩
    · obtain ⟨rfl, rfl⟩ := HKF.out (fun h => hn h.2)
      have hn1 : ((n : Int) != 1) = true := by rw [bne_iff_ne]; omega
      clear HKF HKT HNZ hn
      go_enter Tryd.func21, Tryd.ntmps21
      go_wp2_with (first
        | (with_reducible refine wpl_load (g := w.heap.size) (k := .i64) (t := 24) (l := b) hg rfl 24 _ rfl rfl Tryd.underlying24 hi ?_)
        | (go_at_call 51; refine (HOA.out _).mono ?_; rintro e w' ⟨rfl, rfl⟩)
        | (go_at_call 24; refine (HOF.out _).mono ?_; rintro e w2 ⟨rfl, hb2⟩; have hT2 := hT1.below hb2 (by simp); have hB2 := hB.trans (hb2.mono hB.size))
        | (go_at_call 30; refine (HL.out _).mono ?_; rintro e w' ⟨rfl, rfl⟩)
        | (go_at_call 52; refine (HLO.out _ hT2).mono ?_; rintro e w3 ⟨rfl, hb3⟩))
      go_ret2
      exact ⟨rfl, hB2⟩
  · rw [HE2.out hc] at HOA
    obtain ⟨rfl, rfl⟩ := HKF.out (fun h => hc h.1)
    clear HE1 HE2 HKF HKT HNZ hc
    go_enter Tryd.func21, Tryd.ntmps21
    go_wp2_with (first
      | (with_reducible refine wpl_load (g := w.heap.size) (k := .i64) (t := 24) (l := b) hg rfl 24 _ rfl rfl Tryd.underlying24 hi ?_)
      | (go_at_call 51; refine (HOA.out _).mono ?_; rintro e w' ⟨rfl, rfl⟩)
      | (go_at_call 24; refine (HOF.out _).mono ?_; rintro e w2 ⟨rfl, hb2⟩; have hT2 := hT1.below hb2 (by simp); have hB2 := hB.trans (hb2.mono hB.size))
      | (go_at_call 30; refine (HL.out _).mono ?_; rintro e w' ⟨rfl, rfl⟩)
      | (go_at_call 52; refine (HLO.out _ hT2).mono ?_; rintro e w3 ⟨rfl, hb3⟩))
    go_ret2
    exact ⟨rfl, hB2⟩
end Go.Proofs.YthbbnhhofkadgaaDoor
