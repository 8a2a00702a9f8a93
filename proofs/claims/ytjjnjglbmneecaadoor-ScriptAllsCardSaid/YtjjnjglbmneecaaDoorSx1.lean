/- The contract of the reference's function Print. Printed by sx1.py. -/
import Derived.Test.YtjjnjglbmneecaaDoorSyB
import Derived.Test.YtjjnjglbmneecaaDoorSrc
namespace Go.Proofs.YtjjnjglbmneecaaDoor
open Go Go.RowKit
theorem chk_two {k a : Int} {v : List UInt8} (h : chkZ k a v ≠ 0) : chkZ k a v = 2 := by
  unfold chkZ at h ⊢; split at h <;> simp_all
theorem bs2 (a b : List UInt8) : (⟨(a ++ b).toArray⟩ : ByteArray) = ⟨a.toArray⟩ ++ ⟨b.toArray⟩ := ByteArray.ext (Array.toList_inj.1 (by simp))
set_option maxRecDepth 100000 in
set_option maxHeartbeats 1000000 in
theorem rpr_no (k a : Int) (v : ByteArray) (w : World) (hc : chkZ k a v.data.toList = 2) :
    Calls Tryd.prog 28 #[opV k a v] w fun e w' => e = .returned (.tuple #[.string ⟨#[]⟩, .int .i64 2]) ∧ Below w.heap.size w w' := by
  have hB := Lib.hid (below_al w (.cells (opC k a v) 24))
  have HC := Lib.hid (fun W : World => rcheck_any k a v W)
  rw [hc] at HC
  unfold opV at HC ⊢
  clear hc
  go_enter Tryd.func28, Tryd.ntmps28
  go_wp2_with (go_at_call 30; refine (HC.out _).mono ?_; rintro e w' ⟨rfl, hE⟩)
  go_ret2
  exact ⟨rfl, hB.out.trans (below_le hE (by simp))⟩

set_option linter.unusedSimpArgs false in
set_option maxRecDepth 100000 in
set_option maxHeartbeats 4000000 in
theorem rpr_1 (a : Int) (v : ByteArray) (hv : v.size ≤ 900000) (w : World) (hc : chkZ 1 a v.data.toList = 0) :
    Calls Tryd.prog 28 #[opV 1 a v] w fun e w' => e = .returned (.tuple #[.string ( ⟨#[105, 110, 103, 101, 115, 116]⟩ ++ ⟨#[32]⟩ ++ ⟨(qL v.data.toList).toArray⟩), .int .i64 0]) ∧ Below w.heap.size w w' := by
  have hB := Lib.hid (below_al w (.cells (opC 1 a v) 24))
  have hR := Lib.hid (Rw.new w 24 (opC 1 a v))
  have HC := Lib.hid (fun W : World => rcheck_any 1 a v W)
  have HW := Lib.hid (fun W : World => rword_any 1 W)
  rw [hc] at HC
  rw [show wordK 1 = [105, 110, 103, 101, 115, 116] from rfl] at HW
  unfold opV at HC ⊢
  clear hc
  have hlt : w.heap.size < (w.alloc (.cells (opC 1 a v) 24)).heap.size := by simp
  have HQ := Lib.hid (fun W : World => rquote_any v (by omega) W)
  have hql : (qL v.data.toList).length ≤ 3600000 := by have := (qL_len v.data.toList).2; have := Lib.size_eq v; omega
  generalize qL v.data.toList = q at *
  go_enter Tryd.func28, Tryd.ntmps28
  go_wp2_with (first
    | (go_at_call 30; refine (HC.out _).mono ?_; rintro e w1 ⟨rfl, hE⟩; have hR1 := Lib.hid (hR.out.below hE hlt); have hB1 := Lib.hid (hB.out.trans (below_le hE (Nat.le_of_lt hlt))); obtain ⟨c0, c1, c2, f0, f1, f2⟩ := hR1.out.facts; clear hE)
    | (go_at_call 32; refine (HW.out _).mono ?_; rintro e w2 ⟨rfl, hE⟩; have hR2 := Lib.hid (hR1.out.below hE hR1.out.lt); have hB2 := Lib.hid (hB1.out.trans (below_le hE hB1.out.size)); clear c0 c1 c2 f0 f1 f2; obtain ⟨c0, c1, c2, f0, f1, f2⟩ := hR2.out.facts; clear hE)
    | (go_at_call 18; refine (HQ.out _).mono ?_; rintro e w3 ⟨rfl, hE⟩; have hB3 := Lib.hid (hB2.out.trans (below_le hE hB2.out.size)); clear hE))
  go_ret2
  exact ⟨rfl, hB3.out⟩
set_option linter.unusedSimpArgs false in
set_option maxRecDepth 100000 in
set_option maxHeartbeats 4000000 in
theorem rpr_2 (a : Int) (v : ByteArray) (w : World) (hc : chkZ 2 a v.data.toList = 0) {n : Nat} (hn : a = n) (hn1 : n ≤ 1000000) :
    Calls Tryd.prog 28 #[opV 2 a v] w fun e w' => e = .returned (.tuple #[.string ( ⟨#[103, 97, 109, 101]⟩ ++ ⟨#[32]⟩ ++ ⟨(Lib.decDigits n).toArray⟩), .int .i64 0]) ∧ Below w.heap.size w w' := by
  have hB := Lib.hid (below_al w (.cells (opC 2 a v) 24))
  have hR := Lib.hid (Rw.new w 24 (opC 2 a v))
  have HC := Lib.hid (fun W : World => rcheck_any 2 a v W)
  have HW := Lib.hid (fun W : World => rword_any 2 W)
  rw [hc] at HC
  rw [show wordK 2 = [103, 97, 109, 101] from rfl] at HW
  unfold opV at HC ⊢
  clear hc
  have hlt : w.heap.size < (w.alloc (.cells (opC 2 a v) 24)).heap.size := by simp
  subst hn
  have HD := Lib.hid (digits_any n (by omega))
  have hdl := dec_lt 6 n (by omega)
  generalize Lib.decDigits n = d at *
  go_enter Tryd.func28, Tryd.ntmps28
  go_wp2_with (first
    | (go_at_call 30; refine (HC.out _).mono ?_; rintro e w1 ⟨rfl, hE⟩; have hR1 := Lib.hid (hR.out.below hE hlt); have hB1 := Lib.hid (hB.out.trans (below_le hE (Nat.le_of_lt hlt))); obtain ⟨c0, c1, c2, f0, f1, f2⟩ := hR1.out.facts; clear hE)
    | (go_at_call 32; refine (HW.out _).mono ?_; rintro e w2 ⟨rfl, hE⟩; have hR2 := Lib.hid (hR1.out.below hE hR1.out.lt); have hB2 := Lib.hid (hB1.out.trans (below_le hE hB1.out.size)); clear c0 c1 c2 f0 f1 f2; obtain ⟨c0, c1, c2, f0, f1, f2⟩ := hR2.out.facts; clear hE)
    | (go_at_call 52; refine (HD.out _).mono ?_; rintro e w3 ⟨rfl, rfl⟩))
  go_ret2
  exact ⟨rfl, hB2.out⟩
set_option linter.unusedSimpArgs false in
set_option maxRecDepth 100000 in
set_option maxHeartbeats 4000000 in
theorem rpr_3 (a : Int) (v : ByteArray) (hv : v.size ≤ 900000) (w : World) (hc : chkZ 3 a v.data.toList = 0) :
    Calls Tryd.prog 28 #[opV 3 a v] w fun e w' => e = .returned (.tuple #[.string ( ⟨#[112, 111, 115, 105, 116, 105, 111, 110]⟩ ++ ⟨#[32]⟩ ++ ⟨(qL v.data.toList).toArray⟩), .int .i64 0]) ∧ Below w.heap.size w w' := by
  have hB := Lib.hid (below_al w (.cells (opC 3 a v) 24))
  have hR := Lib.hid (Rw.new w 24 (opC 3 a v))
  have HC := Lib.hid (fun W : World => rcheck_any 3 a v W)
  have HW := Lib.hid (fun W : World => rword_any 3 W)
  rw [hc] at HC
  rw [show wordK 3 = [112, 111, 115, 105, 116, 105, 111, 110] from rfl] at HW
  unfold opV at HC ⊢
  clear hc
  have hlt : w.heap.size < (w.alloc (.cells (opC 3 a v) 24)).heap.size := by simp
  have HQ := Lib.hid (fun W : World => rquote_any v (by omega) W)
  have hql : (qL v.data.toList).length ≤ 3600000 := by have := (qL_len v.data.toList).2; have := Lib.size_eq v; omega
  generalize qL v.data.toList = q at *
  go_enter Tryd.func28, Tryd.ntmps28
  go_wp2_with (first
    | (go_at_call 30; refine (HC.out _).mono ?_; rintro e w1 ⟨rfl, hE⟩; have hR1 := Lib.hid (hR.out.below hE hlt); have hB1 := Lib.hid (hB.out.trans (below_le hE (Nat.le_of_lt hlt))); obtain ⟨c0, c1, c2, f0, f1, f2⟩ := hR1.out.facts; clear hE)
    | (go_at_call 32; refine (HW.out _).mono ?_; rintro e w2 ⟨rfl, hE⟩; have hR2 := Lib.hid (hR1.out.below hE hR1.out.lt); have hB2 := Lib.hid (hB1.out.trans (below_le hE hB1.out.size)); clear c0 c1 c2 f0 f1 f2; obtain ⟨c0, c1, c2, f0, f1, f2⟩ := hR2.out.facts; clear hE)
    | (go_at_call 18; refine (HQ.out _).mono ?_; rintro e w3 ⟨rfl, hE⟩; have hB3 := Lib.hid (hB2.out.trans (below_le hE hB2.out.size)); clear hE))
  go_ret2
  exact ⟨rfl, hB3.out⟩
set_option linter.unusedSimpArgs false in
set_option maxRecDepth 100000 in
set_option maxHeartbeats 4000000 in
theorem rpr_4 (a : Int) (v : ByteArray) (hv : v.size ≤ 900000) (w : World) (hc : chkZ 4 a v.data.toList = 0) :
    Calls Tryd.prog 28 #[opV 4 a v] w fun e w' => e = .returned (.tuple #[.string ( ⟨#[109, 97, 116, 101, 114, 105, 97, 108]⟩ ++ ⟨#[32]⟩ ++ ⟨(qL v.data.toList).toArray⟩), .int .i64 0]) ∧ Below w.heap.size w w' := by
  have hB := Lib.hid (below_al w (.cells (opC 4 a v) 24))
  have hR := Lib.hid (Rw.new w 24 (opC 4 a v))
  have HC := Lib.hid (fun W : World => rcheck_any 4 a v W)
  have HW := Lib.hid (fun W : World => rword_any 4 W)
  rw [hc] at HC
  rw [show wordK 4 = [109, 97, 116, 101, 114, 105, 97, 108] from rfl] at HW
  unfold opV at HC ⊢
  clear hc
  have hlt : w.heap.size < (w.alloc (.cells (opC 4 a v) 24)).heap.size := by simp
  have HQ := Lib.hid (fun W : World => rquote_any v (by omega) W)
  have hql : (qL v.data.toList).length ≤ 3600000 := by have := (qL_len v.data.toList).2; have := Lib.size_eq v; omega
  generalize qL v.data.toList = q at *
  go_enter Tryd.func28, Tryd.ntmps28
  go_wp2_with (first
    | (go_at_call 30; refine (HC.out _).mono ?_; rintro e w1 ⟨rfl, hE⟩; have hR1 := Lib.hid (hR.out.below hE hlt); have hB1 := Lib.hid (hB.out.trans (below_le hE (Nat.le_of_lt hlt))); obtain ⟨c0, c1, c2, f0, f1, f2⟩ := hR1.out.facts; clear hE)
    | (go_at_call 32; refine (HW.out _).mono ?_; rintro e w2 ⟨rfl, hE⟩; have hR2 := Lib.hid (hR1.out.below hE hR1.out.lt); have hB2 := Lib.hid (hB1.out.trans (below_le hE hB1.out.size)); clear c0 c1 c2 f0 f1 f2; obtain ⟨c0, c1, c2, f0, f1, f2⟩ := hR2.out.facts; clear hE)
    | (go_at_call 18; refine (HQ.out _).mono ?_; rintro e w3 ⟨rfl, hE⟩; have hB3 := Lib.hid (hB2.out.trans (below_le hE hB2.out.size)); clear hE))
  go_ret2
  exact ⟨rfl, hB3.out⟩
set_option linter.unusedSimpArgs false in
set_option maxRecDepth 100000 in
set_option maxHeartbeats 4000000 in
theorem rpr_5 (a : Int) (v : ByteArray) (hv : v.size ≤ 900000) (w : World) (hc : chkZ 5 a v.data.toList = 0) :
    Calls Tryd.prog 28 #[opV 5 a v] w fun e w' => e = .returned (.tuple #[.string ( ⟨#[115, 116, 97, 116, 115]⟩ ++ ⟨#[32]⟩ ++ ⟨(qL v.data.toList).toArray⟩), .int .i64 0]) ∧ Below w.heap.size w w' := by
  have hB := Lib.hid (below_al w (.cells (opC 5 a v) 24))
  have hR := Lib.hid (Rw.new w 24 (opC 5 a v))
  have HC := Lib.hid (fun W : World => rcheck_any 5 a v W)
  have HW := Lib.hid (fun W : World => rword_any 5 W)
  rw [hc] at HC
  rw [show wordK 5 = [115, 116, 97, 116, 115] from rfl] at HW
  unfold opV at HC ⊢
  clear hc
  have hlt : w.heap.size < (w.alloc (.cells (opC 5 a v) 24)).heap.size := by simp
  have HQ := Lib.hid (fun W : World => rquote_any v (by omega) W)
  have hql : (qL v.data.toList).length ≤ 3600000 := by have := (qL_len v.data.toList).2; have := Lib.size_eq v; omega
  generalize qL v.data.toList = q at *
  go_enter Tryd.func28, Tryd.ntmps28
  go_wp2_with (first
    | (go_at_call 30; refine (HC.out _).mono ?_; rintro e w1 ⟨rfl, hE⟩; have hR1 := Lib.hid (hR.out.below hE hlt); have hB1 := Lib.hid (hB.out.trans (below_le hE (Nat.le_of_lt hlt))); obtain ⟨c0, c1, c2, f0, f1, f2⟩ := hR1.out.facts; clear hE)
    | (go_at_call 32; refine (HW.out _).mono ?_; rintro e w2 ⟨rfl, hE⟩; have hR2 := Lib.hid (hR1.out.below hE hR1.out.lt); have hB2 := Lib.hid (hB1.out.trans (below_le hE hB1.out.size)); clear c0 c1 c2 f0 f1 f2; obtain ⟨c0, c1, c2, f0, f1, f2⟩ := hR2.out.facts; clear hE)
    | (go_at_call 18; refine (HQ.out _).mono ?_; rintro e w3 ⟨rfl, hE⟩; have hB3 := Lib.hid (hB2.out.trans (below_le hE hB2.out.size)); clear hE))
  go_ret2
  exact ⟨rfl, hB3.out⟩
set_option linter.unusedSimpArgs false in
set_option maxRecDepth 100000 in
set_option maxHeartbeats 4000000 in
theorem rpr_6 (a : Int) (v : ByteArray) (w : World) (hc : chkZ 6 a v.data.toList = 0) :
    Calls Tryd.prog 28 #[opV 6 a v] w fun e w' => e = .returned (.tuple #[.string (⟨#[98, 111, 111, 107]⟩), .int .i64 0]) ∧ Below w.heap.size w w' := by
  have hB := Lib.hid (below_al w (.cells (opC 6 a v) 24))
  have hR := Lib.hid (Rw.new w 24 (opC 6 a v))
  have HC := Lib.hid (fun W : World => rcheck_any 6 a v W)
  have HW := Lib.hid (fun W : World => rword_any 6 W)
  rw [hc] at HC
  rw [show wordK 6 = [98, 111, 111, 107] from rfl] at HW
  unfold opV at HC ⊢
  clear hc
  have hlt : w.heap.size < (w.alloc (.cells (opC 6 a v) 24)).heap.size := by simp
  go_enter Tryd.func28, Tryd.ntmps28
  go_wp2_with (first
    | (go_at_call 30; refine (HC.out _).mono ?_; rintro e w1 ⟨rfl, hE⟩; have hR1 := Lib.hid (hR.out.below hE hlt); have hB1 := Lib.hid (hB.out.trans (below_le hE (Nat.le_of_lt hlt))); obtain ⟨c0, c1, c2, f0, f1, f2⟩ := hR1.out.facts; clear hE)
    | (go_at_call 32; refine (HW.out _).mono ?_; rintro e w2 ⟨rfl, hE⟩; have hR2 := Lib.hid (hR1.out.below hE hR1.out.lt); have hB2 := Lib.hid (hB1.out.trans (below_le hE hB1.out.size)); clear c0 c1 c2 f0 f1 f2; obtain ⟨c0, c1, c2, f0, f1, f2⟩ := hR2.out.facts; clear hE))
  go_ret2
  exact ⟨rfl, hB2.out⟩
set_option linter.unusedSimpArgs false in
set_option maxRecDepth 100000 in
set_option maxHeartbeats 4000000 in
theorem rpr_7 (a : Int) (v : ByteArray) (w : World) (hc : chkZ 7 a v.data.toList = 0) :
    Calls Tryd.prog 28 #[opV 7 a v] w fun e w' => e = .returned (.tuple #[.string (⟨#[99, 104, 101, 99, 107, 112, 111, 105, 110, 116]⟩), .int .i64 0]) ∧ Below w.heap.size w w' := by
  have hB := Lib.hid (below_al w (.cells (opC 7 a v) 24))
  have hR := Lib.hid (Rw.new w 24 (opC 7 a v))
  have HC := Lib.hid (fun W : World => rcheck_any 7 a v W)
  have HW := Lib.hid (fun W : World => rword_any 7 W)
  rw [hc] at HC
  rw [show wordK 7 = [99, 104, 101, 99, 107, 112, 111, 105, 110, 116] from rfl] at HW
  unfold opV at HC ⊢
  clear hc
  have hlt : w.heap.size < (w.alloc (.cells (opC 7 a v) 24)).heap.size := by simp
  go_enter Tryd.func28, Tryd.ntmps28
  go_wp2_with (first
    | (go_at_call 30; refine (HC.out _).mono ?_; rintro e w1 ⟨rfl, hE⟩; have hR1 := Lib.hid (hR.out.below hE hlt); have hB1 := Lib.hid (hB.out.trans (below_le hE (Nat.le_of_lt hlt))); obtain ⟨c0, c1, c2, f0, f1, f2⟩ := hR1.out.facts; clear hE)
    | (go_at_call 32; refine (HW.out _).mono ?_; rintro e w2 ⟨rfl, hE⟩; have hR2 := Lib.hid (hR1.out.below hE hR1.out.lt); have hB2 := Lib.hid (hB1.out.trans (below_le hE hB1.out.size)); clear c0 c1 c2 f0 f1 f2; obtain ⟨c0, c1, c2, f0, f1, f2⟩ := hR2.out.facts; clear hE))
  go_ret2
  exact ⟨rfl, hB2.out⟩
set_option linter.unusedSimpArgs false in
set_option maxRecDepth 100000 in
set_option maxHeartbeats 4000000 in
theorem rpr_8 (a : Int) (v : ByteArray) (hv : v.size ≤ 900000) (w : World) (hc : chkZ 8 a v.data.toList = 0) {n : Nat} (hn : a = n) (hn1 : n ≤ 1000000) :
    Calls Tryd.prog 28 #[opV 8 a v] w fun e w' => e = .returned (.tuple #[.string ( ⟨#[99, 114, 97, 115, 104]⟩ ++ ⟨#[32]⟩ ++ ⟨(Lib.decDigits n).toArray⟩ ++ ⟨#[32]⟩ ++ v), .int .i64 0]) ∧ Below w.heap.size w w' := by
  have hB := Lib.hid (below_al w (.cells (opC 8 a v) 24))
  have hR := Lib.hid (Rw.new w 24 (opC 8 a v))
  have HC := Lib.hid (fun W : World => rcheck_any 8 a v W)
  have HW := Lib.hid (fun W : World => rword_any 8 W)
  rw [hc] at HC
  rw [show wordK 8 = [99, 114, 97, 115, 104] from rfl] at HW
  unfold opV at HC ⊢
  clear hc
  have hlt : w.heap.size < (w.alloc (.cells (opC 8 a v) 24)).heap.size := by simp
  subst hn
  have HD := Lib.hid (digits_any n (by omega))
  have hdl := dec_lt 6 n (by omega)
  generalize Lib.decDigits n = d at *
  go_enter Tryd.func28, Tryd.ntmps28
  go_wp2_with (first
    | (go_at_call 30; refine (HC.out _).mono ?_; rintro e w1 ⟨rfl, hE⟩; have hR1 := Lib.hid (hR.out.below hE hlt); have hB1 := Lib.hid (hB.out.trans (below_le hE (Nat.le_of_lt hlt))); obtain ⟨c0, c1, c2, f0, f1, f2⟩ := hR1.out.facts; clear hE)
    | (go_at_call 32; refine (HW.out _).mono ?_; rintro e w2 ⟨rfl, hE⟩; have hR2 := Lib.hid (hR1.out.below hE hR1.out.lt); have hB2 := Lib.hid (hB1.out.trans (below_le hE hB1.out.size)); clear c0 c1 c2 f0 f1 f2; obtain ⟨c0, c1, c2, f0, f1, f2⟩ := hR2.out.facts; clear hE))
  go_quiet ((go_at_call 52; exact Calls.quiet_of_same ((HD.out _).mono fun _ _ ⟨a, b⟩ => ⟨a, b.symm⟩)))
  go_wp2_with fail
  go_ret2
  exact ⟨rfl, hB2.out.trans ⟨rfl, rfl, rfl, Nat.le_refl _, fun _ _ => rfl⟩⟩
set_option linter.unusedSimpArgs false in
set_option maxRecDepth 100000 in
set_option maxHeartbeats 4000000 in
theorem rpr_9 (a : Int) (v : ByteArray) (w : World) (hc : chkZ 9 a v.data.toList = 0) :
    Calls Tryd.prog 28 #[opV 9 a v] w fun e w' => e = .returned (.tuple #[.string (⟨#[114, 101, 111, 112, 101, 110]⟩), .int .i64 0]) ∧ Below w.heap.size w w' := by
  have hB := Lib.hid (below_al w (.cells (opC 9 a v) 24))
  have hR := Lib.hid (Rw.new w 24 (opC 9 a v))
  have HC := Lib.hid (fun W : World => rcheck_any 9 a v W)
  have HW := Lib.hid (fun W : World => rword_any 9 W)
  rw [hc] at HC
  rw [show wordK 9 = [114, 101, 111, 112, 101, 110] from rfl] at HW
  unfold opV at HC ⊢
  clear hc
  have hlt : w.heap.size < (w.alloc (.cells (opC 9 a v) 24)).heap.size := by simp
  go_enter Tryd.func28, Tryd.ntmps28
  go_wp2_with (first
    | (go_at_call 30; refine (HC.out _).mono ?_; rintro e w1 ⟨rfl, hE⟩; have hR1 := Lib.hid (hR.out.below hE hlt); have hB1 := Lib.hid (hB.out.trans (below_le hE (Nat.le_of_lt hlt))); obtain ⟨c0, c1, c2, f0, f1, f2⟩ := hR1.out.facts; clear hE)
    | (go_at_call 32; refine (HW.out _).mono ?_; rintro e w2 ⟨rfl, hE⟩; have hR2 := Lib.hid (hR1.out.below hE hR1.out.lt); have hB2 := Lib.hid (hB1.out.trans (below_le hE hB1.out.size)); clear c0 c1 c2 f0 f1 f2; obtain ⟨c0, c1, c2, f0, f1, f2⟩ := hR2.out.facts; clear hE))
  go_ret2
  exact ⟨rfl, hB2.out⟩
theorem num_of {k a : Int} {v : List UInt8} (h : chkZ k a v = 0) (hk : k = 2 ∨ k = 8) : ∃ n : Nat, a = n ∧ n ≤ 1000000 := by
  obtain ⟨_, _, h3⟩ := chk_iff.1 h
  rcases hk with rfl | rfl
  · have : 0 ≤ a ∧ a ≤ 1000000 ∧ v.length = 0 := by simpa [validB] using h3
    exact ⟨a.toNat, by omega, by omega⟩
  · have := crash_num (a := a) (v := v) h3
    exact ⟨a.toNat, by omega, by omega⟩
theorem rprint_any (k a : Int) (v : ByteArray) (hv : v.size ≤ 900000) (w : World) :
    Calls Tryd.prog 28 #[opV k a v] w fun e w' => e = .returned (.tuple #[.string ⟨(prS k a v.data.toList).toArray⟩, .int .i64 (chkZ k a v.data.toList)]) ∧ Below w.heap.size w w' := by
  by_cases hc : chkZ k a v.data.toList = 0
  · have hk : 0 < k ∧ k < 10 := ⟨(chk_iff.1 hc).1, (chk_iff.1 hc).2.1⟩
    have hp : prS k a v.data.toList = wordL k.toNat ++ encP k.toNat a v.data.toList := by unfold prS; rw [if_pos hc]
    have hvv : v = ⟨v.data.toList.toArray⟩ := by simp
    rw [hp, hc]
    have hk' : k = 1 ∨ k = 2 ∨ k = 3 ∨ k = 4 ∨ k = 5 ∨ k = 6 ∨ k = 7 ∨ k = 8 ∨ k = 9 := by omega
    rcases hk' with rfl | rfl | rfl | rfl | rfl | rfl | rfl | rfl | rfl

    · have e : (⟨(wordL (1 : Int).toNat ++ encP (1 : Int).toNat a v.data.toList).toArray⟩ : ByteArray) = ⟨#[105, 110, 103, 101, 115, 116]⟩ ++ ⟨#[32]⟩ ++ ⟨(qL v.data.toList).toArray⟩ := by rw [bs2, show encP (1 : Int).toNat a v.data.toList = [32] ++ qL v.data.toList from rfl, bs2, ← ByteArray.append_assoc]; rfl
      rw [e]; exact rpr_1 a v hv w hc
    · obtain ⟨n, rfl, hn⟩ := num_of hc (.inl rfl)
      have e : (⟨(wordL (2 : Int).toNat ++ encP (2 : Int).toNat (n : Int) v.data.toList).toArray⟩ : ByteArray) = ⟨#[103, 97, 109, 101]⟩ ++ ⟨#[32]⟩ ++ ⟨(Lib.decDigits n).toArray⟩ := by rw [bs2, show encP (2 : Int).toNat (n : Int) v.data.toList = [32] ++ Lib.itoa (n : Int) from rfl, itoa_nat, bs2, ← ByteArray.append_assoc]; rfl
      rw [e]; exact rpr_2 _ v w hc rfl hn
    · have e : (⟨(wordL (3 : Int).toNat ++ encP (3 : Int).toNat a v.data.toList).toArray⟩ : ByteArray) = ⟨#[112, 111, 115, 105, 116, 105, 111, 110]⟩ ++ ⟨#[32]⟩ ++ ⟨(qL v.data.toList).toArray⟩ := by rw [bs2, show encP (3 : Int).toNat a v.data.toList = [32] ++ qL v.data.toList from rfl, bs2, ← ByteArray.append_assoc]; rfl
      rw [e]; exact rpr_3 a v hv w hc
    · have e : (⟨(wordL (4 : Int).toNat ++ encP (4 : Int).toNat a v.data.toList).toArray⟩ : ByteArray) = ⟨#[109, 97, 116, 101, 114, 105, 97, 108]⟩ ++ ⟨#[32]⟩ ++ ⟨(qL v.data.toList).toArray⟩ := by rw [bs2, show encP (4 : Int).toNat a v.data.toList = [32] ++ qL v.data.toList from rfl, bs2, ← ByteArray.append_assoc]; rfl
      rw [e]; exact rpr_4 a v hv w hc
    · have e : (⟨(wordL (5 : Int).toNat ++ encP (5 : Int).toNat a v.data.toList).toArray⟩ : ByteArray) = ⟨#[115, 116, 97, 116, 115]⟩ ++ ⟨#[32]⟩ ++ ⟨(qL v.data.toList).toArray⟩ := by rw [bs2, show encP (5 : Int).toNat a v.data.toList = [32] ++ qL v.data.toList from rfl, bs2, ← ByteArray.append_assoc]; rfl
      rw [e]; exact rpr_5 a v hv w hc
    · exact rpr_6 a v w hc
    · exact rpr_7 a v w hc
    · obtain ⟨n, rfl, hn⟩ := num_of hc (.inr rfl)
      have e : (⟨(wordL (8 : Int).toNat ++ encP (8 : Int).toNat (n : Int) v.data.toList).toArray⟩ : ByteArray) = ⟨#[99, 114, 97, 115, 104]⟩ ++ ⟨#[32]⟩ ++ ⟨(Lib.decDigits n).toArray⟩ ++ ⟨#[32]⟩ ++ v := by rw [bs2, show encP (8 : Int).toNat (n : Int) v.data.toList = [32] ++ (Lib.itoa (n : Int) ++ ([32] ++ v.data.toList)) from rfl, itoa_nat, bs2, bs2, bs2, ← hvv]; simp only [← ByteArray.append_assoc]; rfl
      rw [e]; exact rpr_8 _ v hv w hc rfl hn
    · exact rpr_9 a v w hc
  · have h2 := chk_two hc
    have hp : prS k a v.data.toList = [] := by unfold prS; rw [if_neg hc]
    rw [hp, h2]
    exact rpr_no k a v w h2
end Go.Proofs.YtjjnjglbmneecaaDoor
