/- The contract of the reference of material.Text, and of its digits: the same strings. No condition. -/
import Derived.Test.YtcnflmbnnobocaaDoorMtx
import Derived.Test.YtcnflmbnnobocaaDoorKit
namespace Go.Proofs.YtcnflmbnnobocaaDoor
open Go Go.RowKit

theorem ba_ext {a b : ByteArray} (h : a.data.toList = b.data.toList) : a = b := by
  rw [ba_of_list h, ← ba_of_list (rfl : b.data.toList = b.data.toList)]
theorem ba_append (a b : ByteArray) : (a ++ b).data.toList = a.data.toList ++ b.data.toList := by
  rw [ByteArray.data_append, Array.toList_append]
theorem numS_list (n : Nat) : (numS n).data.toList = Lib.decDigits n := rfl
theorem numS_size (n : Nat) (h : n ≤ 15) : (numS n).size ≤ 2 := digits_len n h
theorem txtN_size (ns : List Nat) (h : ∀ n ∈ ns, n ≤ 15) : (txtN ns).size ≤ 3 * ns.length := by
  have := join_len (ns.map Lib.decDigits) (by intro x hx; simp only [List.mem_map] at hx; obtain ⟨n, hn, rfl⟩ := hx; exact digits_len n (h n hn))
  rw [List.length_map] at this
  exact this
theorem dig_small (n : Nat) (h : n < 10) : (⟨#[48, 49, 50, 51, 52, 53, 54, 55, 56, 57]⟩ : ByteArray).extract n (n + 1) = numS n := by
  apply ba_ext
  rw [Lib.extract_data, numS_list, Nat.add_sub_cancel_left]
  have key : ∀ n, n < 10 → ([48, 49, 50, 51, 52, 53, 54, 55, 56, 57].drop n).take 1 = Lib.decDigits n := by decide +kernel
  exact key n h
theorem dig_ten (n : Nat) (h : n < 6) : (⟨#[49]⟩ : ByteArray) ++ numS n = numS (n + 10) := by
  apply ba_ext
  rw [ba_append, numS_list, numS_list]
  have key : ∀ n, n < 6 → [49] ++ Lib.decDigits n = Lib.decDigits (n + 10) := by decide +kernel
  exact key n h
set_option maxHeartbeats 400000 in
theorem digits_9 (n : Nat) (w : World) (h : n < 10) : Calls Tryd.prog 29 #[.int .i64 n] w fun e w' => e = .returned (.string (numS n)) ∧ w = w' := by
  have H := Lib.hid (dig_small n h)
  go_enter Tryd.func29, Tryd.ntmps29
  go_wp2_with fail
  go_ret
  exact ⟨ret_str H.out, rfl⟩
set_option maxHeartbeats 400000 in
theorem digits_any (n : Nat) (w : World) (h : n < 16) : Calls Tryd.prog 29 #[.int .i64 n] w fun e w' => e = .returned (.string (numS n)) ∧ w = w' := by
  by_cases h9 : n < 10
  · exact digits_9 n w h9
  · obtain ⟨m, rfl⟩ : ∃ m, n = m + 10 := ⟨n - 10, by omega⟩
    have H := Lib.hid (dig_ten m (by omega))
    have z1 := numS_size m (by omega)
    have e : ((m + 10 : Nat) : Int) = (m : Int) + 10 := by omega
    rw [e]
    go_enter Tryd.func29, Tryd.ntmps29
    go_wp2_with (go_at_call 29; refine (digits_9 m _ (by omega)).mono ?_; rintro e w' ⟨rfl, rfl⟩)
    go_ret
    exact ⟨ret_str H.out, rfl⟩
theorem join_snoc (xs : List (List UInt8)) (y : List UInt8) (h : xs ≠ []) : Lib.join (xs ++ [y]) [32] = Lib.join xs [32] ++ ([32] ++ y) := by
  induction xs with
  | nil => exact absurd rfl h
  | cons x r ih =>
    cases r with
    | nil => simp [Lib.join]
    | cons z s =>
      have := ih (by simp)
      simp [Lib.join, List.intercalate, List.intersperse] at this ⊢
      exact this
theorem txtN_snoc (ns : List Nat) (n : Nat) (h : ns ≠ []) : txtN ns ++ ⟨#[32]⟩ ++ numS n = txtN (ns ++ [n]) := by
  apply ba_ext
  rw [ba_append, ba_append, numS_list]
  show Lib.join (ns.map Lib.decDigits) [32] ++ [32] ++ Lib.decDigits n = Lib.join ((ns ++ [n]).map Lib.decDigits) [32]
  rw [List.map_append, List.map_singleton, join_snoc _ _ (by simpa using h), List.append_assoc]

set_option maxRecDepth 100000 in
set_option maxHeartbeats 4000000 in
theorem text_ref (a0 a1 a2 a3 a4 a5 a6 a7 a8 a9 : Int) (w : World) :
    Calls Tryd.prog 17 #[.agg #[.int .i64 a0, .int .i64 a1, .int .i64 a2, .int .i64 a3, .int .i64 a4, .int .i64 a5, .int .i64 a6, .int .i64 a7, .int .i64 a8, .int .i64 a9]] w fun e w' => e = .returned (.tuple #[.string (txtM a0 a1 a2 a3 a4 a5 a6 a7 a8 a9), .int .i64 (chkE a0 a1 a2 a3 a4 a5 a6 a7 a8 a9)]) ∧ Below w.heap.size w w' := by
  by_cases h : okM a0 a1 a2 a3 a4 a5 a6 a7 a8 a9
  · have hE := chkE_t h
    have HS := Lib.hid (txtM_t h)
    obtain ⟨h0, h0', h1, h2, h3, h4, hs, h5, h5', h6, h7, h8, h9, hs'⟩ := h
    go_enter Tryd.func17, Tryd.ntmps17
    go_wp2_with fail
    refine (check_ref _ _ _ _ _ _ _ _ _ _ _).mono ?_
    rintro e w1 ⟨rfl, hb1⟩
    have hH : Holds w1 w.heap.size .i64 28 [a0, a1, a2, a3, a4, a5, a6, a7, a8, a9] := (Holds.new w .i64 28 [a0, a1, a2, a3, a4, a5, a6, a7, a8, a9]).below hb1 (by simp)
    have hb : Below w.heap.size w w1 := ((Below.refl _ _).alloc (Nat.le_refl _) _).trans (hb1.mono (by simp))
    clear hb1
    obtain ⟨ns, hns⟩ : ∃ ns : List Nat, ns = [a0.toNat, a1.toNat, a2.toNat, a3.toNat, a4.toNat, a5.toNat, a6.toNat, a7.toNat, a8.toNat, a9.toNat] := ⟨_, rfl⟩
    have hl : ns.length = 10 := by rw [hns]; rfl
    have hle : ∀ n ∈ ns, n ≤ 15 := by rw [hns]; intro n hn; simp at hn; omega
    have he : [a0, a1, a2, a3, a4, a5, a6, a7, a8, a9] = zsN ns := by
      rw [hns]; simp [zsN]; omega
    rw [he] at hH
    rw [← hns] at HS
    clear hns he h0 h0' h1 h2 h3 h4 hs h5 h5' h6 h7 h8 h9 hs'
    have hg : ∀ k, k < 10 → w1.cell? ⟨w.heap.size, k, none⟩ = some (.int .i64 ((ns.getD k 0 : Nat) : Int)) ∧ ns.getD k 0 < 16 := fun k hk => by
      have hgk : (zsN ns).getD k 0 = ((ns.getD k 0 : Nat) : Int) := by simp [zsN, hl, hk]
      refine ⟨by rw [hH.cell k (by rw [zsN_len, hl]; exact hk), hgk], ?_⟩
      have := hle (ns.getD k 0) (by simp [hl, hk])
      omega
    have HG := Lib.hid hg
    obtain ⟨c0, d0⟩ := hg 0 (by omega)
    have HT0 : Hid (numS (ns.getD 0 0) = txtN (ns.take 1)) := by
      show _ = _
      rw [take_succ_getD ns 0 (by omega)]
      simp [txtN, Lib.join, numS]
    have HLE := Lib.hid hle
    clear hg hH hle
    generalize ns.getD 0 0 = n0 at *
    go_wp2_with (go_at_call 29; refine (digits_any _ _ d0).mono ?_; rintro e w' ⟨rfl, rfl⟩)
    rw [HT0.out]
    clear HT0 c0 d0
    go_loop [4, 5] (fun s i => ∃ k : Nat, 1 ≤ k ∧ k ≤ 10 ∧ i = .int .i64 k ∧ s = .string (txtN (ns.take k))) (fun _ i => 10 - (intOf i).toNat)
    case atStart => exact ⟨1, by omega, by omega, rfl, rfl⟩
    case round =>
      obtain ⟨k, hk1, hk, rfl, rfl⟩ := hrel
      by_cases hlt : k < 10
      · obtain ⟨c0, d0⟩ := HG.out k hlt
        have HT : Hid (txtN (ns.take k) ++ ⟨#[32]⟩ ++ numS (ns.getD k 0) = txtN (ns.take (k + 1))) := by
          show _ = _
          rw [take_succ_getD ns k (by omega), txtN_snoc]
          intro e
          have := congrArg List.length e
          simp [hl] at this
          omega
        have z1 := numS_size (ns.getD k 0) (by omega)
        have z2 : (txtN (ns.take k)).size ≤ 30 := by
          have := txtN_size (ns.take k) (fun n hn => HLE.out n (List.mem_of_mem_take hn))
          have h2 : (ns.take k).length ≤ 10 := by rw [List.length_take]; omega
          omega
        generalize ns.getD k 0 = n at *
        go_wp2_with (go_at_call 29; refine (digits_any _ _ d0).mono ?_; rintro e w' ⟨rfl, rfl⟩)
        go_round
        case rel => exact ⟨k + 1, by omega, by omega, by go_num, by rw [HT.out]⟩
        case measure => simp [intOf]; omega
      · have hk : k = 10 := by omega
        subst hk
        have HX : Hid (txtN (ns.take 10) = txtN ns) := by show _ = _; rw [List.take_of_length_le (by omega)]
        go_wp2_with fail
        go_ret2
        exact ⟨ret2_str (by rw [HX.out, HS.out]) (by first | rfl | exact hE.symm), hb⟩
  · have hE := chkE_f h
    have HS := Lib.hid (txtM_f h)
    go_enter Tryd.func17, Tryd.ntmps17
    go_wp2_with fail
    refine (check_ref _ _ _ _ _ _ _ _ _ _ _).mono ?_
    rintro e w1 ⟨rfl, hb1⟩
    go_wp2_with fail
    go_ret2
    exact ⟨ret2_str HS.out.symm hE.symm, ((Below.refl _ _).alloc (Nat.le_refl _) _).trans (hb1.mono (by simp))⟩
end Go.Proofs.YtcnflmbnnobocaaDoor
