/- The law MaterialReadBack. Conditions: as in Env. -/
import Derived.Test.YtcnflmbnnobocaaDoorMrs
import Derived.Test.YtcnflmbnnobocaaDoorMpl
namespace Go.Proofs.YtcnflmbnnobocaaDoor
open Go Go.RowKit
theorem wpl_neSame {ops : Array Oper} {rest : List Oper} {o : Oper} {a : Act} {w : World} {Q : Exit → Act → World → Prop} (l : List Int) (hl : l.length = 10) (hgd : Region.wanted o (yielded ops a.tmps) = true) (x y : Operand) (u : TypeId) (ho : o.op = .binOp .neq 25 x y u)
    (hx : a.eval x = .agg (ints l)) (hy : a.eval y = .agg (ints l)) (h : wpList Tryd.prog ops Q rest (a.put o.dst (.bool false)) w) : wpList Tryd.prog ops Q (o :: rest) a w :=
  wpl_neG (l := l) (l' := l) hgd x y u ho hx hy Tryd.underlying25 Tryd.underlying3 (by kernel_rfl) (by kernel_rfl) (by kernel_rfl) hl hl (by rw [decide_eq_true rfl]; exact h)
set_option maxRecDepth 100000 in
set_option maxHeartbeats 4000000 in
theorem rb0 (n : Int) (s : ByteArray) (w : World) (hw : Env w) (h0 : 0 ≤ n) (h1 : n ≤ 18446744073709551615) (hs : ¬ 100 < s.size) (hp : prsOk n) (hr : rdOk s) : Calls Tryd.prog 7 #[.int .u64 n, .string s] w fun e w' => e = .returned (.bool true) ∧ Below w.heap.size w w' := by
  have hR := Rch.start hw
  have hlim : s.size ≤ 100000 := by omega
  have lp := prsV_ln n
  have lr := rdV_ln s
  have zp : (prsV n).length = zero10.length := lp
  have zr : (rdV s).length = zero10.length := lr
  have ip : (Tryd.prog.info? 25).map (·.size) = some (prsV n).length := by rw [lp]; kernel_rfl
  have ir : (Tryd.prog.info? 25).map (·.size) = some (rdV s).length := by rw [lr]; kernel_rfl
  have iz : (Tryd.prog.info? 25).map (·.size) = some zero10.length := by kernel_rfl
  have e1 := Lib.hid (prsE_t hp)
  obtain ⟨o1, e2'⟩ := prs_ok h0 hp
  have e2 := Lib.hid e2'
  clear e2'
  have e3 := Lib.hid (chkL_ok o1)
  have e4 := Lib.hid (rdE_t hr)
  have e5 := Lib.hid (chkL_ok (rd_okL hr))
  have e6 := Lib.hid (rd_join hr)
  clear hp hr o1
  go_enter Tryd.func7, Tryd.ntmps7
  go_wp2_with (first
    | (go_at_call 20; refine (parse_R hR n h0 h1).mono ?_; clear hR; rintro e w1 ⟨rfl, hR⟩; rw [e1.out])
    | (go_at_call 22; refine (read_R hR s hlim).mono ?_; clear hR; rintro e w1 ⟨rfl, hR⟩; rw [e4.out]; have t2 := trivial)
    | (have _t := t2; with_reducible refine wpl_storeAt hR 25 zero10 (rdV s) (by with_unfolding_all rfl) (by simp) rfl 25 _ _ rfl rfl rfl zr (by kernel_rfl) ?_; clear hR; intro w2 hR)
    | (with_reducible refine wpl_storeAt hR 25 zero10 (prsV n) (by with_unfolding_all rfl) (by simp) rfl 25 _ _ rfl rfl rfl zp (by kernel_rfl) ?_; clear hR; intro w2 hR)
    | (have _t := t2; with_reducible refine wpl_loadG hR.hd (by with_unfolding_all rfl) 25 _ rfl rfl Tryd.underlying25 ir ?_)
    | (with_reducible refine wpl_loadG hR.hd (by with_unfolding_all rfl) 25 _ rfl rfl Tryd.underlying25 ip ?_)
    | (go_at_call 14; refine (sign_R hR (prsV n) lp).mono ?_; clear hR; rintro e w1 ⟨rfl, hR⟩; rw [e2.out, e3.out])
    | (have _t := t2; go_at_call 18; refine (check_R hR (rdV s) lr).mono ?_; clear hR; rintro e w1 ⟨rfl, hR⟩; rw [e5.out])
    | (go_at_call 18; refine (check_R hR (prsV n) lp).mono ?_; clear hR; rintro e w1 ⟨rfl, hR⟩; rw [e3.out])
    | (go_at_call 16; refine (text_R hR (rdV s) lr).mono ?_; clear hR; rintro e w1 ⟨rfl, hR⟩; rw [e5.out, e6.out])
    | (go_at_call 13; refine (works_R hR).mono ?_; clear hR; rintro e w1 ⟨rfl, hR⟩))
  go_ret
  exact ⟨rfl, hR.bel⟩
set_option maxRecDepth 100000 in
set_option maxHeartbeats 4000000 in
theorem rb1 (n : Int) (s : ByteArray) (w : World) (hw : Env w) (h0 : 0 ≤ n) (h1 : n ≤ 18446744073709551615) (hs : ¬ 100 < s.size) (hp : prsOk n) (hr : ¬ rdOk s) : Calls Tryd.prog 7 #[.int .u64 n, .string s] w fun e w' => e = .returned (.bool true) ∧ Below w.heap.size w w' := by
  have hR := Rch.start hw
  have hlim : s.size ≤ 100000 := by omega
  have lp := prsV_ln n
  have lr := rdV_ln s
  have zp : (prsV n).length = zero10.length := lp
  have zr : (rdV s).length = zero10.length := lr
  have ip : (Tryd.prog.info? 25).map (·.size) = some (prsV n).length := by rw [lp]; kernel_rfl
  have ir : (Tryd.prog.info? 25).map (·.size) = some (rdV s).length := by rw [lr]; kernel_rfl
  have iz : (Tryd.prog.info? 25).map (·.size) = some zero10.length := by kernel_rfl
  have e1 := Lib.hid (prsE_t hp)
  obtain ⟨o1, e2'⟩ := prs_ok h0 hp
  have e2 := Lib.hid e2'
  clear e2'
  have e3 := Lib.hid (chkL_ok o1)
  have e4 := Lib.hid (rdE_f hr)
  have e5 : Hid (rdV s = zero10) := Lib.hid (rdV_f hr)
  clear hp hr o1
  go_enter Tryd.func7, Tryd.ntmps7
  go_wp2_with (first
    | (go_at_call 20; refine (parse_R hR n h0 h1).mono ?_; clear hR; rintro e w1 ⟨rfl, hR⟩; rw [e1.out])
    | (go_at_call 22; refine (read_R hR s hlim).mono ?_; clear hR; rintro e w1 ⟨rfl, hR⟩; rw [e4.out, e5.out]; have t2 := trivial)
    | (have _t := t2; with_reducible refine wpl_storeAt hR 25 zero10 zero10 (by with_unfolding_all rfl) (by simp) rfl 25 _ _ rfl rfl rfl rfl (by kernel_rfl) ?_; clear hR; intro w2 hR)
    | (with_reducible refine wpl_storeAt hR 25 zero10 (prsV n) (by with_unfolding_all rfl) (by simp) rfl 25 _ _ rfl rfl rfl zp (by kernel_rfl) ?_; clear hR; intro w2 hR)
    | (have _t := t2; with_reducible refine wpl_loadG hR.hd (by with_unfolding_all rfl) 25 _ rfl rfl Tryd.underlying25 iz ?_)
    | (with_reducible refine wpl_loadG hR.hd (by with_unfolding_all rfl) 25 _ rfl rfl Tryd.underlying25 ip ?_)
    | (go_at_call 14; refine (sign_R hR (prsV n) lp).mono ?_; clear hR; rintro e w1 ⟨rfl, hR⟩; rw [e2.out, e3.out])
    | (go_at_call 18; refine (check_R hR (prsV n) lp).mono ?_; clear hR; rintro e w1 ⟨rfl, hR⟩; rw [e3.out])
    | (with_reducible refine wpl_eqSame zero10 rfl (by with_unfolding_all rfl) _ _ _ rfl rfl (by with_unfolding_all rfl) ?_)
    | (go_at_call 13; refine (works_R hR).mono ?_; clear hR; rintro e w1 ⟨rfl, hR⟩))
  go_ret
  exact ⟨rfl, hR.bel⟩
set_option maxRecDepth 100000 in
set_option maxHeartbeats 4000000 in
theorem rb2 (n : Int) (s : ByteArray) (w : World) (hw : Env w) (h0 : 0 ≤ n) (h1 : n ≤ 18446744073709551615) (hs : ¬ 100 < s.size) (hp : ¬ prsOk n) (hr : rdOk s) : Calls Tryd.prog 7 #[.int .u64 n, .string s] w fun e w' => e = .returned (.bool true) ∧ Below w.heap.size w w' := by
  have hR := Rch.start hw
  have hlim : s.size ≤ 100000 := by omega
  have lp := prsV_ln n
  have lr := rdV_ln s
  have zp : (prsV n).length = zero10.length := lp
  have zr : (rdV s).length = zero10.length := lr
  have ip : (Tryd.prog.info? 25).map (·.size) = some (prsV n).length := by rw [lp]; kernel_rfl
  have ir : (Tryd.prog.info? 25).map (·.size) = some (rdV s).length := by rw [lr]; kernel_rfl
  have iz : (Tryd.prog.info? 25).map (·.size) = some zero10.length := by kernel_rfl
  have e1 := Lib.hid (prsE_f hp)
  have e2 := Lib.hid (prsV_f hp)
  have e4 := Lib.hid (rdE_t hr)
  have e5 := Lib.hid (chkL_ok (rd_okL hr))
  have e6 := Lib.hid (rd_join hr)
  clear hp hr
  go_enter Tryd.func7, Tryd.ntmps7
  go_wp2_with (first
    | (go_at_call 20; refine (parse_R hR n h0 h1).mono ?_; clear hR; rintro e w1 ⟨rfl, hR⟩; rw [e1.out, e2.out])
    | (go_at_call 22; refine (read_R hR s hlim).mono ?_; clear hR; rintro e w1 ⟨rfl, hR⟩; rw [e4.out]; have t2 := trivial)
    | (have _t := t2; with_reducible refine wpl_storeAt hR 25 zero10 (rdV s) (by with_unfolding_all rfl) (by simp) rfl 25 _ _ rfl rfl rfl zr (by kernel_rfl) ?_; clear hR; intro w2 hR)
    | (with_reducible refine wpl_storeAt hR 25 zero10 zero10 (by with_unfolding_all rfl) (by simp) rfl 25 _ _ rfl rfl rfl rfl (by kernel_rfl) ?_; clear hR; intro w2 hR)
    | (have _t := t2; with_reducible refine wpl_loadG hR.hd (by with_unfolding_all rfl) 25 _ rfl rfl Tryd.underlying25 ir ?_)
    | (with_reducible refine wpl_loadG hR.hd (by with_unfolding_all rfl) 25 _ rfl rfl Tryd.underlying25 iz ?_)
    | (go_at_call 18; refine (check_R hR (rdV s) lr).mono ?_; clear hR; rintro e w1 ⟨rfl, hR⟩; rw [e5.out])
    | (go_at_call 16; refine (text_R hR (rdV s) lr).mono ?_; clear hR; rintro e w1 ⟨rfl, hR⟩; rw [e5.out, e6.out])
    | (with_reducible refine wpl_neSame zero10 rfl (by with_unfolding_all rfl) _ _ _ rfl rfl (by with_unfolding_all rfl) ?_)
    | (go_at_call 13; refine (works_R hR).mono ?_; clear hR; rintro e w1 ⟨rfl, hR⟩))
  go_ret
  exact ⟨rfl, hR.bel⟩
set_option maxRecDepth 100000 in
set_option maxHeartbeats 4000000 in
theorem rb3 (n : Int) (s : ByteArray) (w : World) (hw : Env w) (h0 : 0 ≤ n) (h1 : n ≤ 18446744073709551615) (hs : ¬ 100 < s.size) (hp : ¬ prsOk n) (hr : ¬ rdOk s) : Calls Tryd.prog 7 #[.int .u64 n, .string s] w fun e w' => e = .returned (.bool true) ∧ Below w.heap.size w w' := by
  have hR := Rch.start hw
  have hlim : s.size ≤ 100000 := by omega
  have lp := prsV_ln n
  have lr := rdV_ln s
  have zp : (prsV n).length = zero10.length := lp
  have zr : (rdV s).length = zero10.length := lr
  have ip : (Tryd.prog.info? 25).map (·.size) = some (prsV n).length := by rw [lp]; kernel_rfl
  have ir : (Tryd.prog.info? 25).map (·.size) = some (rdV s).length := by rw [lr]; kernel_rfl
  have iz : (Tryd.prog.info? 25).map (·.size) = some zero10.length := by kernel_rfl
  have e1 := Lib.hid (prsE_f hp)
  have e2 := Lib.hid (prsV_f hp)
  have e4 := Lib.hid (rdE_f hr)
  have e5 : Hid (rdV s = zero10) := Lib.hid (rdV_f hr)
  clear hp hr
  go_enter Tryd.func7, Tryd.ntmps7
  go_wp2_with (first
    | (go_at_call 20; refine (parse_R hR n h0 h1).mono ?_; clear hR; rintro e w1 ⟨rfl, hR⟩; rw [e1.out, e2.out])
    | (go_at_call 22; refine (read_R hR s hlim).mono ?_; clear hR; rintro e w1 ⟨rfl, hR⟩; rw [e4.out, e5.out])
    | (with_reducible refine wpl_storeAt hR 25 zero10 zero10 (by with_unfolding_all rfl) (by simp) rfl 25 _ _ rfl rfl rfl rfl (by kernel_rfl) ?_; clear hR; intro w2 hR)
    | (with_reducible refine wpl_loadG hR.hd (by with_unfolding_all rfl) 25 _ rfl rfl Tryd.underlying25 iz ?_)
    | (with_reducible refine wpl_neSame zero10 rfl (by with_unfolding_all rfl) _ _ _ rfl rfl (by with_unfolding_all rfl) ?_)
    | (with_reducible refine wpl_eqSame zero10 rfl (by with_unfolding_all rfl) _ _ _ rfl rfl (by with_unfolding_all rfl) ?_)
    | (go_at_call 13; refine (works_R hR).mono ?_; clear hR; rintro e w1 ⟨rfl, hR⟩))
  go_ret
  exact ⟨rfl, hR.bel⟩
set_option maxRecDepth 100000 in
set_option maxHeartbeats 4000000 in
theorem readback_any (n : Int) (s : ByteArray) (w : World) (hw : Env w) (h0 : 0 ≤ n) (h1 : n ≤ 18446744073709551615) : Calls Tryd.prog 7 #[.int .u64 n, .string s] w fun e w' => e = .returned (.bool true) ∧ Below w.heap.size w w' := by
  have hR := Rch.start hw
  by_cases hs : 100 < s.size
  · go_enter Tryd.func7, Tryd.ntmps7
    go_wp2_with (go_at_call 13; refine (works_R hR).mono ?_; clear hR; rintro e w1 ⟨rfl, hR⟩)
    go_ret
    exact ⟨rfl, hR.bel⟩
  · by_cases hp : prsOk n
    · by_cases hr : rdOk s
      · exact rb0 n s w hw h0 h1 hs hp hr
      · exact rb1 n s w hw h0 h1 hs hp hr
    · by_cases hr : rdOk s
      · exact rb2 n s w hw h0 h1 hs hp hr
      · exact rb3 n s w hw h0 h1 hs hp hr
end Go.Proofs.YtcnflmbnnobocaaDoor
