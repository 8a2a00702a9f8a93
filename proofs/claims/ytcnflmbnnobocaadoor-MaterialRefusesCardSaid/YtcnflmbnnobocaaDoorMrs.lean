/- The law MaterialReads. Conditions: as in Env. -/
import Derived.Test.YtcnflmbnnobocaaDoorMsn
namespace Go.Proofs.YtcnflmbnnobocaaDoor
open Go Go.RowKit
/-- An array of ten numbers is compared to itself. -/
theorem wpl_eqSame {ops : Array Oper} {rest : List Oper} {o : Oper} {a : Act} {w : World} {Q : Exit → Act → World → Prop} (l : List Int) (hl : l.length = 10) (hgd : Region.wanted o (yielded ops a.tmps) = true) (x y : Operand) (u : TypeId) (ho : o.op = .binOp .eql 25 x y u)
    (hx : a.eval x = .agg (ints l)) (hy : a.eval y = .agg (ints l)) (h : wpList Tryd.prog ops Q rest (a.put o.dst (.bool true)) w) : wpList Tryd.prog ops Q (o :: rest) a w :=
  wpl_eqG (l := l) (l' := l) hgd x y u ho hx hy Tryd.underlying25 Tryd.underlying3 (by kernel_rfl) (by kernel_rfl) (by kernel_rfl) hl hl (by rw [decide_eq_true rfl]; exact h)
set_option maxRecDepth 100000 in
set_option maxHeartbeats 4000000 in
theorem reads_any (n : Int) (s : ByteArray) (w : World) (hw : Env w) (h0 : 0 ≤ n) (h1 : n ≤ 18446744073709551615) : Calls Tryd.prog 5 #[.int .u64 n, .string s] w fun e w' => e = .returned (.bool true) ∧ Below w.heap.size w w' := by
  have hR := Rch.start hw
  by_cases hs : 1000 < s.size
  · go_enter Tryd.func5, Tryd.ntmps5
    go_wp2_with (go_at_call 13; refine (works_R hR).mono ?_; clear hR; rintro e w1 ⟨rfl, hR⟩)
    go_ret
    exact ⟨rfl, hR.bel⟩
  · have hlim : s.size ≤ 100000 := by omega
    have lp := prsV_ln n
    have lr := rdV_ln s
    have zp : (prsV n).length = zero10.length := lp
    have zr : (rdV s).length = zero10.length := lr
    have ip : (Tryd.prog.info? 25).map (·.size) = some (prsV n).length := by rw [lp]; kernel_rfl
    have ip2 : (Tryd.prog.info? 24).map (·.size) = some (prsV n).length := by rw [lp]; kernel_rfl
    have ir : (Tryd.prog.info? 25).map (·.size) = some (rdV s).length := by rw [lr]; kernel_rfl
    have ir2 : (Tryd.prog.info? 24).map (·.size) = some (rdV s).length := by rw [lr]; kernel_rfl
    go_enter Tryd.func5, Tryd.ntmps5
    go_wp2_with (first
      | (go_at_call 20; refine (parse_R hR n h0 h1).mono ?_; clear hR; rintro e w1 ⟨rfl, hR⟩)
      | (go_at_call 21; refine (parser_R hR n h0 h1).mono ?_; clear hR; rintro e w1 ⟨rfl, hR⟩)
      | (go_at_call 22; refine (read_R hR s hlim).mono ?_; clear hR; rintro e w1 ⟨rfl, hR⟩)
      | (go_at_call 23; refine (readr_R hR s hlim).mono ?_; clear hR; rintro e w1 ⟨rfl, hR⟩)
      | (go_at_call 13; refine (works_R hR).mono ?_; clear hR; rintro e w1 ⟨rfl, hR⟩)
      | (with_reducible refine wpl_storeAt hR 25 zero10 (prsV n) (by with_unfolding_all rfl) (by simp) rfl 25 _ _ rfl rfl rfl zp (by kernel_rfl) ?_; clear hR; intro w2 hR)
      | (with_reducible refine wpl_storeAt hR 28 zero10 (prsV n) (by with_unfolding_all rfl) (by simp) rfl 28 _ _ rfl rfl rfl zp (by kernel_rfl) ?_; clear hR; intro w2 hR)
      | (with_reducible refine wpl_storeAt hR 25 zero10 (rdV s) (by with_unfolding_all rfl) (by simp) rfl 25 _ _ rfl rfl rfl zr (by kernel_rfl) ?_; clear hR; intro w2 hR)
      | (with_reducible refine wpl_storeAt hR 28 zero10 (rdV s) (by with_unfolding_all rfl) (by simp) rfl 28 _ _ rfl rfl rfl zr (by kernel_rfl) ?_; clear hR; intro w2 hR)
      | (with_reducible refine wpl_loadG hR.hd (by with_unfolding_all rfl) 24 _ rfl rfl Tryd.underlying24 ir2 ?_)
      | (with_reducible refine wpl_loadG hR.tl.hd (by with_unfolding_all rfl) 25 _ rfl rfl Tryd.underlying25 ir ?_)
      | (with_reducible refine wpl_loadG hR.tl.tl.hd (by with_unfolding_all rfl) 24 _ rfl rfl Tryd.underlying24 ip2 ?_)
      | (with_reducible refine wpl_loadG hR.tl.tl.tl.hd (by with_unfolding_all rfl) 25 _ rfl rfl Tryd.underlying25 ip ?_)
      | (with_reducible refine wpl_eqSame (prsV n) lp (by with_unfolding_all rfl) _ _ _ rfl rfl rfl ?_)
      | (with_reducible refine wpl_eqSame (rdV s) lr (by with_unfolding_all rfl) _ _ _ rfl rfl rfl ?_))
    go_ret
    exact ⟨rfl, hR.bel⟩
end Go.Proofs.YtcnflmbnnobocaaDoor
