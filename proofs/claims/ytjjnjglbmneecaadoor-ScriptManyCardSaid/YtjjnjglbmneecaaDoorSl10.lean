/- The law ScriptLists, walked. -/
import Derived.Test.YtjjnjglbmneecaaDoorSl6
namespace Go.Proofs.YtjjnjglbmneecaaDoor
open Go Go.RowKit
theorem open_bys_t {H : Type} {enc : TypeId × Value → H} {w : World} {base : Nat} {held : Bool} {v : Value} {d : DataW H} {ps : List MemPlace} (h : DataW.Trod enc Tryd.prog w base (fun _ => true) held 33 v d ps) (hv : v.cells = #[v]) : ∃ l, ByS w v l := by
  obtain ⟨fuel, hf⟩ := h
  rw [hv] at hf
  exact open_bys hf
/-- A line of a text: an operation's, or one that is skipped. -/
abbrev Itm := Opx ⊕ List UInt8
def itL : Itm → List UInt8
  | .inl x => prx x
  | .inr l => l
def itO : List Itm → List Opx
  | [] => []
  | .inl x :: r => x :: itO r
  | .inr _ :: r => itO r
def itOk : Itm → Prop
  | .inl x => zx x = 0
  | .inr l => (10 : UInt8) ∉ l ∧ l.head?.getD 35 = 35
theorem itO_app (a b : List Itm) : itO (a ++ b) = itO a ++ itO b := by
  induction a with
  | nil => rfl
  | cons x r ih => cases x <;> simp [itO, ih]
theorem it_10 {x : Itm} (h : itOk x) : (10 : UInt8) ∉ itL x := by
  cases x with
  | inl x => exact (prx_line h).1
  | inr l => exact h.1
theorem paG_its (its : List Itm) (h : ∀ x ∈ its, itOk x) (r : List (List UInt8)) (i : Nat) (acc : List Opx) (ha : acc.length + (itO its).length ≤ 1000) : paG (its.map itL ++ r) i acc = paG r (i + its.length) (acc ++ itO its) := by
  induction its generalizing i acc with
  | nil => simp [itO]
  | cons x t ih =>
    have ht : ∀ y ∈ t, itOk y := fun y hy => h y (by simp [hy])
    have hx := h x (by simp)
    cases x with
    | inl x =>
      simp only [itO, List.length_cons] at ha
      rw [List.map_cons, List.cons_append, show itL (.inl x) = prx x from rfl, paG_op hx _ _ (by omega), ih ht _ _ (by simp; omega)]
      simp [itO, Nat.add_comm, Nat.add_left_comm]
    | inr l =>
      simp only [itO] at ha
      rw [List.map_cons, List.cons_append, show itL (.inr l) = l from rfl, paG_skip hx.2, ih ht _ _ ha]
      simp [itO, Nat.add_comm, Nat.add_left_comm]
theorem txt_all (its : List Itm) (h : ∀ x ∈ its, itOk x) (hl : (itO its).length ≤ 1000) (hs : (flatL (its.map itL)).length ≤ 262144) : paA (flatL (its.map itL)) = (itO its, 0, 0) := by
  unfold paA
  rw [if_neg (by omega)]
  have h1 : ∀ l ∈ its.map itL, (10 : UInt8) ∉ l := fun l hl => by
    obtain ⟨x, hx, rfl⟩ := List.mem_map.1 hl
    exact it_10 (h x hx)
  have := parts_flat (its.map itL) h1 []
  rw [List.append_nil] at this
  rw [this, paG_its its h _ _ _ (by simpa using hl)]
  exact paG_skip rfl [] _ _
/-- .. without the last line feed. -/
theorem txt_cut (its : List Itm) (h : ∀ x ∈ its, itOk x) (hl : (itO its).length ≤ 1000) (hs : (flatL (its.map itL)).length ≤ 262144) : paA ((flatL (its.map itL)).take ((flatL (its.map itL)).length - 1)) = (itO its, 0, 0) := by
  rcases List.eq_nil_or_concat its with rfl | ⟨t, x, rfl⟩
  · exact txt_all [] h hl hs
  · simp only [List.concat_eq_append] at *
    have ht : ∀ y ∈ t, itOk y := fun y hy => h y (by simp [hy])
    have hx := h x (by simp)
    have h1 : ∀ l ∈ t.map itL, (10 : UInt8) ∉ l := fun l hl => by
      obtain ⟨x, hx, rfl⟩ := List.mem_map.1 hl
      exact it_10 (ht x hx)
    have e0 : flatL ((t ++ [x]).map itL) = flatL (t.map itL) ++ itL x ++ [10] := by
      rw [List.map_append, flatL_app]; simp [flatL]
    rw [e0] at hs ⊢
    have e : (flatL (t.map itL) ++ itL x ++ [10]).take ((flatL (t.map itL) ++ itL x ++ [10]).length - 1) = flatL (t.map itL) ++ itL x := by
      rw [List.length_append, show ([10] : List UInt8).length = 1 from rfl, Nat.add_sub_cancel, List.take_left' rfl]
    have hol : (itO t).length ≤ 1000 := by rw [itO_app] at hl; simp at hl; omega
    rw [e]
    unfold paA
    rw [if_neg (by simp at hs ⊢; omega), parts_flat _ h1, parts_line (it_10 hx), paG_its t ht _ _ _ (by simpa using hol)]
    cases x with
    | inl x =>
      rw [itO_app] at hl ⊢
      exact paG_op hx [] _ (by simp [itO] at hl ⊢; omega)
    | inr l =>
      rw [itO_app, show itO [(.inr l : Itm)] = [] from rfl, List.append_nil]
      exact paG_skip hx.2 [] _ _
theorem paL_flat (xs : List Opx) (acc : List UInt8) (h : acc.length + (flatL (xs.map prx)).length ≤ 262144) : paL xs acc = (acc ++ flatL (xs.map prx), 0) := by
  induction xs generalizing acc with
  | nil => simp [paL, flatL]
  | cons x t ih =>
    rw [List.map_cons, flatL] at h
    rw [paL, if_neg (by simp at h; omega), ih _ (by simp at h ⊢; omega)]
    simp [flatL]
theorem paP_flat (xs : List Opx) (hx : ∀ x ∈ xs, zx x = 0) (hl : xs.length ≤ 1000) (h : (flatL (xs.map prx)).length ≤ 262144) : paP xs = (flatL (xs.map prx), 0) := by
  unfold paP
  rw [if_neg (by omega), if_neg (fun ⟨x, hm, hz⟩ => hz (hx x hm)), paL_flat xs [] (by simpa using h)]
  rfl
theorem it_ops (xs : List Opx) : (xs.map (Sum.inl : Opx → Itm)).map itL = xs.map prx ∧ itO (xs.map Sum.inl) = xs := by
  induction xs with
  | nil => exact ⟨rfl, rfl⟩
  | cons x t ih => exact ⟨by rw [List.map_cons, List.map_cons, ih.1]; rfl, by rw [List.map_cons, itO, ih.2]⟩
/-- The lines that are laid between. -/
def skL (k : Nat) : List UInt8 := [[], [35, 32, 98, 111, 111, 107], [35]].getD (k % 3) []
def skV : List Value := [.string ⟨#[10]⟩, .string ⟨#[35, 32, 98, 111, 111, 107, 10]⟩, .string ⟨#[35, 10]⟩]
theorem skV_at (q : Nat) (h : q < 3) : skV[q]'h = .string ⟨(([[], [35, 32, 98, 111, 111, 107], [35]] : List (List UInt8)).getD q [] ++ [10]).toArray⟩ := by
  have hq : q = 0 ∨ q = 1 ∨ q = 2 := by omega
  rcases hq with rfl | rfl | rfl <;> rfl
theorem skL_ok (k : Nat) : itOk (.inr (skL k)) ∧ (skL k).length ≤ 6 := by
  have : ∀ m : Fin 3, ((10 : UInt8) ∉ ([[], [35, 32, 98, 111, 111, 107], [35]] : List (List UInt8)).getD m.val [] ∧ (([[], [35, 32, 98, 111, 111, 107], [35]] : List (List UInt8)).getD m.val []).head?.getD 35 = 35) ∧ (([[], [35, 32, 98, 111, 111, 107], [35]] : List (List UInt8)).getD m.val []).length ≤ 6 := by decide
  exact this ⟨k % 3, by omega⟩
theorem pall_is {W : World} (hW : EnvS W) (l : List Opx) (v : Value) (hl : l.length ≤ 1000000) (hv : IsOps W v l) (hf : ∀ x ∈ l, Fine x) :
    Calls Tryd.prog 33 #[v] W fun e w' => e = .returned (.tuple #[.string ⟨(paP l).1.toArray⟩, .int .i64 (paP l).2]) ∧ Below W.heap.size W w' := by
  rcases hv with ⟨rfl, rfl⟩ | ⟨g, cap, rfl, hg, _, hO⟩
  · exact pall_nil W
  · exact pall_any hW l g cap hl hO hg hf
/-- What is so in the first loop. -/
structure LsI (w : World) (xs : List Opx) (q : Nat) (v5 : Value) (S M : List UInt8) (its : List Itm) (wr : World) : Prop where
  ops : Opsl w wr v5 (xs.take q)
  wnt : S = flatL ((xs.take q).map prx)
  mor : M = flatL (its.map itL)
  ito : itO its = xs.take q
  ok : ∀ x ∈ its, itOk x
  sl : S.length ≤ q * 6200
set_option linter.unusedSimpArgs false in
set_option maxRecDepth 100000 in
set_option maxHeartbeats 8000000 in
theorem lists_law {w : World} (hw : EnvS w) (v : Value) (ns : List Nm) (hv : NmsS w v ns) (vb : Value) (sk : List UInt8) (hb : ByS w vb sk) :
    Calls Tryd.prog 10 #[v, vb] w fun e w' => e = .returned (.bool true) ∧ Below w.heap.size w w' := by
  have HWk := Lib.hid (fun (W : World) (h : EnvS W) => works_any h)
  obtain ⟨i0, hi0, hz0, hz1, hz2⟩ := info_parts infoOp
  obtain ⟨ao, cap, rfl, hcap, hne⟩ := hv
  have HNE := Lib.hid hne
  obtain ⟨bo, bcap, hvb, hbcap, _⟩ := hb.sl
  subst hvb
  have HBS := Lib.hid hb
  clear hne hb
  by_cases hl : 40 < ns.length
  · have d1 : decide ((40 : Int) < (ns.length : Int)) = true := by simp; omega
    go_enter Tryd.func10, Tryd.ntmps10
    go_wp2_with (go_at_call 12; refine (HWk.out _ hw).mono ?_; rintro e w' ⟨rfl, hE⟩)
    go_ret
    exact ⟨rfl, hE⟩
  have d1 : decide ((40 : Int) < (ns.length : Int)) = false := by simp; omega
  by_cases hl2 : 20 < sk.length
  · have d2 : decide ((20 : Int) < (sk.length : Int)) = true := by simp; omega
    go_enter Tryd.func10, Tryd.ntmps10
    go_wp2_with (go_at_call 12; refine (HWk.out _ hw).mono ?_; rintro e w' ⟨rfl, hE⟩)
    go_ret
    exact ⟨rfl, hE⟩
  have d2 : decide ((20 : Int) < (sk.length : Int)) = false := by simp; omega
  have hl40 : ns.length ≤ 40 := by omega
  have hl20 : sk.length ≤ 20 := by omega
  clear hl hl2
  go_enter Tryd.func10, Tryd.ntmps10
  go_wp2_with fail
  go_loopg [5, 6, 7, 8] ns.length (fun mm o s m i wr => ∃ (q : Nat) (S M : List UInt8) (its : List Itm), mm = ns.length - q ∧ q ≤ ns.length ∧ i = .int .i64 q ∧ s = .string ⟨S.toArray⟩ ∧ m = .string ⟨M.toArray⟩ ∧ LsI w (ns.map nmX) q o S M its wr ∧ M.length ≤ q * 6210 ∧ (∀ p (h : p < ns.length), p < q → ns[p].l.length ≤ 60))
  case atStart => exact ⟨0, [], [], [], rfl, by omega, rfl, rfl, rfl, ⟨Opsl.nil (Below.refl _ _), rfl, rfl, rfl, fun x hx => (by cases hx), by simp⟩, by simp, fun p _ h => by omega⟩
  case round =>
    obtain ⟨q, S, M, its, hkm, hq, rfl, rfl, rfl, hI, hMl, h60⟩ := hrel
    have HK := Lib.hid hkm
    have HI := Lib.hid hI
    have H60 := Lib.hid h60
    have hb := hI.ops.bel
    have HB := Lib.hid hb
    have hle := hb.size
    have hSl := hI.sl
    clear hkm h60
    by_cases hql : q < ns.length
    · have dq : decide ((q : Int) < (ns.length : Int)) = true := by simp; omega
      obtain ⟨g, off, rfl, hg, hel⟩ := HNE.out (fun e => by rw [e] at hql; simp at hql)
      have hat := (hel q hql).below hb hg
      have hgl : g < wr.heap.size := Nat.lt_of_lt_of_le hg hle
      obtain ⟨c0, c1, c2, hk255, ha32, hby⟩ := hat
      have hxq : (ns.map nmX)[q]'(by simpa using hql) = nmX ns[q] := by simp
      have HXQ := Lib.hid hxq
      obtain ⟨nm, hnm⟩ : ∃ nm, ns[q] = nm := ⟨_, rfl⟩
      rw [hnm] at c0 c1 c2 hk255 ha32 hby HXQ
      have HNM := Lib.hid hnm
      clear hnm hxq hel hg
      obtain ⟨ao', cap', hsl, _, _⟩ := hby.sl
      have HBY := Lib.hid hby
      rw [hsl] at c2
      by_cases hlong : 60 < nm.l.length
      · have dl : decide ((60 : Int) < (nm.l.length : Int)) = true := by simp; omega
        clear hby hb hI
        go_wp2_with (go_at_call 12; refine (HWk.out _ (hw.below HB.out)).mono ?_; rintro e w' ⟨rfl, hE⟩)
        go_ret
        exact ⟨rfl, HB.out.trans (below_le hE hle)⟩
      have dl : decide ((60 : Int) < (nm.l.length : Int)) = false := by simp; omega
      have hok := nmX_ok (n := nm) (by omega)
      have hps := prx_short hok.2.1
      have HX : Hid (∀ W : World, Below wr.heap.size wr W → Calls Tryd.prog 19 #[.agg #[.int .u8 nm.k, .int .u32 nm.a, .slice ao' nm.l.length cap']] W fun e w' => e = .returned (opx (nmX nm)) ∧ Below W.heap.size W w') := Lib.hid (fun W hb => by have := nop_any nm.k nm.a hk255 ha32 nm.l nm.sl W (HBY.out.below hb); rw [hsl] at this; exact this)
      have HP : Hid (∀ W : World, EnvS W → Calls Tryd.prog 20 #[opx (nmX nm)] W fun e w' => e = .returned (.tuple #[.string ⟨(prx (nmX nm)).toArray⟩, .int .i64 0]) ∧ Below W.heap.size W w') := Lib.hid (fun W hW => by
        have := print_any hW (nmX nm).1 (nmX nm).2.1 ⟨(nmX nm).2.2.toArray⟩ (by simpa [ByteArray.size] using hok.2.1.1) hok.2.1.2.1 hok.2.1.2.2
        rw [show chkZ (nmX nm).1 (nmX nm).2.1 (⟨(nmX nm).2.2.toArray⟩ : ByteArray).data.toList = 0 from hok.1, show prS (nmX nm).1 (nmX nm).2.1 (⟨(nmX nm).2.2.toArray⟩ : ByteArray).data.toList = prx (nmX nm) from rfl] at this
        exact this)
      have HPL : Hid ((prx (nmX nm)).length ≤ 6060) := Lib.hid (by have := hok.2.2; omega)
      have HZX := Lib.hid hok.1
      have hpl := HPL.out
      obtain ⟨a5, c5, ho5⟩ : ∃ a5 c5, u5 = .slice a5 q c5 := by
        obtain ⟨a, c, h⟩ := hI.ops.isOps.sl
        exact ⟨a, c, by rw [h, List.length_take, List.length_map, Nat.min_eq_left hq]⟩
      subst ho5
      unfold opx opV at HX HP
      clear hok hps hby hb hI
      generalize hpp : prx (nmX nm) = p at *
      have HPP := Lib.hid hpp
      clear hpp
      generalize nmX nm = x at *
      obtain ⟨xk, xa, xv⟩ := x
      dsimp only at *
      go_wp2_with (first
        | (go_at_call 19; refine (HX.out _ (Below.refl _ _)).mono ?_; rintro e w1 ⟨rfl, hE⟩; have hb1 := hE.trans (below_le (below_al w1 (.cells #[.int .i64 xk, .int .i64 xa, .string ⟨xv.toArray⟩] 24)) hE.size); have O1 := Lib.hid (HI.out.ops.grow hb1); have R1 := Lib.hid (Rw.new w1 24 #[.int .i64 xk, .int .i64 xa, .string ⟨xv.toArray⟩]); clear hE hb1)
        | (go_at_call 20; refine (HP.out _ (hw.below O1.out.bel)).mono ?_; rintro e w2 ⟨rfl, hE⟩; have O2 := Lib.hid (O1.out.grow hE); have O3 := Lib.hid ((O1.out.grow hE).grow (below_al w2 (.cells #[.int .i64 xk, .int .i64 xa, .string ⟨xv.toArray⟩] 24))); have R2 := Lib.hid (R1.out.below hE R1.out.lt); obtain ⟨r0, r1, r2, _, _, _⟩ := R2.out.facts; have hCR := Lib.hid (cell_row3_new w2 (.int .i64 xk) (.int .i64 xa) (.string ⟨xv.toArray⟩) 24); have hle2 := O2.out.bel.size; clear hE O1 R1)
        | (at_builtin; refine wpList_append_own _ rfl _ _ 43 rfl w.heap.size 24 i0 (.agg #[.int .i64 0, .int .i64 0, .string ⟨#[]⟩]) 3 32 Tryd.underlying43 hi0 hz0 hz1 hz2 rfl (by decide) _ _ _ rfl O3.out.own ⟨w2.heap.size, 0, none⟩ 1 1 [.int .i64 xk, .int .i64 xa, .string ⟨xv.toArray⟩] rfl rfl hCR.out (by simp [Value.oneCell']) (by unfold maxLen; simp; omega) (by simp; omega) (by simp; omega) ?_; intro v' w5 hown' hgrow _; have HO := Lib.hid hown'; have HG := Lib.hid hgrow; clear hown' hgrow))
      have hto : (ns.map nmX).take (q + 1) = (ns.map nmX).take q ++ [(xk, xa, xv)] := by rw [List.take_succ_eq_append_getElem (by simpa using hql), HXQ.out]
      have O5 : Hid (Opsl w w5 v' ((ns.map nmX).take (q + 1))) := Lib.hid (by rw [hto]; exact O3.out.app (x := (xk, xa, xv)) HO.out HG.out)
      have hito : Hid (itO (its ++ [Sum.inl (xk, xa, xv)]) = (ns.map nmX).take (q + 1)) := Lib.hid (by rw [itO_app, HI.out.ito, hto]; rfl)
      have hmor : Hid (M ++ p ++ [10] = flatL ((its ++ [Sum.inl (xk, xa, xv)]).map itL)) := Lib.hid (by rw [List.map_append, flatL_app, ← HI.out.mor, List.map_cons, show itL (Sum.inl (xk, xa, xv)) = p from HPP.out]; simp [flatL])
      have hok2 : Hid (∀ y ∈ its ++ [Sum.inl (xk, xa, xv)], itOk y) := Lib.hid (fun y hy => by
        rcases List.mem_append.1 hy with hy | hy
        · exact HI.out.ok y hy
        · rw [List.mem_singleton.1 hy]; exact HZX.out)
      have hbs1 : (⟨S.toArray⟩ ++ ⟨p.toArray⟩ ++ ⟨#[10]⟩ : ByteArray) = ⟨(S ++ p ++ [10]).toArray⟩ := by simp only [bs_app]
      have hbs2 : (⟨M.toArray⟩ ++ ⟨p.toArray⟩ ++ ⟨#[10]⟩ : ByteArray) = ⟨(M ++ p ++ [10]).toArray⟩ := by simp only [bs_app]
      have hwnt : Hid (S ++ p ++ [10] = flatL (((ns.map nmX).take (q + 1)).map prx)) := Lib.hid (by rw [hto, List.map_append, flatL_app, ← HI.out.wnt, List.map_cons, show prx (xk, xa, xv) = p from HPP.out]; simp [flatL])
      have hM0 : (M ++ p ++ [10]).length ≤ q * 6210 + 6061 := by simp; omega
      have hS0 : (S ++ p ++ [10]).length ≤ (q + 1) * 6200 := by simp; omega
      rw [hbs1, hbs2]
      clear hto hbs1 hbs2 dl r0 r1 r2 c0 c1 c2
      generalize its ++ [Sum.inl (xk, xa, xv)] = its1 at *
      generalize S ++ p ++ [10] = S1 at *
      generalize M ++ p ++ [10] = M1 at *
      go_loopg [7, 12] sk.length (fun mm m i wr => ∃ (k : Nat) (M' : List UInt8) (its' : List Itm), mm = sk.length - k ∧ k ≤ sk.length ∧ i = .int .i64 k ∧ m = .string ⟨M'.toArray⟩ ∧ M' = flatL (its'.map itL) ∧ itO its' = (ns.map nmX).take (q + 1) ∧ (∀ y ∈ its', itOk y) ∧ M'.length ≤ q * 6210 + 6061 + k * 7 ∧ Opsl w wr v' ((ns.map nmX).take (q + 1)))
      case atStart => exact ⟨0, M1, its1, rfl, by omega, rfl, rfl, hmor.out, hito.out, hok2.out, by omega, O5.out⟩
      case round =>
        obtain ⟨k, M', its', hkm, hk, rfl, rfl, e1, e2, e3, hMk, hO⟩ := hrel
        have HK2 := Lib.hid hkm
        have E1 := Lib.hid e1
        have E2 := Lib.hid e2
        have E3 := Lib.hid e3
        have HO2 := Lib.hid hO
        have hle3 := hO.bel.size
        have hbk := HBS.out.below hO.bel
        clear hkm e1 e2 e3 hO
        by_cases hks : k < sk.length
        · have dk : decide ((k : Int) < (sk.length : Int)) = true := by simp; omega
          obtain ⟨bo', bc', hbe, _, hb3⟩ := hbk
          cases hbe
          obtain ⟨gb, off2, rfl, _, hcb⟩ := hb3 (fun e => by rw [e] at hks; simp at hks)
          have hcell := hcb k hks
          clear hcb hb3
          generalize sk[k] = y at hcell
          have hy := y.toNat_lt
          obtain ⟨c40, hc40⟩ : ∃ c, y.toNat % 40 = c := ⟨_, rfl⟩
          have hi40 : (y.toNat : Int) % 40 = (c40 : Int) := by omega
          by_cases hcq : c40 = q
          · subst hcq
            obtain ⟨c3, hc3⟩ : ∃ c, k % 3 = c := ⟨_, rfl⟩
            have hi3 : (k : Int) % 3 = (c3 : Int) := by omega
            have h3 : c3 < 3 := by omega
            have hsk := skV_at c3 h3
            have hskl : skL k = ([[], [35, 32, 98, 111, 111, 107], [35]] : List (List UInt8)).getD c3 [] := by unfold skL; rw [hc3]
            rw [← hskl] at hsk
            have hsok := skL_ok k
            have HSOK := Lib.hid hsok.1
            have hsl6 := hsok.2
            unfold skV at hsk
            clear hskl hc3 hsok
            generalize skL k = sl0 at *
            have hbs3 := Lib.hid (bs_app M' (sl0 ++ [10]))
            have hsl7 : (sl0 ++ [10]).length ≤ 7 := by simp; omega
            have hflat : Hid (M' ++ (sl0 ++ [10]) = flatL ((its' ++ [Sum.inr sl0]).map itL)) := Lib.hid (by rw [List.map_append, flatL_app, ← E1.out]; simp [flatL, itL])
            generalize sl0 ++ [10] = sl1 at *
            go_wp2_with fail
            go_roundg (sk.length - (k + 1))
            case measure => have := HK2.out; omega
            case rel => exact ⟨k + 1, M' ++ sl1, its' ++ [Sum.inr sl0], rfl, by omega, by go_num, congrArg Value.string hbs3.out.symm, hflat.out, by rw [itO_app, E2.out, show itO [(Sum.inr sl0 : Itm)] = [] from rfl, List.append_nil], fun y hy => by
              rcases List.mem_append.1 hy with hy | hy
              · exact E3.out y hy
              · rw [List.mem_singleton.1 hy]; exact HSOK.out, by simp; omega, HO2.out.grow (below_al _ _)⟩
          · have hcq2 : ¬ (c40 : Int) = (q : Int) := by omega
            go_wp2_with fail
            go_roundg (sk.length - (k + 1))
            case measure => have := HK2.out; omega
            case rel => exact ⟨k + 1, M', its', rfl, by omega, by go_num, rfl, E1.out, E2.out, E3.out, by omega, HO2.out⟩
        · have hkk : k = sk.length := by omega
          have dk : decide ((k : Int) < (sk.length : Int)) = false := by simp; omega
          clear hbk
          go_wp2_with fail
          go_roundg (ns.length - (q + 1))
          case measure => have := HK.out; omega
          case rel => exact ⟨q + 1, S1, M', its', rfl, by omega, by go_num, rfl, rfl, ⟨HO2.out, hwnt.out, E1.out, E2.out, E3.out, hS0⟩, by omega, fun t ht hlt => by
            by_cases e : t = q
            · subst e; rw [HNM.out]; omega
            · exact H60.out t ht (by omega)⟩
    · have hqq : q = ns.length := by omega
      subst hqq
      have dq : decide ((ns.length : Int) < (ns.length : Int)) = false := by simp
      have hlx : (ns.map nmX).length = ns.length := List.length_map ..
      have htk : (ns.map nmX).take ns.length = ns.map nmX := List.take_of_length_le (by omega)
      have hzz : ∀ x ∈ ns.map nmX, zx x = 0 ∧ Fine x := fun x hx => by
        obtain ⟨nm, hnm, rfl⟩ := List.mem_map.1 hx
        obtain ⟨t, ht, rfl⟩ := List.getElem_of_mem hnm
        have := nmX_ok (H60.out t ht ht)
        exact ⟨this.1, this.2.1⟩
      obtain ⟨hO, hS, hM, hT, hK', _⟩ := hI
      rw [htk] at hO hS hT
      generalize ns.map nmX = xs at *
      have hxl : xs.length ≤ 40 := by omega
      have hS2 : (flatL (xs.map prx)).length ≤ 262144 := by rw [← hS]; omega
      have hpp := paP_flat xs (fun x hx => (hzz x hx).1) (by omega) hS2
      rw [← hS] at hpp
      have hio := it_ops xs
      have hA1 : paA S = (xs, 0, 0) := by
        have := txt_all (xs.map Sum.inl) (fun y hy => by obtain ⟨x, hx, rfl⟩ := List.mem_map.1 hy; exact (hzz x hx).1) (by rw [hio.2]; omega) (by rw [hio.1]; exact hS2)
        rw [hio.1, hio.2, ← hS] at this
        exact this
      have hA3 : paA (S.take (S.length - 1)) = (xs, 0, 0) := by
        have := txt_cut (xs.map Sum.inl) (fun y hy => by obtain ⟨x, hx, rfl⟩ := List.mem_map.1 hy; exact (hzz x hx).1) (by rw [hio.2]; omega) (by rw [hio.1]; exact hS2)
        rw [hio.1, hio.2, ← hS] at this
        exact this
      have hMl2 : M.length ≤ 250000 := by omega
      have hSl2 : S.length ≤ 250000 := by omega
      have hA2 : paA M = (xs, 0, 0) := by
        have := txt_all its hK' (by rw [hT]; omega) (by rw [← hM]; omega)
        rw [hT, ← hM] at this
        exact this
      have HP : Hid (∀ W : World, EnvS W → IsOps W u5 xs → Calls Tryd.prog 33 #[u5] W fun e w' => e = .returned (.tuple #[.string ⟨S.toArray⟩, .int .i64 0]) ∧ Below W.heap.size W w') := Lib.hid (fun W hW hv => by
        have := pall_is hW xs u5 (by omega) hv (fun x hx => (hzz x hx).2)
        rw [hpp] at this
        exact this)
      have HA : Hid (∀ (T : List UInt8), T.length ≤ 250000 → paA T = (xs, 0, 0) → ∀ W : World, EnvS W → Calls Tryd.prog 24 #[.string ⟨T.toArray⟩] W fun e w' => (∃ ao cap, e = .returned (.tuple #[.slice ao xs.length cap, .int .i64 0, .int .i64 0]) ∧ IsOps w' (.slice ao xs.length cap) xs) ∧ Below W.heap.size W w') := Lib.hid (fun T hT hp W hW => by
        have := pa_any hW ⟨T.toArray⟩ (by simpa [ByteArray.size] using hT)
        rw [show (⟨T.toArray⟩ : ByteArray).data.toList = T from rfl, hp] at this
        refine this.mono fun e w' ⟨v, h1, h2⟩ => ⟨?_, h2.bel⟩
        obtain ⟨ao, cap, hv⟩ := h2.isOps.sl
        exact ⟨ao, cap, by rw [h1, hv], by rw [← hv]; exact h2.isOps⟩)
      obtain ⟨a5, c5, ho5⟩ : ∃ a5 c5, u5 = .slice a5 xs.length c5 := hO.isOps.sl
      have HO0 := Lib.hid hO.isOps
      have HB0 := Lib.hid hO.bel
      have hmax : max (0 : Int) ((S.length : Int) - 1) = ((S.length - 1 : Nat) : Int) := by omega
      have hex : (⟨S.toArray⟩ : ByteArray).extract 0 (S.length - 1) = ⟨(S.take (S.length - 1)).toArray⟩ := ByteArray.ext (Array.toList_inj.1 (by rw [Lib.extract_data]; simp))
      have hSmin : S.length - 1 ≤ S.length := by omega
      have HAll : Hid (∀ t : Nat, t < 3 → ∀ (h : t < [S, M, S.take (S.length - 1)].length), [S, M, S.take (S.length - 1)][t].length ≤ 250000 ∧ paA [S, M, S.take (S.length - 1)][t] = (xs, 0, 0)) := Lib.hid (fun t ht h => by
        have ht' : t = 0 ∨ t = 1 ∨ t = 2 := by omega
        rcases ht' with rfl | rfl | rfl
        · exact ⟨hSl2, hA1⟩
        · exact ⟨hMl2, hA2⟩
        · exact ⟨Nat.le_trans (List.length_take_le _ _) (by omega), hA3⟩)
      subst ho5
      clear hO hS hM hT hK' htk hpp hio hA1 hA2 hA3 hzz HI HK hlx hMl hSl hS2 H60
      generalize S.take (S.length - 1) = C at *
      generalize S.length - 1 = sm at *
      go_wp2_with (go_at_call 33; refine (HP.out _ (hw.below HB0.out) HO0.out).mono ?_; rintro e w1 ⟨rfl, hE⟩; have HB1 := Lib.hid (HB0.out.trans (below_le hE HB0.out.size)); have HO1 := Lib.hid (HO0.out.below hE); clear hE)
      have HB2 := Lib.hid (HB1.out.alloc HB1.out.size (.cells #[.string ⟨S.toArray⟩, .string ⟨M.toArray⟩, .string ⟨C.toArray⟩] 9))
      have HO2 := Lib.hid (HO1.out.below (below_al w1 (.cells #[.string ⟨S.toArray⟩, .string ⟨M.toArray⟩, .string ⟨C.toArray⟩] 9)))
      have HR2 := Lib.hid (Rw.new w1 9 #[.string ⟨S.toArray⟩, .string ⟨M.toArray⟩, .string ⟨C.toArray⟩])
      clear hmax hex hSmin hMl2 hSl2 hq hle
      generalize w1.heap.size = g3 at *
      generalize w1.alloc _ = w2 at *
      go_loopg [111] 3 (fun mm i wr => ∃ t : Nat, mm = 3 - t ∧ t ≤ 3 ∧ i = .int .i64 t ∧ Below w2.heap.size w2 wr)
      case atStart => exact ⟨0, rfl, by omega, rfl, Below.refl _ _⟩
      case round =>
        obtain ⟨t, hkm, ht, rfl, hb⟩ := hrel
        have HK3 := Lib.hid hkm
        have HBt := Lib.hid hb
        have hlet := hb.size
        clear hkm
        by_cases ht3 : t < 3
        · have dt : decide ((t : Int) < 3) = true := by simp; omega
          have hlt : t < [S, M, C].length := ht3
          obtain ⟨hTl, hTp⟩ := HAll.out t ht3 hlt
          have hcell : wr.cell? ⟨g3, t, none⟩ = some (.string ⟨[S, M, C][t].toArray⟩) := by
            rw [Lib.cell_of_heap (HR2.out.below hb HR2.out.lt)]
            have ht' : t = 0 ∨ t = 1 ∨ t = 2 := by omega
            rcases ht' with rfl | rfl | rfl <;> rfl
          generalize [S, M, C][t] = T at *
          have HT := Lib.hid (HA.out T hTl hTp)
          have HWt := Lib.hid (hw.below (HB2.out.trans (below_le hb HB2.out.size)))
          clear hb hTl hTp
          go_wp2_with (go_at_call 24; refine (HT.out _ HWt.out).mono ?_; rintro e w3 ⟨⟨ag, cg, rfl, hG⟩, hE⟩; have HG3 := Lib.hid hG; have HB3 := Lib.hid (HBt.out.trans (below_le hE HBt.out.size)); clear hE hG)
          have HO3 := Lib.hid (HO2.out.below HB3.out)
          have hle3 := HB3.out.size
          go_loopg [20] xs.length (fun mm i wr => ∃ j : Nat, mm = xs.length - j ∧ j ≤ xs.length ∧ i = .int .i64 j ∧ Below w3.heap.size w3 wr)
          case atStart => exact ⟨0, rfl, by omega, rfl, Below.refl _ _⟩
          case round =>
            obtain ⟨j, hkm, hj, rfl, hb⟩ := hrel
            have HK4 := Lib.hid hkm
            have HBj := Lib.hid hb
            clear hkm
            by_cases hjx : j < xs.length
            · have dj : decide ((j : Int) < (xs.length : Int)) = true := by simp; omega
              rcases HG3.out.below hb with ⟨_, h⟩ | ⟨gg, cg', hgs, _, hgc, hga⟩
              · rw [h] at hjx; simp at hjx
              rcases HO3.out.below hb with ⟨_, h⟩ | ⟨go', co', hos, _, hoc, hoa⟩
              · rw [h] at hjx; simp at hjx
              cases hgs
              cases hos
              obtain ⟨a0, a1, a2⟩ := hga j hjx
              obtain ⟨b0, b1, b2⟩ := hoa j hjx
              generalize xs[j] = x at a0 a1 a2 b0 b1 b2
              obtain ⟨xk, xa, xv⟩ := x
              dsimp only at a0 a1 a2 b0 b1 b2
              clear hb hga hoa
              go_wp2_with fail
              go_region
              go_wp2_with fail
              go_roundg (xs.length - (j + 1))
              case measure => have := HK4.out; omega
              case rel => exact ⟨j + 1, rfl, by omega, by go_num, HBj.out.drew⟩
            · have dj : decide ((j : Int) < (xs.length : Int)) = false := by simp; omega
              clear hb
              go_wp2_with fail
              go_roundg (3 - (t + 1))
              case measure => have := HK3.out; omega
              case rel => exact ⟨t + 1, rfl, by omega, by go_num, HB3.out.trans (below_le HBj.out HB3.out.size)⟩
        · have dt : decide ((t : Int) < 3) = false := by simp; omega
          have HBz := Lib.hid (HB2.out.trans (below_le hb HB2.out.size))
          clear hb
          go_wp2_with (go_at_call 12; refine (HWk.out _ (hw.below HBz.out)).mono ?_; rintro e w' ⟨rfl, hE⟩)
          go_ret
          exact ⟨rfl, HBz.out.trans (below_le hE HBz.out.size)⟩
end Go.Proofs.YtjjnjglbmneecaaDoor
