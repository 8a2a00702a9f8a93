/- The law ScriptWrong, walked. -/
import Derived.Test.YtjjnjglbmneecaaDoorSnp
import Derived.Test.YtjjnjglbmneecaaDoorSah
import Derived.Test.YtjjnjglbmneecaaDoorSbb
namespace Go.Proofs.YtjjnjglbmneecaaDoor
open Go Go.RowKit
def nmX (n : Nm) : Opx := opP n.k n.a n.l
theorem nmX_ok {n : Nm} (h : n.l.length ≤ 60) : zx (nmX n) = 0 ∧ Fine (nmX n) ∧ (nmX n).2.2.length ≤ 1500 := by
  have h1 := opP_ok n.k n.a n.l (by omega)
  have h2 := opP_fine n.k n.a n.l (by omega)
  exact ⟨h1, h2.1, by have := h2.2; unfold nmX; omega⟩
theorem prx_short {x : Opx} (hx : Fine x) : (prx x).length ≤ 4 * x.2.2.length + 60 := by
  unfold prx prS
  split
  · rename_i h
    have hk := chk_iff.1 h
    have h2 : (wordL x.1.toNat).length ≤ 10 := by
      unfold wordL
      rcases h : x.1.toNat with _ | _ | _ | _ | _ | _ | _ | _ | _ | _ | n <;> simp
    have h3 := (qL_len x.2.2).2
    have h4 := Lib.itoa_length_le x.2.1 hx.2.1 hx.2.2
    have h5 : (encP x.1.toNat x.2.1 x.2.2).length ≤ 4 * x.2.2.length + 30 := by
      unfold encP
      split <;> simp <;> omega
    simp; omega
  · simp
/-- The string so far, with a wrong line at place n. -/
def WrS (m n : Nat) (b : List UInt8) (xs : List Opx) (i : Nat) (S : List UInt8) : Prop :=
  (i ≤ n ∧ S = flatL (List.replicate m [] ++ (xs.take i).map prx)) ∨ (n < i ∧ ∃ q, S = flatL (List.replicate m [] ++ (xs.take n).map prx) ++ (b ++ 10 :: q))
theorem WrS.lt {m n : Nat} {b : List UInt8} {xs : List Opx} {i : Nat} {S : List UInt8} (h : WrS m n b xs i S) (hi : i < xs.length) (hn : i < n) : WrS m n b xs (i + 1) (S ++ prx xs[i] ++ [10]) := by
  rcases h with ⟨_, rfl⟩ | ⟨h, _⟩
  · refine .inl ⟨hn, ?_⟩
    rw [List.take_succ_eq_append_getElem hi, List.map_append, ← List.append_assoc, flatL_app _ (List.map prx [xs[i]])]
    simp [flatL]
  · omega
theorem WrS.eq {m n : Nat} {b : List UInt8} {xs : List Opx} {S : List UInt8} (h : WrS m n b xs n S) (p : List UInt8) : WrS m n b xs (n + 1) (S ++ b ++ [10] ++ p ++ [10]) := by
  rcases h with ⟨_, rfl⟩ | ⟨h, _⟩
  · exact .inr ⟨by omega, p ++ [10], by simp⟩
  · omega
theorem WrS.gt {m n : Nat} {b : List UInt8} {xs : List Opx} {i : Nat} {S : List UInt8} (h : WrS m n b xs i S) (hn : n < i) (p : List UInt8) : WrS m n b xs (i + 1) (S ++ p ++ [10]) := by
  rcases h with ⟨h, _⟩ | ⟨_, q, rfl⟩
  · omega
  · exact .inr ⟨by omega, q ++ p ++ [10], by simp⟩
theorem WrS.done {m n : Nat} {b : List UInt8} {xs : List Opx} {S : List UInt8} (h : WrS m n b xs xs.length S) (hx : ∀ x ∈ xs, zx x = 0) (hl : xs.length ≤ 20) (hn : n ≤ xs.length) (hb1 : (10 : UInt8) ∉ b) (hb2 : ¬ b.head?.getD 35 = 35) (hb3 : parO b = none)
    (hS : S.length ≤ 200000) (hb : b.length ≤ 20) : paA (if n = xs.length then S ++ b else S) = ([], (m : Int) + n + 1, 8) := by
  have h10 : ∀ l ∈ List.replicate m [] ++ (xs.take n).map prx, (10 : UInt8) ∉ l := by
    intro l hl
    rcases List.mem_append.1 hl with hl | hl
    · rw [List.eq_of_mem_replicate hl]; simp
    · obtain ⟨x, hx2, rfl⟩ := List.mem_map.1 hl
      exact (prx_line (hx x (List.mem_of_mem_take hx2))).1
  have hpa : ∀ r, paG ((List.replicate m [] ++ (xs.take n).map prx) ++ b :: r) 0 [] = ([], (m : Int) + n + 1, 8) := fun r => by
    have htl : (xs.take n).length = n := by rw [List.length_take]; omega
    rw [List.append_assoc, paG_blank, paG_ops _ (fun x hx2 => hx x (List.mem_of_mem_take hx2)) _ _ _ (by rw [htl]; simp; omega), paG_bad hb2 hb3 _ _ (by simp; omega), htl]
    simp
  have hlen : (if n = xs.length then S ++ b else S).length ≤ 262144 := by split <;> (try rw [List.length_append]) <;> omega
  unfold paA
  rw [if_neg (by omega)]
  by_cases e : n = xs.length
  · rw [if_pos e]
    rcases h with ⟨_, hS2⟩ | ⟨h, _⟩
    · rw [hS2, show xs.take xs.length = xs.take n by rw [e], parts_flat _ h10, parts_line hb1]
      exact hpa []
    · omega
  · rw [if_neg e]
    rcases h with ⟨h, _⟩ | ⟨_, q, hS2⟩
    · omega
    · rw [hS2, parts_flat _ h10, parts_line2 hb1]
      exact hpa _
theorem flat_rep (j : Nat) : (⟨(List.replicate j (10 : UInt8)).toArray⟩ ++ ⟨#[10]⟩ : ByteArray) = ⟨(List.replicate (j + 1) (10 : UInt8)).toArray⟩ := by
  rw [List.replicate_succ', bs_app]
set_option linter.unusedSimpArgs false in
set_option maxRecDepth 100000 in
set_option maxHeartbeats 8000000 in
theorem wrong_law {w : World} (hw : EnvS w) (v : Value) (ns : List Nm) (hv : NmsS w v ns) (at_ sk wh : Nat) (h1 : at_ ≤ 255) (h2 : sk ≤ 255) (h3 : wh ≤ 255) :
    Calls Tryd.prog 6 #[v, .int .u8 at_, .int .u8 sk, .int .u8 wh] w fun e w' => e = .returned (.bool true) ∧ Below w.heap.size w w' := by
  have HWk := Lib.hid (fun (W : World) (h : EnvS W) => works_any h)
  obtain ⟨ao, cap, rfl, hcap, hne⟩ := hv
  have HNE := Lib.hid hne
  clear hne
  by_cases hl : 20 < ns.length
  · have d1 : decide ((20 : Int) < (ns.length : Int)) = true := by simp; omega
    go_enter Tryd.func6, Tryd.ntmps6
    go_wp2_with (go_at_call 12; refine (HWk.out _ hw).mono ?_; rintro e w' ⟨rfl, hE⟩)
    go_ret
    exact ⟨rfl, hE⟩
  have d1 : decide ((20 : Int) < (ns.length : Int)) = false := by simp; omega
  have hl20 : ns.length ≤ 20 := by omega
  obtain ⟨n, hn⟩ : ∃ n, at_ % (ns.length + 1) = n := ⟨_, rfl⟩
  obtain ⟨m, hm⟩ : ∃ m, sk % 5 = m := ⟨_, rfl⟩
  have hn2 : n ≤ ns.length := by have := Nat.mod_lt at_ (show 0 < ns.length + 1 by omega); omega
  have hm2 : m ≤ 4 := by omega
  have hni : (at_ : Int) % ((ns.length : Int) + 1) = (n : Int) := by rw [← hn]; push_cast; rfl
  have hmi : (sk : Int) % 5 = (m : Int) := by omega
  clear hl hn hm
  go_enter Tryd.func6, Tryd.ntmps6
  go_wp2_with fail
  simp only [hni]
  clear hni
  go_loopg [10, 11] m (fun mm s i wr => ∃ j : Nat, mm = m - j ∧ j ≤ m ∧ i = .int .i64 j ∧ s = .string ⟨(List.replicate j (10 : UInt8)).toArray⟩ ∧ w = wr)
  case atStart => exact ⟨0, rfl, by omega, rfl, rfl, rfl⟩
  case round =>
    obtain ⟨j, hkm, hj, rfl, rfl, rfl⟩ := hrel
    have HK := Lib.hid hkm
    clear hkm
    by_cases hjm : j < m
    · have dj : decide ((j : Int) < (m : Int)) = true := by simp; omega
      have hrl : (List.replicate j (10 : UInt8)).length ≤ 4 := by simp; omega
      have HR := Lib.hid (flat_rep j)
      generalize List.replicate j (10 : UInt8) = rj at *
      go_wp2_with fail
      go_roundg (m - (j + 1))
      case measure => have := HK.out; omega
      case rel => exact ⟨j + 1, rfl, by omega, by go_num, by rw [← HR.out], rfl⟩
    · have hjj : j = m := by omega
      subst hjj
      have dj : decide ((j : Int) < (j : Int)) = false := by simp
      go_wp2_with fail
      have HBd := Lib.hid (fun W : World => bad_any (wh : Int) (by omega) (by omega) W)
      rw [Int.toNat_natCast] at HBd
      have hbk := bad_ok ⟨wh % 22, by omega⟩
      dsimp only at hbk
      generalize badL.getD (wh % 22) [] = b at *
      obtain ⟨hb0, hb1, hb2, hb3⟩ := hbk
      have HW0 : Hid (WrS j n b (ns.map nmX) 0 (List.replicate j 10)) := Lib.hid (.inl ⟨Nat.zero_le _, by rw [List.take_zero, List.map_nil, List.append_nil, flat_blank]⟩)
      have hrl : (List.replicate j (10 : UInt8)).length ≤ 4 := by simp; omega
      have HMI := Lib.hid hmi
      clear dj hj hmi
      generalize List.replicate j (10 : UInt8) = S0 at *
      go_loopg [10, 12] ns.length (fun mm s i wr2 => ∃ (q : Nat) (S : List UInt8), mm = ns.length - q ∧ q ≤ ns.length ∧ i = .int .i64 q ∧ s = .string ⟨S.toArray⟩ ∧ WrS j n b (ns.map nmX) q S ∧ S.length ≤ 100 + q * 7000 ∧ (∀ p (h : p < ns.length), p < q → ns[p].l.length ≤ 60) ∧ Below w.heap.size w wr2)
      case atStart => exact ⟨0, S0, rfl, by omega, rfl, rfl, HW0.out, by omega, fun p _ h => by omega, Below.refl _ _⟩
      case round =>
        obtain ⟨q, S, hkm, hq, rfl, rfl, hW, hSl, h60, hb⟩ := hrel
        have HK := Lib.hid hkm
        have HWS := Lib.hid hW
        have H60 := Lib.hid h60
        have HB := Lib.hid hb
        have hle := hb.size
        clear hkm hW h60
        by_cases hql : q < ns.length
        · have dq : decide ((q : Int) < (ns.length : Int)) = true := by simp; omega
          obtain ⟨g, off, rfl, hg, hel⟩ := HNE.out (fun e => by rw [e] at hql; simp at hql)
          have hat := (hel q hql).below hb hg
          have hgl : g < wr.heap.size := Nat.lt_of_lt_of_le hg hle
          obtain ⟨c0, c1, c2, hk255, ha32, hby⟩ := hat
          have hxq : (ns.map nmX)[q]'(by simpa using hql) = nmX ns[q] := by simp
          have HXQ := Lib.hid hxq
          obtain ⟨nm, hnm⟩ : ∃ nm, ns[q] = nm := ⟨_, rfl⟩
          rw [hnm] at c0 c1 c2 hk255 ha32 hby HXQ
          have HAT : Hid (NmAt wr g (off + q * 3) nm) := Lib.hid (by rw [← hnm]; exact (hel q hql).below hb hg)
          have HNM := Lib.hid hnm
          clear hnm hxq hel hg
          obtain ⟨ao', cap', hsl, _, _⟩ := hby.sl
          have HBY := Lib.hid hby
          rw [hsl] at c2
          by_cases hlong : 60 < nm.l.length
          · have dl : decide ((60 : Int) < (nm.l.length : Int)) = true := by simp; omega
            clear hby hb
            go_wp2_with (go_at_call 12; refine (HWk.out _ (hw.below HB.out)).mono ?_; rintro e w' ⟨rfl, hE⟩)
            go_ret
            exact ⟨rfl, HB.out.trans (below_le hE hle)⟩
          have dl : decide ((60 : Int) < (nm.l.length : Int)) = false := by simp; omega
          have hok := nmX_ok (n := nm) (by omega)
          have hps := prx_short hok.2.1
          have HX : Hid (∀ W : World, Below wr.heap.size wr W → Calls Tryd.prog 19 #[.agg #[.int .u8 nm.k, .int .u32 nm.a, .slice ao' nm.l.length cap']] W fun e w' => e = .returned (opx (nmX nm)) ∧ Below W.heap.size W w') := Lib.hid (fun W hb => by have := nop_any nm.k nm.a hk255 ha32 nm.l nm.sl W (HBY.out.below hb); rw [hsl] at this; exact this)
          have HP : Hid (∀ W : World, EnvS W → Calls Tryd.prog 20 #[opx (nmX nm)] W fun e w' => e = .returned (.tuple #[.string ⟨(prx (nmX nm)).toArray⟩, .int .i64 0]) ∧ Below W.heap.size W w') := Lib.hid (fun W hW => by
            have := print_any hW (nmX nm).1 (nmX nm).2.1 ⟨(nmX nm).2.2.toArray⟩ (by simpa [ByteArray.size] using hok.2.1.1) hok.2.1.2.1 hok.2.1.2.2
            rw [show chkZ (nmX nm).1 (nmX nm).2.1 (⟨(nmX nm).2.2.toArray⟩ : ByteArray).data.toList = 0 from hok.1, show prS (nmX nm).1 (nmX nm).2.1 (⟨(nmX nm).2.2.toArray⟩ : ByteArray).data.toList = prx (nmX nm) from rfl] at this
            exact this)
          have HPL : Hid ((prx (nmX nm)).length ≤ 6100) := Lib.hid (by have := hok.2.2; omega)
          have hpl := HPL.out
          unfold opx opV at HX HP
          clear hok hps hby hb
          generalize hpp : prx (nmX nm) = p at *
          have HPP := Lib.hid hpp
          clear hpp
          generalize nmX nm = x at *
          obtain ⟨xk, xa, xv⟩ := x
          dsimp only at *
          by_cases hqn : q = n
          · subst hqn
            go_wp2_with (first
              | (go_at_call 23; refine (HBd.out _).mono ?_; rintro e w1 ⟨rfl, hE⟩; have B1 := Lib.hid hE; obtain ⟨c0, c1, c2, _, _, _⟩ := HAT.out.below hE hgl; rw [hsl] at c2; clear hE)
              | (go_at_call 19; refine (HX.out _ B1.out).mono ?_; rintro e w2 ⟨rfl, hE⟩; have B2 := Lib.hid (B1.out.trans (below_le hE B1.out.size)); clear hE)
              | (go_at_call 20; refine (HP.out _ (hw.below (HB.out.trans (below_le B2.out hle)))).mono ?_; rintro e w3 ⟨rfl, hE⟩; have B3 := Lib.hid (B2.out.trans (below_le hE B2.out.size)); clear hE))
            have hbs := Lib.hid (show (⟨S.toArray⟩ ++ ⟨b.toArray⟩ ++ ⟨#[10]⟩ ++ ⟨p.toArray⟩ ++ ⟨#[10]⟩ : ByteArray) = ⟨(S ++ b ++ [10] ++ p ++ [10]).toArray⟩ by simp only [bs_app])
            go_roundg (ns.length - (q + 1))
            case measure => have := HK.out; omega
            case rel => exact ⟨q + 1, S ++ b ++ [10] ++ p ++ [10], rfl, by omega, by go_num, congrArg Value.string hbs.out, HWS.out.eq p, by simp; omega, fun t ht hlt => by
              by_cases e : t = q
              · subst e; rw [HNM.out]; omega
              · exact H60.out t ht (by omega), HB.out.trans (below_le B3.out hle)⟩
          · go_wp2_with (first
              | (go_at_call 19; refine (HX.out _ (Below.refl _ _)).mono ?_; rintro e w2 ⟨rfl, hE⟩; have B2 := Lib.hid hE; clear hE)
              | (go_at_call 20; refine (HP.out _ (hw.below (HB.out.trans (below_le B2.out hle)))).mono ?_; rintro e w3 ⟨rfl, hE⟩; have B3 := Lib.hid (B2.out.trans (below_le hE B2.out.size)); clear hE))
            have hbs := Lib.hid (show (⟨S.toArray⟩ ++ ⟨p.toArray⟩ ++ ⟨#[10]⟩ : ByteArray) = ⟨(S ++ p ++ [10]).toArray⟩ by simp only [bs_app])
            have hws2 : WrS j n b (ns.map nmX) (q + 1) (S ++ p ++ [10]) := by
              rcases Nat.lt_or_gt_of_ne hqn with hlt | hgt
              · have := HWS.out.lt (by simpa using hql) hlt
                rw [HXQ.out, HPP.out] at this
                exact this
              · exact HWS.out.gt hgt p
            go_roundg (ns.length - (q + 1))
            case measure => have := HK.out; omega
            case rel => exact ⟨q + 1, S ++ p ++ [10], rfl, by omega, by go_num, congrArg Value.string hbs.out, hws2, by simp; omega, fun t ht hlt => by
              by_cases e : t = q
              · subst e; rw [HNM.out]; omega
              · exact H60.out t ht (by omega), HB.out.trans (below_le B3.out hle)⟩
        · have hqq : q = ns.length := by omega
          subst hqq
          have dq : decide ((ns.length : Int) < (ns.length : Int)) = false := by simp
          have hzz : ∀ x ∈ ns.map nmX, zx x = 0 := fun x hx => by
            obtain ⟨nm, hnm, rfl⟩ := List.mem_map.1 hx
            obtain ⟨t, ht, rfl⟩ := List.getElem_of_mem hnm
            exact (nmX_ok (H60.out t ht ht)).1
          have hdn := WrS.done (n := n) (S := S) (xs := ns.map nmX) (by rw [List.length_map]; exact HWS.out) hzz (by simpa using hl20) (by simpa using hn2) hb1 hb2 hb3 (by omega) hb0
          rw [List.length_map] at hdn
          have HPA : Hid (∀ T : List UInt8, T.length ≤ 200000 → paA T = ([], (j : Int) + n + 1, 8) → ∀ W : World, EnvS W → Calls Tryd.prog 24 #[.string ⟨T.toArray⟩] W fun e w' => (∃ ao cap, e = .returned (.tuple #[.slice ao 0 cap, .int .i64 ((j : Int) + n + 1), .int .i64 8])) ∧ Below W.heap.size W w') := Lib.hid (fun T hT hp W hW => by
            have := pa_any hW ⟨T.toArray⟩ (by simp [ByteArray.size]; omega)
            rw [show (⟨T.toArray⟩ : ByteArray).data.toList = T from rfl, hp] at this
            refine this.mono fun e w' ⟨v, h1, h2⟩ => ⟨?_, h2.bel⟩
            obtain ⟨ao, cap, hv⟩ := h2.isOps.sl
            exact ⟨ao, cap, by rw [h1, hv]; rfl⟩)
          have hmi := HMI.out
          clear hb
          by_cases hnl : n = ns.length
          · rw [if_pos hnl] at hdn
            have HP2 := Lib.hid (HPA.out _ (by simp; omega) hdn)
            have hbs := show (⟨S.toArray⟩ ++ ⟨b.toArray⟩ : ByteArray) = ⟨(S ++ b).toArray⟩ from (bs_app S b).symm
            subst hnl
            clear hdn HPA
            go_wp2_with (first
              | (go_at_call 23; refine (HBd.out _).mono ?_; rintro e w1 ⟨rfl, hE⟩; have B1 := Lib.hid (HB.out.trans (below_le hE HB.out.size)); clear hE)
              | (go_at_call 24; refine (HP2.out _ (hw.below B1.out)).mono ?_; rintro e w2 ⟨⟨ao2, cap2, rfl⟩, hE⟩; have B2 := Lib.hid (B1.out.trans (below_le hE B1.out.size)); clear hE)
              | (go_at_call 12; refine (HWk.out _ (hw.below B2.out)).mono ?_; rintro e w3 ⟨rfl, hE⟩; have B3 := Lib.hid (B2.out.trans (below_le hE B2.out.size)); clear hE))
            go_ret
            exact ⟨rfl, B3.out⟩
          · rw [if_neg hnl] at hdn
            have HP2 := Lib.hid (HPA.out _ (by omega) hdn)
            clear hdn HPA
            go_wp2_with (first
              | (go_at_call 24; refine (HP2.out _ (hw.below HB.out)).mono ?_; rintro e w2 ⟨⟨ao2, cap2, rfl⟩, hE⟩; have B2 := Lib.hid (HB.out.trans (below_le hE HB.out.size)); clear hE)
              | (go_at_call 12; refine (HWk.out _ (hw.below B2.out)).mono ?_; rintro e w3 ⟨rfl, hE⟩; have B3 := Lib.hid (B2.out.trans (below_le hE B2.out.size)); clear hE))
            go_ret
            exact ⟨rfl, B3.out⟩
theorem wrong_int {w : World} (hw : EnvS w) (v : Value) (ns : List Nm) (hv : NmsS w v ns) (a b c : Int) (a0 : 0 ≤ a) (a1 : a ≤ 255) (b0 : 0 ≤ b) (b1 : b ≤ 255) (c0 : 0 ≤ c) (c1 : c ≤ 255) :
    Calls Tryd.prog 6 #[v, .int .u8 a, .int .u8 b, .int .u8 c] w fun e w' => e = .returned (.bool true) ∧ Below w.heap.size w w' := by
  have := wrong_law hw v ns hv a.toNat b.toNat c.toNat (by omega) (by omega) (by omega)
  rwa [Int.toNat_of_nonneg a0, Int.toNat_of_nonneg b0, Int.toNat_of_nonneg c0] at this
end Go.Proofs.YtjjnjglbmneecaaDoor
