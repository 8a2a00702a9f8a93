/- The law ScriptAlls, walked. -/
import Derived.Test.YtjjnjglbmneecaaDoorSao
import Derived.Test.YtjjnjglbmneecaaDoorSyC
import Derived.Laws.AppendOwnNone
namespace Go.Proofs.YtjjnjglbmneecaaDoor
open Go Go.RowKit
/-- A list, taken so many times. -/
def repL : Nat → List Opx → List Opx
  | 0, _ => []
  | q + 1, l => repL q l ++ l
theorem repL_len (q : Nat) (l : List Opx) : (repL q l).length = q * l.length := by
  induction q with
  | zero => simp [repL]
  | succ q ih => rw [repL, List.length_append, ih, Nat.succ_mul]
theorem repL_mem {q : Nat} {l : List Opx} : ∀ x ∈ repL q l, x ∈ l := by
  induction q with
  | zero => intro x hx; cases hx
  | succ q ih =>
    intro x hx
    rcases List.mem_append.1 hx with h | h
    · exact ih x h
    · exact h
theorem ops_cells {w : World} {g : Nat} (l : List Opx) : ∀ off, (∀ i (h : i < l.length), OpAt w g (off + i * 3) l[i]) → ∀ j u, (opCs l)[j]? = some u → w.cell? ⟨g, off + j, none⟩ = some u := by
  induction l with
  | nil => intro off _ j u h; simp [opCs] at h
  | cons x r ih =>
    intro off h j u hj
    obtain ⟨h0, h1, h2⟩ := h 0 (by simp)
    rw [List.getElem_cons_zero] at h0 h1 h2
    rw [opCs] at hj
    rcases j with _ | _ | _ | j
    · simp at hj; rw [← hj]; simpa using h0
    · simp at hj; rw [← hj]; simpa using h1
    · simp at hj; rw [← hj]; simpa using h2
    · simp only [List.getElem?_cons_succ] at hj
      have := ih (off + 3) (fun i hi => by
        have := h (i + 1) (by simpa using hi)
        rw [List.getElem_cons_succ] at this
        rw [show off + 3 + i * 3 = off + (i + 1) * 3 by omega]; exact this) j u hj
      rw [show off + (j + 1 + 1 + 1) = off + 3 + j by omega]; exact this
theorem paG_cap (ls : List (List UInt8)) : ∀ i acc, acc.length ≤ 1000 → (paG ls i acc).1.length ≤ 1000 := by
  induction ls with
  | nil => intro i acc h; rw [paG]; exact h
  | cons x r ih =>
    intro i acc h
    rw [paG_1]
    split
    · exact ih _ _ h
    · split
      · exact Nat.zero_le _
      · split
        · exact Nat.zero_le _
        · exact ih _ _ (by simp; omega)
theorem paA_cap (s : List UInt8) : (paA s).1.length ≤ 1000 := by
  unfold paA
  split
  · exact Nat.zero_le _
  · exact paG_cap _ _ _ (by simp)
theorem pall_is2 {W : World} (hW : EnvS W) (l : List Opx) (v : Value) (hl : l.length ≤ 1000000) (hv : IsOps W v l) (hf : ∀ x ∈ l, Fine x) :
    Calls Tryd.prog 33 #[v] W fun e w' => e = .returned (.tuple #[.string ⟨(paP l).1.toArray⟩, .int .i64 (paP l).2]) ∧ Below W.heap.size W w' := by
  rcases hv with ⟨rfl, rfl⟩ | ⟨g, cap, rfl, hg, _, hO⟩
  · exact pall_nil W
  · exact pall_any hW l g cap hl hO hg hf
theorem rpall_is {W : World} (l : List Opx) (v : Value) (hl : l.length ≤ 1000000) (hv : IsOps W v l) (hf : ∀ x ∈ l, Fine x) :
    Calls Tryd.prog 34 #[v] W fun e w' => e = .returned (.tuple #[.string ⟨(paP l).1.toArray⟩, .int .i64 (paP l).2]) ∧ Below W.heap.size W w' := by
  rcases hv with ⟨rfl, rfl⟩ | ⟨g, cap, rfl, hg, _, hO⟩
  · exact rpall_nil W
  · exact rpall_any l g cap hl hO hg hf
theorem pa_is {W : World} (hW : EnvS W) (s : ByteArray) (hs : s.size ≤ 2000 ∨ 262144 < s.size) :
    Calls Tryd.prog 24 #[.string s] W fun e w' => (∃ v, e = .returned (.tuple #[v, .int .i64 (paA s.data.toList).2.1, .int .i64 (paA s.data.toList).2.2]) ∧ IsOps w' v (paA s.data.toList).1) ∧ Below W.heap.size W w' := by
  rcases hs with h | h
  · exact (pa_any hW s (by omega)).mono fun e w' ⟨v, h1, h2⟩ => ⟨⟨v, h1, h2.isOps⟩, h2.bel⟩
  · exact (pa_long s h W).mono fun e w' ⟨v, h1, h2⟩ => ⟨⟨v, h1, h2.isOps⟩, h2.bel⟩
theorem rpa_is (s : ByteArray) (hs : s.size ≤ 2000 ∨ 262144 < s.size) (W : World) :
    Calls Tryd.prog 35 #[.string s] W fun e w' => (∃ v, e = .returned (.tuple #[v, .int .i64 (paA s.data.toList).2.1, .int .i64 (paA s.data.toList).2.2]) ∧ IsOps w' v (paA s.data.toList).1) ∧ Below W.heap.size W w' := by
  rcases hs with h | h
  · exact (rpa_any s (by omega) W).mono fun e w' ⟨v, h1, h2⟩ => ⟨⟨v, h1, h2.isOps⟩, h2.bel⟩
  · exact (rpa_long s h W).mono fun e w' ⟨v, h1, h2⟩ => ⟨⟨v, h1, h2.isOps⟩, h2.bel⟩
theorem opCs_one (l : List Opx) : ∀ u ∈ opCs l, u.oneCell' = true := by
  induction l with
  | nil => intro u h; cases h
  | cons x r ih =>
    intro u h
    simp only [opCs, List.mem_cons] at h
    rcases h with rfl | rfl | rfl | h
    · rfl
    · rfl
    · rfl
    · exact ih u h
theorem Opsl.apps {w0 w w' : World} {v v' : Value} {l m : List Opx} (h : Opsl w0 w v l) (ho : w'.ownsRow w0.heap.size 24 3 v' (l.length + m.length) (opCs l ++ opCs m)) (hg : w.grownBy w' v.ownBlock) : Opsl w0 w' v' (l ++ m) := by
  refine ⟨by rw [List.length_append, opCs_app]; exact ho, ?_⟩
  exact h.bel.grown hg (by have := h.bel.size; omega) (fun k hk => (h.own.lt k hk).1)
set_option linter.unusedSimpArgs false in
set_option maxRecDepth 100000 in
set_option maxHeartbeats 8000000 in
theorem alls_any (v : Value) (l : List Opx) {w : World} (hv : OpsO w v l) (tm : Int) (ht0 : 0 ≤ tm) (ht1 : tm ≤ 255) (s : ByteArray) (hw : EnvS w) : Calls Tryd.prog 9 #[v, .int .u8 tm, .string s] w fun e w' => e = .returned (.bool true) ∧ Below w.heap.size w w' := by
  have HWk := Lib.hid (fun (W : World) (h : EnvS W) => works_any h)
  obtain ⟨ao, cap, rfl, hcap, hI, hne⟩ := hv
  by_cases hm : 60 < l.length ∨ (l.length ≤ 60 ∧ 2000 < s.size ∧ s.size ≤ 262144) ∨ (l.length ≤ 60 ∧ 262149 < s.size)
  · clear hne hI hcap
    rcases hm with h | ⟨h, h2, h3⟩ | ⟨h, h2⟩
    · have d1 : decide ((60 : Int) < (l.length : Int)) = true := by simp; omega
      go_enter Tryd.func9, Tryd.ntmps9
      go_wp2_with (go_at_call 12; refine (HWk.out _ hw).mono ?_; rintro e w' ⟨rfl, hE⟩)
      go_ret
      exact ⟨rfl, hE⟩
    · have d1 : decide ((60 : Int) < (l.length : Int)) = false := by simp; omega
      have d2 : decide ((2000 : Int) < (s.size : Int)) = true := by simp; omega
      have d3 : decide ((s.size : Int) ≤ 262144) = true := by simp; omega
      go_enter Tryd.func9, Tryd.ntmps9
      go_wp2_with (go_at_call 12; refine (HWk.out _ hw).mono ?_; rintro e w' ⟨rfl, hE⟩)
      go_ret
      exact ⟨rfl, hE⟩
    · have d1 : decide ((60 : Int) < (l.length : Int)) = false := by simp; omega
      have d2 : decide ((2000 : Int) < (s.size : Int)) = true := by simp; omega
      have d3 : decide ((s.size : Int) ≤ 262144) = false := by simp; omega
      have d4 : decide ((262149 : Int) < (s.size : Int)) = true := by simp; omega
      go_enter Tryd.func9, Tryd.ntmps9
      go_wp2_with (go_at_call 12; refine (HWk.out _ hw).mono ?_; rintro e w' ⟨rfl, hE⟩)
      go_ret
      exact ⟨rfl, hE⟩
  have d1 : decide ((60 : Int) < (l.length : Int)) = false := by simp; omega
  have d4 : decide ((262149 : Int) < (s.size : Int)) = false := by simp; omega
  have hl60 : l.length ≤ 60 := by omega
  have hs2 : s.size ≤ 2000 ∨ 262144 < s.size := by omega
  have hdd : (decide ((2000 : Int) < (s.size : Int)) = true ∧ decide ((s.size : Int) ≤ 262144) = false) ∨ decide ((2000 : Int) < (s.size : Int)) = false := by
    by_cases h : 2000 < s.size
    · exact .inl ⟨by simp; omega, by simp; omega⟩
    · exact .inr (by simp; omega)
  clear hm
  have HPA1 := Lib.hid (fun (W : World) (h : EnvS W) => pa_is h s hs2)
  have HPA2 := Lib.hid (fun (W : World) => rpa_is s hs2 W)
  have hXl := paA_cap s.data.toList
  generalize paA s.data.toList = pa at *
  obtain ⟨X, xn, xe⟩ := pa
  dsimp only at HPA1 HPA2 hXl
  have HNE := Lib.hid hne
  have HI := Lib.hid hI
  have HCAP := Lib.hid hcap
  obtain ⟨i0, hi0, hz0, hz1, hz2⟩ := info_parts infoOp
  obtain ⟨t, rfl⟩ : ∃ t : Nat, tm = t := ⟨tm.toNat, by omega⟩
  obtain ⟨T, hT⟩ : ∃ T, t % 20 = T := ⟨_, rfl⟩
  have hT20 : T < 20 := by omega
  have HTT := Lib.hid hT
  clear hne hI hcap ht0 ht1 hs2 hT
  have hEV := Lib.hid hw
  rcases hdd with ⟨d2, d3⟩ | d2
  all_goals
    go_enter Tryd.func9, Tryd.ntmps9
    go_wp2_with fail
    go_loopg [8] l.length (fun mm i wr => ∃ k : Nat, mm = l.length - k ∧ k ≤ l.length ∧ i = .int .i64 k ∧ (∀ x ∈ l.take k, x.2.2.length ≤ 300) ∧ w = wr)
    case atStart => exact ⟨0, rfl, by omega, rfl, by simp, rfl⟩
    case round =>
      obtain ⟨k, hkm, hk, rfl, hz, rfl⟩ := hrel
      have HK := Lib.hid hkm
      have HZ := Lib.hid hz
      clear hkm hz
      by_cases hlt : k < l.length
      · have hdi : decide ((k : Int) < (l.length : Int)) = true := by simp; omega
        obtain ⟨g, off, rfl, hg, hel⟩ := HNE.out (fun e => by rw [e] at hlt; simp at hlt)
        obtain ⟨q0, q1, q2⟩ := hel k hlt
        have htk : l.take (k + 1) = l.take k ++ [l[k]] := List.take_succ_eq_append_getElem hlt
        generalize l[k] = x at q0 q1 q2 htk
        have hsx : (⟨x.2.2.toArray⟩ : ByteArray).size = x.2.2.length := by simp [ByteArray.size]
        clear hel
        by_cases hx : 300 < x.2.2.length
        · have dx : decide ((300 : Int) < (x.2.2.length : Int)) = true := by simp; omega
          go_wp2_with (go_at_call 12; refine (HWk.out _ hEV.out).mono ?_; rintro e w' ⟨rfl, hE⟩)
          go_ret
          exact ⟨rfl, hE⟩
        · have dx : decide ((300 : Int) < (x.2.2.length : Int)) = false := by simp; omega
          have HZ2 : Hid (∀ y ∈ l.take (k + 1), y.2.2.length ≤ 300) := Lib.hid (by
            rw [htk]; intro y hy
            rcases List.mem_append.1 hy with h | h
            · exact HZ.out y h
            · rw [List.mem_singleton.1 h]; omega)
          clear htk
          go_wp2_with fail
          go_roundg (l.length - (k + 1))
          case measure => have := HK.out; omega
          case rel => exact ⟨k + 1, rfl, by omega, by go_num, HZ2.out, rfl⟩
      · have hkl : k = l.length := by omega
        subst hkl
        have hdi : decide ((l.length : Int) < (l.length : Int)) = false := by simp
        have hzz := HZ.out
        rw [List.take_length] at hzz
        have HF : Hid (∀ x ∈ l, Fine x) := Lib.hid (fun x hx => ⟨by have := hzz x hx; omega, HI.out x hx⟩)
        clear hzz
        go_wp2_with fail
        go_loopg [7, 9] (T + 1) (fun mm o i wr => ∃ q : Nat, mm = T + 1 - q ∧ q ≤ T + 1 ∧ i = .int .i64 q ∧ Opsl w wr o (repL q l))
        case atStart => exact ⟨0, by simp, by omega, rfl, Opsl.nil (Below.refl _ _)⟩
        case round =>
          obtain ⟨q, hkm, hq, rfl, hO⟩ := hrel
          have HK2 := Lib.hid hkm
          have HO := Lib.hid hO
          have hle := hO.bel.size
          have hrl := repL_len q l
          have hr2 : q * l.length ≤ 20 * 60 := Nat.mul_le_mul (by omega) hl60
          clear hkm
          by_cases hqT : q ≤ T
          · have dq : decide ((q : Int) ≤ (t : Int) % 20) = true := by have := HTT.out; simp; omega
            clear hO
            rcases ao with _ | ad
            · have hl0 : l = [] := Classical.byContradiction fun h => by obtain ⟨g, off, h1, _⟩ := HNE.out h; cases h1
              have hc0 : cap = 0 := HCAP.out rfl
              subst hl0
              subst hc0
              clear hrl hr2
              go_wp2_with (at_builtin; refine wpList_append_own_none rfl _ _ 43 rfl w.heap.size 24 i0 3 Tryd.underlying43 hi0 _ _ _ rfl HO.out.own rfl ?_)
              go_roundg (T + 1 - (q + 1))
              case measure => have := HK2.out; omega
              case rel => exact ⟨q + 1, rfl, by omega, by go_num, by rw [repL, List.append_nil]; exact HO.out⟩
            · have HNW : Hid (∀ j u, (opCs l)[j]? = some u → wr.cell? (ad.add j) = some u) := Lib.hid (fun j u hj => by
                have hl0 : l ≠ [] := fun e => by rw [e] at hj; simp [opCs] at hj
                obtain ⟨g, off, h1, h2, h3⟩ := HNE.out hl0
                obtain rfl := Option.some.inj h1
                have := ops_cells l off (fun i hi => (h3 i hi).below HO.out.bel h2) j u hj
                rw [show (⟨g, off, none⟩ : Addr).add j = ⟨g, off + j, none⟩ by unfold Addr.add; split <;> simp_all]
                exact this)
              have HRL := Lib.hid hrl
              have hrb : (repL q l).length ≤ 1200 := by omega
              clear hrl hr2
              go_wp2_with (at_builtin; refine wpList_append_own _ rfl _ _ 43 rfl w.heap.size 24 i0 (.agg #[.int .i64 0, .int .i64 0, .string ⟨#[]⟩]) 3 32 Tryd.underlying43 hi0 hz0 hz1 hz2 rfl (by decide) _ _ _ rfl HO.out.own ad l.length cap (opCs l) rfl (opCs_len l) HNW.out (opCs_one l) (by unfold maxLen; omega) (by omega) hle ?_; intro v' w5 hown' hgrow _; have HO5 := Lib.hid (HO.out.apps hown' hgrow); clear hown' hgrow)
              go_roundg (T + 1 - (q + 1))
              case measure => have := HK2.out; omega
              case rel => exact ⟨q + 1, rfl, by omega, by go_num, HO5.out⟩
          · have dq : decide ((q : Int) ≤ (t : Int) % 20) = false := by have := HTT.out; simp; omega
            have hL : (repL q l).length ≤ 1000000 := by omega
            have hFL : ∀ x ∈ repL q l, Fine x := fun x hx => HF.out x (repL_mem x hx)
            have hI0 := hO.isOps
            have HB0 := Lib.hid hO.bel
            clear hO HO hrl hr2
            generalize repL q l = L at *
            have HP1 := Lib.hid (fun (W : World) (h : EnvS W) (hI : IsOps W u7 L) => pall_is2 h L u7 hL hI hFL)
            have HP2 := Lib.hid (fun (W : World) (hI : IsOps W u7 L) => rpall_is L u7 hL hI hFL)
            have HI0 := Lib.hid hI0
            clear hI0 hFL
            generalize paP L = pp at *
            obtain ⟨p, pe⟩ := pp
            dsimp only at HP1 HP2
            have HSm : Hid (∀ (W : World) (x y : Value), IsOps W x X → IsOps W y X → Calls Tryd.prog 36 #[x, y] W fun e w' => e = .returned (.bool true) ∧ Below W.heap.size W w') := Lib.hid (fun W x y h1 h2 => by
              have := same_any X X x y (by omega) h1 h2
              rw [decide_eq_true (rfl : X = X)] at this
              exact this)
            go_wp2_with (first
              | (go_at_call 33; refine (HP1.out _ (hEV.out.below HB0.out) HI0.out).mono ?_; rintro e w1 ⟨rfl, hE⟩; have HB1 := Lib.hid (HB0.out.trans (below_le hE HB0.out.size)); have HI1 := Lib.hid (HI0.out.below hE); clear hE)
              | (go_at_call 34; refine (HP2.out _ HI1.out).mono ?_; rintro e w2 ⟨rfl, hE⟩; have HB2 := Lib.hid (HB1.out.trans (below_le hE HB1.out.size)); clear hE)
              | (go_at_call 24; refine (HPA1.out _ (hEV.out.below HB2.out)).mono ?_; rintro e w3 ⟨⟨x, rfl, hX⟩, hE⟩; have HB3 := Lib.hid (HB2.out.trans (below_le hE HB2.out.size)); have HX3 := Lib.hid hX; clear hE hX)
              | (go_at_call 35; refine (HPA2.out _).mono ?_; rintro e w4 ⟨⟨y, rfl, hY⟩, hE⟩; have HB4 := Lib.hid (HB3.out.trans (below_le hE HB3.out.size)); have HX4 := Lib.hid (HX3.out.below hE); have HY4 := Lib.hid hY; clear hE hY)
              | (go_at_call 36; refine (HSm.out _ _ _ HX4.out HY4.out).mono ?_; rintro e w5 ⟨rfl, hE⟩; have HB5 := Lib.hid (HB4.out.trans (below_le hE HB4.out.size)); clear hE)
              | (go_at_call 12; refine (HWk.out _ (hEV.out.below HB5.out)).mono ?_; rintro e w6 ⟨rfl, hE⟩; have HB6 := Lib.hid (HB5.out.trans (below_le hE HB5.out.size)); clear hE))
            go_ret
            exact ⟨rfl, HB6.out⟩
end Go.Proofs.YtjjnjglbmneecaaDoor
