/- The contracts of the reference's functions digits, number, split and keep; what its function guess computes. -/
import Derived.Test.YtjjnjglbmneecaaDoorSlw
namespace Go.Proofs.YtjjnjglbmneecaaDoor
open Go Go.RowKit
theorem dig_ext (p : Nat) (h : p ≤ 9) : ByteArray.extract ⟨#[48, 49, 50, 51, 52, 53, 54, 55, 56, 57]⟩ p (p + 1) = ⟨#[UInt8.ofNat (48 + p)]⟩ := by
  have : ∀ m : Fin 10, (ByteArray.extract ⟨#[48, 49, 50, 51, 52, 53, 54, 55, 56, 57]⟩ m.val (m.val + 1)).data = #[UInt8.ofNat (48 + m.val)] := by decide
  exact ByteArray.ext (this ⟨p, by omega⟩)
theorem dec_lt (k : Nat) : ∀ u : Nat, u < 10 ^ (k + 1) → (Lib.decDigits u).length ≤ k + 1 := by
  induction k with
  | zero => intro u h; rw [Lib.decDigits, dif_pos (by simpa using h)]; simp
  | succ k ih =>
    intro u h
    rw [Lib.decDigits]
    by_cases h10 : u < 10
    · rw [dif_pos h10]; simp
    · rw [dif_neg h10, List.length_append]
      have := ih (u / 10) (by rw [Nat.pow_succ] at h; omega)
      simp; omega
set_option maxRecDepth 100000 in
set_option maxHeartbeats 1000000 in
theorem digits_any (n : Nat) (hn : n ≤ 1000000000000) : ∀ w : World, Calls Tryd.prog 52 #[.int .i64 n] w fun e w' => e = .returned (.string ⟨(Lib.decDigits n).toArray⟩) ∧ w = w' := by
  induction n using Nat.strongRecOn with
  | _ n ih =>
    intro w
    by_cases h : n < 10
    · have he := dig_ext n (by omega)
      have hd : Lib.decDigits n = [UInt8.ofNat (48 + n)] := by rw [Lib.decDigits, dif_pos h]
      rw [hd]
      clear ih hd
      generalize UInt8.ofNat (48 + n) = c at *
      have h1 : ¬ 9 < n := by omega
      go_enter Tryd.func52, Tryd.ntmps52
      go_wp2_with fail
      go_ret
      exact ⟨rfl, rfl⟩
    · have hd : Lib.decDigits n = Lib.decDigits (n / 10) ++ [UInt8.ofNat (48 + n % 10)] := by rw [Lib.decDigits, dif_neg h]
      have I1 := Lib.hid (ih (n / 10) (by omega) (by omega))
      have I2 := Lib.hid (ih (n % 10) (by omega) (by omega))
      have hl1 := dec_lt 12 (n / 10) (by omega)
      have hd2 : Lib.decDigits (n % 10) = [UInt8.ofNat (48 + n % 10)] := by rw [Lib.decDigits, dif_pos (by omega)]
      rw [hd2] at I2
      rw [hd, bs_app]
      rw [show ((n / 10 : Nat) : Int) = (n : Int) / 10 by omega] at I1
      rw [show ((n % 10 : Nat) : Int) = (n : Int) % 10 by omega] at I2
      clear ih hd hd2
      generalize Lib.decDigits (n / 10) = l at *
      generalize UInt8.ofNat (48 + n % 10) = c at *
      have h1 : 9 < n := by omega
      have m1 := trivial
      go_enter Tryd.func52, Tryd.ntmps52
      go_wp2_with (first
        | (have _t := m1; go_at_call 52; refine (I1.out _).mono ?_; clear m1 _t; rintro e w' ⟨rfl, rfl⟩)
        | (go_at_call 52; refine (I2.out _).mono ?_; rintro e w' ⟨rfl, rfl⟩))
      go_ret
      exact ⟨rfl, rfl⟩
/-- The number that the digits spell, at most ten of them. -/
def numA : List UInt8 → Nat → Nat → Option Nat
  | [], n, _ => some n
  | c :: r, n, i => if c.toNat < 48 ∨ 57 < c.toNat ∨ 9 < i then none else numA r (10 * n + (c.toNat - 48)) (i + 1)
/-- What number returns. -/
def numR (l : List UInt8) (most : Int) : Int := match numA l 0 0 with
  | none => -1
  | some n => if most < n ∨ l ≠ Lib.decDigits n then -1 else n
theorem numA_lt (l : List UInt8) : ∀ (n i m : Nat), numA l n i = some m → n < 10 ^ i → i ≤ 10 → m < 10 ^ 10 := by
  induction l with
  | nil =>
    intro n i m h hn hi
    rw [numA] at h
    rw [← Option.some.inj h]
    exact Nat.lt_of_lt_of_le hn (Nat.pow_le_pow_right (by decide) hi)
  | cons c r ih =>
    intro n i m h hn hi
    rw [numA] at h
    split at h
    · cases h
    · exact ih _ _ m h (by rw [Nat.pow_succ]; omega) (by omega)
theorem numA_pu (l : List UInt8) : ∀ (n i m : Nat), Lib.parseUint10 n l = .ok m → i + l.length ≤ 10 → numA l n i = some m := by
  induction l with
  | nil => intro n i m h _; have : n = m := by simpa [Lib.parseUint10] using h
           rw [this]; rfl
  | cons c r ih =>
    intro n i m h hi
    rw [Lib.parseUint10] at h
    simp only [List.length_cons] at hi
    split at h
    · rename_i h1
      split at h
      · cases h
      · split at h
        · cases h
        · rw [numA, if_neg (by omega), Nat.mul_comm]
          exact ih _ _ m h (by omega)
    · cases h
theorem numR_some (x : Nat) (most : Int) (h : (x : Int) ≤ most) (hm : most ≤ 1000000) : numR (Lib.decDigits x) most = x := by
  have hl := dec_lt 6 x (by omega)
  unfold numR
  rw [numA_pu _ 0 0 x (pu_dec x (by omega)) (by omega)]
  simp only
  rw [if_neg (by simp; omega)]
theorem numR_inv {l : List UInt8} {most : Int} (h : 0 ≤ numR l most) : ∃ x : Nat, numR l most = x ∧ (x : Int) ≤ most ∧ l = Lib.decDigits x := by
  unfold numR at h ⊢
  split
  · rename_i e; rw [e] at h; simp at h
  · rename_i n e
    rw [e] at h
    simp only at h
    by_cases hc : most < n ∨ l ≠ Lib.decDigits n
    · rw [if_pos hc] at h; simp at h
    · rw [if_neg hc]
      refine ⟨n, rfl, by omega, ?_⟩
      exact Classical.byContradiction fun e => hc (.inr e)
theorem numR_neg {l : List UInt8} {most : Int} (h : ¬ 0 ≤ numR l most) : numR l most = -1 := by
  unfold numR at h ⊢
  split
  · rfl
  · rename_i n e
    rw [e] at h
    simp only at h
    by_cases hc : most < n ∨ l ≠ Lib.decDigits n
    · rw [if_pos hc]
    · rw [if_neg hc] at h; omega
set_option maxRecDepth 100000 in
set_option maxHeartbeats 4000000 in
theorem number_any2 (s : ByteArray) (hs : s.size ≤ 1000000) (most : Int) (w : World) : Calls Tryd.prog 59 #[.string s, .int .i64 most] w fun e w' => e = .returned (.int .i64 (numR s.data.toList most)) ∧ w = w' := by
  obtain ⟨z, hz⟩ : ∃ z, numR s.data.toList most = z := ⟨_, rfl⟩
  rw [hz]
  have HZ := Lib.hid hz
  have HS := Lib.hid (Lib.size_eq s)
  clear hz
  go_enter Tryd.func59, Tryd.ntmps59
  go_wp2_with fail
  go_loopg [5, 6] s.size (fun mm n i wr => ∃ k m : Nat, mm = s.size - k ∧ k ≤ s.size ∧ k ≤ 10 ∧ i = .int .i64 k ∧ n = .int .i64 m ∧ numA s.data.toList 0 0 = numA (s.data.toList.drop k) m k ∧ m < 10 ^ k ∧ wr = w)
  case atStart => exact ⟨0, 0, rfl, by omega, by omega, rfl, rfl, by rw [List.drop_zero], by decide, rfl⟩
  case round =>
    obtain ⟨k, m, hkm, hk, hk10, rfl, rfl, hix, hm, rfl⟩ := hrel
    have HK := Lib.hid hkm
    have HI := Lib.hid hix
    have hm10 : m < 10000000000 := Nat.lt_of_lt_of_le hm (Nat.le_trans (Nat.pow_le_pow_right (by decide) hk10) (by decide))
    have HM := Lib.hid hm
    clear hkm hix hm
    by_cases hlt : k < s.size
    · have hdi : decide ((k : Int) < (s.size : Int)) = true := by simp; omega
      obtain ⟨c, hc⟩ : ∃ c, s[k] = c := ⟨_, rfl⟩
      have hd : s.data.toList.drop k = c :: s.data.toList.drop (k + 1) := by rw [List.drop_eq_getElem_cons (by have := HS.out; omega), ← hc]; rfl
      have HI2 : Hid (numA s.data.toList 0 0 = if c.toNat < 48 ∨ 57 < c.toNat ∨ 9 < k then none else numA (s.data.toList.drop (k + 1)) (10 * m + (c.toNat - 48)) (k + 1)) := Lib.hid (by rw [HI.out, hd, numA])
      have hno : ∀ h : c.toNat < 48 ∨ 57 < c.toNat ∨ 9 < k, z = -1 := fun h => by rw [← HZ.out]; unfold numR; rw [HI2.out, if_pos h]
      have HNO := Lib.hid hno
      clear hd HI hno
      by_cases c1 : c.toNat < 48
      · have HF := Lib.hid (HNO.out (.inl c1))
        go_wp2_with fail
        go_ret
        exact ⟨ret_int HF.out.symm, rfl⟩
      by_cases c2 : 57 < c.toNat
      · have HF := Lib.hid (HNO.out (.inr (.inl c2)))
        go_wp2_with fail
        go_ret
        exact ⟨ret_int HF.out.symm, rfl⟩
      by_cases c3 : 9 < k
      · have HF := Lib.hid (HNO.out (.inr (.inr c3)))
        go_wp2_with fail
        go_ret
        exact ⟨ret_int HF.out.symm, rfl⟩
      have HN : Hid (numA s.data.toList 0 0 = numA (s.data.toList.drop (k + 1)) (10 * m + (c.toNat - 48)) (k + 1)) := Lib.hid (by rw [HI2.out, if_neg (by omega)])
      have hc8 := c.toNat_lt
      have HM2 : Hid (10 * m + (c.toNat - 48) < 10 ^ (k + 1)) := Lib.hid (by have := HM.out; rw [Nat.pow_succ]; omega)
      go_wp2_with fail
      go_roundg (s.size - (k + 1))
      case measure => have := HK.out; omega
      case rel => exact ⟨k + 1, 10 * m + (c.toNat - 48), rfl, by omega, by omega, by go_num, by go_num, HN.out, HM2.out, rfl⟩
    · have hkl : k = s.size := by omega
      have hdi : decide ((k : Int) < (s.size : Int)) = false := by simp; omega
      have hzz : z = if most < (m : Int) ∨ s.data.toList ≠ Lib.decDigits m then (-1 : Int) else (m : Int) := by
        rw [← HZ.out]; unfold numR; rw [HI.out, List.drop_eq_nil_of_le (by have := HS.out; omega)]; rfl
      have HZZ := Lib.hid hzz
      clear hzz
      by_cases hmm : most < m
      · have HF : Hid (z = -1) := Lib.hid (by rw [HZZ.out, if_pos (.inl hmm)])
        go_wp2_with fail
        go_ret
        exact ⟨ret_int HF.out.symm, rfl⟩
      · have HD := Lib.hid (digits_any m (by omega))
        by_cases he : s.data.toList = Lib.decDigits m
        · have HF : Hid (z = m) := Lib.hid (by rw [HZZ.out, if_neg (fun h => h.elim hmm (fun h => h he))])
          have hcmp : (s.toList == Lib.decDigits m) = true := by rw [Lib.toList_data]; simpa using he
          clear he
          generalize Lib.decDigits m = dm at *
          go_wp2_with (go_at_call 52; refine (HD.out _).mono ?_; rintro e w' ⟨rfl, rfl⟩)
          go_ret
          exact ⟨ret_int HF.out.symm, rfl⟩
        · have HF : Hid (z = -1) := Lib.hid (by rw [HZZ.out, if_pos (.inr he)])
          have hcmp : (s.toList == Lib.decDigits m) = false := by rw [Lib.toList_data]; simpa using he
          clear he
          generalize Lib.decDigits m = dm at *
          go_wp2_with (go_at_call 52; refine (HD.out _).mono ?_; rintro e w' ⟨rfl, rfl⟩)
          go_ret
          exact ⟨ret_int HF.out.symm, rfl⟩
end Go.Proofs.YtjjnjglbmneecaaDoor
namespace Go.Proofs.YtjjnjglbmneecaaDoor
open Go Go.RowKit
theorem infoStr : (Tryd.prog.info? 9).map (fun i => (i.zero, i.size, i.bytes)) = some (some (.string ⟨#[]⟩), 1, 16) := by kernel_rfl
def strVs (l : List (List UInt8)) : List Value := l.map fun x => .string ⟨x.toArray⟩
/-- A slice of strings that is made here. -/
structure Strs (w0 : World) (w : World) (v : Value) (l : List (List UInt8)) : Prop where
  own : w.ownsRow w0.heap.size 9 1 v l.length (strVs l)
  bel : Below w0.heap.size w0 w
theorem Strs.app {w0 w w' : World} {v v' : Value} {l : List (List UInt8)} {x : List UInt8} (h : Strs w0 w v l) (ho : w'.ownsRow w0.heap.size 9 1 v' (l.length + 1) (strVs l ++ [.string ⟨x.toArray⟩])) (hg : w.grownBy w' v.ownBlock) : Strs w0 w' v' (l ++ [x]) := by
  refine ⟨by rw [List.length_append, show strVs (l ++ [x]) = strVs l ++ [.string ⟨x.toArray⟩] by simp [strVs]]; exact ho, ?_⟩
  exact h.bel.grown hg (by have := h.bel.size; omega) (fun k hk => (h.own.lt k hk).1)
theorem Strs.grow {w0 w w' : World} {v : Value} {l : List (List UInt8)} (h : Strs w0 w v l) (hb : Below w.heap.size w w') : Strs w0 w' v l := ⟨owns_below h.own hb, h.bel.trans (below_le hb h.bel.size)⟩
/-- The cells of a slice of strings. -/
def StrsAt (w : World) (g : Nat) (l : List (List UInt8)) : Prop := ∀ i (h : i < l.length), w.cell? ⟨g, i, none⟩ = some (.string ⟨l[i].toArray⟩)
theorem StrsAt.below {w w' : World} {g : Nat} {l : List (List UInt8)} (h : StrsAt w g l) (hb : Below w.heap.size w w') (hg : g < w.heap.size) : StrsAt w' g l := fun i hi => (hb.cell (p := ⟨g, i, none⟩) hg).trans (h i hi)
theorem Strs.row {w0 w : World} {v : Value} {l : List (List UInt8)} (h : Strs w0 w v l) (hl : l ≠ []) : ∃ g cap, v = .slice (some ⟨g, 0, none⟩) l.length cap ∧ w0.heap.size ≤ g ∧ g < w.heap.size ∧ l.length ≤ cap ∧ StrsAt w g l := by
  rcases h.own.2 with ⟨_, h0⟩ | ⟨g, cap, cur, rfl, hg, hgg, hc, _⟩
  · exact absurd (List.eq_nil_of_length_eq_zero h0) hl
  · refine ⟨g, cap, rfl, hg, (Array.getElem?_eq_some_iff.1 hgg).1, hc, fun i hi => ?_⟩
    have := h.own.cells (g := g) rfl i (.string ⟨l[i].toArray⟩) (by unfold strVs; simp [hi])
    have ha : (⟨g, 0, none⟩ : Addr).add i = ⟨g, 0 + i, none⟩ := by unfold Addr.add; split <;> simp_all
    rw [ha, Nat.zero_add] at this
    exact this
theorem ext_str (s : ByteArray) (a b : Nat) : s.extract a b = ⟨((s.data.toList.drop a).take (b - a)).toArray⟩ := ByteArray.ext (Array.toList_inj.1 (by rw [Lib.extract_data]))
set_option maxRecDepth 100000 in
set_option maxHeartbeats 4000000 in
theorem split_any (s : ByteArray) (hs : s.size ≤ 1000000) (c : UInt8) (w : World) : Calls Tryd.prog 57 #[.string s, .int .u8 c.toNat] w fun e w' => ∃ v, e = .returned v ∧ Strs w w' v (parts c s.data.toList) := by
  obtain ⟨i0, hi0, hz0, hz1, hz2⟩ := info_parts infoStr
  have HS := Lib.hid (Lib.size_eq s)
  obtain ⟨P, hP⟩ : ∃ P, parts c s.data.toList = P := ⟨_, rfl⟩
  rw [hP]
  have HP := Lib.hid hP
  clear hP
  go_enter Tryd.func57, Tryd.ntmps57
  go_wp2_with fail
  go_loopg [5, 6, 7] (s.size + 1) (fun mm o f i wr => ∃ (fr k : Nat) (done : List (List UInt8)), mm = s.size + 1 - k ∧ k ≤ s.size + 1 ∧ (k ≤ s.size → fr ≤ k) ∧ i = .int .i64 k ∧ f = .int .i64 fr ∧ done.length ≤ k ∧ (k ≤ s.size → P = done ++ partsA c ((s.data.toList.drop fr).take (k - fr)) (s.data.toList.drop k)) ∧ (s.size < k → P = done) ∧ Strs w wr o done)
  case atStart => exact ⟨0, 0, [], rfl, by omega, fun _ => Nat.le_refl _, rfl, rfl, by simp, fun _ => HP.out.symm, fun h => by omega, ⟨World.ownsRow_nil _ _ _ _, Below.refl _ _⟩⟩
  case round =>
    obtain ⟨fr, k, done, hkm, hk, hfr, rfl, rfl, hdl, hp1, hp2, hO⟩ := hrel
    have HK := Lib.hid hkm
    have HP1 := Lib.hid hp1
    have HP2 := Lib.hid hp2
    have HO := Lib.hid hO
    have hle := hO.bel.size
    clear hkm hp1 hp2
    by_cases hlt : k ≤ s.size
    · have hfk := hfr hlt
      clear hfr
      by_cases hend : k = s.size
      · have hdk : s.data.toList.drop k = [] := List.drop_eq_nil_of_le (by have := HS.out; omega)
        have he : Hid (P = done ++ [(s.data.toList.drop fr).take (k - fr)]) := Lib.hid (by rw [HP1.out hlt, hdk]; rfl)
        have hext := Lib.hid (ext_str s fr k)
        clear hdk hO
        have hdl2 : done.length ≤ 1000000 := by omega
        subst hend
        go_wp2_with (at_builtin; refine wpList_append_own _ rfl _ _ 60 rfl w.heap.size 9 i0 (.string ⟨#[]⟩) 1 16 Tryd.underlying60 hi0 hz0 hz1 hz2 rfl (by decide) _ _ _ rfl (HO.out.own.alloc _) ⟨wr.heap.size, 0, none⟩ 1 1 [.string (s.extract fr s.size)] rfl rfl (cell_one_new _ _ _) (by simp [Value.oneCell']) (by unfold maxLen; omega) (by omega) (by simp; omega) ?_; intro v' w5 hown' hgrow _; have HO5 := Lib.hid hown'; have HG5 := Lib.hid hgrow; clear hown' hgrow)
        go_roundg (s.size + 1 - (s.size + 1))
        case measure => have := HK.out; omega
        case rel => exact ⟨s.size + 1, s.size + 1, done ++ [(s.data.toList.drop fr).take (s.size - fr)], rfl, Nat.le_refl _, fun h => by omega, by go_num, by go_num, by simp; omega, fun h => by omega, fun _ => he.out, (HO.out.grow (below_al wr (.cells #[.string (s.extract fr s.size)] 9))).app (by rw [← hext.out]; exact HO5.out) HG5.out⟩
      · have hlt2 : k < s.size := by omega
        obtain ⟨x, hx⟩ : ∃ x, s[k] = x := ⟨_, rfl⟩
        have hd : s.data.toList.drop k = x :: s.data.toList.drop (k + 1) := by rw [List.drop_eq_getElem_cons (by have := HS.out; omega), ← hx]; rfl
        have hpk : Hid (P = done ++ if x = c then (s.data.toList.drop fr).take (k - fr) :: partsA c [] (s.data.toList.drop (k + 1)) else partsA c ((s.data.toList.drop fr).take (k - fr) ++ [x]) (s.data.toList.drop (k + 1))) := Lib.hid (by rw [HP1.out hlt, hd, partsA_cons])
        have htk : Hid ((s.data.toList.drop fr).take (k - fr) ++ [x] = (s.data.toList.drop fr).take (k + 1 - fr)) := Lib.hid (by
          have h1 : k - fr < (s.data.toList.drop fr).length := by rw [List.length_drop]; have := HS.out; omega
          rw [show k + 1 - fr = (k - fr) + 1 by omega, List.take_succ_eq_append_getElem h1, List.getElem_drop]
          congr 2
          rw [← hx]
          have : fr + (k - fr) = k := by omega
          simp only [this]; rfl)
        have hext := Lib.hid (ext_str s fr k)
        have hke : ((k : Int) == (s.size : Int)) = false := beq_eq_false_iff_ne.2 (by omega)
        have hdl2 : done.length ≤ 1000000 := by omega
        clear hd hO
        by_cases hxc : x = c
        · subst hxc
          have he : Hid (P = (done ++ [(s.data.toList.drop fr).take (k - fr)]) ++ partsA x ((s.data.toList.drop (k + 1)).take (k + 1 - (k + 1))) (s.data.toList.drop (k + 1))) := Lib.hid (by rw [hpk.out, if_pos rfl]; simp)
          go_wp2_with (at_builtin; refine wpList_append_own _ rfl _ _ 60 rfl w.heap.size 9 i0 (.string ⟨#[]⟩) 1 16 Tryd.underlying60 hi0 hz0 hz1 hz2 rfl (by decide) _ _ _ rfl (HO.out.own.alloc _) ⟨wr.heap.size, 0, none⟩ 1 1 [.string (s.extract fr k)] rfl rfl (cell_one_new _ _ _) (by simp [Value.oneCell']) (by unfold maxLen; omega) (by omega) (by simp; omega) ?_; intro v' w5 hown' hgrow _; have HO5 := Lib.hid hown'; have HG5 := Lib.hid hgrow; clear hown' hgrow)
          go_roundg (s.size + 1 - (k + 1))
          case measure => have := HK.out; omega
          case rel => exact ⟨k + 1, k + 1, done ++ [(s.data.toList.drop fr).take (k - fr)], rfl, by omega, fun _ => Nat.le_refl _, by go_num, by go_num, by simp; omega, fun _ => he.out, fun h => by omega, (HO.out.grow (below_al wr (.cells #[.string (s.extract fr k)] 9))).app (by rw [← hext.out]; exact HO5.out) HG5.out⟩
        · have he : Hid (P = done ++ partsA c ((s.data.toList.drop fr).take (k + 1 - fr)) (s.data.toList.drop (k + 1))) := Lib.hid (by rw [hpk.out, if_neg hxc, htk.out])
          have hxn : ((x.toNat : Int) == (c.toNat : Int)) = false := beq_eq_false_iff_ne.2 (fun h => hxc (UInt8.toNat_inj.1 (by omega)))
          go_wp2_with fail
          go_roundg (s.size + 1 - (k + 1))
          case measure => have := HK.out; omega
          case rel => exact ⟨fr, k + 1, done, rfl, by omega, fun _ => by omega, by go_num, rfl, by omega, fun _ => he.out, fun h => by omega, HO.out⟩
    · have hf : Hid (P = done) := Lib.hid (HP2.out (by omega))
      have hk2 : ¬ (k : Int) ≤ (s.size : Int) := by omega
      clear hO hfr
      go_wp2_with fail
      go_ret
      exact ⟨_, rfl, by rw [hf.out]; exact HO.out⟩
end Go.Proofs.YtjjnjglbmneecaaDoor
namespace Go.Proofs.YtjjnjglbmneecaaDoor
open Go Go.RowKit
def keepG : List (List UInt8) → Nat → List Int → List Int
  | [], _, acc => acc
  | p :: r, i, acc => if numR p 128 < 0 ∨ i = 64 then [] else keepG r (i + 1) (acc ++ [numR p 128])
/-- What keep returns. -/
def keepP (v : List UInt8) : List Int := keepG (parts 44 v) 0 []
theorem split_parts (v : List UInt8) : splitC v = parts 44 v := by
  suffices ∀ n (v : List UInt8), v.length ≤ n → splitC v = parts 44 v from this v.length v (Nat.le_refl _)
  intro n
  induction n with
  | zero => intro v h; rw [List.eq_nil_of_length_eq_zero (by omega : v.length = 0)]; rfl
  | succ n ih =>
    intro v h
    rcases first_split (c := 44) v with h1 | ⟨a, r, rfl, h1⟩
    · rw [splitC_free h1]
      have := partsA_free h1 []
      unfold parts; rw [this]; rfl
    · rw [splitC_hit h1, ih r (by simp at h; omega)]
      have := partsA_hit (r := r) h1 []
      unfold parts; rw [this]; rfl
theorem numR_numP {p : List UInt8} (h : 0 ≤ numR p 128) : numP p = some (numR p 128) ∧ numR p 128 ≤ 128 := by
  obtain ⟨x, h1, h2, h3⟩ := numR_inv h
  rw [h1]
  exact ⟨by rw [h3, ← itoa_nat]; exact numP_itoa x (by omega), h2⟩
theorem numP_numR {p : List UInt8} {x : Int} (h : numP p = some x) (h0 : 0 ≤ x) (h1 : x ≤ 128) : numR p 128 = x := by
  unfold numP at h
  split at h
  · rename_i n hn
    by_cases e : Lib.itoa n = p
    · rw [if_pos e] at h
      obtain rfl := Option.some.inj h
      obtain ⟨m, rfl⟩ : ∃ m : Nat, n = m := ⟨n.toNat, by omega⟩
      rw [← e, itoa_nat]
      exact numR_some m 128 h1 (by decide)
    · rw [if_neg e] at h; cases h
  · cases h
theorem keepG_ok (ps : List (List UInt8)) : ∀ (i : Nat) (acc l : List Int), numsP ps = some l → (∀ x ∈ l, 0 ≤ x ∧ x ≤ 128) → i + ps.length ≤ 64 → keepG ps i acc = acc ++ l := by
  induction ps with
  | nil => intro i acc l h _ _; simp [numsP] at h; subst h; simp [keepG]
  | cons p r ih =>
    intro i acc l h hb hi
    simp only [numsP] at h
    split at h
    · rename_i n l' hn hl
      obtain rfl := Option.some.inj h
      have h1 := hb n (by simp)
      have h2 := numP_numR hn h1.1 h1.2
      simp only [List.length_cons] at hi
      rw [keepG, if_neg (by rw [h2]; omega), h2, ih _ _ l' hl (fun x hx => hb x (by simp [hx])) (by omega)]
      simp
    · cases h
theorem keepG_inv (ps : List (List UInt8)) : ∀ (i : Nat) (acc : List Int), i ≤ 64 → keepG ps i acc ≠ [] → ∃ l, numsP ps = some l ∧ (∀ x ∈ l, 0 ≤ x ∧ x ≤ 128) ∧ i + ps.length ≤ 64 := by
  induction ps with
  | nil => intro i acc hi _; exact ⟨[], rfl, fun x hx => (by cases hx), by simpa using hi⟩
  | cons p r ih =>
    intro i acc hi h
    rw [keepG] at h
    by_cases hc : numR p 128 < 0 ∨ i = 64
    · rw [if_pos hc] at h; exact absurd rfl h
    · rw [if_neg hc] at h
      obtain ⟨l, h1, h2, h3⟩ := ih (i + 1) _ (by omega) h
      have hn := numR_numP (p := p) (by omega)
      refine ⟨numR p 128 :: l, by simp only [numsP, hn.1, h1], fun x hx => ?_, by simp; omega⟩
      rcases List.mem_cons.1 hx with rfl | hx
      · exact ⟨by omega, hn.2⟩
      · exact h2 x hx
/-- Plans and what is kept. -/
theorem keep_plan {v : List UInt8} {l : List Int} (h : planP v = some l) (hl : l.length ≤ 64) (hb : ∀ x ∈ l, 0 ≤ x ∧ x ≤ 128) : keepP v = l := by
  unfold keepP planP at *
  rw [split_parts] at h
  have h1 := numsP_len h
  have := keepG_ok _ 0 [] l h hb (by omega)
  simpa using this
theorem keep_inv {v : List UInt8} (h : keepP v ≠ []) : ∃ l, planP v = some l ∧ 1 ≤ l.length ∧ l.length ≤ 64 ∧ (∀ x ∈ l, 0 ≤ x ∧ x ≤ 128) ∧ keepP v = l := by
  obtain ⟨l, h1, h2, h3⟩ := keepG_inv _ 0 [] (by omega) h
  have hp : planP v = some l := by unfold planP; rw [split_parts]; exact h1
  have hl := numsP_len h1
  have hne := planP_len hp
  have h64 : l.length ≤ 64 := by omega
  refine ⟨l, hp, ?_, h64, h2, keep_plan hp h64 h2⟩
  rcases l with _ | ⟨x, r⟩
  · exact absurd rfl hne.1
  · simp
theorem split_sum (v : List UInt8) : ((splitC v).map fun p => p.length + 1).sum = v.length + 1 := by
  induction v with
  | nil => rfl
  | cons c r ih =>
    rw [splitC]
    by_cases hc : c = 44
    · rw [if_pos hc]; simp [ih]; omega
    · rw [if_neg hc]
      rcases hs : splitC r with _ | ⟨h, t⟩
      · exact absurd hs (splitC_ne r)
      · rw [hs] at ih; simp at ih ⊢; omega
theorem nums_short (ps : List (List UInt8)) : ∀ l, numsP ps = some l → (∀ x ∈ l, 0 ≤ x ∧ x ≤ 128) → (ps.map fun p => p.length + 1).sum ≤ 4 * l.length := by
  induction ps with
  | nil => intro l _ _; simp
  | cons p r ih =>
    intro l h hb
    simp only [numsP] at h
    split at h
    · rename_i n l' hn hl
      obtain rfl := Option.some.inj h
      have h1 := hb n (by simp)
      have h2 := numP_numR hn h1.1 h1.2
      obtain ⟨x, e1, e2, e3⟩ := numR_inv (l := p) (most := 128) (by omega)
      have h3 := dec_lt 2 x (by omega)
      have h4 := ih l' hl (fun y hy => hb y (by simp [hy]))
      rw [← e3] at h3
      simp; omega
    · cases h
/-- A crash is valid in the reference's words. -/
theorem crash_ref (a : Int) (v : List UInt8) : crashB a v = decide (0 ≤ a ∧ a ≤ 1000000 ∧ v.length ≤ 1000 ∧ 0 < (keepP v).length) := by
  by_cases h : crashB a v = true
  · rw [h]
    unfold crashB at h
    split at h
    · rename_i l hl
      obtain ⟨h1, h2, h3, h4, h5⟩ := of_decide_eq_true h
      have hk := keep_plan hl h4 h5
      have hs := nums_short _ l hl h5
      rw [split_sum] at hs
      exact (decide_eq_true ⟨h1, h2, by omega, by rw [hk]; omega⟩).symm
    · cases h
  · have hf : crashB a v = false := by simpa using h
    rw [hf]
    refine (decide_eq_false fun hc => h ?_).symm
    obtain ⟨l, h1, h2, h3, h4, _⟩ := keep_inv (v := v) (fun e => by rw [e] at hc; exact absurd hc.2.2.2 (by simp))
    unfold crashB
    rw [h1]
    exact decide_eq_true ⟨hc.1, hc.2.1, h2, h3, h4⟩
theorem own_base {W : World} {a b : Nat} {e : TypeId} {size : Nat} {v : Value} {n : Nat} {xs : List Value} (h : W.ownsRow b e size v n xs) (hab : a ≤ b) : W.ownsRow a e size v n xs := by
  refine ⟨h.1, ?_⟩
  rcases h.2 with hn | ⟨g, cap, cur, h1, h2, h3⟩
  · exact .inl hn
  · exact .inr ⟨g, cap, cur, h1, Nat.le_trans hab h2, h3⟩
set_option maxRecDepth 100000 in
set_option maxHeartbeats 4000000 in
theorem keep_any (s : ByteArray) (hs : s.size ≤ 100000) (w : World) : Calls Tryd.prog 53 #[.string s] w fun e w' => ∃ v, e = .returned v ∧ w'.ownsRow w.heap.size 3 1 v (keepP s.data.toList).length (Vi (keepP s.data.toList)) ∧ Below w.heap.size w w' := by
  obtain ⟨i0, hi0, hz0, hz1, hz2⟩ := info_parts infoInt
  have HSp := Lib.hid (split_any s (by omega) 44 w)
  have hpl : ∀ p ∈ parts 44 s.data.toList, p.length ≤ 100000 := fun p hp => by have := parts_len 44 _ p hp; have := Lib.size_eq s; omega
  have hpn : (parts 44 s.data.toList).length ≤ 100001 := by have := partsA_count 44 s.data.toList []; have h2 := Lib.size_eq s; unfold parts; omega
  have hpne : parts 44 s.data.toList ≠ [] := partsA_ne
  have HPL := Lib.hid hpl
  unfold keepP
  generalize parts 44 s.data.toList = ps at *
  obtain ⟨R, hR⟩ : ∃ R, keepG ps 0 [] = R := ⟨_, rfl⟩
  rw [hR]
  have HR := Lib.hid hR
  clear hR hpl
  go_enter Tryd.func53, Tryd.ntmps53
  go_wp2_with (go_at_call 57; refine HSp.out.mono ?_; rintro e w1 ⟨v1, rfl, hS⟩; obtain ⟨gs, cs, hvs, _, hgs, _, hat⟩ := hS.row hpne; subst hvs; have HB1 := Lib.hid hS.bel; have HAT := Lib.hid hat; have hle1 := hS.bel.size; clear hS hat)
  go_loopg [4, 5] ps.length (fun mm o i wr => ∃ (k : Nat) (acc : List Int), mm = ps.length - k ∧ k ≤ ps.length ∧ k ≤ 64 ∧ i = .int .i64 k ∧ acc.length = k ∧ R = keepG (ps.drop k) k acc ∧ wr.ownsRow w1.heap.size 3 1 o acc.length (Vi acc) ∧ Below w1.heap.size w1 wr)
  case atStart => exact ⟨0, [], rfl, by omega, by omega, rfl, rfl, by rw [List.drop_zero]; exact HR.out.symm, World.ownsRow_nil _ _ _ _, Below.refl _ _⟩
  case round =>
    obtain ⟨k, acc, hkm, hk, hk64, rfl, hal, hix, hO, hb⟩ := hrel
    have HK := Lib.hid hkm
    have HO := Lib.hid hO
    have HB := Lib.hid hb
    have hle := hb.size
    clear hkm hO
    by_cases hlt : k < ps.length
    · have hdi : decide ((k : Int) < (ps.length : Int)) = true := by simp; omega
      have hcell := (HAT.out.below hb hgs) k hlt
      have hd : ps.drop k = ps[k] :: ps.drop (k + 1) := List.drop_eq_getElem_cons hlt
      have hpl := HPL.out _ (List.getElem_mem hlt)
      rw [hd] at hix
      generalize ps[k] = p at hcell hix hpl
      rw [keepG] at hix
      have HN := Lib.hid (fun W : World => number_any2 ⟨p.toArray⟩ (by simp [ByteArray.size]; omega) 128 W)
      rw [show (⟨p.toArray⟩ : ByteArray).data.toList = p from rfl] at HN
      generalize hx : numR p 128 = x at *
      have hx1 : x = -1 ∨ 0 ≤ x ∧ x ≤ 128 := by
        by_cases h : 0 ≤ numR p 128
        · exact .inr (by rw [← hx]; exact ⟨h, (numR_numP h).2⟩)
        · exact .inl (by rw [← hx]; exact numR_neg h)
      have HI := Lib.hid hix
      clear hix hd hb hx
      by_cases hx0 : x < 0
      · have HF : Hid (R = []) := Lib.hid (by rw [HI.out, if_pos (.inl hx0)])
        go_wp2_with (go_at_call 59; refine (HN.out _).mono ?_; rintro e w' ⟨rfl, rfl⟩)
        go_ret
        exact ⟨_, rfl, by rw [HF.out]; exact World.ownsRow_nil _ _ _ _, HB1.out.trans (below_le HB.out hle1)⟩
      · by_cases hk4 : k = 64
        · have HF : Hid (R = []) := Lib.hid (by rw [HI.out, if_pos (.inr hk4)])
          have hk5 : ((k : Int) == 64) = true := by simp; omega
          clear hk4
          go_wp2_with (go_at_call 59; refine (HN.out _).mono ?_; rintro e w' ⟨rfl, rfl⟩)
          go_ret
          exact ⟨_, rfl, by rw [HF.out]; exact World.ownsRow_nil _ _ _ _, HB1.out.trans (below_le HB.out hle1)⟩
        · have hk5 : ((k : Int) == 64) = false := by simp; omega
          have HF : Hid (R = keepG (ps.drop (k + 1)) (k + 1) (acc ++ [x])) := Lib.hid (by rw [HI.out, if_neg (by omega)])
          go_wp2_with (first
            | (go_at_call 59; refine (HN.out _).mono ?_; rintro e w' ⟨rfl, rfl⟩)
            | (at_builtin; refine wpList_append_own _ rfl _ _ 48 rfl w1.heap.size 3 i0 (.int .i64 0) 1 8 Tryd.underlying48 hi0 hz0 hz1 hz2 rfl (by decide) _ _ _ rfl (HO.out.alloc _) ⟨wr.heap.size, 0, none⟩ 1 1 [.int .i64 x] rfl rfl (cell_one_new _ _ _) (by simp [Value.oneCell']) (by unfold maxLen; omega) (by omega) (by simp; omega) ?_; intro v' w5 hown' hgrow _; have HO5 := Lib.hid hown'; have HG5 := Lib.hid hgrow; clear hown' hgrow))
          go_roundg (ps.length - (k + 1))
          case measure => have := HK.out; omega
          case rel => exact ⟨k + 1, acc ++ [x], rfl, by omega, by omega, by go_num, by simp [hal], HF.out, by rw [List.length_append, show Vi (acc ++ [x]) = Vi acc ++ [.int .i64 x] by simp [Vi]]; exact HO5.out, (HB.out.alloc hle _).grown HG5.out (by simp; omega) (fun t ht => (HO.out.lt t ht).1)⟩
    · have HF : Hid (R = acc) := Lib.hid (by rw [hix, List.drop_eq_nil_of_le (by omega)]; rfl)
      have hdi : decide ((k : Int) < (ps.length : Int)) = false := by simp; omega
      clear hb hix
      go_wp2_with fail
      go_ret
      exact ⟨_, rfl, by rw [HF.out]; exact own_base HO.out hle1, HB1.out.trans (below_le HB.out hle1)⟩
end Go.Proofs.YtjjnjglbmneecaaDoor
namespace Go.Proofs.YtjjnjglbmneecaaDoor
open Go Go.RowKit
/-- The kind whose word this is; 0 if there is none. -/
def kixN (wd : List UInt8) : Nat := (kixF wd 10 0).toNat
theorem kixN_rng (wd : List UInt8) : kixN wd < 10 ∧ ∀ j : Nat, 0 < j → j < 10 → (wordL j = wd ↔ kixN wd = j) := by
  unfold kixN
  have hj : ∀ j : Nat, 0 < j → j < 10 → wordL j = wd → (kixF wd 10 0).toNat = j := fun j h0 h1 e => by
    rw [← e, kixF_word j h0 h1]; rfl
  rcases kixF_rng wd with h | ⟨k, h0, h1, h2, h3⟩
  · refine ⟨by rw [h]; decide, fun j hj0 hj1 => ⟨hj j hj0 hj1, fun e => ?_⟩⟩
    rw [h] at e
    have : (-1 : Int).toNat = 0 := by decide
    omega
  · refine ⟨by rw [h2]; omega, fun j hj0 hj1 => ⟨hj j hj0 hj1, fun e => ?_⟩⟩
    rw [h2] at e
    have e2 : k = j := by simpa using e
    rw [← e2]; exact h3
def unT (k : Int) (r : List UInt8) : Opx := match unq r with
  | some v => (k, 0, v)
  | none => (0, 0, [])
/-- What guess makes of a kind and of what is behind its word. -/
def gsT (k : Nat) (r : List UInt8) : Opx := match k with
  | 1 => unT 1 r
  | 2 => (2, numR r 1000000, [])
  | 3 => unT 3 r
  | 4 => unT 4 r
  | 5 => unT 5 r
  | 8 => (8, numR ((parts 32 r).getD 0 []) 1000000, if (parts 32 r).length = 2 then (parts 32 r).getD 1 [] else [])
  | _ => ((k : Int), 0, [])
/-- What guess returns. -/
def gsP (s : List UInt8) : Opx := gsT (kixN (spL s).1) (spL s).2
theorem unT_bd (k : Int) (r : List UInt8) : (unT k r).2.1 = 0 ∧ (unT k r).2.2.length ≤ r.length := by
  unfold unT
  rcases h : unq r with _ | v
  · simp
  · exact ⟨rfl, unq_len h⟩
theorem numR_bd (l : List UInt8) (most : Int) (hm : 0 ≤ most) : -1 ≤ numR l most ∧ numR l most ≤ most := by
  by_cases h : 0 ≤ numR l most
  · obtain ⟨x, h1, h2, _⟩ := numR_inv h; omega
  · rw [numR_neg h]; omega
theorem getD_len (ps : List (List UInt8)) (n : Nat) (h : ∀ p ∈ ps, p.length ≤ n) (i : Nat) : (ps.getD i []).length ≤ n := by
  by_cases hi : i < ps.length
  · rw [List.getD_eq_getElem?_getD, List.getElem?_eq_getElem hi]; exact h _ (List.getElem_mem hi)
  · rw [List.getD_eq_getElem?_getD, List.getElem?_eq_none (by omega)]; exact Nat.zero_le _
theorem gsT_bd (k : Nat) (r : List UInt8) : (-1 ≤ (gsT k r).2.1 ∧ (gsT k r).2.1 ≤ 1000000) ∧ (gsT k r).2.2.length ≤ r.length := by
  have hu : ∀ q : Int, (-1 ≤ (unT q r).2.1 ∧ (unT q r).2.1 ≤ 1000000) ∧ (unT q r).2.2.length ≤ r.length := fun q => by have := unT_bd q r; omega
  unfold gsT
  split
  · exact hu 1
  · exact ⟨numR_bd _ _ (by decide), Nat.zero_le _⟩
  · exact hu 3
  · exact hu 4
  · exact hu 5
  · refine ⟨numR_bd _ _ (by decide), ?_⟩
    show (if _ then _ else _ : List UInt8).length ≤ _
    split
    · exact getD_len _ _ (parts_len 32 r) 1
    · exact Nat.zero_le _
  · dsimp only; exact ⟨⟨by decide, by decide⟩, Nat.zero_le _⟩
theorem gsP_bd (s : List UInt8) : (-1 ≤ (gsP s).2.1 ∧ (gsP s).2.1 ≤ 1000000) ∧ (gsP s).2.2.length ≤ s.length := by
  have h := gsT_bd (kixN (spL s).1) (spL s).2
  have := (spL_le s).2
  unfold gsP
  exact ⟨h.1, Nat.le_trans h.2 this⟩
theorem split_no (v : List UInt8) {c : UInt8} (hc : c ≠ 44) (h : ∀ p ∈ splitC v, c ∉ p) : c ∉ v := by
  induction v with
  | nil => simp
  | cons d r ih =>
    rw [splitC] at h
    by_cases hd : d = 44
    · rw [if_pos hd] at h
      rw [List.mem_cons, not_or]
      exact ⟨fun e => hc (e.trans hd), ih fun p hp => h p (List.mem_cons_of_mem _ hp)⟩
    · rw [if_neg hd] at h
      rcases hs : splitC r with _ | ⟨q, t⟩
      · exact absurd hs (splitC_ne r)
      · rw [hs] at h
        have h1 := h (d :: q) (by simp)
        rw [List.mem_cons, not_or] at h1 ⊢
        refine ⟨h1.1, ih fun p hp => ?_⟩
        rw [hs] at hp
        rcases List.mem_cons.1 hp with rfl | hp
        · exact h1.2
        · exact h p (List.mem_cons_of_mem _ hp)
theorem nums_no (ps : List (List UInt8)) : ∀ l, numsP ps = some l → (∀ x ∈ l, 0 ≤ x ∧ x ≤ 128) → ∀ p ∈ ps, (32 : UInt8) ∉ p := by
  induction ps with
  | nil => intro l _ _ p hp; cases hp
  | cons q r ih =>
    intro l h hb p hp
    simp only [numsP] at h
    split at h
    · rename_i n l' hn hl
      obtain rfl := Option.some.inj h
      rcases List.mem_cons.1 hp with rfl | hp
      · have h1 := hb n (by simp)
        have h2 := numP_numR hn h1.1 h1.2
        obtain ⟨x, e1, e2, e3⟩ := numR_inv (l := p) (most := 128) (by omega)
        rw [e3, ← itoa_nat]
        exact itoa_free x (by unfold digB; decide)
      · exact ih l' hl (fun y hy => hb y (by simp [hy])) p hp
    · cases h
theorem crash_no {a : Int} {v : List UInt8} (h : crashB a v = true) : (32 : UInt8) ∉ v := by
  unfold crashB at h
  split at h
  · rename_i l hl
    obtain ⟨_, _, _, _, h5⟩ := of_decide_eq_true h
    exact split_no v (by decide) (nums_no _ l hl h5)
  · cases h
theorem kixN_word {k : Nat} (h0 : 0 < k) (h1 : k < 10) : kixN (wordL k) = k := by unfold kixN; rw [kixF_word k h0 h1]; rfl
theorem gs_hit {k : Nat} (h0 : 0 < k) (h1 : k < 10) (r : List UInt8) : gsP (wordL k ++ 32 :: r) = gsT k r := by
  unfold gsP
  rw [spL_hit (word_free k h1)]
  show gsT (kixN (wordL k)) r = _
  rw [kixN_word h0 h1]
theorem gs_bare {k : Nat} (h0 : 0 < k) (h1 : k < 10) : gsP (wordL k ++ []) = gsT k [] := by
  unfold gsP
  rw [List.append_nil, spL_free (word_free k h1)]
  show gsT (kixN (wordL k)) [] = _
  rw [kixN_word h0 h1]
theorem unT_q (k : Int) (v : List UInt8) : unT k (qL v) = (k, 0, v) := by unfold unT; rw [unq_qL]
/-- An operation is found again from its string. -/
theorem gs_pr {k a : Int} {v : List UInt8} (h : chkZ k a v = 0) : gsP (prS k a v) = (k, a, v) := by
  have hc := chk_iff.1 h
  have hp : prS k a v = wordL k.toNat ++ encP k.toNat a v := by unfold prS; rw [if_pos h]
  rw [hp]
  have hk' : k = 1 ∨ k = 2 ∨ k = 3 ∨ k = 4 ∨ k = 5 ∨ k = 6 ∨ k = 7 ∨ k = 8 ∨ k = 9 := by omega
  rcases hk' with rfl | rfl | rfl | rfl | rfl | rfl | rfl | rfl | rfl
  · have hv : a = 0 ∧ v.length ≤ 40000 := of_decide_eq_true hc.2.2
    rw [hv.1]
    exact (gs_hit (k := 1) (by decide) (by decide) _).trans (unT_q 1 v)
  · have hv : 0 ≤ a ∧ a ≤ 1000000 ∧ v.length = 0 := of_decide_eq_true hc.2.2
    obtain ⟨n, rfl⟩ : ∃ n : Nat, a = n := ⟨a.toNat, by omega⟩
    rw [List.eq_nil_of_length_eq_zero hv.2.2]
    refine (gs_hit (k := 2) (by decide) (by decide) _).trans ?_
    show ((2 : Int), numR (Lib.itoa (n : Int)) 1000000, ([] : List UInt8)) = _
    rw [itoa_nat, numR_some n 1000000 (by omega) (by decide)]
  · have hv : a = 0 ∧ v.length ≤ 200 := of_decide_eq_true hc.2.2
    rw [hv.1]
    exact (gs_hit (k := 3) (by decide) (by decide) _).trans (unT_q 3 v)
  · have hv : a = 0 ∧ v.length ≤ 200 := of_decide_eq_true hc.2.2
    rw [hv.1]
    exact (gs_hit (k := 4) (by decide) (by decide) _).trans (unT_q 4 v)
  · have hv : a = 0 ∧ v.length ≤ 200 := of_decide_eq_true hc.2.2
    rw [hv.1]
    exact (gs_hit (k := 5) (by decide) (by decide) _).trans (unT_q 5 v)
  · have hv : a = 0 ∧ v.length = 0 := of_decide_eq_true hc.2.2
    rw [hv.1, List.eq_nil_of_length_eq_zero hv.2]
    exact gs_bare (k := 6) (by decide) (by decide)
  · have hv : a = 0 ∧ v.length = 0 := of_decide_eq_true hc.2.2
    rw [hv.1, List.eq_nil_of_length_eq_zero hv.2]
    exact gs_bare (k := 7) (by decide) (by decide)
  · have hv : crashB a v = true := hc.2.2
    have hn := crash_num hv
    have h32 := crash_no hv
    obtain ⟨n, rfl⟩ : ∃ n : Nat, a = n := ⟨a.toNat, by omega⟩
    have hps : parts 32 (Lib.itoa (n : Int) ++ 32 :: v) = [Lib.itoa (n : Int), v] := by
      unfold parts
      rw [partsA_hit (itoa_free n (by unfold digB; decide)) [], partsA_free h32 []]
      simp
    refine (gs_hit (k := 8) (by decide) (by decide) _).trans ?_
    show ((8 : Int), numR ((parts 32 (Lib.itoa (n : Int) ++ 32 :: v)).getD 0 []) 1000000, if (parts 32 (Lib.itoa (n : Int) ++ 32 :: v)).length = 2 then (parts 32 (Lib.itoa (n : Int) ++ 32 :: v)).getD 1 [] else []) = _
    rw [hps]
    show ((8 : Int), numR (Lib.itoa (n : Int)) 1000000, v) = _
    rw [itoa_nat, numR_some n 1000000 (by omega) (by decide)]
  · have hv : a = 0 ∧ v.length = 0 := of_decide_eq_true hc.2.2
    rw [hv.1, List.eq_nil_of_length_eq_zero hv.2]
    exact gs_bare (k := 9) (by decide) (by decide)
theorem parO_inv {s : List UInt8} {x : Opx} (h : parO s = some x) : zx x = 0 ∧ prx x = s := by
  unfold parO at h
  dsimp only at h
  split at h
  · cases h
  · split at h
    · rename_i hh
      obtain rfl := Option.some.inj h
      exact hh
    · cases h
/-- What the reference's Parse computes is what Parse computes. -/
theorem gs_par (s : List UInt8) : parO s = if zx (gsP s) = 0 ∧ prx (gsP s) = s then some (gsP s) else none := by
  by_cases h : zx (gsP s) = 0 ∧ prx (gsP s) = s
  · rw [if_pos h]
    have := par_pr (k := (gsP s).1) (a := (gsP s).2.1) (v := (gsP s).2.2) h.1
    rw [show prS (gsP s).1 (gsP s).2.1 (gsP s).2.2 = s from h.2] at this
    exact this
  · rw [if_neg h]
    rcases hp : parO s with _ | x
    · rfl
    · exfalso
      obtain ⟨h1, h2⟩ := parO_inv hp
      have h3 : gsP (prx x) = x := gs_pr (k := x.1) (a := x.2.1) (v := x.2.2) h1
      rw [h2] at h3
      rw [h3] at h
      exact h ⟨h1, h2⟩
end Go.Proofs.YtjjnjglbmneecaaDoor
