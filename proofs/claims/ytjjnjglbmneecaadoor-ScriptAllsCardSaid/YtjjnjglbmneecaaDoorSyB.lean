/- The contracts of the reference's functions Word, hex, quoted, Quote, digit, first and Unquote. -/
import Derived.Test.YtjjnjglbmneecaaDoorSlw
import Derived.Test.YtjjnjglbmneecaaDoorSdm
import Derived.BigQuiet
import Derived.Deep.RegionWith
import Derived.Test.YtjjnjglbmneecaaDoorSyA
namespace Go.Proofs.YtjjnjglbmneecaaDoor
open Go Go.RowKit
def wdV : List Value := [.string ⟨#[]⟩, .string ⟨#[105, 110, 103, 101, 115, 116]⟩, .string ⟨#[103, 97, 109, 101]⟩, .string ⟨#[112, 111, 115, 105, 116, 105, 111, 110]⟩, .string ⟨#[109, 97, 116, 101, 114, 105, 97, 108]⟩, .string ⟨#[115, 116, 97, 116, 115]⟩, .string ⟨#[98, 111, 111, 107]⟩, .string ⟨#[99, 104, 101, 99, 107, 112, 111, 105, 110, 116]⟩, .string ⟨#[99, 114, 97, 115, 104]⟩, .string ⟨#[114, 101, 111, 112, 101, 110]⟩]
theorem wdV_at (q : Nat) (h : q < 10) : wdV[q]'h = .string ⟨(wordL q).toArray⟩ := by
  have hq : q = 0 ∨ q = 1 ∨ q = 2 ∨ q = 3 ∨ q = 4 ∨ q = 5 ∨ q = 6 ∨ q = 7 ∨ q = 8 ∨ q = 9 := by omega
  rcases hq with rfl | rfl | rfl | rfl | rfl | rfl | rfl | rfl | rfl | rfl <;> rfl
theorem wordK_nat (q : Nat) (h : q < 10) : wordK (q : Int) = wordL q := by
  unfold wordK
  rcases Nat.eq_zero_or_pos q with rfl | h0
  · rw [if_neg (by decide)]; rfl
  · rw [if_pos ⟨by omega, by omega⟩, Int.toNat_natCast]
set_option maxRecDepth 100000 in
set_option maxHeartbeats 1000000 in
theorem rword_any (k : Int) (w : World) : Calls Tryd.prog 32 #[.int .i64 k] w fun e w' => e = .returned (.string ⟨(wordK k).toArray⟩) ∧ Below w.heap.size w w' := by
  by_cases h0 : k < 0
  · have e : wordK k = [] := if_neg (by omega)
    rw [e]
    go_enter Tryd.func32, Tryd.ntmps32
    go_wp2_with fail
    go_ret
    exact ⟨rfl, below_al _ _⟩
  · by_cases h9 : 9 < k
    · have e : wordK k = [] := if_neg (by omega)
      rw [e]
      go_enter Tryd.func32, Tryd.ntmps32
      go_wp2_with fail
      go_ret
      exact ⟨rfl, below_al _ _⟩
    · obtain ⟨q, rfl⟩ : ∃ q : Nat, k = q := ⟨k.toNat, by omega⟩
      have hq : q < 10 := by omega
      rw [wordK_nat q hq]
      have HC := Lib.hid (wdV_at q hq)
      generalize wordL q = b at *
      have h0' : ¬ (q : Int) < 0 := by omega
      have h9' : ¬ 9 < q := by omega
      clear h0 h9
      go_enter Tryd.func32, Tryd.ntmps32
      go_wp2_with fail
      go_ret
      exact ⟨congrArg Ending.returned HC.out, below_al _ _⟩
set_option maxRecDepth 100000 in
set_option maxHeartbeats 2000000 in
theorem hex_any (c : UInt8) (w : World) : Calls Tryd.prog 62 #[.int .u8 c.toNat] w fun e w' => e = .returned (.string ⟨#[hx (c.toNat / 16), hx (c.toNat % 16)]⟩) ∧ Below w.heap.size w w' := by
  have hc := c.toNat_lt
  have e1 := hx_ext (c.toNat / 16) (by omega)
  have e2 := hx_ext (c.toNat % 16) (by omega)
  have hd : (c.toNat : Int) / 16 = ((c.toNat / 16 : Nat) : Int) := by omega
  have hm : (c.toNat : Int) % 16 = ((c.toNat % 16 : Nat) : Int) := by omega
  have hq1 : c.toNat / 16 ≤ 15 := by omega
  have hq2 : c.toNat % 16 ≤ 15 := by omega
  have hj : (⟨#[hx (c.toNat / 16)]⟩ ++ ⟨#[hx (c.toNat % 16)]⟩ : ByteArray) = ⟨#[hx (c.toNat / 16), hx (c.toNat % 16)]⟩ := (bs_app [hx (c.toNat / 16)] [hx (c.toNat % 16)]).symm
  rw [← hj]
  generalize hx (c.toNat / 16) = x at *
  generalize hx (c.toNat % 16) = y at *
  generalize hqa : c.toNat / 16 = qa at *
  generalize hqb : c.toNat % 16 = qb at *
  clear hj hqa hqb
  go_enter Tryd.func62, Tryd.ntmps62
  go_wp2_with fail
  go_region
  go_wp2_with fail
  go_ret
  exact ⟨rfl, (Below.refl _ _).drew⟩
end Go.Proofs.YtjjnjglbmneecaaDoor
namespace Go.Proofs.YtjjnjglbmneecaaDoor
open Go Go.RowKit
set_option maxRecDepth 100000 in
set_option maxHeartbeats 4000000 in
theorem rquoted_any (c : UInt8) (w : World) : Calls Tryd.prog 43 #[.int .u8 c.toNat] w fun e w' => e = .returned (.string ⟨(qB c).toArray⟩) ∧ Below w.heap.size w w' := by
  have hc := c.toNat_lt
  have HX := Lib.hid (fun W : World => hex_any c W)
  have hcv := cv1 w c.toNat
  rw [UInt8.ofNat_toNat] at hcv
  have HCV := Lib.hid hcv
  clear hcv
  by_cases c10 : c.toNat = 10
  · have hq : qB c = [92, 110] := by unfold qB; rw [if_pos c10]
    rw [hq]
    go_enter Tryd.func43, Tryd.ntmps43
    go_wp2_with fail
    go_ret
    exact ⟨rfl, Below.refl _ _⟩
  by_cases c13 : c.toNat = 13
  · have hq : qB c = [92, 114] := by unfold qB; rw [if_neg c10, if_pos c13]
    rw [hq]
    go_enter Tryd.func43, Tryd.ntmps43
    go_wp2_with fail
    go_ret
    exact ⟨rfl, Below.refl _ _⟩
  by_cases c9 : c.toNat = 9
  · have hq : qB c = [92, 116] := by unfold qB; rw [if_neg c10, if_neg c13, if_pos c9]
    rw [hq]
    go_enter Tryd.func43, Tryd.ntmps43
    go_wp2_with fail
    go_ret
    exact ⟨rfl, Below.refl _ _⟩
  by_cases c92 : c.toNat = 92
  · have hq : qB c = [92, 92] := by unfold qB; rw [if_neg c10, if_neg c13, if_neg c9, if_pos c92]
    rw [hq]
    go_enter Tryd.func43, Tryd.ntmps43
    go_wp2_with fail
    go_ret
    exact ⟨rfl, Below.refl _ _⟩
  by_cases clo : c.toNat < 32
  · have hq : qB c = [92, 120] ++ [hx (c.toNat / 16), hx (c.toNat % 16)] := by unfold qB; rw [if_neg c10, if_neg c13, if_neg c9, if_neg c92, if_pos (.inl clo)]; rfl
    rw [hq, bs_app]
    clear hq
    generalize hx (c.toNat / 16) = x at *
    generalize hx (c.toNat % 16) = y at *
    go_enter Tryd.func43, Tryd.ntmps43
    go_wp2_with (go_at_call 62; refine (HX.out _).mono ?_; rintro e w' ⟨rfl, hE⟩)
    go_ret
    exact ⟨rfl, hE⟩
  by_cases chi : 126 < c.toNat
  · have hq : qB c = [92, 120] ++ [hx (c.toNat / 16), hx (c.toNat % 16)] := by unfold qB; rw [if_neg c10, if_neg c13, if_neg c9, if_neg c92, if_pos (.inr chi)]; rfl
    rw [hq, bs_app]
    clear hq
    generalize hx (c.toNat / 16) = x at *
    generalize hx (c.toNat % 16) = y at *
    go_enter Tryd.func43, Tryd.ntmps43
    go_wp2_with (go_at_call 62; refine (HX.out _).mono ?_; rintro e w' ⟨rfl, hE⟩)
    go_ret
    exact ⟨rfl, hE⟩
  · have hq : qB c = [c] := by unfold qB; rw [if_neg c10, if_neg c13, if_neg c9, if_neg c92, if_neg (by omega)]
    rw [hq]
    have hcv := HCV.out
    go_enter Tryd.func43, Tryd.ntmps43
    go_wp2_with fail
    go_ret
    exact ⟨rfl, below_al _ _⟩
theorem Bs.apps {w0 w w' : World} {v v' : Value} {l p : List UInt8} (h : Bs w0 w v l) (ho : w'.ownsRow w0.heap.size 5 1 v' (l.length + p.length) (Lib.byteCells l ++ Lib.strCells ⟨p.toArray⟩)) (hg : w.grownBy w' v.ownBlock) : Bs w0 w' v' (l ++ p) := by
  refine ⟨by rw [List.length_append, bytes_app]; exact ho, ?_⟩
  exact h.bel.grown hg (by have := h.bel.size; omega) (fun k hk => (h.own.lt k hk).1)
theorem Bs.grow {w0 w w' : World} {v : Value} {l : List UInt8} (h : Bs w0 w v l) (hb : Below w.heap.size w w') : Bs w0 w' v l := ⟨owns_below h.own hb, h.bel.trans (below_le hb h.bel.size)⟩
set_option maxRecDepth 100000 in
set_option maxHeartbeats 4000000 in
theorem rquote_any (s : ByteArray) (hs : s.size ≤ 1000000) (w : World) : Calls Tryd.prog 18 #[.string s] w fun e w' => e = .returned (.string ⟨(qL s.data.toList).toArray⟩) ∧ Below w.heap.size w w' := by
  obtain ⟨i0, hi0, hz0, hz1, hz2⟩ := info_parts infoByte
  have HS := Lib.hid (Lib.size_eq s)
  go_enter Tryd.func18, Tryd.ntmps18
  go_wp2_with fail
  go_loopg [3, 4] s.size (fun mm o i wr => ∃ (k : Nat) (acc : List UInt8), mm = s.size - k ∧ k ≤ s.size ∧ i = .int .i64 k ∧ acc = qL (s.data.toList.take k) ∧ acc.length ≤ 4 * k ∧ Bs w wr o acc)
  case atStart => exact ⟨0, [], rfl, by omega, rfl, by rw [List.take_zero]; rfl, by simp, ⟨World.ownsRow_nil _ _ _ _, Below.refl _ _⟩⟩
  case round =>
    obtain ⟨k, acc, hkm, hk, rfl, hacc, hal, hB⟩ := hrel
    have HK := Lib.hid hkm
    have HA := Lib.hid hacc
    have HB := Lib.hid hB
    have hle := hB.bel.size
    clear hkm hacc
    by_cases hlt : k < s.size
    · have hdi : decide ((k : Int) < (s.size : Int)) = true := by simp; omega
      have HT := Lib.hid (take_sn s k hlt)
      obtain ⟨c, hc⟩ : ∃ c, s[k] = c := ⟨_, rfl⟩
      rw [hc] at HT
      have hq4 := (qB_len c).2
      have HQ : Hid (acc ++ qB c = qL (s.data.toList.take (k + 1))) := Lib.hid (by rw [HT.out, qL_snoc, ← HA.out])
      have HR := Lib.hid (fun W : World => rquoted_any c W)
      generalize qB c = qc at *
      clear hB
      go_wp2_with (first
        | (go_at_call 43; refine (HR.out _).mono ?_; rintro e w1 ⟨rfl, hE⟩; have HB1 := Lib.hid (HB.out.grow hE); have hle1 := HB1.out.bel.size; clear hE)
        | (at_builtin; refine Lib.wpList_append_own_string _ rfl _ _ 33 9 rfl w.heap.size 5 i0 Tryd.underlying33 Tryd.underlying9 hi0 hz0 hz1 hz2 _ _ _ rfl HB1.out.own ⟨qc.toArray⟩ rfl (by unfold maxLen; simp [ByteArray.size]; omega) (by simp [ByteArray.size]; omega) (by omega) ?_; intro v' w5 hown' hgrow _; have HO5 := Lib.hid hown'; have HG5 := Lib.hid hgrow; clear hown' hgrow))
      go_roundg (s.size - (k + 1))
      case measure => have := HK.out; omega
      case rel => exact ⟨k + 1, acc ++ qc, rfl, by omega, by go_num, HQ.out, by simp; omega, HB1.out.apps (by have := HO5.out; simpa [ByteArray.size] using this) HG5.out⟩
    · have hkk : k = s.size := by omega
      have hdi : decide ((k : Int) < (s.size : Int)) = false := by simp; omega
      have HF : Hid (acc = qL s.data.toList) := Lib.hid (by rw [HA.out, List.take_of_length_le (by have := HS.out; omega)])
      have hcv := bs_string hB.own
      clear hB
      go_wp2_with fail
      go_ret
      exact ⟨by rw [← HF.out]; rfl, HB.out.bel⟩
end Go.Proofs.YtjjnjglbmneecaaDoor
namespace Go.Proofs.YtjjnjglbmneecaaDoor
open Go Go.RowKit
def digG : Nat → Nat → UInt8 → Int
  | 0, _, _ => -1
  | n + 1, k, c => if hx k = c then (k : Int) else digG n (k + 1) c
/-- The number of a hexadecimal digit. -/
def digR (c : UInt8) : Int := digG 16 0 c
theorem digR_hx (n : Nat) (h : n ≤ 15) : digR (hx n) = n := by
  have : ∀ m : Fin 16, digR (hx m.val) = m.val := by decide
  exact this ⟨n, by omega⟩
theorem digG_rng (c : UInt8) : ∀ n k, digG n k c = -1 ∨ ∃ m : Nat, k ≤ m ∧ m < k + n ∧ digG n k c = m ∧ c = hx m := by
  intro n
  induction n with
  | zero => intro k; exact .inl rfl
  | succ n ih =>
    intro k
    rw [digG]
    by_cases h : hx k = c
    · rw [if_pos h]; exact .inr ⟨k, Nat.le_refl _, by omega, rfl, h.symm⟩
    · rw [if_neg h]
      rcases ih (k + 1) with h1 | ⟨m, h1, h2, h3, h4⟩
      · exact .inl h1
      · exact .inr ⟨m, by omega, by omega, h3, h4⟩
theorem digR_rng (c : UInt8) : digR c = -1 ∨ ∃ m : Nat, m ≤ 15 ∧ digR c = m ∧ c = hx m := by
  rcases digG_rng c 16 0 with h | ⟨m, _, h2, h3, h4⟩
  · exact .inl h
  · exact .inr ⟨m, by omega, h3, h4⟩
theorem hex_at (k : Nat) (h : k < (⟨#[48, 49, 50, 51, 52, 53, 54, 55, 56, 57, 97, 98, 99, 100, 101, 102]⟩ : ByteArray).size) : (⟨#[48, 49, 50, 51, 52, 53, 54, 55, 56, 57, 97, 98, 99, 100, 101, 102]⟩ : ByteArray)[k]'h = hx k := by
  have : ∀ m : Fin 16, (#[48, 49, 50, 51, 52, 53, 54, 55, 56, 57, 97, 98, 99, 100, 101, 102] : Array UInt8)[m.val]'(m.isLt) = hx m.val := by decide
  exact this ⟨k, h⟩
set_option maxRecDepth 100000 in
set_option maxHeartbeats 2000000 in
theorem digit_any (c : UInt8) (w : World) : Calls Tryd.prog 61 #[.int .u8 c.toNat] w fun e w' => e = .returned (.int .i64 (digR c)) ∧ w = w' := by
  obtain ⟨z, hz⟩ : ∃ z, digR c = z := ⟨_, rfl⟩
  rw [hz]
  have HZ := Lib.hid hz
  clear hz
  go_enter Tryd.func61, Tryd.ntmps61
  go_wp2_with fail
  go_loopg [3] 16 (fun mm i wr => ∃ k : Nat, mm = 16 - k ∧ k ≤ 16 ∧ i = .int .i64 k ∧ z = digG (16 - k) k c ∧ w = wr)
  case atStart => exact ⟨0, rfl, by omega, rfl, HZ.out.symm, rfl⟩
  case round =>
    obtain ⟨k, hkm, hk, rfl, hix, rfl⟩ := hrel
    have HK := Lib.hid hkm
    have HI := Lib.hid hix
    clear hkm hix
    by_cases hlt : k < 16
    · have hdi : decide ((k : Int) < 16) = true := by simp; omega
      have hat := hex_at k hlt
      have HI2 : Hid (z = if hx k = c then (k : Int) else digG (16 - (k + 1)) (k + 1) c) := Lib.hid (by rw [HI.out, show 16 - k = (16 - (k + 1)) + 1 by omega, digG])
      generalize hx k = x at *
      by_cases hxc : x = c
      · subst hxc
        have HF : Hid (z = k) := Lib.hid (by rw [HI2.out, if_pos rfl])
        go_wp2_with fail
        go_ret
        exact ⟨ret_int HF.out.symm, rfl⟩
      · have HF : Hid (z = digG (16 - (k + 1)) (k + 1) c) := Lib.hid (by rw [HI2.out, if_neg hxc])
        have hxn : ¬ x.toNat = c.toNat := fun h => hxc (UInt8.toNat_inj.1 h)
        go_wp2_with fail
        go_roundg (16 - (k + 1))
        case measure => have := HK.out; omega
        case rel => exact ⟨k + 1, rfl, by omega, by go_num, HF.out, rfl⟩
    · have hkk : k = 16 := by omega
      subst hkk
      have HF : Hid (z = -1) := Lib.hid (by rw [HI.out]; rfl)
      go_wp2_with fail
      go_ret
      exact ⟨ret_int HF.out.symm, rfl⟩
end Go.Proofs.YtjjnjglbmneecaaDoor
namespace Go.Proofs.YtjjnjglbmneecaaDoor
open Go Go.RowKit
/-- The byte that a quoted string begins with, and how long it is quoted. -/
def firP : List UInt8 → Nat × Nat
  | [] => (0, 0)
  | c :: r => if c.toNat ≠ 92 then (c.toNat, 1) else match r with
    | [] => (0, 0)
    | d :: t => if d.toNat = 110 then (10, 2) else if d.toNat = 114 then (13, 2) else if d.toNat = 116 then (9, 2) else if d.toNat = 92 then (92, 2) else match t with
      | x :: y :: _ => if d.toNat = 120 ∧ 0 ≤ digR x ∧ 0 ≤ digR y then (16 * (digR x).toNat + (digR y).toNat, 4) else (0, 0)
      | _ => (0, 0)
theorem fir_ne {c : UInt8} {r : List UInt8} (h : c.toNat ≠ 92) : firP (c :: r) = (c.toNat, 1) := by
  show (if c.toNat ≠ 92 then _ else _) = _
  rw [if_pos h]
theorem fir_1 {c : UInt8} (h : c.toNat = 92) : firP [c] = (0, 0) := by
  show (if c.toNat ≠ 92 then _ else _) = _
  rw [if_neg (by omega)]
def firQ (d : UInt8) : List UInt8 → Nat × Nat
  | x :: y :: _ => if d.toNat = 120 ∧ 0 ≤ digR x ∧ 0 ≤ digR y then (16 * (digR x).toNat + (digR y).toNat, 4) else (0, 0)
  | _ => (0, 0)
theorem fir_2 {c d : UInt8} {t : List UInt8} (h : c.toNat = 92) : firP (c :: d :: t) = if d.toNat = 110 then (10, 2) else if d.toNat = 114 then (13, 2) else if d.toNat = 116 then (9, 2) else if d.toNat = 92 then (92, 2) else firQ d t := by
  show (if c.toNat ≠ 92 then _ else _) = _
  rw [if_neg (by omega)]
  rfl
set_option linter.unusedSimpArgs false in
set_option maxRecDepth 100000 in
set_option maxHeartbeats 8000000 in
theorem first_any (s : ByteArray) (hs : s.size ≤ 1000000) (h0 : 0 < s.size) (w : World) : Calls Tryd.prog 42 #[.string s] w fun e w' => e = .returned (.tuple #[.int .u8 (firP s.data.toList).1, .int .i64 (firP s.data.toList).2]) ∧ Below w.heap.size w w' := by
  have hsz := Lib.size_eq s
  have hat : ∀ k (h : k < s.size) (h2 : k < s.data.toList.length), s[k] = s.data.toList[k] := fun k h h2 => rfl
  obtain ⟨S, hS⟩ : ∃ S, s.data.toList = S := ⟨_, rfl⟩
  rw [hS]
  have hSl : S.length = s.size := by rw [← hS]; omega
  have hat2 : ∀ k (h : k < s.size) (h2 : k < S.length), s[k] = S[k] := by rw [← hS]; exact hat
  clear hat hsz hS
  obtain ⟨c, r, rfl⟩ : ∃ c r, S = c :: r := by
    rcases S with _ | ⟨c, r⟩
    · simp at hSl; omega
    · exact ⟨c, r, rfl⟩
  have e0 := hat2 0 h0 (by simp)
  simp only [List.getElem_cons_zero] at e0
  simp only [List.length_cons] at hSl
  by_cases h92 : c.toNat = 92
  · rcases r with _ | ⟨d, t⟩
    · have hf : firP [c] = (0, 0) := fir_1 h92
      rw [hf]
      have hz1 : s.size = 1 := by simpa using hSl.symm
      clear hat2 hf
      go_enter Tryd.func42, Tryd.ntmps42
      go_wp2_with fail
      go_ret2
      exact ⟨rfl, Below.refl _ _⟩
    · simp only [List.length_cons] at hSl
      have hz2 : 2 ≤ s.size := by omega
      have e1 := hat2 1 (by omega) (by simp)
      simp only [List.getElem_cons_succ, List.getElem_cons_zero] at e1
      by_cases d1 : d.toNat = 110
      · have hf : firP (c :: d :: t) = (10, 2) := by rw [fir_2 h92, if_pos d1]
        rw [hf]
        clear hat2 hf
        go_enter Tryd.func42, Tryd.ntmps42
        go_wp2_with fail
        go_ret2
        exact ⟨rfl, Below.refl _ _⟩
      by_cases d2 : d.toNat = 114
      · have hf : firP (c :: d :: t) = (13, 2) := by rw [fir_2 h92, if_neg d1, if_pos d2]
        rw [hf]
        clear hat2 hf
        go_enter Tryd.func42, Tryd.ntmps42
        go_wp2_with fail
        go_ret2
        exact ⟨rfl, Below.refl _ _⟩
      by_cases d3 : d.toNat = 116
      · have hf : firP (c :: d :: t) = (9, 2) := by rw [fir_2 h92, if_neg d1, if_neg d2, if_pos d3]
        rw [hf]
        clear hat2 hf
        go_enter Tryd.func42, Tryd.ntmps42
        go_wp2_with fail
        go_ret2
        exact ⟨rfl, Below.refl _ _⟩
      by_cases d4 : d.toNat = 92
      · have hf : firP (c :: d :: t) = (92, 2) := by rw [fir_2 h92, if_neg d1, if_neg d2, if_neg d3, if_pos d4]
        rw [hf]
        clear hat2 hf
        go_enter Tryd.func42, Tryd.ntmps42
        go_wp2_with fail
        go_ret2
        exact ⟨rfl, Below.refl _ _⟩
      by_cases h4 : 4 ≤ s.size
      · obtain ⟨x, y, u, rfl⟩ : ∃ x y u, t = x :: y :: u := by
          rcases t with _ | ⟨x, _ | ⟨y, u⟩⟩
          · simp at hSl; omega
          · simp at hSl; omega
          · exact ⟨x, y, u, rfl⟩
        have e2 := hat2 2 (by omega) (by simp)
        have e3 := hat2 3 (by omega) (by simp)
        simp only [List.getElem_cons_succ, List.getElem_cons_zero] at e2 e3
        have hf : firP (c :: d :: x :: y :: u) = if d.toNat = 120 ∧ 0 ≤ digR x ∧ 0 ≤ digR y then (16 * (digR x).toNat + (digR y).toNat, 4) else (0, 0) := by rw [fir_2 h92, if_neg d1, if_neg d2, if_neg d3, if_neg d4]; rfl
        have HX := Lib.hid (fun W : World => digit_any x W)
        have HY := Lib.hid (fun W : World => digit_any y W)
        have hrx : -1 ≤ digR x ∧ digR x ≤ 15 := by rcases digR_rng x with h | ⟨m, h1, h2, _⟩ <;> omega
        have hry : -1 ≤ digR y ∧ digR y ≤ 15 := by rcases digR_rng y with h | ⟨m, h1, h2, _⟩ <;> omega
        generalize digR x = dx at *
        generalize digR y = dy at *
        clear hat2
        by_cases d5 : d.toNat = 120
        · by_cases hx0 : 0 ≤ dx
          · by_cases hy0 : 0 ≤ dy
            · rw [if_pos ⟨d5, hx0, hy0⟩] at hf
              rw [hf]
              clear hf
              have m1 := trivial
              go_enter Tryd.func42, Tryd.ntmps42
              go_wp2_with (first
                | (have _t := m1; go_at_call 61; refine (HX.out _).mono ?_; clear m1 _t; rintro e w' ⟨rfl, rfl⟩)
                | (go_at_call 61; refine (HY.out _).mono ?_; rintro e w' ⟨rfl, rfl⟩))
              go_quiet (first
                | (go_at_call_of 61 x; refine (HX.out _).mono ?_; rintro e w' ⟨rfl, rfl⟩; exact ⟨rfl, _, rfl⟩)
                | (go_at_call_of 61 y; refine (HY.out _).mono ?_; rintro e w' ⟨rfl, rfl⟩; exact ⟨rfl, _, rfl⟩))
              go_wp2_with fail
              have hv : ((16 * dx.toNat + dy.toNat : Nat) : Int) = 16 * dx + dy := by omega
              rw [hv]
              go_ret2
              exact ⟨rfl, ⟨rfl, rfl, rfl, Nat.le_refl _, fun _ _ => rfl⟩⟩
            · rw [if_neg (fun h => hy0 h.2.2)] at hf
              rw [hf]
              clear hf
              have m1 := trivial
              go_enter Tryd.func42, Tryd.ntmps42
              go_wp2_with (first
                | (have _t := m1; go_at_call 61; refine (HX.out _).mono ?_; clear m1 _t; rintro e w' ⟨rfl, rfl⟩)
                | (go_at_call 61; refine (HY.out _).mono ?_; rintro e w' ⟨rfl, rfl⟩))
              go_ret2
              exact ⟨rfl, Below.refl _ _⟩
          · rw [if_neg (fun h => hx0 h.2.1)] at hf
            rw [hf]
            clear hf
            go_enter Tryd.func42, Tryd.ntmps42
            go_wp2_with (go_at_call 61; refine (HX.out _).mono ?_; rintro e w' ⟨rfl, rfl⟩)
            go_ret2
            exact ⟨rfl, Below.refl _ _⟩
        · rw [if_neg (fun h => d5 h.1)] at hf
          rw [hf]
          clear hf
          go_enter Tryd.func42, Tryd.ntmps42
          go_wp2_with fail
          go_ret2
          exact ⟨rfl, Below.refl _ _⟩
      · have hf : firP (c :: d :: t) = (0, 0) := by
          rw [fir_2 h92, if_neg d1, if_neg d2, if_neg d3, if_neg d4]
          rcases t with _ | ⟨x, _ | ⟨y, u⟩⟩
          · rfl
          · rfl
          · simp at hSl; omega
        rw [hf]
        clear hat2 hf
        go_enter Tryd.func42, Tryd.ntmps42
        go_wp2_with fail
        go_ret2
        exact ⟨rfl, Below.refl _ _⟩
  · have hf : firP (c :: r) = (c.toNat, 1) := fir_ne h92
    rw [hf]
    clear hat2 hf
    go_enter Tryd.func42, Tryd.ntmps42
    go_wp2_with fail
    go_ret2
    exact ⟨rfl, Below.refl _ _⟩
end Go.Proofs.YtjjnjglbmneecaaDoor
namespace Go.Proofs.YtjjnjglbmneecaaDoor
open Go Go.RowKit
theorem fir_qB (c : UInt8) (r : List UInt8) : firP (qB c ++ r) = (c.toNat, (qB c).length) := by
  have hc := c.toNat_lt
  by_cases c10 : c.toNat = 10
  · have hq : qB c = [92, 110] := by unfold qB; rw [if_pos c10]
    rw [hq, show ([92, 110] ++ r : List UInt8) = 92 :: 110 :: r from rfl, fir_2 (by decide), if_pos (by decide), c10]; rfl
  by_cases c13 : c.toNat = 13
  · have hq : qB c = [92, 114] := by unfold qB; rw [if_neg c10, if_pos c13]
    rw [hq, show ([92, 114] ++ r : List UInt8) = 92 :: 114 :: r from rfl, fir_2 (by decide), if_neg (by decide), if_pos (by decide), c13]; rfl
  by_cases c9 : c.toNat = 9
  · have hq : qB c = [92, 116] := by unfold qB; rw [if_neg c10, if_neg c13, if_pos c9]
    rw [hq, show ([92, 116] ++ r : List UInt8) = 92 :: 116 :: r from rfl, fir_2 (by decide), if_neg (by decide), if_neg (by decide), if_pos (by decide), c9]; rfl
  by_cases c92 : c.toNat = 92
  · have hq : qB c = [92, 92] := by unfold qB; rw [if_neg c10, if_neg c13, if_neg c9, if_pos c92]
    rw [hq, show ([92, 92] ++ r : List UInt8) = 92 :: 92 :: r from rfl, fir_2 (by decide), if_neg (by decide), if_neg (by decide), if_neg (by decide), if_pos (by decide), c92]; rfl
  by_cases cx : c.toNat < 32 ∨ 126 < c.toNat
  · have hq : qB c = [92, 120, hx (c.toNat / 16), hx (c.toNat % 16)] := by unfold qB; rw [if_neg c10, if_neg c13, if_neg c9, if_neg c92, if_pos cx]
    rw [hq, show ([92, 120, hx (c.toNat / 16), hx (c.toNat % 16)] ++ r : List UInt8) = 92 :: 120 :: hx (c.toNat / 16) :: hx (c.toNat % 16) :: r from rfl, fir_2 (by decide), if_neg (by decide), if_neg (by decide), if_neg (by decide), if_neg (by decide), firQ,
      digR_hx _ (by omega), digR_hx _ (by omega), if_pos ⟨by decide, by omega, by omega⟩]
    have : 16 * ((c.toNat / 16 : Nat) : Int).toNat + ((c.toNat % 16 : Nat) : Int).toNat = c.toNat := by omega
    rw [this]; rfl
  · have hq : qB c = [c] := by unfold qB; rw [if_neg c10, if_neg c13, if_neg c9, if_neg c92, if_neg cx]
    rw [hq]
    exact fir_ne c92
theorem qL_cancel (a : List UInt8) : ∀ (r v : List UInt8), qL a ++ r = qL v → ∃ v', qL v' = r := by
  induction a with
  | nil => intro r v h; exact ⟨v, by simpa [qL] using h.symm⟩
  | cons x t ih =>
    intro r v h
    rw [qL, List.append_assoc] at h
    rcases v with _ | ⟨y, u⟩
    · have := (qB_len x).1
      have h2 := congrArg List.length h
      simp only [qL, List.length_append, List.length_nil] at h2; omega
    · rw [qL] at h
      have h1 := fir_qB x (qL t ++ r)
      rw [h, fir_qB] at h1
      have hxy : y = x := UInt8.toNat_inj.1 (congrArg (·.1) h1)
      subst hxy
      exact ih r u (List.append_cancel_left h)
/-- Where the first quoted byte is not as it is quoted, nothing was quoted. -/
theorem unq_bad {S acc rest : List UInt8} (hS : S = qL acc ++ rest) (hr : rest ≠ []) (hb : (firP rest).2 = 0 ∨ qB (UInt8.ofNat (firP rest).1) ≠ rest.take (firP rest).2) : unq S = none := by
  rcases h : unq S with _ | v
  · rfl
  · exfalso
    have hq := unq_some h
    obtain ⟨v', hv⟩ := qL_cancel acc rest v (by rw [← hS, hq])
    rcases v' with _ | ⟨y, u⟩
    · exact hr (by rw [← hv]; rfl)
    · rw [qL] at hv
      have h1 := fir_qB y (qL u)
      rw [hv] at h1
      rw [h1] at hb
      rcases hb with hb | hb
      · have := (qB_len y).1
        dsimp only at hb; omega
      · refine hb ?_
        dsimp only
        rw [UInt8.ofNat_toNat, ← hv, List.take_left']
        rfl
/-- A step. -/
theorem unq_step {S acc rest : List UInt8} {c : UInt8} {n : Nat} (hS : S = qL acc ++ rest) (hq : qB c = rest.take n) : S = qL (acc ++ [c]) ++ rest.drop n := by
  rw [hS, qL_snoc, List.append_assoc, hq, List.take_append_drop]
theorem unq_end {acc : List UInt8} : unqR (qL acc) = (acc, 0) := by unfold unqR; rw [unq_qL]
end Go.Proofs.YtjjnjglbmneecaaDoor
namespace Go.Proofs.YtjjnjglbmneecaaDoor
open Go Go.RowKit
theorem fir_rng (l : List UInt8) : (firP l).1 ≤ 255 ∧ (firP l).2 ≤ l.length := by
  rcases l with _ | ⟨c, r⟩
  · exact ⟨by decide, Nat.le_refl _⟩
  · have hc := c.toNat_lt
    by_cases h : c.toNat = 92
    · rcases r with _ | ⟨d, t⟩
      · rw [fir_1 h]; simp
      · rw [fir_2 h]
        split
        · simp
        split
        · simp
        split
        · simp
        split
        · simp
        rcases t with _ | ⟨x, _ | ⟨y, u⟩⟩
        · simp [firQ]
        · simp [firQ]
        · rw [show firQ d (x :: y :: u) = if d.toNat = 120 ∧ 0 ≤ digR x ∧ 0 ≤ digR y then (16 * (digR x).toNat + (digR y).toNat, 4) else (0, 0) from rfl]
          have hx : digR x ≤ 15 := by rcases digR_rng x with h1 | ⟨m, h1, h2, _⟩ <;> omega
          have hy : digR y ≤ 15 := by rcases digR_rng y with h1 | ⟨m, h1, h2, _⟩ <;> omega
          by_cases hc : d.toNat = 120 ∧ 0 ≤ digR x ∧ 0 ≤ digR y
          · rw [if_pos hc]; simp; omega
          · rw [if_neg hc]; simp
    · rw [fir_ne h]
      exact ⟨by dsimp only; omega, by simp⟩
set_option maxRecDepth 100000 in
set_option linter.unusedSimpArgs false in
set_option maxHeartbeats 4000000 in
theorem runquote_any (s : ByteArray) (hs : s.size ≤ 1000000) (w : World) :
    Calls Tryd.prog 16 #[.string s] w fun e w' => e = .returned (.tuple #[.string ⟨(unqR s.data.toList).1.toArray⟩, .int .i64 (unqR s.data.toList).2]) ∧ Below w.heap.size w w' := by
  obtain ⟨i0, hi0, hz0, hz1, hz2⟩ := info_parts infoByte
  obtain ⟨S, hS⟩ : ∃ S, s.data.toList = S := ⟨_, rfl⟩
  have hSl : S.length = s.size := by rw [← hS]; exact Array.length_toList
  have HS := Lib.hid hS
  rw [hS]
  clear hS
  go_enter Tryd.func16, Tryd.ntmps16
  go_wp2_with fail
  go_loopg [4, 5] s.size (fun mm o i wr => ∃ (k : Nat) (acc : List UInt8), mm = s.size - k ∧ k ≤ s.size ∧ i = .int .i64 k ∧ acc.length ≤ k ∧ S = qL acc ++ S.drop k ∧ Bs w wr o acc)
  case atStart => exact ⟨0, [], rfl, by omega, rfl, by simp, rfl, ⟨World.ownsRow_nil _ _ _ _, Below.refl _ _⟩⟩
  case round =>
    obtain ⟨k, acc, hkm, hk, rfl, hal, hq, hB⟩ := hrel
    have HK := Lib.hid hkm
    have HQ := Lib.hid hq
    have HB := Lib.hid hB
    have hle := hB.bel.size
    clear hkm hq
    by_cases hlt : k < s.size
    · have hdi : decide ((k : Int) < (s.size : Int)) = true := by simp; omega
      have hdl : (S.drop k).length = s.size - k := by rw [List.length_drop]; omega
      have he : (s.extract k s.size).data.toList = S.drop k := by rw [Lib.extract_data, HS.out]; exact List.take_of_length_le (by omega)
      have HFi := Lib.hid (fun W : World => first_any (s.extract k s.size) (by simp; omega) (by simp; omega) W)
      rw [he] at HFi
      have hrng := fir_rng (S.drop k)
      have hbad := @unq_bad S acc (S.drop k) HQ.out (by intro h; rw [h] at hdl; simp at hdl; omega)
      have hstep := fun c n h => @unq_step S acc (S.drop k) c n HQ.out h
      obtain ⟨cn, n, hcn⟩ : ∃ cn n, firP (S.drop k) = (cn, n) := ⟨_, _, rfl⟩
      rw [hcn] at HFi hrng hbad
      rw [hdl] at hrng
      dsimp only at HFi hrng hbad
      obtain ⟨c, rfl⟩ : ∃ c : UInt8, cn = c.toNat := ⟨UInt8.ofNat cn, by simp; omega⟩
      rw [UInt8.ofNat_toNat] at hbad
      clear hB he hcn
      by_cases hn : n = 0
      · subst hn
        have HN := Lib.hid (hbad (.inl rfl))
        clear hbad hstep
        go_wp2_with (go_at_call 42; refine (HFi.out _).mono ?_; rintro e w1 ⟨rfl, hE⟩; have HB1 := Lib.hid (HB.out.grow hE); have hle1 := HB1.out.bel.size; clear hE)
        go_region
        go_wp2_with fail
        go_ret2
        exact ⟨by unfold unqR; rw [HN.out]; rfl, (HB1.out.drewN 1).bel⟩
      · have hn0 : ((n : Int) == 0) = false := by simp; omega
        have HR := Lib.hid (fun W : World => rquoted_any c W)
        have hext := ext_str s k (k + n)
        rw [HS.out, show k + n - k = n by omega] at hext
        obtain ⟨m, hm⟩ : ∃ m, k + n = m := ⟨_, rfl⟩
        rw [hm] at hext
        have HWR : Hid (IntKind.i64.wrap ((k : Int) + (n : Int)) = (m : Int)) := Lib.hid (by simp [IntKind.wrap, IntKind.signed, IntKind.bits]; omega)
        have hkm : k ≤ m ∧ m ≤ s.size := by omega
        have HM := Lib.hid hm
        clear hm
        by_cases hqe : qB c = (S.drop k).take n
        · have HST := Lib.hid (hstep c n hqe)
          rw [← hqe] at hext
          generalize qB c = qc at *
          have HX := Lib.hid hext
          clear hbad hstep hext hqe
          go_wp2_with (go_at_call 42; refine (HFi.out _).mono ?_; rintro e w1 ⟨rfl, hE⟩; have HB1 := Lib.hid (HB.out.grow hE); have hle1 := HB1.out.bel.size; clear hE)
          refine wp_region_noPanic ?_
          refine wp_region_held_drew (S := fun w' => Bs w w' u4 acc) (by kernel_rfl) (HB1.out.drewN 1) (fun hH => ?_)
          refine takeD 0 (some 19) (v := ?_) rfl rfl (by kernel_rfl) (by kernel_rfl) (by kernel_rfl) (fun _ _ _ h => h) (Or.inl ⟨by rfl, ?_⟩) hH ?_
          rotate_left
          · intro w hSw; go_simp; try with_reducible rfl
          try simp only [Act.put, List.setIfInBounds_toArray, List.set_cons_zero, List.set_cons_succ]
          refine takeD 1 (some 20) (v := ?_) rfl rfl (by kernel_rfl) (by kernel_rfl) (by kernel_rfl) (fun _ _ _ h => h) (Or.inl ⟨by rfl, ?_⟩) hH ?_
          rotate_left
          · intro w hSw; go_simp; try with_reducible rfl
          try simp only [Act.put, List.setIfInBounds_toArray, List.set_cons_zero, List.set_cons_succ]
          refine takeD 2 (some 21) (v := ?_) rfl rfl (by kernel_rfl) (by kernel_rfl) (by kernel_rfl) (fun _ _ _ h => h) (Or.inl ⟨by rfl, ?_⟩) hH ?_
          rotate_left
          · intro w hSw; go_simp; try with_reducible rfl
          try simp only [Act.put, List.setIfInBounds_toArray, List.set_cons_zero, List.set_cons_succ]
          refine takeD 3 (some 22) (v := ?_) rfl rfl (by kernel_rfl) (by kernel_rfl) (by kernel_rfl) (fun _ _ _ h => h) (Or.inl ⟨by rfl, ?_⟩) hH ?_
          rotate_left
          · intro w hSw; go_simp; try with_reducible rfl
          try simp only [Act.put, List.setIfInBounds_toArray, List.set_cons_zero, List.set_cons_succ]
          refine takeD 5 (some 24) (v := ?_) rfl rfl (by kernel_rfl) (by kernel_rfl) (by kernel_rfl) (fun _ _ _ h => h) (Or.inl ⟨by rfl, ?_⟩) hH ?_
          rotate_left
          · intro w hSw; go_simp; try with_reducible rfl
          try simp only [Act.put, List.setIfInBounds_toArray, List.set_cons_zero, List.set_cons_succ]
          refine takeD 6 (some 25) (v := ?_) rfl rfl (by kernel_rfl) (by kernel_rfl) (by kernel_rfl) (fun _ _ _ h => h) (Or.inl ⟨by rfl, ?_⟩) hH ?_
          rotate_left
          · intro w hSw; go_simp; try with_reducible rfl
          try simp only [Act.put, List.setIfInBounds_toArray, List.set_cons_zero, List.set_cons_succ]
          refine takeD 7 (some 26) (v := ?_) rfl rfl (by kernel_rfl) (by kernel_rfl) (by kernel_rfl) (fun _ _ _ h => h) (Or.inl ⟨by rfl, ?_⟩) hH ?_
          rotate_left
          · intro w hSw; go_simp; try with_reducible rfl
          try simp only [Act.put, List.setIfInBounds_toArray, List.set_cons_zero, List.set_cons_succ]
          refine takeD 8 (some 27) (v := ?_) rfl rfl (by kernel_rfl) (by kernel_rfl) (by kernel_rfl) (fun _ _ _ h => h) (Or.inl ⟨by rfl, ?_⟩) hH ?_
          rotate_left
          · intro w hSw; go_simp; try with_reducible rfl
          try simp only [Act.put, List.setIfInBounds_toArray, List.set_cons_zero, List.set_cons_succ]
          refine takeD 9 (some 28) (v := .int .i64 m) rfl rfl (by kernel_rfl) (by kernel_rfl) (by kernel_rfl) (fun _ _ _ h => h) (Or.inl ⟨by rfl, ?_⟩) hH ?_
          · intro w hSw; go_simp; rw [HWR.out]
          try simp only [Act.put, List.setIfInBounds_toArray, List.set_cons_zero, List.set_cons_succ]
          refine takeD 10 (some 29) (v := .string (s.extract k m)) rfl rfl (by kernel_rfl) (by kernel_rfl) (by kernel_rfl) (fun _ _ _ h => h) (Or.inl ⟨by rfl, ?_⟩) hH ?_
          · intro w hSw; go_simp
          try simp only [Act.put, List.setIfInBounds_toArray, List.set_cons_zero, List.set_cons_succ]
          refine wpAnyH_ready (rs := [4]) (by kernel_rfl) (by simp) ?_
          refine AllReadyH.cons rfl (fun K hK => ?_) AllReadyH.nil
          go_simp
          go_at_call 43; refine (HR.out _).mono ?_; rintro e w' ⟨rfl, hE⟩; have hH := Bs.grow hH hE
          go_wp2_with fail
          refine hK.out _ _ (hH) (fun hH => ?_)
          clear hK K
          try simp only [Act.put, List.setIfInBounds_toArray, List.set_cons_zero, List.set_cons_succ]
          refine takeD 11 (some 30) (v := .bool false) rfl rfl (by kernel_rfl) (by kernel_rfl) (by kernel_rfl) (fun _ _ _ h => h) (Or.inl ⟨by rfl, ?_⟩) hH ?_
          · intro w hSw; go_simp; rw [HX.out]; simp
          try simp only [Act.put, List.setIfInBounds_toArray, List.set_cons_zero, List.set_cons_succ]
          refine takeD 12 (some 31) (v := ?_) rfl rfl (by kernel_rfl) (by kernel_rfl) (by kernel_rfl) (fun _ _ _ h => h) (Or.inl ⟨by rfl, ?_⟩) hH ?_
          rotate_left
          · intro w hSw; go_simp; try with_reducible rfl
          try simp only [Act.put, List.setIfInBounds_toArray, List.set_cons_zero, List.set_cons_succ]
          refine wpAnyH_done (by kernel_rfl) ?_ _
          refine NoPanic.normal ?_
          go_wp2_with (at_builtin; refine wpList_append_own _ rfl _ _ 33 rfl w.heap.size 5 i0 (.int .u8 0) 1 1 Tryd.underlying33 hi0 hz0 hz1 hz2 rfl (by decide) _ _ _ rfl (hH.own.alloc _) ⟨_, 0, none⟩ 1 1 [.int .u8 c.toNat] rfl rfl (cell_one_new _ _ _) (by simp [Value.oneCell']) (by unfold maxLen; omega) (by omega) (by simp; have := hH.bel.size; omega) ?_; intro v' w5 hown' hgrow _; have HO5 := Lib.hid hown'; have HG5 := Lib.hid hgrow; clear hown' hgrow)
          go_roundg (s.size - m)
          case measure => have := HK.out; have := HM.out; omega
          case rel => exact ⟨m, acc ++ [c], rfl, by omega, by have := HM.out; congr 1; omega, by have := HM.out; simp; omega, by have := HST.out; rw [List.drop_drop, HM.out] at this; exact this, hH.app HO5.out HG5.out⟩
        · have HN := Lib.hid (hbad (.inr hqe))
          have HX := Lib.hid hext
          have HNE : Hid (qB c ≠ (S.drop k).take n) := Lib.hid hqe
          generalize qB c = qc at *
          clear hbad hstep hext hqe
          go_wp2_with (go_at_call 42; refine (HFi.out _).mono ?_; rintro e w1 ⟨rfl, hE⟩; have HB1 := Lib.hid (HB.out.grow hE); have hle1 := HB1.out.bel.size; clear hE)
          refine wp_region_noPanic ?_
          refine wp_region_held_drew (S := fun w' => Bs w w' u4 acc) (by kernel_rfl) (HB1.out.drewN 1) (fun hH => ?_)
          refine takeD 0 (some 19) (v := ?_) rfl rfl (by kernel_rfl) (by kernel_rfl) (by kernel_rfl) (fun _ _ _ h => h) (Or.inl ⟨by rfl, ?_⟩) hH ?_
          rotate_left
          · intro w hSw; go_simp; try with_reducible rfl
          try simp only [Act.put, List.setIfInBounds_toArray, List.set_cons_zero, List.set_cons_succ]
          refine takeD 1 (some 20) (v := ?_) rfl rfl (by kernel_rfl) (by kernel_rfl) (by kernel_rfl) (fun _ _ _ h => h) (Or.inl ⟨by rfl, ?_⟩) hH ?_
          rotate_left
          · intro w hSw; go_simp; try with_reducible rfl
          try simp only [Act.put, List.setIfInBounds_toArray, List.set_cons_zero, List.set_cons_succ]
          refine takeD 2 (some 21) (v := ?_) rfl rfl (by kernel_rfl) (by kernel_rfl) (by kernel_rfl) (fun _ _ _ h => h) (Or.inl ⟨by rfl, ?_⟩) hH ?_
          rotate_left
          · intro w hSw; go_simp; try with_reducible rfl
          try simp only [Act.put, List.setIfInBounds_toArray, List.set_cons_zero, List.set_cons_succ]
          refine takeD 3 (some 22) (v := ?_) rfl rfl (by kernel_rfl) (by kernel_rfl) (by kernel_rfl) (fun _ _ _ h => h) (Or.inl ⟨by rfl, ?_⟩) hH ?_
          rotate_left
          · intro w hSw; go_simp; try with_reducible rfl
          try simp only [Act.put, List.setIfInBounds_toArray, List.set_cons_zero, List.set_cons_succ]
          refine takeD 5 (some 24) (v := ?_) rfl rfl (by kernel_rfl) (by kernel_rfl) (by kernel_rfl) (fun _ _ _ h => h) (Or.inl ⟨by rfl, ?_⟩) hH ?_
          rotate_left
          · intro w hSw; go_simp; try with_reducible rfl
          try simp only [Act.put, List.setIfInBounds_toArray, List.set_cons_zero, List.set_cons_succ]
          refine takeD 6 (some 25) (v := ?_) rfl rfl (by kernel_rfl) (by kernel_rfl) (by kernel_rfl) (fun _ _ _ h => h) (Or.inl ⟨by rfl, ?_⟩) hH ?_
          rotate_left
          · intro w hSw; go_simp; try with_reducible rfl
          try simp only [Act.put, List.setIfInBounds_toArray, List.set_cons_zero, List.set_cons_succ]
          refine takeD 7 (some 26) (v := ?_) rfl rfl (by kernel_rfl) (by kernel_rfl) (by kernel_rfl) (fun _ _ _ h => h) (Or.inl ⟨by rfl, ?_⟩) hH ?_
          rotate_left
          · intro w hSw; go_simp; try with_reducible rfl
          try simp only [Act.put, List.setIfInBounds_toArray, List.set_cons_zero, List.set_cons_succ]
          refine takeD 8 (some 27) (v := ?_) rfl rfl (by kernel_rfl) (by kernel_rfl) (by kernel_rfl) (fun _ _ _ h => h) (Or.inl ⟨by rfl, ?_⟩) hH ?_
          rotate_left
          · intro w hSw; go_simp; try with_reducible rfl
          try simp only [Act.put, List.setIfInBounds_toArray, List.set_cons_zero, List.set_cons_succ]
          refine takeD 9 (some 28) (v := .int .i64 m) rfl rfl (by kernel_rfl) (by kernel_rfl) (by kernel_rfl) (fun _ _ _ h => h) (Or.inl ⟨by rfl, ?_⟩) hH ?_
          · intro w hSw; go_simp; rw [HWR.out]
          try simp only [Act.put, List.setIfInBounds_toArray, List.set_cons_zero, List.set_cons_succ]
          refine takeD 10 (some 29) (v := .string (s.extract k m)) rfl rfl (by kernel_rfl) (by kernel_rfl) (by kernel_rfl) (fun _ _ _ h => h) (Or.inl ⟨by rfl, ?_⟩) hH ?_
          · intro w hSw; go_simp
          try simp only [Act.put, List.setIfInBounds_toArray, List.set_cons_zero, List.set_cons_succ]
          refine wpAnyH_ready (rs := [4]) (by kernel_rfl) (by simp) ?_
          refine AllReadyH.cons rfl (fun K hK => ?_) AllReadyH.nil
          go_simp
          go_at_call 43; refine (HR.out _).mono ?_; rintro e w' ⟨rfl, hE⟩; have hH := Bs.grow hH hE
          go_wp2_with fail
          refine hK.out _ _ (hH) (fun hH => ?_)
          clear hK K
          try simp only [Act.put, List.setIfInBounds_toArray, List.set_cons_zero, List.set_cons_succ]
          refine takeD 11 (some 30) (v := .bool true) rfl rfl (by kernel_rfl) (by kernel_rfl) (by kernel_rfl) (fun _ _ _ h => h) (Or.inl ⟨by rfl, ?_⟩) hH ?_
          · intro w hSw; go_simp; rw [HX.out]; simp [HNE.out]
          try simp only [Act.put, List.setIfInBounds_toArray, List.set_cons_zero, List.set_cons_succ]
          refine takeD 12 (some 31) (v := ?_) rfl rfl (by kernel_rfl) (by kernel_rfl) (by kernel_rfl) (fun _ _ _ h => h) (Or.inl ⟨by rfl, ?_⟩) hH ?_
          rotate_left
          · intro w hSw; go_simp; try with_reducible rfl
          try simp only [Act.put, List.setIfInBounds_toArray, List.set_cons_zero, List.set_cons_succ]
          refine wpAnyH_done (by kernel_rfl) ?_ _
          refine NoPanic.normal ?_
          go_wp2_with fail
          go_ret2
          exact ⟨by unfold unqR; rw [HN.out]; rfl, hH.bel⟩
    · have hkk : k = s.size := by omega
      have hdi : decide ((k : Int) < (s.size : Int)) = false := by simp; omega
      have hF : S = qL acc := by have := HQ.out; rw [List.drop_eq_nil_of_le (by omega), List.append_nil] at this; exact this
      have HF : Hid (unqR S = (acc, 0)) := Lib.hid (by rw [hF, unq_end])
      have hcv := bs_string hB.own
      clear hB hF
      go_wp2_with fail
      go_ret2
      exact ⟨by rw [HF.out]; rfl, HB.out.bel⟩
end Go.Proofs.YtjjnjglbmneecaaDoor
