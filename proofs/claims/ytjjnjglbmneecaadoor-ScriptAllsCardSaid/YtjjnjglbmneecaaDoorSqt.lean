/- The contract of script.Quote. No condition but a bound on the length. -/
import Derived.Test.YtjjnjglbmneecaaDoorSbd
import Derived.Test.YtjjnjglbmneecaaDoorKit
import Derived.Deep.RegionHeld3
import Derived.Deep.DeepCutAuto
import Derived.BigQuiet
import Derived.Laws.BitsLemmas
namespace Go.Proofs.YtjjnjglbmneecaaDoor
open Go Go.RowKit
theorem takeD {P : Program} {md : Region.Mode} {ops : Array Oper} {Q : Exit → Act → World → Prop} {S : World → Prop} (i : Nat) (d : Option Tmp) {oi : Oper} {v : Value} {fuel : Nat} {listed : Array Bool} {a : Act} {w : World} (hi : ops[i]? = some oi) (hd : oi.dst = d)
    (hs : Region.noSelect ops = true) (hf : Region.free md ops listed i = true) (hr : (Region.ready md ops listed).contains i = true)
    (hQ : ∀ c a w, Q (.panic c) (a.put oi.dst v) w → Q (.panic c) a w) (hy : YieldsIf P ops S oi v a) (hS : S w)
    (h : wpAnyH P md ops Q S fuel (listed.setIfInBounds i true) (a.put d v) w) : wpAnyH P md ops Q S (fuel + 1) listed a w := by
  subst hd
  exact wpAnyH_take hi hs hf hr hQ hy hS h
/-- The hexadecimal digits. -/
def hexL : List UInt8 := [48, 49, 50, 51, 52, 53, 54, 55, 56, 57, 97, 98, 99, 100, 101, 102]
def hx (n : Nat) : UInt8 := hexL.getD n 0
/-- A byte, quoted. -/
def qB (c : UInt8) : List UInt8 :=
  if c.toNat = 10 then [92, 110] else if c.toNat = 13 then [92, 114] else if c.toNat = 9 then [92, 116] else if c.toNat = 92 then [92, 92]
  else if c.toNat < 32 ∨ 126 < c.toNat then [92, 120, hx (c.toNat / 16), hx (c.toNat % 16)] else [c]
def qL : List UInt8 → List UInt8
  | [] => []
  | c :: r => qB c ++ qL r
theorem qB_len (c : UInt8) : 1 ≤ (qB c).length ∧ (qB c).length ≤ 4 := by
  unfold qB; repeat' split
  all_goals simp
theorem qL_app (a b : List UInt8) : qL (a ++ b) = qL a ++ qL b := by
  induction a with
  | nil => rfl
  | cons c a ih => simp only [List.cons_append, qL, ih, List.append_assoc]
theorem qL_len (l : List UInt8) : l.length ≤ (qL l).length ∧ (qL l).length ≤ 4 * l.length := by
  induction l with
  | nil => simp [qL]
  | cons c l ih => have := qB_len c; simp only [qL, List.length_append, List.length_cons]; omega
theorem qL_snoc (l : List UInt8) (c : UInt8) : qL (l ++ [c]) = qL l ++ qB c := by rw [qL_app]; simp [qL]
theorem Bld.drew {w0 w : World} {b : Nat} {l : List UInt8} (h : Bld w0 b l w) : Bld w0 b l w.drew := ⟨h.is.elim (fun h => .inl h.drew) (fun h => .inr h.drew), h.bel.drew⟩
theorem take_sn (s : ByteArray) (k : Nat) (h : k < s.size) : s.data.toList.take (k + 1) = s.data.toList.take k ++ [s[k]] := by
  rw [List.take_succ_eq_append_getElem (by simpa using h)]; rfl
theorem hx_ext (p : Nat) (h : p ≤ 15) : ByteArray.extract ⟨#[48, 49, 50, 51, 52, 53, 54, 55, 56, 57, 97, 98, 99, 100, 101, 102]⟩ p (p + 1) = ⟨#[hx p]⟩ := by
  have : ∀ m : Fin 16, (ByteArray.extract ⟨#[48, 49, 50, 51, 52, 53, 54, 55, 56, 57, 97, 98, 99, 100, 101, 102]⟩ m.val (m.val + 1)).data = #[hx m.val] := by decide
  exact ByteArray.ext (this ⟨p, by omega⟩)
set_option maxRecDepth 100000 in
set_option linter.unusedSimpArgs false in
set_option maxHeartbeats 4000000 in
theorem quote_any (s : ByteArray) (hs : s.size ≤ 1000000) (w : World) :
    Calls Tryd.prog 17 #[.string s] w fun e w' => e = .returned (.string ⟨(qL s.data.toList).toArray⟩) ∧ Below w.heap.size w w' := by
  have hB0 := Bld.fresh w
  go_enter Tryd.func17, Tryd.ntmps17
  go_wp2_with fail
  generalize hgb : w.heap.size = gb at hB0
  generalize w.alloc _ = wq at *
  go_loopg [8] s.size (fun mm i wr => ∃ k : Nat, mm = s.size - k ∧ k ≤ s.size ∧ i = .int .i64 k ∧ Bld w gb (qL (s.data.toList.take k)) wr)
  case atStart => exact ⟨0, rfl, by omega, rfl, by simpa [qL] using hB0⟩
  case round =>
    clear hB0
    obtain ⟨k, hkm, hk, rfl, hB⟩ := hrel
    have HK := Lib.hid hkm
    have HG := Lib.hid hgb
    clear hkm hgb
    by_cases hlt : k < s.size
    · have hdi : decide ((k : Int) < (s.size : Int)) = true := by simp; omega
      have HT := Lib.hid (take_sn s k hlt)
      have hlen := (qL_len (s.data.toList.take k)).2
      have hlk : (s.data.toList.take k).length ≤ k := List.length_take_le _ _
      obtain ⟨c, hc⟩ : ∃ c, s[k] = c := ⟨_, rfl⟩
      have Hc := Lib.hid hc
      rw [hc] at HT
      have HQ : Hid (qL (s.data.toList.take (k + 1)) = qL (s.data.toList.take k) ++ qB c) := Lib.hid (by rw [HT.out, qL_snoc])
      generalize hL : qL (s.data.toList.take k) = L at *
      have hL2 : L.length ≤ 4000000 := by omega
      have hc255 : c.toNat ≤ 255 := by have := c.toNat_lt; omega
      clear hL hlen hlk
      by_cases c10 : c.toNat = 10
      · have hqb : qB c = [92, 110] := by unfold qB; rw [if_pos c10]
        go_wp2_with (go_at_call 44; refine (wstr_any hB ⟨#[92, 110]⟩ (by simp [ByteArray.size]; omega)).mono ?_; rintro e w' ⟨rfl, hE⟩)
        have hrw := HQ.out
        rw [hqb] at hrw
        go_roundg (s.size - (k + 1))
        case measure => have := HK.out; omega
        case rel => exact ⟨k + 1, rfl, by omega, by go_num, by rw [hrw]; exact hE⟩
      by_cases c13 : c.toNat = 13
      · have hqb : qB c = [92, 114] := by unfold qB; rw [if_neg c10, if_pos c13]
        go_wp2_with (go_at_call 44; refine (wstr_any hB ⟨#[92, 114]⟩ (by simp [ByteArray.size]; omega)).mono ?_; rintro e w' ⟨rfl, hE⟩)
        have hrw := HQ.out
        rw [hqb] at hrw
        go_roundg (s.size - (k + 1))
        case measure => have := HK.out; omega
        case rel => exact ⟨k + 1, rfl, by omega, by go_num, by rw [hrw]; exact hE⟩
      by_cases c9 : c.toNat = 9
      · have hqb : qB c = [92, 116] := by unfold qB; rw [if_neg c10, if_neg c13, if_pos c9]
        go_wp2_with (go_at_call 44; refine (wstr_any hB ⟨#[92, 116]⟩ (by simp [ByteArray.size]; omega)).mono ?_; rintro e w' ⟨rfl, hE⟩)
        have hrw := HQ.out
        rw [hqb] at hrw
        go_roundg (s.size - (k + 1))
        case measure => have := HK.out; omega
        case rel => exact ⟨k + 1, rfl, by omega, by go_num, by rw [hrw]; exact hE⟩
      by_cases c92 : c.toNat = 92
      · have hqb : qB c = [92, 92] := by unfold qB; rw [if_neg c10, if_neg c13, if_neg c9, if_pos c92]
        go_wp2_with (go_at_call 44; refine (wstr_any hB ⟨#[92, 92]⟩ (by simp [ByteArray.size]; omega)).mono ?_; rintro e w' ⟨rfl, hE⟩)
        have hrw := HQ.out
        rw [hqb] at hrw
        go_roundg (s.size - (k + 1))
        case measure => have := HK.out; omega
        case rel => exact ⟨k + 1, rfl, by omega, by go_num, by rw [hrw]; exact hE⟩
      by_cases cr : c.toNat < 32 ∨ 126 < c.toNat
      · have hqb : qB c = [92, 120, hx (c.toNat / 16), hx (c.toNat % 16)] := by unfold qB; rw [if_neg c10, if_neg c13, if_neg c9, if_neg c92, if_pos cr]
        go_wp2_with fail
        all_goals
          have hD := hB.drew
          obtain ⟨p, hp⟩ : ∃ p : Nat, c.toNat / 16 = p := ⟨_, rfl⟩
          obtain ⟨q, hq⟩ : ∃ q : Nat, c.toNat % 16 = q := ⟨_, rfl⟩
          have hp15 : p ≤ 15 := by omega
          have hq15 : q ≤ 15 := by omega
          have f1 : (c.toNat : Int) / 16 = (p : Int) := by omega
          have f2 : IntKind.u8.wrap ((p : Int) + 1) = (p : Int) + 1 := IntWalk.u8_in _ (by omega)
          have g2 : IntKind.u8.wrap ((q : Int) + 1) = (q : Int) + 1 := IntWalk.u8_in _ (by omega)
          have f3 : bits BinOp.and IntKind.u8 (c.toNat : Int) 15 = (q : Int) := by have := u8_and15 (x := (c.toNat : Int)) (by omega) (by omega); omega
          rw [hp, hq] at hqb
          have e5 := hx_ext p hp15
          have g5 := hx_ext q hq15
          have e6 : (⟨#[92, 120]⟩ : ByteArray) ++ ⟨#[hx p]⟩ = ⟨#[92, 120, hx p]⟩ := rfl
          have g6 : (⟨#[92, 120, hx p]⟩ : ByteArray) ++ ⟨#[hx q]⟩ = ⟨#[92, 120, hx p, hx q]⟩ := rfl
          refine wp_region_noPanic ?_
          refine wp_region_held_drew (S := fun _ => True) (by kernel_rfl) (trivial) (fun hH => ?_)
          refine takeD 0 (some 39) (v := ?_) rfl rfl (by kernel_rfl) (by kernel_rfl) (by kernel_rfl) (fun _ _ _ h => h) (Or.inl ⟨by rfl, ?_⟩) hH ?_
          rotate_left
          · intro w hSw; go_simp; try with_reducible rfl
          try simp only [Act.put, List.setIfInBounds_toArray, List.set_cons_zero, List.set_cons_succ]
          refine takeD 1 (some 40) (v := .int .u8 p) rfl rfl (by kernel_rfl) (by kernel_rfl) (by kernel_rfl) (fun _ _ _ h => h) (Or.inl ⟨by rfl, ?_⟩) hH ?_
          · intro w hSw; go_simp; try with_reducible rfl
          try simp only [Act.put, List.setIfInBounds_toArray, List.set_cons_zero, List.set_cons_succ]
          refine takeD 2 (some 41) (v := ?_) rfl rfl (by kernel_rfl) (by kernel_rfl) (by kernel_rfl) (fun _ _ _ h => h) (Or.inl ⟨by rfl, ?_⟩) hH ?_
          rotate_left
          · intro w hSw; go_simp; try with_reducible rfl
          try simp only [Act.put, List.setIfInBounds_toArray, List.set_cons_zero, List.set_cons_succ]
          refine takeD 3 (some 42) (v := .int .u8 p) rfl rfl (by kernel_rfl) (by kernel_rfl) (by kernel_rfl) (fun _ _ _ h => h) (Or.inl ⟨by rfl, ?_⟩) hH ?_
          · intro w hSw; go_simp; try with_reducible rfl
          try simp only [Act.put, List.setIfInBounds_toArray, List.set_cons_zero, List.set_cons_succ]
          refine takeD 4 (some 43) (v := .int .u8 (p + 1)) rfl rfl (by kernel_rfl) (by kernel_rfl) (by kernel_rfl) (fun _ _ _ h => h) (Or.inl ⟨by rfl, ?_⟩) hH ?_
          · intro w hSw; go_simp; try with_reducible rfl
          try simp only [Act.put, List.setIfInBounds_toArray, List.set_cons_zero, List.set_cons_succ]
          refine takeD 5 (some 44) (v := .string ⟨#[hx p]⟩) rfl rfl (by kernel_rfl) (by kernel_rfl) (by kernel_rfl) (fun _ _ _ h => h) (Or.inl ⟨by rfl, ?_⟩) hH ?_
          · intro w hSw; go_simp; rw [if_pos (by omega), if_pos (by omega)]
          try simp only [Act.put, List.setIfInBounds_toArray, List.set_cons_zero, List.set_cons_succ]
          refine takeD 6 (some 45) (v := .string ⟨#[92, 120, hx p]⟩) rfl rfl (by kernel_rfl) (by kernel_rfl) (by kernel_rfl) (fun _ _ _ h => h) (Or.inl ⟨by rfl, ?_⟩) hH ?_
          · intro w hSw; go_simp; try with_reducible rfl
          try simp only [Act.put, List.setIfInBounds_toArray, List.set_cons_zero, List.set_cons_succ]
          refine takeD 7 (some 46) (v := ?_) rfl rfl (by kernel_rfl) (by kernel_rfl) (by kernel_rfl) (fun _ _ _ h => h) (Or.inl ⟨by rfl, ?_⟩) hH ?_
          rotate_left
          · intro w hSw; go_simp; try with_reducible rfl
          try simp only [Act.put, List.setIfInBounds_toArray, List.set_cons_zero, List.set_cons_succ]
          refine takeD 8 (some 47) (v := .int .u8 q) rfl rfl (by kernel_rfl) (by kernel_rfl) (by kernel_rfl) (fun _ _ _ h => h) (Or.inl ⟨by rfl, ?_⟩) hH ?_
          · intro w hSw; go_simp; try with_reducible rfl
          try simp only [Act.put, List.setIfInBounds_toArray, List.set_cons_zero, List.set_cons_succ]
          refine takeD 9 (some 48) (v := ?_) rfl rfl (by kernel_rfl) (by kernel_rfl) (by kernel_rfl) (fun _ _ _ h => h) (Or.inl ⟨by rfl, ?_⟩) hH ?_
          rotate_left
          · intro w hSw; go_simp; try with_reducible rfl
          try simp only [Act.put, List.setIfInBounds_toArray, List.set_cons_zero, List.set_cons_succ]
          refine takeD 10 (some 49) (v := .int .u8 q) rfl rfl (by kernel_rfl) (by kernel_rfl) (by kernel_rfl) (fun _ _ _ h => h) (Or.inl ⟨by rfl, ?_⟩) hH ?_
          · intro w hSw; go_simp; try with_reducible rfl
          try simp only [Act.put, List.setIfInBounds_toArray, List.set_cons_zero, List.set_cons_succ]
          refine takeD 11 (some 50) (v := .int .u8 (q + 1)) rfl rfl (by kernel_rfl) (by kernel_rfl) (by kernel_rfl) (fun _ _ _ h => h) (Or.inl ⟨by rfl, ?_⟩) hH ?_
          · intro w hSw; go_simp; try with_reducible rfl
          try simp only [Act.put, List.setIfInBounds_toArray, List.set_cons_zero, List.set_cons_succ]
          refine takeD 12 (some 51) (v := .string ⟨#[hx q]⟩) rfl rfl (by kernel_rfl) (by kernel_rfl) (by kernel_rfl) (fun _ _ _ h => h) (Or.inl ⟨by rfl, ?_⟩) hH ?_
          · intro w hSw; go_simp; rw [if_pos (by omega), if_pos (by omega)]
          try simp only [Act.put, List.setIfInBounds_toArray, List.set_cons_zero, List.set_cons_succ]
          refine takeD 13 (some 52) (v := .string ⟨#[92, 120, hx p, hx q]⟩) rfl rfl (by kernel_rfl) (by kernel_rfl) (by kernel_rfl) (fun _ _ _ h => h) (Or.inl ⟨by rfl, ?_⟩) hH ?_
          · intro w hSw; go_simp; try with_reducible rfl
          try simp only [Act.put, List.setIfInBounds_toArray, List.set_cons_zero, List.set_cons_succ]
          refine wpAnyH_ready (rs := [14]) (by kernel_rfl) (by simp) ?_
          refine AllReadyH.cons rfl (fun K hK => ?_) AllReadyH.nil
          go_simp
          go_at_call 44; refine (wstr_any hD ⟨#[92, 120, hx p, hx q]⟩ (by simp [ByteArray.size]; omega)).mono ?_; rintro e w' ⟨rfl, hE⟩
          go_wp2_with fail
          refine hK.out _ _ (hH) (fun hH => ?_)
          clear hK K
          try simp only [Act.put, List.setIfInBounds_toArray, List.set_cons_zero, List.set_cons_succ]
          refine wpAnyH_done (by kernel_rfl) ?_ _
          refine NoPanic.normal ?_
          have hrw := HQ.out
          rw [hqb] at hrw
          go_wp2_with fail
          go_roundg (s.size - (k + 1))
          case measure => have := HK.out; omega
          case rel => exact ⟨k + 1, rfl, by omega, by go_num, by rw [hrw]; exact hE⟩
      · have hqb : qB c = [c] := by unfold qB; rw [if_neg c10, if_neg c13, if_neg c9, if_neg c92, if_neg cr]
        go_wp2_with (go_at_call 45; refine (wbyte_any hB c (by omega)).mono ?_; rintro e w' ⟨rfl, hE⟩)
        have hrw := HQ.out
        rw [hqb] at hrw
        go_roundg (s.size - (k + 1))
        case measure => have := HK.out; omega
        case rel => exact ⟨k + 1, rfl, by omega, by go_num, by rw [hrw]; exact hE⟩
    · have hks : k = s.size := by omega
      have hall : s.data.toList.take k = s.data.toList := by rw [hks]; exact List.take_of_length_le (Nat.le_of_eq Array.length_toList)
      rw [hall] at hB
      go_wp2_with (go_at_call 46; refine (bstr_any hB).mono ?_; rintro e w' ⟨rfl, hE⟩)
      go_ret
      exact ⟨rfl, hE⟩
end Go.Proofs.YtjjnjglbmneecaaDoor
