/- The contract of script.escape. No condition. -/
import Derived.Test.YtjjnjglbmneecaaDoorSqt
namespace Go.Proofs.YtjjnjglbmneecaaDoor
open Go Go.RowKit
/-- What a hexadecimal digit is worth. -/
def hxV (c : UInt8) : Option Nat := if 48 ≤ c.toNat ∧ c.toNat ≤ 57 then some (c.toNat - 48) else if 97 ≤ c.toNat ∧ c.toNat ≤ 102 then some (c.toNat - 87) else none
theorem hxV_le {c : UInt8} {n : Nat} (h : hxV c = some n) : n ≤ 15 := by
  unfold hxV at h
  split at h
  · have := Option.some.inj h; omega
  · split at h
    · have := Option.some.inj h; omega
    · exact absurd h (by simp)
set_option maxRecDepth 100000 in
theorem hxV_ix : ∀ n : Nat, n < 256 → Lib.indexByte hexL n.toUInt8 = match hxV n.toUInt8 with | some a => (a : Int) | none => -1 := by
  intro n hn
  have : ∀ m : Fin 256, Lib.indexByte hexL m.val.toUInt8 = match hxV m.val.toUInt8 with | some a => (a : Int) | none => -1 := by decide
  exact this ⟨n, hn⟩
/-- What an escape stands for, and how long it is. -/
def escP : List UInt8 → Nat × Nat
  | [] => (0, 0)
  | c :: r => if c.toNat = 110 then (10, 1) else if c.toNat = 114 then (13, 1) else if c.toNat = 116 then (9, 1) else if c.toNat = 92 then (92, 1) else if c.toNat ≠ 120 then (0, 0)
    else match r with
      | h :: l :: _ => match hxV h, hxV l with
        | some a, some b => (16 * a + b, 3)
        | _, _ => (0, 0)
      | _ => (0, 0)
theorem m256 {a b : Nat} (ha : a ≤ 15) (hb : b ≤ 15) : (16 * (a : Int) + (b : Int)) % 256 = ((16 * a + b : Nat) : Int) := by omega
theorem or16 : ∀ a b : Nat, a ≤ 15 → b ≤ 15 → bits BinOp.or IntKind.i64 ((a : Int) * 16) (b : Int) = ((16 * a + b : Nat) : Int) := by
  intro a b ha hb
  have : ∀ m n : Fin 16, bits BinOp.or IntKind.i64 ((m.val : Int) * 16) (n.val : Int) = ((16 * m.val + n.val : Nat) : Int) := by decide
  exact this ⟨a, by omega⟩ ⟨b, by omega⟩
theorem ixh {c : UInt8} {x : Int} (h : Lib.indexByte hexL c = x) (w : World) :
    Calls Tryd.prog 60 #[.string ⟨#[48, 49, 50, 51, 52, 53, 54, 55, 56, 57, 97, 98, 99, 100, 101, 102]⟩, .int .u8 c.toNat] w fun e w' => e = .returned (.int .i64 x) ∧ w = w' :=
  (Tryd.strings_IndexByte _ _ w).mono fun e w' ⟨h1, h2⟩ => ⟨by
    rw [h1, ← h]
    rw [show (c.toNat : Int).toNat = c.toNat from rfl, show c.toNat.toUInt8 = c from UInt8.ofNat_toNat]; rfl, h2.symm⟩
set_option maxRecDepth 100000 in
set_option linter.unusedSimpArgs false in
set_option maxHeartbeats 4000000 in
theorem escape_any (s : ByteArray) (w : World) :
    Calls Tryd.prog 41 #[.string s] w fun e w' => e = .returned (.tuple #[.int .u8 (escP s.data.toList).1, .int .i64 (escP s.data.toList).2]) ∧ ∃ n, w' = w.drewN n := by
  rcases hl : s.data.toList with _ | ⟨c, r⟩
  · have hs : s = ⟨#[]⟩ := ByteArray.ext (Array.toList_inj.1 (by rw [hl]))
    subst hs
    go_enter Tryd.func41, Tryd.ntmps41
    go_wp2_with fail
    go_ret2
    exact ⟨rfl, 0, rfl⟩
  · have hsz : s.size = r.length + 1 := by rw [Lib.size_eq, hl]; rfl
    have hs0 : s.toList.isEmpty = false := by
      rw [Lib.toList_data, hl]; rfl
    have h0 : 0 < s.size := by omega
    have hc : s[0] = c := by
      have : s.data.toList[0]'(by rw [hl]; simp) = c := by simp only [hl]; rfl
      exact this
    by_cases c110 : c.toNat = 110
    · rw [show escP (c :: r) = (10, 1) from by simp [escP, c110]]
      go_enter Tryd.func41, Tryd.ntmps41
      go_wp2_with fail
      go_ret2
      exact ⟨rfl, 0, rfl⟩
    by_cases c114 : c.toNat = 114
    · rw [show escP (c :: r) = (13, 1) from by simp [escP, c110, c114]]
      go_enter Tryd.func41, Tryd.ntmps41
      go_wp2_with fail
      go_ret2
      exact ⟨rfl, 0, rfl⟩
    by_cases c116 : c.toNat = 116
    · rw [show escP (c :: r) = (9, 1) from by simp [escP, c110, c114, c116]]
      go_enter Tryd.func41, Tryd.ntmps41
      go_wp2_with fail
      go_ret2
      exact ⟨rfl, 0, rfl⟩
    by_cases c92 : c.toNat = 92
    · rw [show escP (c :: r) = (92, 1) from by simp [escP, c110, c114, c116, c92]]
      go_enter Tryd.func41, Tryd.ntmps41
      go_wp2_with fail
      go_ret2
      exact ⟨rfl, 0, rfl⟩
    by_cases hx3 : c.toNat = 120 ∧ 3 ≤ s.size
    · obtain ⟨c120, h3⟩ := hx3
      obtain ⟨h, r1, rfl⟩ : ∃ h r1, r = h :: r1 := by rcases r with _ | ⟨h, r1⟩; (· simp at hsz; omega); exact ⟨h, r1, rfl⟩
      obtain ⟨l, r2, rfl⟩ : ∃ l r2, r1 = l :: r2 := by rcases r1 with _ | ⟨l, r2⟩; (· simp at hsz; omega); exact ⟨l, r2, rfl⟩
      have h1s : s[1] = h := by
        have : s.data.toList[1]'(by rw [hl]; simp) = h := by simp only [hl]; rfl
        exact this
      have h2s : s[2] = l := by
        have : s.data.toList[2]'(by rw [hl]; simp) = l := by simp only [hl]; rfl
        exact this
      have g1 : 1 < s.size := by omega
      have g2 : 2 < s.size := by omega
      have k1 := hxV_ix h.toNat h.toNat_lt
      have k2 := hxV_ix l.toNat l.toNat_lt
      rw [show h.toNat.toUInt8 = h from UInt8.ofNat_toNat] at k1
      rw [show l.toNat.toUInt8 = l from UInt8.ofNat_toNat] at k2
      have hE : escP (c :: h :: l :: r2) = match hxV h, hxV l with | some a, some b => (16 * a + b, 3) | _, _ => (0, 0) := by simp only [escP, if_neg c110, if_neg c114, if_neg c116, if_neg c92]; rw [if_neg (by omega)]
      rw [hE]
      clear hE
      rcases ha : hxV h with _ | a
      · rw [ha] at k1
        rcases hb : hxV l with _ | b
        · rw [hb] at k2
          go_enter Tryd.func41, Tryd.ntmps41
          go_wp2_with fail
          go_quiet (first | (go_at_call 60; refine (ixh k1 _).mono ?_; rintro e w' ⟨rfl, rfl⟩; exact ⟨rfl, _, rfl⟩) | (go_at_call 60; refine (ixh k2 _).mono ?_; rintro e w' ⟨rfl, rfl⟩; exact ⟨rfl, _, rfl⟩))
          go_wp2_with fail
          go_ret2
          exact ⟨rfl, _, rfl⟩
        · rw [hb] at k2
          go_enter Tryd.func41, Tryd.ntmps41
          go_wp2_with fail
          go_quiet (first | (go_at_call 60; refine (ixh k1 _).mono ?_; rintro e w' ⟨rfl, rfl⟩; exact ⟨rfl, _, rfl⟩) | (go_at_call 60; refine (ixh k2 _).mono ?_; rintro e w' ⟨rfl, rfl⟩; exact ⟨rfl, _, rfl⟩))
          go_wp2_with fail
          go_ret2
          exact ⟨rfl, _, rfl⟩
      · rw [ha] at k1
        have ha15 := hxV_le ha
        rcases hb : hxV l with _ | b
        · rw [hb] at k2
          go_enter Tryd.func41, Tryd.ntmps41
          go_wp2_with fail
          go_quiet (first | (go_at_call 60; refine (ixh k1 _).mono ?_; rintro e w' ⟨rfl, rfl⟩; exact ⟨rfl, _, rfl⟩) | (go_at_call 60; refine (ixh k2 _).mono ?_; rintro e w' ⟨rfl, rfl⟩; exact ⟨rfl, _, rfl⟩))
          go_wp2_with fail
          go_ret2
          exact ⟨rfl, _, rfl⟩
        · rw [hb] at k2
          have hb15 := hxV_le hb
          have ho := or16 a b ha15 hb15
          dsimp only at k1 k2
          have d1 : decide ((a : Int) < 0) = false := by simp
          have d2 : decide ((b : Int) < 0) = false := by simp
          go_enter Tryd.func41, Tryd.ntmps41
          go_wp2_with fail
          go_quiet (first | (go_at_call 60; refine (ixh k1 _).mono ?_; rintro e w' ⟨rfl, rfl⟩; exact ⟨rfl, _, rfl⟩) | (go_at_call 60; refine (ixh k2 _).mono ?_; rintro e w' ⟨rfl, rfl⟩; exact ⟨rfl, _, rfl⟩))
          go_wp2_with fail
          go_ret2
          refine ⟨?_, _, rfl⟩
          have hm : (16 * (a : Int) + (b : Int)) % 256 = ((16 * a + b : Nat) : Int) := m256 ha15 hb15
          exact hm ▸ rfl
    · rw [show escP (c :: r) = (0, 0) from by
        simp only [escP, if_neg c110, if_neg c114, if_neg c116, if_neg c92]
        split
        · rfl
        · rename_i c120
          have hr : r.length < 2 := by omega
          rcases r with _ | ⟨h, _ | ⟨l, r⟩⟩
          · rfl
          · rfl
          · simp at hr; omega]
      by_cases c120 : c.toNat = 120
      · have h3 : s.size < 3 := by omega
        go_enter Tryd.func41, Tryd.ntmps41
        go_wp2_with fail
        go_ret2
        exact ⟨rfl, 0, rfl⟩
      · go_enter Tryd.func41, Tryd.ntmps41
        go_wp2_with fail
        go_ret2
        exact ⟨rfl, 0, rfl⟩
end Go.Proofs.YtjjnjglbmneecaaDoor
