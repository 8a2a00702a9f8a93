/- The functions of the table of the shapes that decode, and what Parse computes. -/
import Derived.Test.YtjjnjglbmneecaaDoorSix
import Derived.Laws.ResultCell
namespace Go.Proofs.YtjjnjglbmneecaaDoor
open Go Go.RowKit
/-- What is decoded behind the word of kind k. -/
def decP (k : Nat) (l : List UInt8) : Int × List UInt8 := match k with
  | 1 => unO l
  | 2 => (cntN l, [])
  | 3 => unO l
  | 4 => unO l
  | 5 => unO l
  | 8 => (cntN (spL l).1, (spL l).2)
  | _ => (0, [])
def decF (k : Nat) : Nat := [0, 134, 137, 134, 134, 134, 141, 141, 144, 141].getD k 0
theorem dec_any {w : World} (hw : EnvS w) (k : Nat) (hk : 0 < k ∧ k < 10) (s : ByteArray) (hs : s.size ≤ 250000) :
    Calls Tryd.prog (decF k) #[.string s] w fun e w' => e = .returned (opV 0 (decP k s.data.toList).1 ⟨(decP k s.data.toList).2.toArray⟩) ∧ Below w.heap.size w w' := by
  have hk' : k = 1 ∨ k = 2 ∨ k = 3 ∨ k = 4 ∨ k = 5 ∨ k = 6 ∨ k = 7 ∨ k = 8 ∨ k = 9 := by omega
  rcases hk' with rfl | rfl | rfl | rfl | rfl | rfl | rfl | rfl | rfl
  · exact unquoted_any s hs w
  · exact counted_any hw s (by omega)
  · exact unquoted_any s hs w
  · exact unquoted_any s hs w
  · exact unquoted_any s hs w
  · exact none_any s w
  · exact none_any s w
  · exact plans_any hw s (by omega)
  · exact none_any s w
theorem cntN_bd (l : List UInt8) : -9223372036854775808 ≤ cntN l ∧ cntN l ≤ 9223372036854775807 := by
  unfold cntN
  rcases h : atR l with _ | n
  · simp
  · exact atR_bd h
theorem unq_len {l v : List UInt8} (h : unq l = some v) : v.length ≤ l.length := by
  have := (qL_len v).1; rw [unq_some h] at this; exact this
theorem unO_bd (l : List UInt8) : (-1 ≤ (unO l).1 ∧ (unO l).1 ≤ 0) ∧ (unO l).2.length ≤ l.length := by
  unfold unO
  rcases h : unq l with _ | v
  · simp
  · exact ⟨by simp, unq_len h⟩
theorem decP_bd (k : Nat) (l : List UInt8) : (-9223372036854775808 ≤ (decP k l).1 ∧ (decP k l).1 ≤ 9223372036854775807) ∧ (decP k l).2.length ≤ l.length := by
  have h1 := unO_bd l
  have h2 := cntN_bd l
  have h3 := cntN_bd (spL l).1
  have h4 := (spL_le l).2
  unfold decP
  split <;> first | omega | exact ⟨h3, h4⟩ | exact ⟨h2, Nat.zero_le _⟩ | exact ⟨by simp, Nat.zero_le _⟩
/-- What Parse returns. -/
def parO (s : List UInt8) : Option (Int × Int × List UInt8) :=
  let k := kixF (spL s).1 10 0
  if k < 0 then none else
  let d := decP k.toNat (spL s).2
  if chkZ k d.1 d.2 = 0 ∧ prS k d.1 d.2 = s then some (k, d.1, d.2) else none
def parV (s : List UInt8) : Value := match parO s with | some (k, a, v) => opV k a ⟨v.toArray⟩ | none => opV 0 0 ⟨#[]⟩
def parE (s : List UInt8) : Int := match parO s with | some _ => 0 | none => 8
theorem kixF_rng (wd : List UInt8) : kixF wd 10 0 = -1 ∨ ∃ k : Nat, 0 < k ∧ k < 10 ∧ kixF wd 10 0 = k ∧ wordL k = wd := by
  have : ∀ n k, k + n = 10 → kixF wd n k = -1 ∨ ∃ m : Nat, 0 < m ∧ m < 10 ∧ kixF wd n k = m ∧ wordL m = wd := by
    intro n
    induction n with
    | zero => intro k _; exact .inl rfl
    | succ n ih =>
      intro k hk
      unfold kixF
      split
      · rename_i h
        refine .inr ⟨k, ?_, by omega, rfl, h.2⟩
        rcases Nat.eq_zero_or_pos k with rfl | h0
        · exact absurd rfl h.1
        · exact h0
      · exact ih (k + 1) (by omega)
  exact this 10 0 rfl
theorem EnvS.dec {w : World} (h : EnvS w) (k : Nat) (hk : 0 < k ∧ k < 10) : w.cell? ⟨0, k * 4 + 3, none⟩ = some (fnV (decF k)) := by
  refine h.tab _ _ ?_
  obtain ⟨h0, h1⟩ := hk
  have hk' : k = 1 ∨ k = 2 ∨ k = 3 ∨ k = 4 ∨ k = 5 ∨ k = 6 ∨ k = 7 ∨ k = 8 ∨ k = 9 := by omega
  rcases hk' with rfl | rfl | rfl | rfl | rfl | rfl | rfl | rfl | rfl <;> rfl
theorem op_res {tmps : Array Value} {W : World} {g : Nat} {k a e : Int} {v : ByteArray} {fn : Func} {p q : Tmp} (h : fn.results = #[.cell p 24, .tmp q]) (hp : tmps.getD p undef = .pointer (some ⟨g, 0, none⟩)) (hq : tmps.getD q undef = .int .i64 e) (hg : Rw W g 24 (opC k a v)) :
    (results fn tmps).run Tryd.prog W = .ok (.tuple #[opV k a v, .int .i64 e]) W := by
  have hp' : tmps[p]?.getD undef = .pointer (some ⟨g, 0, none⟩) := by simpa using hp
  have hq' : tmps[q]?.getD undef = .int .i64 e := by simpa using hq
  obtain ⟨c0, c1, c2, _⟩ := hg.facts
  unfold opV
  simp [results, h, hp', hq', asAddr, go_sem, c0, c1, c2]
end Go.Proofs.YtjjnjglbmneecaaDoor
