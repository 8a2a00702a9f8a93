/- The contract of the law's method Numbers.Op, at every kind; its operations are valid. -/
import Derived.Test.YtjjnjglbmneecaaDoorSn8
namespace Go.Proofs.YtjjnjglbmneecaaDoor
open Go Go.RowKit
theorem opP_1 {k a : Nat} {l : List UInt8} (h : k % 9 = 0) : opP k a l = ((1, 0, l) : Opx) := by unfold opP; rw [h]; rfl
theorem opP_2 {k a : Nat} {l : List UInt8} (h : k % 9 = 1) : opP k a l = ((2, ((a % 1000001 : Nat) : Int), []) : Opx) := by unfold opP; rw [h]; rfl
theorem opP_3 {k a : Nat} {l : List UInt8} (h : k % 9 = 2) : opP k a l = ((3, 0, l.take 200) : Opx) := by unfold opP; rw [h]; rfl
theorem opP_4 {k a : Nat} {l : List UInt8} (h : k % 9 = 3) : opP k a l = ((4, 0, l.take 200) : Opx) := by unfold opP; rw [h]; rfl
theorem opP_5 {k a : Nat} {l : List UInt8} (h : k % 9 = 4) : opP k a l = ((5, 0, l.take 200) : Opx) := by unfold opP; rw [h]; rfl
theorem opP_6 {k a : Nat} {l : List UInt8} (h : k % 9 = 5) : opP k a l = ((6, 0, []) : Opx) := by unfold opP; rw [h]; rfl
theorem opP_7 {k a : Nat} {l : List UInt8} (h : k % 9 = 6) : opP k a l = ((7, 0, []) : Opx) := by unfold opP; rw [h]; rfl
theorem opP_8 {k a : Nat} {l : List UInt8} (h : k % 9 = 7) : opP k a l = ((8, ((a % 1000001 : Nat) : Int), 48 :: comL (l.take 63)) : Opx) := by unfold opP; rw [h]; rfl
theorem opP_9 {k a : Nat} {l : List UInt8} (h : k % 9 = 8) : opP k a l = ((9, 0, []) : Opx) := by unfold opP; rw [h]; rfl
theorem nop_any (k a : Nat) (hk2 : k ≤ 255) (ha : a ≤ 4294967295) (l : List UInt8) (v : Value) (w : World) (hv : ByS w v l) :
    Calls Tryd.prog 19 #[nmV k a v] w fun e w' => e = .returned (opx (opP k a l)) ∧ Below w.heap.size w w' := by
  have hk : k % 9 = 0 ∨ k % 9 = 1 ∨ k % 9 = 2 ∨ k % 9 = 3 ∨ k % 9 = 4 ∨ k % 9 = 5 ∨ k % 9 = 6 ∨ k % 9 = 7 ∨ k % 9 = 8 := by omega
  have hl : l.length ≤ 200 ∨ 200 < l.length := by omega
  rcases hk with h | h | h | h | h | h | h | h | h
  · rw [opP_1 h]; exact nop_1 k a h hk2 l v w hv
  · rw [opP_2 h]; exact nop_2 k a h hk2 ha l v w hv
  · rw [opP_3 h]; exact hl.elim (nop_3a k a h hk2 l v w hv) (nop_3b k a h hk2 l v w hv)
  · rw [opP_4 h]; exact hl.elim (nop_4a k a h hk2 l v w hv) (nop_4b k a h hk2 l v w hv)
  · rw [opP_5 h]; exact hl.elim (nop_5a k a h hk2 l v w hv) (nop_5b k a h hk2 l v w hv)
  · rw [opP_6 h]; exact nop_6 k a h hk2 l v w hv
  · rw [opP_7 h]; exact nop_7 k a h hk2 l v w hv
  · rw [opP_8 h]; exact nop_8 k a h hk2 ha l v w hv
  · rw [opP_9 h]; exact nop_9 k a h hk2 l v w hv
theorem itoa_no44 (n : Nat) : (44 : UInt8) ∉ Lib.itoa (n : Int) := itoa_free n (by unfold digB; decide)
theorem split_com (m : List UInt8) (p : List UInt8) (hp : (44 : UInt8) ∉ p) : splitC (p ++ comL m) = p :: m.map fun c => Lib.itoa ((c.toNat % 129 : Nat) : Int) := by
  induction m generalizing p with
  | nil => rw [comL, List.append_nil, splitC_free hp]; rfl
  | cons c r ih => rw [comL, splitC_hit hp, ih _ (itoa_no44 _)]; rfl
theorem nums_com (m : List UInt8) : numsP (m.map fun c => Lib.itoa ((c.toNat % 129 : Nat) : Int)) = some (m.map fun c => ((c.toNat % 129 : Nat) : Int)) := by
  induction m with
  | nil => rfl
  | cons c r ih => simp only [List.map_cons, numsP, numP_itoa (c.toNat % 129) (by omega), ih]
theorem plan_com (m : List UInt8) : planP (48 :: comL m) = some (0 :: m.map fun c => ((c.toNat % 129 : Nat) : Int)) := by
  unfold planP
  rw [show (48 :: comL m : List UInt8) = [48] ++ comL m from rfl, split_com m [48] (by decide), numsP, nums_com m, show numP [48] = some 0 by decide +kernel]
theorem opP_ok (k a : Nat) (l : List UInt8) (hl : l.length ≤ 40000) : zx (opP k a l) = 0 := by
  have hk : k % 9 = 0 ∨ k % 9 = 1 ∨ k % 9 = 2 ∨ k % 9 = 3 ∨ k % 9 = 4 ∨ k % 9 = 5 ∨ k % 9 = 6 ∨ k % 9 = 7 ∨ k % 9 = 8 := by omega
  have ht : (l.take 200).length ≤ 200 := List.length_take_le _ _
  unfold zx
  rcases hk with h | h | h | h | h | h | h | h | h
  · rw [opP_1 h]; dsimp only; exact chk_iff.2 ⟨by decide, by decide, decide_eq_true ⟨rfl, hl⟩⟩
  · rw [opP_2 h]; dsimp only; exact chk_iff.2 ⟨by decide, by decide, decide_eq_true ⟨by omega, by omega, rfl⟩⟩
  · rw [opP_3 h]; dsimp only; exact chk_iff.2 ⟨by decide, by decide, decide_eq_true ⟨rfl, ht⟩⟩
  · rw [opP_4 h]; dsimp only; exact chk_iff.2 ⟨by decide, by decide, decide_eq_true ⟨rfl, ht⟩⟩
  · rw [opP_5 h]; dsimp only; exact chk_iff.2 ⟨by decide, by decide, decide_eq_true ⟨rfl, ht⟩⟩
  · rw [opP_6 h]; dsimp only; exact chk_iff.2 ⟨by decide, by decide, by decide⟩
  · rw [opP_7 h]; dsimp only; exact chk_iff.2 ⟨by decide, by decide, by decide⟩
  · rw [opP_8 h]
    dsimp only
    refine chk_iff.2 ⟨by decide, by decide, ?_⟩
    show crashB _ (48 :: comL (l.take 63)) = true
    unfold crashB
    rw [plan_com]
    refine decide_eq_true ⟨by omega, by omega, by simp, ?_, fun x hx => ?_⟩
    · have := List.length_take_le 63 l; simp; omega
    · rcases List.mem_cons.1 hx with rfl | hx
      · decide
      · obtain ⟨c, _, rfl⟩ := List.mem_map.1 hx; omega
  · rw [opP_9 h]; dsimp only; exact chk_iff.2 ⟨by decide, by decide, by decide⟩
theorem opP_fine (k a : Nat) (l : List UInt8) (hl : l.length ≤ 40000) : Fine (opP k a l) ∧ (opP k a l).2.2.length ≤ max l.length 1500 := by
  have hk : k % 9 = 0 ∨ k % 9 = 1 ∨ k % 9 = 2 ∨ k % 9 = 3 ∨ k % 9 = 4 ∨ k % 9 = 5 ∨ k % 9 = 6 ∨ k % 9 = 7 ∨ k % 9 = 8 := by omega
  have ht : (l.take 200).length ≤ 200 := List.length_take_le _ _
  unfold Fine
  rcases hk with h | h | h | h | h | h | h | h | h
  · rw [opP_1 h]; dsimp only; omega
  · rw [opP_2 h]; simp; omega
  · rw [opP_3 h]; dsimp only; omega
  · rw [opP_4 h]; dsimp only; omega
  · rw [opP_5 h]; dsimp only; omega
  · rw [opP_6 h]; simp
  · rw [opP_7 h]; simp
  · rw [opP_8 h]
    have h1 := List.length_take_le 63 l
    have h2 := comL_len (l.take 63)
    simp only [List.length_cons]; omega
  · rw [opP_9 h]; simp
end Go.Proofs.YtjjnjglbmneecaaDoor
