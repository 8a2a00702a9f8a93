/- The contracts of Parse's own function and of slices.IndexFunc over the table of the shapes. -/
import Derived.Test.YtjjnjglbmneecaaDoorSpp
namespace Go.Proofs.YtjjnjglbmneecaaDoor
open Go Go.RowKit
theorem is_any (x wd : List UInt8) (a b c : Value) (B : Nat) (W : World) (hB : Boxed W B 9 (.string ⟨wd.toArray⟩)) :
    Calls Tryd.prog 39 #[.agg #[.string ⟨x.toArray⟩, a, b, c], .pointer (some ⟨B, 0, none⟩)] W fun e w' => e = .returned (.bool (decide (x ≠ [] ∧ x = wd))) ∧ Below W.heap.size W w' := by
  have c0 := hB.cell
  have hlt := hB.lt
  have hne : B ≠ W.heap.size := Nat.ne_of_lt hlt
  by_cases hx : x = []
  · subst hx
    go_enter Tryd.func39, Tryd.ntmps39
    go_wp2_with fail
    go_ret
    exact ⟨ret_bool (by simp), below_al _ _⟩
  · have hx' : x.isEmpty = false := by simpa using hx
    go_enter Tryd.func39, Tryd.ntmps39
    go_wp2_with fail
    go_ret
    have he : (x == wd) = decide (x ≠ [] ∧ x = wd) := by
      by_cases h : x = wd
      · subst h; simp [hx]
      · simp [h]
    exact ⟨ret_bool he, below_al _ _⟩
/-- The index of the row whose word this is. -/
def kixF (wd : List UInt8) : Nat → Nat → Int
  | 0, _ => -1
  | n + 1, k => if wordL k ≠ [] ∧ wordL k = wd then k else kixF wd n (k + 1)
theorem EnvS.cells {w : World} (h : EnvS w) (k : Nat) (hk : k < 10) : ∃ a b c, w.cell? ⟨0, k * 4, none⟩ = some (.string ⟨(wordL k).toArray⟩) ∧ w.cell? ⟨0, k * 4 + 1, none⟩ = some a ∧ w.cell? ⟨0, k * 4 + 2, none⟩ = some b ∧ w.cell? ⟨0, k * 4 + 3, none⟩ = some c := by
  have hk' : k = 0 ∨ k = 1 ∨ k = 2 ∨ k = 3 ∨ k = 4 ∨ k = 5 ∨ k = 6 ∨ k = 7 ∨ k = 8 ∨ k = 9 := by omega
  rcases hk' with rfl | rfl | rfl | rfl | rfl | rfl | rfl | rfl | rfl | rfl <;> exact ⟨_, _, _, h.tab _ _ rfl, h.tab _ _ rfl, h.tab _ _ rfl, h.tab _ _ rfl⟩
set_option maxHeartbeats 2000000 in
theorem kind_any {w : World} (hw : EnvS w) (wd : List UInt8) (B : Nat) (hB : Boxed w B 9 (.string ⟨wd.toArray⟩)) :
    Calls Tryd.prog 38 #[.slice (some ⟨0, 0, none⟩) 10 10, .func (.func 39) #[] #[.pointer (some ⟨B, 0, none⟩)]] w fun e w' => e = .returned (.int .i64 (kixF wd 10 0)) ∧ Below w.heap.size w w' := by
  go_enter Tryd.func38, Tryd.ntmps38
  go_wp2_with fail
  go_loopg [8] 10 (fun mm i wr => ∃ k : Nat, mm = 10 - k ∧ k ≤ 10 ∧ i = .int .i64 k ∧ kixF wd 10 0 = kixF wd (10 - k) k ∧ Below w.heap.size w wr)
  case atStart => exact ⟨0, rfl, by omega, rfl, rfl, Below.refl _ _⟩
  case round =>
    obtain ⟨k, hkm, hk, rfl, hix, hb⟩ := hrel
    have HK := Lib.hid hkm
    have HX := Lib.hid hix
    clear hkm hix
    by_cases hlt : k < 10
    · have hdi : decide ((k : Int) < 10) = true := by simp; omega
      obtain ⟨a, b, c, q0, q1, q2, q3⟩ := (hw.below hb).cells k hlt
      have HX2 := HX.out
      obtain ⟨m, hm⟩ : ∃ m, 10 - k = m + 1 := ⟨10 - k - 1, by omega⟩
      rw [hm, show kixF wd (m + 1) k = if wordL k ≠ [] ∧ wordL k = wd then (k : Int) else kixF wd m (k + 1) from rfl, show m = 10 - (k + 1) by omega] at HX2
      have HY := Lib.hid HX2
      clear HX2
      have HI := Lib.hid (fun a b c => is_any (wordL k) wd a b c B wr ((hb.block B hB.lt).trans hB))
      have HB := Lib.hid hb
      have hsz := hb.size
      clear hm hb
      by_cases hx : wordL k ≠ [] ∧ wordL k = wd
      · have HZ : Hid (kixF wd 10 0 = k) := Lib.hid (by rw [HY.out, if_pos hx])
        rw [decide_eq_true hx] at HI
        generalize wordL k = x at *
        clear hx
        go_wp2_with (go_at_call 39; refine (HI.out _ _ _).mono ?_; rintro e w' ⟨rfl, hE⟩)
        go_ret
        exact ⟨ret_int HZ.out.symm, HB.out.trans (below_le hE hsz)⟩
      · have HZ : Hid (kixF wd 10 0 = kixF wd (10 - (k + 1)) (k + 1)) := Lib.hid (by rw [HY.out, if_neg hx])
        rw [decide_eq_false hx] at HI
        generalize wordL k = x at *
        clear hx
        go_wp2_with (go_at_call 39; refine (HI.out _ _ _).mono ?_; rintro e w' ⟨rfl, hE⟩)
        go_roundg (10 - (k + 1))
        case measure => have := HK.out; omega
        case rel => exact ⟨k + 1, rfl, by omega, by go_num, HZ.out, HB.out.trans (below_le hE hsz)⟩
    · have hkl : k = 10 := by omega
      subst hkl
      go_wp2_with fail
      go_ret
      exact ⟨ret_int (by rw [HX.out]; rfl), hb⟩
end Go.Proofs.YtjjnjglbmneecaaDoor
