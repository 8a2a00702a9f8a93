/- The contract of temporef44.Same. -/
import Derived.Test.YtjjnjglbmneecaaDoorSpq
namespace Go.Proofs.YtjjnjglbmneecaaDoor
open Go Go.RowKit
/-- A slice of operations in a world. -/
def IsOps (w : World) (v : Value) (l : List Opx) : Prop := (v = .slice none 0 0 ∧ l = []) ∨ ∃ g cap, v = .slice (some ⟨g, 0, none⟩) l.length cap ∧ g < w.heap.size ∧ l.length ≤ cap ∧ OpsAt w g l
theorem IsOps.below {w w' : World} {v : Value} {l : List Opx} (h : IsOps w v l) (hb : Below w.heap.size w w') : IsOps w' v l := by
  rcases h with h | ⟨g, cap, h1, h2, h3, h4⟩
  · exact .inl h
  · exact .inr ⟨g, cap, h1, Nat.lt_of_lt_of_le h2 hb.size, h3, h4.below hb h2⟩
theorem Opsl.isOps {w0 w : World} {v : Value} {l : List Opx} (h : Opsl w0 w v l) : IsOps w v l := by
  rcases h.row with h | ⟨g, cap, h1, _, h2, h3, h4⟩
  · exact .inl h
  · exact .inr ⟨g, cap, h1, h2, h3, h4⟩
theorem IsOps.sl {w : World} {v : Value} {l : List Opx} (h : IsOps w v l) : ∃ ao cap, v = .slice ao l.length cap := by
  rcases h with ⟨h1, h2⟩ | ⟨g, cap, h1, _⟩
  · exact ⟨none, 0, by rw [h1, h2]; rfl⟩
  · exact ⟨_, _, h1⟩
theorem same_len (l m : List Opx) (ao bo : Option Addr) (c d : Nat) (w : World) (h : l.length ≠ m.length) :
    Calls Tryd.prog 36 #[.slice ao l.length c, .slice bo m.length d] w fun e w' => e = .returned (.bool false) ∧ Below w.heap.size w w' := by
  have hd : ((l.length : Int) == (m.length : Int)) = false := by simp; omega
  go_enter Tryd.func36, Tryd.ntmps36
  go_wp2_with fail
  go_ret
  exact ⟨rfl, Below.refl _ _⟩
theorem same_0 (ao bo : Option Addr) (c d : Nat) (w : World) :
    Calls Tryd.prog 36 #[.slice ao 0 c, .slice bo 0 d] w fun e w' => e = .returned (.bool true) ∧ Below w.heap.size w w' := by
  go_enter Tryd.func36, Tryd.ntmps36
  go_wp2_with fail
  go_loopg [5] 1 (fun mm i wr => mm = 1 ∧ i = .int .i64 0 ∧ wr = w)
  case atStart => exact ⟨rfl, rfl, rfl⟩
  case round =>
    obtain ⟨rfl, rfl, rfl⟩ := hrel
    go_wp2_with fail
    go_ret
    exact ⟨rfl, Below.refl _ _⟩
set_option maxHeartbeats 1000000 in
theorem same_rows (l m : List Opx) (g h c d : Nat) (w : World) (hn : l.length = m.length) (hl : l.length ≤ 1000000) (hg : g < w.heap.size) (hh : h < w.heap.size) (h1 : OpsAt w g l) (h2 : OpsAt w h m) :
    Calls Tryd.prog 36 #[.slice (some ⟨g, 0, none⟩) l.length c, .slice (some ⟨h, 0, none⟩) l.length d] w fun e w' => e = .returned (.bool (decide (l = m))) ∧ Below w.heap.size w w' := by
  have H1 := Lib.hid h1
  have H2 := Lib.hid h2
  have HN := Lib.hid hn
  obtain ⟨z, hz⟩ : ∃ z, decide (l = m) = z := ⟨_, rfl⟩
  rw [hz]
  have HZ := Lib.hid hz
  clear h1 h2 hn hz
  go_enter Tryd.func36, Tryd.ntmps36
  go_wp2_with fail
  go_loopg [5] l.length (fun mm i wr => ∃ k : Nat, mm = l.length - k ∧ k ≤ l.length ∧ i = .int .i64 k ∧ l.take k = m.take k ∧ Below w.heap.size w wr)
  case atStart => exact ⟨0, rfl, by omega, rfl, rfl, Below.refl _ _⟩
  case round =>
    obtain ⟨k, hkm, hk, rfl, hix, hb⟩ := hrel
    have HK := Lib.hid hkm
    have HI := Lib.hid hix
    have HB := Lib.hid hb
    clear hkm hix
    by_cases hlt : k < l.length
    · have hdi : decide ((k : Int) < (l.length : Int)) = true := by simp; omega
      obtain ⟨a0, a1, a2⟩ := (H1.out.below hb hg) k hlt
      obtain ⟨b0, b1, b2⟩ := (H2.out.below hb hh) k (by have := HN.out; omega)
      have HX : Hid (l.take (k + 1) = l.take k ++ [l[k]]) := Lib.hid (List.take_succ_eq_append_getElem hlt)
      have HY : Hid (m.take (k + 1) = m.take k ++ [m[k]'(by have := HN.out; omega)]) := Lib.hid (List.take_succ_eq_append_getElem _)
      clear hb
      generalize l[k] = x at a0 a1 a2 HX
      generalize m[k] = y at b0 b1 b2 HY
      obtain ⟨xk, xa, xv⟩ := x
      obtain ⟨yk, ya, yv⟩ := y
      dsimp only at a0 a1 a2 b0 b1 b2
      have HFF : Hid ((xk, xa, xv) ≠ (yk, ya, yv) → z = false) := Lib.hid (fun hne => by
        rw [← HZ.out, decide_eq_false_iff_not]
        intro e
        have hY := HY.out
        rw [← e, HX.out] at hY
        exact hne (by simpa using hY))
      by_cases hxk : xk = yk
      · subst hxk
        by_cases hxa : xa = ya
        · subst hxa
          by_cases hxv : xv = yv
          · subst hxv
            go_wp2_with fail
            go_region
            go_wp2_with fail
            go_roundg (l.length - (k + 1))
            case measure => have := HK.out; omega
            case rel => exact ⟨k + 1, rfl, by omega, by go_num, by rw [HX.out, HY.out, HI.out], HB.out.trans ⟨rfl, rfl, rfl, Nat.le_refl _, fun _ _ => rfl⟩⟩
          · have HF : Hid (z = false) := Lib.hid (HFF.out (by simp [hxv]))
            clear HX HY
            go_wp2_with fail
            go_region
            go_wp2_with fail
            go_ret
            exact ⟨ret_bool HF.out.symm, HB.out.trans ⟨rfl, rfl, rfl, Nat.le_refl _, fun _ _ => rfl⟩⟩
        · have HF : Hid (z = false) := Lib.hid (HFF.out (by simp [hxa]))
          clear HX HY
          go_wp2_with fail
          go_region
          go_wp2_with fail
          go_ret
          exact ⟨ret_bool HF.out.symm, HB.out.trans ⟨rfl, rfl, rfl, Nat.le_refl _, fun _ _ => rfl⟩⟩
      · have HF : Hid (z = false) := Lib.hid (HFF.out (by simp [hxk]))
        clear HX HY
        go_wp2_with fail
        go_region
        go_wp2_with fail
        go_ret
        exact ⟨ret_bool HF.out.symm, HB.out.trans ⟨rfl, rfl, rfl, Nat.le_refl _, fun _ _ => rfl⟩⟩
    · have hkl : k = l.length := by omega
      subst hkl
      have HT : Hid (z = true) := Lib.hid (by
        have := HI.out; rw [List.take_length, HN.out, List.take_length] at this
        rw [← HZ.out]; simpa using this)
      go_wp2_with fail
      go_ret
      exact ⟨ret_bool HT.out.symm, hb⟩
theorem same_any {w : World} (l m : List Opx) (v u : Value) (hl : l.length ≤ 1000000) (h1 : IsOps w v l) (h2 : IsOps w u m) :
    Calls Tryd.prog 36 #[v, u] w fun e w' => e = .returned (.bool (decide (l = m))) ∧ Below w.heap.size w w' := by
  by_cases hn : l.length = m.length
  · by_cases h0 : l = []
    · subst h0
      have hm : m = [] := List.eq_nil_of_length_eq_zero hn.symm
      subst hm
      obtain ⟨ao, c, rfl⟩ := h1.sl
      obtain ⟨bo, d, rfl⟩ := h2.sl
      exact same_0 ao bo c d w
    · rcases h1 with ⟨_, h⟩ | ⟨g, c, rfl, hg, _, h3⟩
      · exact absurd h h0
      · rcases h2 with ⟨_, h⟩ | ⟨h, d, rfl, hh, _, h4⟩
        · rw [h] at hn; exact absurd (List.eq_nil_of_length_eq_zero hn) h0
        · rw [← hn]; exact same_rows l m g h c d w hn hl hg hh h3 h4
  · obtain ⟨ao, c, rfl⟩ := h1.sl
    obtain ⟨bo, d, rfl⟩ := h2.sl
    rw [show decide (l = m) = false from decide_eq_false (fun e => hn (by rw [e]))]
    exact same_len l m ao bo c d w hn
end Go.Proofs.YtjjnjglbmneecaaDoor
