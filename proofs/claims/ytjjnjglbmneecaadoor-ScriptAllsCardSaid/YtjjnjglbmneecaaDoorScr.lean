/- The contract of script.crash. -/
import Derived.Test.YtjjnjglbmneecaaDoorSpb
namespace Go.Proofs.YtjjnjglbmneecaaDoor
open Go Go.RowKit
theorem nums_row {W : World} {B : Nat} {sl : Value} {l : List Int} (h : W.ownsRow B 3 1 sl l.length (Vi l)) (hl : l ≠ []) : ∃ g cap, sl = .slice (some ⟨g, 0, none⟩) l.length cap ∧ B ≤ g ∧ g < W.heap.size ∧ l.length ≤ cap ∧ Nums W g l := by
  rcases h.2 with ⟨_, h0⟩ | ⟨g, cap, cur, rfl, hg, hgg, hc, _⟩
  · exact absurd (List.eq_nil_of_length_eq_zero h0) hl
  · refine ⟨g, cap, rfl, hg, (Array.getElem?_eq_some_iff.1 hgg).1, hc, fun i hi => ?_⟩
    have := h.cells (g := g) rfl i (.int .i64 l[i]) (by unfold Vi; simp [hi])
    have ha : (⟨g, 0, none⟩ : Addr).add i = ⟨g, 0 + i, none⟩ := by unfold Addr.add; split <;> simp_all
    rw [ha, Nat.zero_add] at this
    exact this
theorem numsP_len {p : List (List UInt8)} {l : List Int} (h : numsP p = some l) : l.length = p.length := by
  induction p generalizing l with
  | nil => simp [numsP] at h; subst h; rfl
  | cons q r ih =>
    simp only [numsP] at h
    split at h
    · rename_i n l' hn hl
      have := Option.some.inj h; subst this
      simp [ih hl]
    · exact absurd h (by simp)
theorem planP_len {v : List UInt8} {l : List Int} (h : planP v = some l) : l ≠ [] ∧ l.length ≤ v.length + 1 := by
  have h1 := numsP_len h
  have h2 := splitC_len v
  refine ⟨fun e => ?_, by omega⟩
  rw [e] at h1
  exact splitC_ne v (List.eq_nil_of_length_eq_zero h1.symm)
set_option maxHeartbeats 1000000 in
theorem crash_t {w : World} (hw : EnvS w) (k a : Int) (v : ByteArray) (hv : v.size ≤ 900000) {l : List Int} (hl : planP v.data.toList = some l) :
    Calls Tryd.prog 142 #[opV k a v] w fun e w' => e = .returned (.bool (decide (drvOk a l))) ∧ Below w.heap.size w w' := by
  have hB := Lib.hid (below_al w (.cells (opC k a v) 24))
  have hW := Lib.hid (hw.below hB.out)
  have hpl := planP_len hl
  have hvs := Lib.size_eq v
  have HC : Hid (Calls Tryd.prog 49 #[opV k a v] (w.alloc (.cells (opC k a v) 24)) fun e W' => Below (w.alloc (.cells (opC k a v) 24)).heap.size (w.alloc (.cells (opC k a v) 24)) W' ∧ ∃ g cap, e = .returned (.tuple #[.agg #[.int .i64 a, .slice (some ⟨g, 0, none⟩) l.length cap], .bool true]) ∧ g < W'.heap.size ∧ l.length ≤ cap ∧ Nums W' g l) := Lib.hid (
    (plan_any hW.out k a v (by omega)).mono fun e W' ⟨h1, h2⟩ => ⟨h1, by
      rcases h2 with ⟨l', sl, h3, h4, h5⟩ | ⟨h3, _⟩
      · rw [hl] at h3
        obtain rfl := Option.some.inj h3
        obtain ⟨g, cap, rfl, _, hg, hc, hN⟩ := nums_row h5 hpl.1
        exact ⟨g, cap, h4, hg, hc, hN⟩
      · rw [hl] at h3; exact absurd h3 (by simp)⟩)
  have hll : l.length ≤ 1000000 := by omega
  clear hpl hvs
  unfold opV at HC ⊢
  obtain ⟨z, hz⟩ : ∃ z : Int, (if drvOk a l then 0 else 2) = z := ⟨_, rfl⟩
  have HZ : Hid ((z == 0) = decide (drvOk a l)) := Lib.hid (by rw [← hz]; by_cases h : drvOk a l <;> simp [h])
  go_enter Tryd.func142, Tryd.ntmps142
  go_wp2_with (first
    | (go_at_call 49; refine HC.out.mono ?_; rintro e w1 ⟨hE, g, cap, rfl, hg, hc, hN⟩; have HE := Lib.hid (hB.out.trans (below_le hE (by simp))); have HX := Lib.hid (dcheck_any a l g cap (w1.alloc (.cells #[.int .i64 a, .slice (some ⟨g, 0, none⟩) l.length cap] 50)) hll (hN.below (below_al _ _) hg) (by simp; omega)); rw [hz] at HX; clear hE hN hc hg)
    | (go_at_call 26; refine HX.out.mono ?_; rintro e w2 ⟨rfl, hE2⟩; have HE2 := Lib.hid hE2; clear hE2))
  go_ret
  exact ⟨ret_bool HZ.out, (HE.out.alloc HE.out.size _).trans (below_le HE2.out (by have := HE.out.size; simp; omega))⟩
set_option maxHeartbeats 1000000 in
theorem crash_f {w : World} (hw : EnvS w) (k a : Int) (v : ByteArray) (hv : v.size ≤ 900000) (hl : planP v.data.toList = none) :
    Calls Tryd.prog 142 #[opV k a v] w fun e w' => e = .returned (.bool false) ∧ Below w.heap.size w w' := by
  have hB := Lib.hid (below_al w (.cells (opC k a v) 24))
  have hW := Lib.hid (hw.below hB.out)
  have HC : Hid (Calls Tryd.prog 49 #[opV k a v] (w.alloc (.cells (opC k a v) 24)) fun e W' => Below (w.alloc (.cells (opC k a v) 24)).heap.size (w.alloc (.cells (opC k a v) 24)) W' ∧ e = .returned (.tuple #[.agg #[.int .i64 0, .slice none 0 0], .bool false])) := Lib.hid (
    (plan_any hW.out k a v (by omega)).mono fun e W' ⟨h1, h2⟩ => ⟨h1, by
      rcases h2 with ⟨l', sl, h3, _⟩ | ⟨_, h4⟩
      · rw [hl] at h3; exact absurd h3 (by simp)
      · exact h4⟩)
  unfold opV at HC ⊢
  go_enter Tryd.func142, Tryd.ntmps142
  go_wp2_with (go_at_call 49; refine HC.out.mono ?_; rintro e w1 ⟨hE, rfl⟩; have HE := Lib.hid (hB.out.trans (below_le hE (by simp))); clear hE)
  go_ret
  exact ⟨rfl, HE.out.alloc HE.out.size _⟩
def crashB (a : Int) (v : List UInt8) : Bool := match planP v with | some l => decide (drvOk a l) | none => false
theorem crash_any {w : World} (hw : EnvS w) (k a : Int) (v : ByteArray) (hv : v.size ≤ 900000) :
    Calls Tryd.prog 142 #[opV k a v] w fun e w' => e = .returned (.bool (crashB a v.data.toList)) ∧ Below w.heap.size w w' := by
  unfold crashB
  rcases h : planP v.data.toList with _ | l
  · exact crash_f hw k a v hv h
  · exact crash_t hw k a v hv h
end Go.Proofs.YtjjnjglbmneecaaDoor
