/- The contracts of board.is, exists, Check. No condition. -/
import Derived.Test.YthbbnhhofkadgaaDoorBpc
import Derived.Deep.LoopGhost
namespace Go.Proofs.YthbbnhhofkadgaaDoor
open Go Go.RowKit
set_option maxHeartbeats 400000 in
theorem bis_t (p : Int) (w : World) (h : inP p) : Calls Tryd.prog 49 #[.int .i64 p] w fun e w' => e = .returned (.bool true) ∧ w = w' := by
  obtain ⟨h1, h2⟩ := h
  go_enter Tryd.func49, Tryd.ntmps49
  go_wp2
  go_ret
  exact ⟨rfl, rfl⟩
set_option maxHeartbeats 400000 in
theorem bis_f (p : Int) (w : World) (h : ¬ inP p) : Calls Tryd.prog 49 #[.int .i64 p] w fun e w' => e = .returned (.bool false) ∧ w = w' := by
  have h' : p < 1 ∨ 12 < p := by unfold inP at h; omega
  clear h
  rcases h' with h1 | h1
  · go_enter Tryd.func49, Tryd.ntmps49
    go_wp2
    go_ret
    exact ⟨rfl, rfl⟩
  · have hd : decide (p ≤ 12) = false := by simp; omega
    go_enter Tryd.func49, Tryd.ntmps49
    go_wp2
    go_ret
    exact ⟨rfl, rfl⟩
/-- A number that may not stand on a board. -/
def badN (p : Int) : Bool := decide (p < 0 ∨ 12 < p)
theorem badN_t {p : Int} (h : p < 0 ∨ 12 < p) : badN p = true := by unfold badN; simpa using h
theorem badN_f {p : Int} (h : ¬ (p < 0 ∨ 12 < p)) : badN p = false := by unfold badN; simpa using h
set_option maxHeartbeats 400000 in
theorem chk1_any (p : Int) (w : World) : Calls Tryd.prog 48 #[.int .i64 p] w fun e w' => e = .returned (.bool (badN p)) ∧ w = w' := by
  by_cases h0 : p = 0
  · subst h0
    go_enter Tryd.func48, Tryd.ntmps48
    go_wp2
    go_ret
    exact ⟨rfl, rfl⟩
  · have hd : (p != 0) = true := by rw [bne_iff_ne]; exact h0
    by_cases hp : inP p
    · have HB := Lib.hid (badN_f (p := p) (by unfold inP at hp; omega))
      go_enter Tryd.func48, Tryd.ntmps48
      go_wp2_with (go_at_call 49; refine (bis_t _ _ hp).mono ?_; rintro e w' ⟨rfl, rfl⟩)
      go_ret
      exact ⟨by rw [HB.out]; rfl, rfl⟩
    · have HB := Lib.hid (badN_t (p := p) (by unfold inP at hp; omega))
      go_enter Tryd.func48, Tryd.ntmps48
      go_wp2_with (go_at_call 49; refine (bis_f _ _ hp).mono ?_; rintro e w' ⟨rfl, rfl⟩)
      go_ret
      exact ⟨by rw [HB.out]; rfl, rfl⟩
/-- The first place from k on at which a number may not stand; -1: none. -/
def firstBad (b : List Int) (k : Nat) : Int := match (b.drop k).findIdx? badN with | some i => (k + i : Nat) | none => -1
theorem firstBad_at {b : List Int} {k : Nat} (hk : k < b.length) (h : badN (b.getD k 0) = true) : firstBad b k = k := by
  unfold firstBad
  rw [List.drop_eq_getElem_cons hk]
  have : badN b[k] = true := by rw [List.getD_eq_getElem?_getD, List.getElem?_eq_getElem hk] at h; exact h
  rw [List.findIdx?_cons, this]; simp
theorem firstBad_next {b : List Int} {k : Nat} (hk : k < b.length) (h : badN (b.getD k 0) = false) : firstBad b k = firstBad b (k + 1) := by
  unfold firstBad
  rw [List.drop_eq_getElem_cons hk]
  have : badN b[k] = false := by rw [List.getD_eq_getElem?_getD, List.getElem?_eq_getElem hk] at h; exact h
  rw [List.findIdx?_cons, this]
  simp only [Bool.false_eq_true, if_false]
  cases (b.drop (k + 1)).findIdx? badN with
  | none => rfl
  | some i => simp; omega
theorem firstBad_end {b : List Int} {k : Nat} (hk : b.length ≤ k) : firstBad b k = -1 := by
  unfold firstBad
  rw [List.drop_eq_nil_of_le hk]; rfl
set_option maxRecDepth 100000 in
set_option maxHeartbeats 1000000 in
theorem idxf_any (b : List Int) (hb : b.length = 64) (g : Nat) (t : TypeId) (w : World) (hg : Holds w g .i64 t b) :
    Calls Tryd.prog 75 #[.slice (some ⟨g, 0, none⟩) 64 64, .func (.func 48) #[] #[]] w fun e w' => e = .returned (.int .i64 (firstBad b 0)) ∧ w = w' := by
  go_enter Tryd.func75, Tryd.ntmps75
  go_wp2_with fail
  go_loopg [8] 64 (fun m i wr => ∃ k : Nat, m = 64 - k ∧ k ≤ 64 ∧ i = .int .i64 k ∧ firstBad b 0 = firstBad b k ∧ w = wr)
  case atStart => exact ⟨0, rfl, by omega, rfl, rfl, rfl⟩
  case round =>
    obtain ⟨k, hkm, hk, rfl, hF, rfl⟩ := hrel
    have HK := Lib.hid hkm
    have HF := Lib.hid hF
    clear hkm hF
    by_cases hlt : k < 64
    · have c1 := hg.cell k (by omega)
      have hA := firstBad_at (b := b) (k := k) (by omega)
      have hN := firstBad_next (b := b) (k := k) (by omega)
      generalize b.getD k 0 = p at *
      by_cases hp : badN p = true
      · have HA := Lib.hid (hA hp)
        clear hA hN
        go_wp2_with (go_at_call 48; refine (chk1_any _ _).mono ?_; rintro e w' ⟨rfl, rfl⟩; rw [hp])
        go_ret
        exact ⟨by rw [HF.out, HA.out]; rfl, rfl⟩
      · have hp' : badN p = false := by simpa using hp
        have HA := Lib.hid (hN hp')
        have HP := Lib.hid hp'
        clear hA hN hp hp'
        go_wp2_with (go_at_call 48; refine (chk1_any _ _).mono ?_; rintro e w' ⟨rfl, rfl⟩; rw [HP.out])
        go_roundg (64 - (k + 1))
        case measure => have := HK.out; omega
        case rel => exact ⟨k + 1, rfl, by omega, by go_num, by rw [HF.out, HA.out], rfl⟩
    · have hk64 : k = 64 := by omega
      subst hk64
      have HA := Lib.hid (firstBad_end (b := b) (k := 64) (by omega))
      go_wp2_with fail
      go_ret
      exact ⟨by rw [HF.out, HA.out]; rfl, rfl⟩
def okB (b : List Int) : Prop := ∀ x ∈ b, 0 ≤ x ∧ x ≤ 12
instance (b : List Int) : Decidable (okB b) := by unfold okB; infer_instance
theorem firstBad_ok {b : List Int} (h : okB b) : firstBad b 0 = -1 := by
  unfold firstBad
  have : (b.drop 0).findIdx? badN = none := by
    rw [List.findIdx?_eq_none_iff]
    intro x hx
    have := h x (by simpa using hx)
    exact badN_f (by omega)
  rw [this]
theorem firstBad_bad {b : List Int} (h : ¬ okB b) : 0 ≤ firstBad b 0 := by
  unfold firstBad
  cases hf : (b.drop 0).findIdx? badN with
  | some i => simp
  | none =>
    exfalso
    apply h
    rw [List.findIdx?_eq_none_iff] at hf
    intro x hx
    have := hf x (by simpa using hx)
    unfold badN at this
    simp at this
    omega
def chkB (b : List Int) : Int := if okB b then 0 else 2
theorem chkB_t {b : List Int} (h : okB b) : chkB b = 0 := if_pos h
theorem chkB_f {b : List Int} (h : ¬ okB b) : chkB b = 2 := if_neg h
set_option maxHeartbeats 1000000 in
theorem cf_any (b : List Int) (hb : b.length = 64) (g : Nat) (t : TypeId) (w : World) (hg : Holds w g .i64 t b) :
    Calls Tryd.prog 47 #[.slice (some ⟨g, 0, none⟩) 64 64, .func (.func 48) #[] #[]] w fun e w' => e = .returned (.bool (decide (0 ≤ firstBad b 0))) ∧ w = w' := by
  go_enter Tryd.func47, Tryd.ntmps47
  go_wp2_with (go_at_call 75; refine (idxf_any b hb g t _ hg).mono ?_; rintro e w' ⟨rfl, rfl⟩)
  go_ret
  exact ⟨rfl, rfl⟩
set_option maxRecDepth 100000 in
set_option maxHeartbeats 1000000 in
theorem check_any (b : List Int) (hb : b.length = 64) (w : World) :
    Calls Tryd.prog 17 #[.agg (ints b)] w fun e w' => e = .returned (.int .i64 (chkB b)) ∧ Below w.heap.size w w' := by
  have hg : Holds (w.alloc (.cells (intsK .i64 b) 24)) w.heap.size .i64 24 b := Holds.new w .i64 24 b
  by_cases h : okB b
  · have HC := Lib.hid (chkB_t h)
    have HD : Hid (decide (0 ≤ firstBad b 0) = false) := Lib.hid (by rw [firstBad_ok h]; rfl)
    clear h
    go_enter Tryd.func17, Tryd.ntmps17
    go_wp2_with (go_at_call 47; refine (cf_any b hb _ _ _ hg).mono ?_; rintro e w' ⟨rfl, rfl⟩; rw [HD.out])
    go_ret
    exact ⟨by rw [HC.out]; rfl, (Below.refl _ _).alloc (Nat.le_refl _) _⟩
  · have HC := Lib.hid (chkB_f h)
    have HD : Hid (decide (0 ≤ firstBad b 0) = true) := Lib.hid (by simpa using firstBad_bad h)
    clear h
    go_enter Tryd.func17, Tryd.ntmps17
    go_wp2_with (go_at_call 47; refine (cf_any b hb _ _ _ hg).mono ?_; rintro e w' ⟨rfl, rfl⟩; rw [HD.out])
    go_ret
    exact ⟨by rw [HC.out]; rfl, (Below.refl _ _).alloc (Nat.le_refl _) _⟩
end Go.Proofs.YthbbnhhofkadgaaDoor
