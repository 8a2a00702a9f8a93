/- The contracts of unquoted, plans and planned. -/
import Derived.Test.YtjjnjglbmneecaaDoorSdc
import Derived.Lib.CutLaws
namespace Go.Proofs.YtjjnjglbmneecaaDoor
open Go Go.RowKit
theorem EnvS.drew {w : World} (h : EnvS w) : EnvS w.drew := h.below (Below.refl _ _).drew
def unO (l : List UInt8) : Int × List UInt8 := match unq l with | some v => (0, v) | none => (-1, [])
set_option maxHeartbeats 1000000 in
theorem unquoted_any (s : ByteArray) (hs : s.size ≤ 250000) (w : World) : Calls Tryd.prog 134 #[.string s] w fun e w' => e = .returned (opV 0 (unO s.data.toList).1 ⟨(unO s.data.toList).2.toArray⟩) ∧ Below w.heap.size w w' := by
  have hR := Lib.hid (Rw.new w 24 (opC 0 0 ⟨#[]⟩))
  have hB := Lib.hid (below_al w (.cells (opC 0 0 ⟨#[]⟩) 24))
  have hlt : w.heap.size < (w.alloc (.cells (opC 0 0 ⟨#[]⟩) 24)).heap.size := by simp
  unfold unO
  have HC := Lib.hid (fun W : World => unquote_any s hs W)
  unfold unqR at HC
  rcases hn : unq s.data.toList with _ | v
  · rw [hn] at HC
    go_enter Tryd.func134, Tryd.ntmps134
    go_wp2_with (go_at_call 15; refine (HC.out _).mono ?_; rintro e w' ⟨rfl, hE⟩; have hR2 := hR.out.below hE hlt; have hB2 := hB.out.trans (below_le hE (Nat.le_of_lt hlt)); clear hE; obtain ⟨c0, c1, c2, f0, f1, f2⟩ := hR2.facts)
    refine bodyPost_ret (ret_op rfl rfl hR2.set3) rfl ?_
    exact ⟨rfl, below_set3 hB2 (Nat.le_refl _) _ _ _⟩
  · rw [hn] at HC
    go_enter Tryd.func134, Tryd.ntmps134
    go_wp2_with (go_at_call 15; refine (HC.out _).mono ?_; rintro e w' ⟨rfl, hE⟩; have hR2 := hR.out.below hE hlt; have hB2 := hB.out.trans (below_le hE (Nat.le_of_lt hlt)); clear hE; obtain ⟨c0, c1, c2, f0, f1, f2⟩ := hR2.facts)
    refine bodyPost_ret (ret_op rfl rfl hR2.set3) rfl ?_
    exact ⟨rfl, below_set3 hB2 (Nat.le_refl _) _ _ _⟩
def spL (l : List UInt8) : List UInt8 × List UInt8 := ((Lib.cut l [32]).1, (Lib.cut l [32]).2.1)
theorem spL_le (l : List UInt8) : (spL l).1.length ≤ l.length ∧ (spL l).2.length ≤ l.length := by
  unfold spL Lib.cut
  split <;> simp [Nat.min_le_right]
theorem cut_any {w : World} (hw : EnvS w) (s : ByteArray) (hs : s.size ≤ 1000000) : Calls Tryd.prog 37 #[.string s, .string ⟨#[32]⟩] w fun e w' => (∃ b, e = .returned (.tuple #[.string ⟨(spL s.data.toList).1.toArray⟩, .string ⟨(spL s.data.toList).2.toArray⟩, .bool b])) ∧ Below w.heap.size w w' ∧ w'.heap.size = w.heap.size := by
  obtain ⟨m, hm⟩ := hw.maxlen
  exact (Tryd.strings_Cut s ⟨#[32]⟩ m w (by omega) hm).mono fun e w' ⟨a, n, b⟩ => ⟨⟨_, a⟩, by rw [b]; exact below_dn _ _, by rw [b]; rfl⟩
set_option maxHeartbeats 2000000 in
theorem plans_any {w : World} (hw : EnvS w) (s : ByteArray) (hs : s.size ≤ 1000000) : Calls Tryd.prog 144 #[.string s] w fun e w' => e = .returned (opV 0 (cntN (spL s.data.toList).1) ⟨(spL s.data.toList).2.toArray⟩) ∧ Below w.heap.size w w' := by
  have hR := Lib.hid (Rw.new w 24 (opC 0 0 ⟨#[]⟩))
  have hW := Lib.hid (hw.below (below_al w (.cells (opC 0 0 ⟨#[]⟩) 24)))
  have hB := Lib.hid (below_al w (.cells (opC 0 0 ⟨#[]⟩) 24))
  have hlt : w.heap.size < (w.alloc (.cells (opC 0 0 ⟨#[]⟩) 24)).heap.size := by simp
  have HC := Lib.hid (cut_any hW.out s hs)
  have hl : (spL s.data.toList).1.length ≤ 1000000 := by have := spL_le s.data.toList; have := Lib.size_eq s; omega
  generalize spL s.data.toList = pr at *
  obtain ⟨l1, l2⟩ := pr
  go_enter Tryd.func144, Tryd.ntmps144
  go_wp2_with (first
    | (go_at_call 37; refine HC.out.mono ?_; rintro e w1 ⟨⟨b, rfl⟩, hE1, hz1⟩; have hR1 := Lib.hid (hR.out.below hE1 hlt); have hW1 := Lib.hid (hW.out.below hE1); have hB1 := Lib.hid (hB.out.trans (below_le hE1 (Nat.le_of_lt hlt))); have hlt1 : w.heap.size < w1.heap.size := by rw [hz1]; exact hlt
       clear hE1)
    | (go_at_call 137; refine (counted_any hW1.out ⟨l1.toArray⟩ (by simpa [ByteArray.size] using hl)).mono ?_; rintro e w2 ⟨rfl, hE2⟩; unfold opV; have hR2 := Lib.hid (hR1.out.below hE2 hlt1); have hB2 := Lib.hid (hB1.out.trans (below_le hE2 (Nat.le_of_lt hlt1))); have hlt2 : w.heap.size < w2.heap.size := Nat.lt_of_lt_of_le hlt1 hE2.size
       have hne : w.heap.size ≠ w2.heap.size := Nat.ne_of_lt hlt2
       obtain ⟨c0, c1, c2, f0, f1, f2⟩ := hR2.out.facts
       clear hE2))
  refine bodyPost_ret (ret_op rfl rfl (hR2.out.set3.alloc _)) rfl ?_
  exact ⟨rfl, (below_set3 hB2.out (Nat.le_refl _) _ _ _).alloc (by simp; omega) _⟩
set_option linter.unusedSimpArgs false in
set_option maxRecDepth 100000 in
set_option maxHeartbeats 4000000 in
theorem planned_any {w : World} (hw : EnvS w) (k a : Int) (v : ByteArray) (hv : v.size ≤ 1000000) (h0 : -9223372036854775808 ≤ a) (h1 : a ≤ 9223372036854775807) :
    Calls Tryd.prog 143 #[opV k a v] w fun e w' => e = .returned (.string ⟨(32 :: Lib.itoa a ++ 32 :: v.data.toList).toArray⟩) ∧ Below w.heap.size w w' := by
  have hl := Lib.itoa_length_le a h0 h1
  have hR := Rw.new w 24 (opC k a v)
  have hW := hw.below (below_al w (.cells (opC k a v) 24))
  have hB := below_al w (.cells (opC k a v) 24)
  unfold opV
  go_enter Tryd.func143, Tryd.ntmps143
  go_wp2_with fail
  have hS : EnvS (w.alloc (Obj.cells (opC k a v) 24)).drew ∧ Rw (w.alloc (Obj.cells (opC k a v) 24)).drew w.heap.size 24 (opC k a v) ∧ Below w.heap.size w (w.alloc (Obj.cells (opC k a v) 24)).drew := ⟨hW.drew, hR, hB.drew⟩
  clear hW hR hB
  refine wp_region_noPanic ?_
  refine wp_region_held_drew (S := fun w' => EnvS w' ∧ Rw w' w.heap.size 24 (opC k a v) ∧ Below w.heap.size w w') (by kernel_rfl) (hS) (fun hH => ?_)
  refine takeD 0 (some 3) (v := ?_) rfl rfl (by kernel_rfl) (by kernel_rfl) (by kernel_rfl) (fun _ _ _ h => h) (Or.inl ⟨by rfl, ?_⟩) hH ?_
  rotate_left
  · intro w hSw; go_simp; try with_reducible rfl
  try simp only [Act.put, List.setIfInBounds_toArray, List.set_cons_zero, List.set_cons_succ]
  refine takeD 1 (some 4) (v := ?_) rfl rfl (by kernel_rfl) (by kernel_rfl) (by kernel_rfl) (fun _ _ _ h => h) (Or.inl ⟨by rfl, ?_⟩) hH ?_
  rotate_left
  · intro w hSw; obtain ⟨c0, c1, c2, f0, f1, f2⟩ := hSw.2.1.facts; go_simp; try with_reducible rfl
  try simp only [Act.put, List.setIfInBounds_toArray, List.set_cons_zero, List.set_cons_succ]
  refine takeD 5 (some 8) (v := ?_) rfl rfl (by kernel_rfl) (by kernel_rfl) (by kernel_rfl) (fun _ _ _ h => h) (Or.inl ⟨by rfl, ?_⟩) hH ?_
  rotate_left
  · intro w hSw; go_simp; try with_reducible rfl
  try simp only [Act.put, List.setIfInBounds_toArray, List.set_cons_zero, List.set_cons_succ]
  refine takeD 6 (some 9) (v := ?_) rfl rfl (by kernel_rfl) (by kernel_rfl) (by kernel_rfl) (fun _ _ _ h => h) (Or.inl ⟨by rfl, ?_⟩) hH ?_
  rotate_left
  · intro w hSw; obtain ⟨c0, c1, c2, f0, f1, f2⟩ := hSw.2.1.facts; go_simp; try with_reducible rfl
  try simp only [Act.put, List.setIfInBounds_toArray, List.set_cons_zero, List.set_cons_succ]
  refine wpAnyH_ready (rs := [2]) (by kernel_rfl) (by simp) ?_
  refine AllReadyH.cons rfl (fun K hK => ?_) AllReadyH.nil
  go_simp
  go_at_call 67; refine (itoa_any hH.1 a h0 h1).mono ?_; rintro e w' ⟨rfl, hE⟩; replace hH : EnvS w' ∧ Rw w' w.heap.size 24 (opC k a v) ∧ Below w.heap.size w w' := ⟨hH.1.below hE, hH.2.1.below hE hH.2.1.lt, hH.2.2.trans (below_le hE hH.2.2.size)⟩
  go_wp2_with fail
  refine hK.out _ _ (hH) (fun hH => ?_)
  clear hK K
  try simp only [Act.put, List.setIfInBounds_toArray, List.set_cons_zero, List.set_cons_succ]
  refine takeD 3 (some 6) (v := .string (⟨#[32]⟩ ++ ⟨(Lib.itoa a).toArray⟩)) rfl rfl (by kernel_rfl) (by kernel_rfl) (by kernel_rfl) (fun _ _ _ h => h) (Or.inl ⟨by rfl, ?_⟩) hH ?_
  · intro w hSw; go_simp; omega
  try simp only [Act.put, List.setIfInBounds_toArray, List.set_cons_zero, List.set_cons_succ]
  refine takeD 4 (some 7) (v := .string (⟨#[32]⟩ ++ ⟨(Lib.itoa a).toArray⟩ ++ ⟨#[32]⟩)) rfl rfl (by kernel_rfl) (by kernel_rfl) (by kernel_rfl) (fun _ _ _ h => h) (Or.inl ⟨by rfl, ?_⟩) hH ?_
  · intro w hSw; go_simp; omega
  try simp only [Act.put, List.setIfInBounds_toArray, List.set_cons_zero, List.set_cons_succ]
  refine takeD 7 (some 10) (v := .string (⟨#[32]⟩ ++ ⟨(Lib.itoa a).toArray⟩ ++ ⟨#[32]⟩ ++ v)) rfl rfl (by kernel_rfl) (by kernel_rfl) (by kernel_rfl) (fun _ _ _ h => h) (Or.inl ⟨by rfl, ?_⟩) hH ?_
  · intro w hSw; go_simp; omega
  try simp only [Act.put, List.setIfInBounds_toArray, List.set_cons_zero, List.set_cons_succ]
  refine takeD 8 (some 2) (v := ?_) rfl rfl (by kernel_rfl) (by kernel_rfl) (by kernel_rfl) (fun _ _ _ h => h) (Or.inl ⟨by rfl, ?_⟩) hH ?_
  rotate_left
  · intro w hSw; go_simp; try with_reducible rfl
  try simp only [Act.put, List.setIfInBounds_toArray, List.set_cons_zero, List.set_cons_succ]
  refine wpAnyH_done (by kernel_rfl) ?_ _
  refine NoPanic.normal ?_

  go_wp2_with fail
  go_ret
  refine ⟨ret_str (ByteArray.ext (Array.toList_inj.1 (by simp))), hH.2.2⟩
end Go.Proofs.YtjjnjglbmneecaaDoor
