/- The contract of script.Check, at each kind. Printed by sck.py. -/
import Derived.Test.YtjjnjglbmneecaaDoorSch
namespace Go.Proofs.YtjjnjglbmneecaaDoor
open Go Go.RowKit
set_option linter.unusedSimpArgs false in
set_option maxRecDepth 100000 in
set_option maxHeartbeats 4000000 in
theorem check_1 {w : World} (hw : EnvS w) (a : Int) (v : ByteArray) (hv : v.size ≤ 900000) :
    Calls Tryd.prog 21 #[opV 1 a v] w fun e w' => e = .returned (.int .i64 (if validB 1 a v.data.toList then 0 else 2)) ∧ Below w.heap.size w w' := by
  have hR := Rw.new w 24 (opC 1 a v)
  have hW := hw.below (below_al w (.cells (opC 1 a v) 24))
  have hB := below_al w (.cells (opC 1 a v) 24)
  have HV : Hid (∀ W : World, EnvS W → Calls Tryd.prog 132 #[.agg #[.int .i64 1, .int .i64 a, .string v]] W fun e w' => e = .returned (.bool (validB 1 a v.data.toList)) ∧ Below W.heap.size W w') := Lib.hid (fun W hW => valid_any hW 1 (by decide) 1 a v hv)
  obtain ⟨z, hz⟩ : ∃ z, validB 1 a v.data.toList = z := ⟨_, rfl⟩
  rw [hz] at HV ⊢
  clear hz
  unfold opV
  have hS : EnvS (w.alloc (Obj.cells (opC 1 a v) 24)).drew ∧ Rw (w.alloc (Obj.cells (opC 1 a v) 24)).drew w.heap.size 24 (opC 1 a v) ∧ Below w.heap.size w (w.alloc (Obj.cells (opC 1 a v) 24)).drew := ⟨hW.drew, hR, hB.drew⟩
  clear hW hR hB
  go_enter Tryd.func21, Tryd.ntmps21
  go_wp2_with fail
  refine wp_region_noPanic ?_
  refine wp_region_held_drew (S := fun w' => EnvS w' ∧ Rw w' w.heap.size 24 (opC 1 a v) ∧ Below w.heap.size w w') (by kernel_rfl) (hS) (fun hH => ?_)
  refine takeD 0 (some 3) (v := ?_) rfl rfl (by kernel_rfl) (by kernel_rfl) (by kernel_rfl) (fun _ _ _ h => h) (Or.inl ⟨by rfl, ?_⟩) hH ?_
  rotate_left
  · intro w hSw; go_simp; try with_reducible rfl
  try simp only [Act.put, List.setIfInBounds_toArray, List.set_cons_zero, List.set_cons_succ]
  refine takeD 1 (some 4) (v := ?_) rfl rfl (by kernel_rfl) (by kernel_rfl) (by kernel_rfl) (fun _ _ _ h => h) (Or.inl ⟨by rfl, ?_⟩) hH ?_
  rotate_left
  · intro w hSw; obtain ⟨c0, c1, c2, f0, f1, f2⟩ := hSw.2.1.facts; go_simp; try with_reducible rfl
  try simp only [Act.put, List.setIfInBounds_toArray, List.set_cons_zero, List.set_cons_succ]
  refine wpAnyH_ready (rs := [2]) (by kernel_rfl) (by simp) ?_
  refine AllReadyH.cons rfl (fun K hK => ?_) AllReadyH.nil
  go_simp
  go_at_call 47; refine (known_any 1 _).mono ?_; rintro e w' ⟨rfl, rfl⟩
  go_wp2_with fail
  refine hK.out _ _ (hH) (fun hH => ?_)
  clear hK K
  try simp only [Act.put, List.setIfInBounds_toArray, List.set_cons_zero, List.set_cons_succ]
  refine takeD 3 (some 6) (v := ?_) rfl rfl (by kernel_rfl) (by kernel_rfl) (by kernel_rfl) (fun _ _ _ h => h) (Or.inl ⟨by rfl, ?_⟩) hH ?_
  rotate_left
  · intro w hSw; go_simp; try with_reducible rfl
  try simp only [Act.put, List.setIfInBounds_toArray, List.set_cons_zero, List.set_cons_succ]
  refine takeD 4 (some 7) (v := ?_) rfl rfl (by kernel_rfl) (by kernel_rfl) (by kernel_rfl) (fun _ _ _ h => h) (Or.inl ⟨by rfl, ?_⟩) hH ?_
  rotate_left
  · intro w hSw; go_simp; try with_reducible rfl
  try simp only [Act.put, List.setIfInBounds_toArray, List.set_cons_zero, List.set_cons_succ]
  refine takeD 5 (some 8) (v := ?_) rfl rfl (by kernel_rfl) (by kernel_rfl) (by kernel_rfl) (fun _ _ _ h => h) (Or.inl ⟨by rfl, ?_⟩) hH ?_
  rotate_left
  · intro w hSw; go_simp; try with_reducible rfl
  try simp only [Act.put, List.setIfInBounds_toArray, List.set_cons_zero, List.set_cons_succ]
  refine takeD 6 (some 9) (v := ?_) rfl rfl (by kernel_rfl) (by kernel_rfl) (by kernel_rfl) (fun _ _ _ h => h) (Or.inl ⟨by rfl, ?_⟩) hH ?_
  rotate_left
  · intro w hSw; obtain ⟨c0, c1, c2, f0, f1, f2⟩ := hSw.2.1.facts; go_simp; try with_reducible rfl
  try simp only [Act.put, List.setIfInBounds_toArray, List.set_cons_zero, List.set_cons_succ]
  refine takeD 7 (some 10) (v := ?_) rfl rfl (by kernel_rfl) (by kernel_rfl) (by kernel_rfl) (fun _ _ _ h => h) (Or.inl ⟨by rfl, ?_⟩) hH ?_
  rotate_left
  · intro w hSw; go_simp; try with_reducible rfl
  try simp only [Act.put, List.setIfInBounds_toArray, List.set_cons_zero, List.set_cons_succ]
  refine takeD 8 (some 11) (v := ?_) rfl rfl (by kernel_rfl) (by kernel_rfl) (by kernel_rfl) (fun _ _ _ h => h) (Or.inl ⟨by rfl, ?_⟩) hH ?_
  rotate_left
  · intro w hSw; go_simp; try with_reducible rfl
  try simp only [Act.put, List.setIfInBounds_toArray, List.set_cons_zero, List.set_cons_succ]
  refine takeD 9 (some 12) (v := ?_) rfl rfl (by kernel_rfl) (by kernel_rfl) (by kernel_rfl) (fun _ _ _ h => h) (Or.inl ⟨by rfl, ?_⟩) hH ?_
  rotate_left
  · intro w hSw; have c9 := hSw.1.tab 5 (fnV 132) rfl; unfold fnV at c9; go_simp; try with_reducible rfl
  try simp only [Act.put, List.setIfInBounds_toArray, List.set_cons_zero, List.set_cons_succ]
  refine takeD 10 (some 13) (v := ?_) rfl rfl (by kernel_rfl) (by kernel_rfl) (by kernel_rfl) (fun _ _ _ h => h) (Or.inl ⟨by rfl, ?_⟩) hH ?_
  rotate_left
  · intro w hSw; obtain ⟨c0, c1, c2, f0, f1, f2⟩ := hSw.2.1.facts; go_simp; try with_reducible rfl
  try simp only [Act.put, List.setIfInBounds_toArray, List.set_cons_zero, List.set_cons_succ]
  refine wpAnyH_ready (rs := [11]) (by kernel_rfl) (by simp) ?_
  refine AllReadyH.cons rfl (fun K hK => ?_) AllReadyH.nil
  go_simp
  go_at_call 132; refine (HV.out _ hH.1).mono ?_; rintro e w' ⟨rfl, hE⟩; replace hH : EnvS w' ∧ Rw w' w.heap.size 24 (opC 1 a v) ∧ Below w.heap.size w w' := ⟨hH.1.below hE, hH.2.1.below hE hH.2.1.lt, hH.2.2.trans (below_le hE hH.2.2.size)⟩
  go_wp2_with fail
  refine hK.out _ _ (hH) (fun hH => ?_)
  clear hK K
  try simp only [Act.put, List.setIfInBounds_toArray, List.set_cons_zero, List.set_cons_succ]
  refine takeD 12 (some 15) (v := ?_) rfl rfl (by kernel_rfl) (by kernel_rfl) (by kernel_rfl) (fun _ _ _ h => h) (Or.inl ⟨by rfl, ?_⟩) hH ?_
  rotate_left
  · intro w hSw; go_simp; try with_reducible rfl
  try simp only [Act.put, List.setIfInBounds_toArray, List.set_cons_zero, List.set_cons_succ]
  refine takeD 13 (some 16) (v := ?_) rfl rfl (by kernel_rfl) (by kernel_rfl) (by kernel_rfl) (fun _ _ _ h => h) (Or.inl ⟨by rfl, ?_⟩) hH ?_
  rotate_left
  · intro w hSw; go_simp; try with_reducible rfl
  try simp only [Act.put, List.setIfInBounds_toArray, List.set_cons_zero, List.set_cons_succ]
  refine wpAnyH_done (by kernel_rfl) ?_ _
  refine NoPanic.normal ?_
  cases z
  · go_wp2_with fail
    go_ret
    exact ⟨rfl, hH.2.2⟩
  · go_wp2_with fail
    go_ret
    exact ⟨rfl, hH.2.2⟩
set_option linter.unusedSimpArgs false in
set_option maxRecDepth 100000 in
set_option maxHeartbeats 4000000 in
theorem check_2 {w : World} (hw : EnvS w) (a : Int) (v : ByteArray) (hv : v.size ≤ 900000) :
    Calls Tryd.prog 21 #[opV 2 a v] w fun e w' => e = .returned (.int .i64 (if validB 2 a v.data.toList then 0 else 2)) ∧ Below w.heap.size w w' := by
  have hR := Rw.new w 24 (opC 2 a v)
  have hW := hw.below (below_al w (.cells (opC 2 a v) 24))
  have hB := below_al w (.cells (opC 2 a v) 24)
  have HV : Hid (∀ W : World, EnvS W → Calls Tryd.prog 135 #[.agg #[.int .i64 2, .int .i64 a, .string v]] W fun e w' => e = .returned (.bool (validB 2 a v.data.toList)) ∧ Below W.heap.size W w') := Lib.hid (fun W hW => valid_any hW 2 (by decide) 2 a v hv)
  obtain ⟨z, hz⟩ : ∃ z, validB 2 a v.data.toList = z := ⟨_, rfl⟩
  rw [hz] at HV ⊢
  clear hz
  unfold opV
  have hS : EnvS (w.alloc (Obj.cells (opC 2 a v) 24)).drew ∧ Rw (w.alloc (Obj.cells (opC 2 a v) 24)).drew w.heap.size 24 (opC 2 a v) ∧ Below w.heap.size w (w.alloc (Obj.cells (opC 2 a v) 24)).drew := ⟨hW.drew, hR, hB.drew⟩
  clear hW hR hB
  go_enter Tryd.func21, Tryd.ntmps21
  go_wp2_with fail
  refine wp_region_noPanic ?_
  refine wp_region_held_drew (S := fun w' => EnvS w' ∧ Rw w' w.heap.size 24 (opC 2 a v) ∧ Below w.heap.size w w') (by kernel_rfl) (hS) (fun hH => ?_)
  refine takeD 0 (some 3) (v := ?_) rfl rfl (by kernel_rfl) (by kernel_rfl) (by kernel_rfl) (fun _ _ _ h => h) (Or.inl ⟨by rfl, ?_⟩) hH ?_
  rotate_left
  · intro w hSw; go_simp; try with_reducible rfl
  try simp only [Act.put, List.setIfInBounds_toArray, List.set_cons_zero, List.set_cons_succ]
  refine takeD 1 (some 4) (v := ?_) rfl rfl (by kernel_rfl) (by kernel_rfl) (by kernel_rfl) (fun _ _ _ h => h) (Or.inl ⟨by rfl, ?_⟩) hH ?_
  rotate_left
  · intro w hSw; obtain ⟨c0, c1, c2, f0, f1, f2⟩ := hSw.2.1.facts; go_simp; try with_reducible rfl
  try simp only [Act.put, List.setIfInBounds_toArray, List.set_cons_zero, List.set_cons_succ]
  refine wpAnyH_ready (rs := [2]) (by kernel_rfl) (by simp) ?_
  refine AllReadyH.cons rfl (fun K hK => ?_) AllReadyH.nil
  go_simp
  go_at_call 47; refine (known_any 2 _).mono ?_; rintro e w' ⟨rfl, rfl⟩
  go_wp2_with fail
  refine hK.out _ _ (hH) (fun hH => ?_)
  clear hK K
  try simp only [Act.put, List.setIfInBounds_toArray, List.set_cons_zero, List.set_cons_succ]
  refine takeD 3 (some 6) (v := ?_) rfl rfl (by kernel_rfl) (by kernel_rfl) (by kernel_rfl) (fun _ _ _ h => h) (Or.inl ⟨by rfl, ?_⟩) hH ?_
  rotate_left
  · intro w hSw; go_simp; try with_reducible rfl
  try simp only [Act.put, List.setIfInBounds_toArray, List.set_cons_zero, List.set_cons_succ]
  refine takeD 4 (some 7) (v := ?_) rfl rfl (by kernel_rfl) (by kernel_rfl) (by kernel_rfl) (fun _ _ _ h => h) (Or.inl ⟨by rfl, ?_⟩) hH ?_
  rotate_left
  · intro w hSw; go_simp; try with_reducible rfl
  try simp only [Act.put, List.setIfInBounds_toArray, List.set_cons_zero, List.set_cons_succ]
  refine takeD 5 (some 8) (v := ?_) rfl rfl (by kernel_rfl) (by kernel_rfl) (by kernel_rfl) (fun _ _ _ h => h) (Or.inl ⟨by rfl, ?_⟩) hH ?_
  rotate_left
  · intro w hSw; go_simp; try with_reducible rfl
  try simp only [Act.put, List.setIfInBounds_toArray, List.set_cons_zero, List.set_cons_succ]
  refine takeD 6 (some 9) (v := ?_) rfl rfl (by kernel_rfl) (by kernel_rfl) (by kernel_rfl) (fun _ _ _ h => h) (Or.inl ⟨by rfl, ?_⟩) hH ?_
  rotate_left
  · intro w hSw; obtain ⟨c0, c1, c2, f0, f1, f2⟩ := hSw.2.1.facts; go_simp; try with_reducible rfl
  try simp only [Act.put, List.setIfInBounds_toArray, List.set_cons_zero, List.set_cons_succ]
  refine takeD 7 (some 10) (v := ?_) rfl rfl (by kernel_rfl) (by kernel_rfl) (by kernel_rfl) (fun _ _ _ h => h) (Or.inl ⟨by rfl, ?_⟩) hH ?_
  rotate_left
  · intro w hSw; go_simp; try with_reducible rfl
  try simp only [Act.put, List.setIfInBounds_toArray, List.set_cons_zero, List.set_cons_succ]
  refine takeD 8 (some 11) (v := ?_) rfl rfl (by kernel_rfl) (by kernel_rfl) (by kernel_rfl) (fun _ _ _ h => h) (Or.inl ⟨by rfl, ?_⟩) hH ?_
  rotate_left
  · intro w hSw; go_simp; try with_reducible rfl
  try simp only [Act.put, List.setIfInBounds_toArray, List.set_cons_zero, List.set_cons_succ]
  refine takeD 9 (some 12) (v := ?_) rfl rfl (by kernel_rfl) (by kernel_rfl) (by kernel_rfl) (fun _ _ _ h => h) (Or.inl ⟨by rfl, ?_⟩) hH ?_
  rotate_left
  · intro w hSw; have c9 := hSw.1.tab 9 (fnV 135) rfl; unfold fnV at c9; go_simp; try with_reducible rfl
  try simp only [Act.put, List.setIfInBounds_toArray, List.set_cons_zero, List.set_cons_succ]
  refine takeD 10 (some 13) (v := ?_) rfl rfl (by kernel_rfl) (by kernel_rfl) (by kernel_rfl) (fun _ _ _ h => h) (Or.inl ⟨by rfl, ?_⟩) hH ?_
  rotate_left
  · intro w hSw; obtain ⟨c0, c1, c2, f0, f1, f2⟩ := hSw.2.1.facts; go_simp; try with_reducible rfl
  try simp only [Act.put, List.setIfInBounds_toArray, List.set_cons_zero, List.set_cons_succ]
  refine wpAnyH_ready (rs := [11]) (by kernel_rfl) (by simp) ?_
  refine AllReadyH.cons rfl (fun K hK => ?_) AllReadyH.nil
  go_simp
  go_at_call 135; refine (HV.out _ hH.1).mono ?_; rintro e w' ⟨rfl, hE⟩; replace hH : EnvS w' ∧ Rw w' w.heap.size 24 (opC 2 a v) ∧ Below w.heap.size w w' := ⟨hH.1.below hE, hH.2.1.below hE hH.2.1.lt, hH.2.2.trans (below_le hE hH.2.2.size)⟩
  go_wp2_with fail
  refine hK.out _ _ (hH) (fun hH => ?_)
  clear hK K
  try simp only [Act.put, List.setIfInBounds_toArray, List.set_cons_zero, List.set_cons_succ]
  refine takeD 12 (some 15) (v := ?_) rfl rfl (by kernel_rfl) (by kernel_rfl) (by kernel_rfl) (fun _ _ _ h => h) (Or.inl ⟨by rfl, ?_⟩) hH ?_
  rotate_left
  · intro w hSw; go_simp; try with_reducible rfl
  try simp only [Act.put, List.setIfInBounds_toArray, List.set_cons_zero, List.set_cons_succ]
  refine takeD 13 (some 16) (v := ?_) rfl rfl (by kernel_rfl) (by kernel_rfl) (by kernel_rfl) (fun _ _ _ h => h) (Or.inl ⟨by rfl, ?_⟩) hH ?_
  rotate_left
  · intro w hSw; go_simp; try with_reducible rfl
  try simp only [Act.put, List.setIfInBounds_toArray, List.set_cons_zero, List.set_cons_succ]
  refine wpAnyH_done (by kernel_rfl) ?_ _
  refine NoPanic.normal ?_
  cases z
  · go_wp2_with fail
    go_ret
    exact ⟨rfl, hH.2.2⟩
  · go_wp2_with fail
    go_ret
    exact ⟨rfl, hH.2.2⟩
set_option linter.unusedSimpArgs false in
set_option maxRecDepth 100000 in
set_option maxHeartbeats 4000000 in
theorem check_3 {w : World} (hw : EnvS w) (a : Int) (v : ByteArray) (hv : v.size ≤ 900000) :
    Calls Tryd.prog 21 #[opV 3 a v] w fun e w' => e = .returned (.int .i64 (if validB 3 a v.data.toList then 0 else 2)) ∧ Below w.heap.size w w' := by
  have hR := Rw.new w 24 (opC 3 a v)
  have hW := hw.below (below_al w (.cells (opC 3 a v) 24))
  have hB := below_al w (.cells (opC 3 a v) 24)
  have HV : Hid (∀ W : World, EnvS W → Calls Tryd.prog 138 #[.agg #[.int .i64 3, .int .i64 a, .string v]] W fun e w' => e = .returned (.bool (validB 3 a v.data.toList)) ∧ Below W.heap.size W w') := Lib.hid (fun W hW => valid_any hW 3 (by decide) 3 a v hv)
  obtain ⟨z, hz⟩ : ∃ z, validB 3 a v.data.toList = z := ⟨_, rfl⟩
  rw [hz] at HV ⊢
  clear hz
  unfold opV
  have hS : EnvS (w.alloc (Obj.cells (opC 3 a v) 24)).drew ∧ Rw (w.alloc (Obj.cells (opC 3 a v) 24)).drew w.heap.size 24 (opC 3 a v) ∧ Below w.heap.size w (w.alloc (Obj.cells (opC 3 a v) 24)).drew := ⟨hW.drew, hR, hB.drew⟩
  clear hW hR hB
  go_enter Tryd.func21, Tryd.ntmps21
  go_wp2_with fail
  refine wp_region_noPanic ?_
  refine wp_region_held_drew (S := fun w' => EnvS w' ∧ Rw w' w.heap.size 24 (opC 3 a v) ∧ Below w.heap.size w w') (by kernel_rfl) (hS) (fun hH => ?_)
  refine takeD 0 (some 3) (v := ?_) rfl rfl (by kernel_rfl) (by kernel_rfl) (by kernel_rfl) (fun _ _ _ h => h) (Or.inl ⟨by rfl, ?_⟩) hH ?_
  rotate_left
  · intro w hSw; go_simp; try with_reducible rfl
  try simp only [Act.put, List.setIfInBounds_toArray, List.set_cons_zero, List.set_cons_succ]
  refine takeD 1 (some 4) (v := ?_) rfl rfl (by kernel_rfl) (by kernel_rfl) (by kernel_rfl) (fun _ _ _ h => h) (Or.inl ⟨by rfl, ?_⟩) hH ?_
  rotate_left
  · intro w hSw; obtain ⟨c0, c1, c2, f0, f1, f2⟩ := hSw.2.1.facts; go_simp; try with_reducible rfl
  try simp only [Act.put, List.setIfInBounds_toArray, List.set_cons_zero, List.set_cons_succ]
  refine wpAnyH_ready (rs := [2]) (by kernel_rfl) (by simp) ?_
  refine AllReadyH.cons rfl (fun K hK => ?_) AllReadyH.nil
  go_simp
  go_at_call 47; refine (known_any 3 _).mono ?_; rintro e w' ⟨rfl, rfl⟩
  go_wp2_with fail
  refine hK.out _ _ (hH) (fun hH => ?_)
  clear hK K
  try simp only [Act.put, List.setIfInBounds_toArray, List.set_cons_zero, List.set_cons_succ]
  refine takeD 3 (some 6) (v := ?_) rfl rfl (by kernel_rfl) (by kernel_rfl) (by kernel_rfl) (fun _ _ _ h => h) (Or.inl ⟨by rfl, ?_⟩) hH ?_
  rotate_left
  · intro w hSw; go_simp; try with_reducible rfl
  try simp only [Act.put, List.setIfInBounds_toArray, List.set_cons_zero, List.set_cons_succ]
  refine takeD 4 (some 7) (v := ?_) rfl rfl (by kernel_rfl) (by kernel_rfl) (by kernel_rfl) (fun _ _ _ h => h) (Or.inl ⟨by rfl, ?_⟩) hH ?_
  rotate_left
  · intro w hSw; go_simp; try with_reducible rfl
  try simp only [Act.put, List.setIfInBounds_toArray, List.set_cons_zero, List.set_cons_succ]
  refine takeD 5 (some 8) (v := ?_) rfl rfl (by kernel_rfl) (by kernel_rfl) (by kernel_rfl) (fun _ _ _ h => h) (Or.inl ⟨by rfl, ?_⟩) hH ?_
  rotate_left
  · intro w hSw; go_simp; try with_reducible rfl
  try simp only [Act.put, List.setIfInBounds_toArray, List.set_cons_zero, List.set_cons_succ]
  refine takeD 6 (some 9) (v := ?_) rfl rfl (by kernel_rfl) (by kernel_rfl) (by kernel_rfl) (fun _ _ _ h => h) (Or.inl ⟨by rfl, ?_⟩) hH ?_
  rotate_left
  · intro w hSw; obtain ⟨c0, c1, c2, f0, f1, f2⟩ := hSw.2.1.facts; go_simp; try with_reducible rfl
  try simp only [Act.put, List.setIfInBounds_toArray, List.set_cons_zero, List.set_cons_succ]
  refine takeD 7 (some 10) (v := ?_) rfl rfl (by kernel_rfl) (by kernel_rfl) (by kernel_rfl) (fun _ _ _ h => h) (Or.inl ⟨by rfl, ?_⟩) hH ?_
  rotate_left
  · intro w hSw; go_simp; try with_reducible rfl
  try simp only [Act.put, List.setIfInBounds_toArray, List.set_cons_zero, List.set_cons_succ]
  refine takeD 8 (some 11) (v := ?_) rfl rfl (by kernel_rfl) (by kernel_rfl) (by kernel_rfl) (fun _ _ _ h => h) (Or.inl ⟨by rfl, ?_⟩) hH ?_
  rotate_left
  · intro w hSw; go_simp; try with_reducible rfl
  try simp only [Act.put, List.setIfInBounds_toArray, List.set_cons_zero, List.set_cons_succ]
  refine takeD 9 (some 12) (v := ?_) rfl rfl (by kernel_rfl) (by kernel_rfl) (by kernel_rfl) (fun _ _ _ h => h) (Or.inl ⟨by rfl, ?_⟩) hH ?_
  rotate_left
  · intro w hSw; have c9 := hSw.1.tab 13 (fnV 138) rfl; unfold fnV at c9; go_simp; try with_reducible rfl
  try simp only [Act.put, List.setIfInBounds_toArray, List.set_cons_zero, List.set_cons_succ]
  refine takeD 10 (some 13) (v := ?_) rfl rfl (by kernel_rfl) (by kernel_rfl) (by kernel_rfl) (fun _ _ _ h => h) (Or.inl ⟨by rfl, ?_⟩) hH ?_
  rotate_left
  · intro w hSw; obtain ⟨c0, c1, c2, f0, f1, f2⟩ := hSw.2.1.facts; go_simp; try with_reducible rfl
  try simp only [Act.put, List.setIfInBounds_toArray, List.set_cons_zero, List.set_cons_succ]
  refine wpAnyH_ready (rs := [11]) (by kernel_rfl) (by simp) ?_
  refine AllReadyH.cons rfl (fun K hK => ?_) AllReadyH.nil
  go_simp
  go_at_call 138; refine (HV.out _ hH.1).mono ?_; rintro e w' ⟨rfl, hE⟩; replace hH : EnvS w' ∧ Rw w' w.heap.size 24 (opC 3 a v) ∧ Below w.heap.size w w' := ⟨hH.1.below hE, hH.2.1.below hE hH.2.1.lt, hH.2.2.trans (below_le hE hH.2.2.size)⟩
  go_wp2_with fail
  refine hK.out _ _ (hH) (fun hH => ?_)
  clear hK K
  try simp only [Act.put, List.setIfInBounds_toArray, List.set_cons_zero, List.set_cons_succ]
  refine takeD 12 (some 15) (v := ?_) rfl rfl (by kernel_rfl) (by kernel_rfl) (by kernel_rfl) (fun _ _ _ h => h) (Or.inl ⟨by rfl, ?_⟩) hH ?_
  rotate_left
  · intro w hSw; go_simp; try with_reducible rfl
  try simp only [Act.put, List.setIfInBounds_toArray, List.set_cons_zero, List.set_cons_succ]
  refine takeD 13 (some 16) (v := ?_) rfl rfl (by kernel_rfl) (by kernel_rfl) (by kernel_rfl) (fun _ _ _ h => h) (Or.inl ⟨by rfl, ?_⟩) hH ?_
  rotate_left
  · intro w hSw; go_simp; try with_reducible rfl
  try simp only [Act.put, List.setIfInBounds_toArray, List.set_cons_zero, List.set_cons_succ]
  refine wpAnyH_done (by kernel_rfl) ?_ _
  refine NoPanic.normal ?_
  cases z
  · go_wp2_with fail
    go_ret
    exact ⟨rfl, hH.2.2⟩
  · go_wp2_with fail
    go_ret
    exact ⟨rfl, hH.2.2⟩
set_option linter.unusedSimpArgs false in
set_option maxRecDepth 100000 in
set_option maxHeartbeats 4000000 in
theorem check_4 {w : World} (hw : EnvS w) (a : Int) (v : ByteArray) (hv : v.size ≤ 900000) :
    Calls Tryd.prog 21 #[opV 4 a v] w fun e w' => e = .returned (.int .i64 (if validB 4 a v.data.toList then 0 else 2)) ∧ Below w.heap.size w w' := by
  have hR := Rw.new w 24 (opC 4 a v)
  have hW := hw.below (below_al w (.cells (opC 4 a v) 24))
  have hB := below_al w (.cells (opC 4 a v) 24)
  have HV : Hid (∀ W : World, EnvS W → Calls Tryd.prog 138 #[.agg #[.int .i64 4, .int .i64 a, .string v]] W fun e w' => e = .returned (.bool (validB 4 a v.data.toList)) ∧ Below W.heap.size W w') := Lib.hid (fun W hW => valid_any hW 4 (by decide) 4 a v hv)
  obtain ⟨z, hz⟩ : ∃ z, validB 4 a v.data.toList = z := ⟨_, rfl⟩
  rw [hz] at HV ⊢
  clear hz
  unfold opV
  have hS : EnvS (w.alloc (Obj.cells (opC 4 a v) 24)).drew ∧ Rw (w.alloc (Obj.cells (opC 4 a v) 24)).drew w.heap.size 24 (opC 4 a v) ∧ Below w.heap.size w (w.alloc (Obj.cells (opC 4 a v) 24)).drew := ⟨hW.drew, hR, hB.drew⟩
  clear hW hR hB
  go_enter Tryd.func21, Tryd.ntmps21
  go_wp2_with fail
  refine wp_region_noPanic ?_
  refine wp_region_held_drew (S := fun w' => EnvS w' ∧ Rw w' w.heap.size 24 (opC 4 a v) ∧ Below w.heap.size w w') (by kernel_rfl) (hS) (fun hH => ?_)
  refine takeD 0 (some 3) (v := ?_) rfl rfl (by kernel_rfl) (by kernel_rfl) (by kernel_rfl) (fun _ _ _ h => h) (Or.inl ⟨by rfl, ?_⟩) hH ?_
  rotate_left
  · intro w hSw; go_simp; try with_reducible rfl
  try simp only [Act.put, List.setIfInBounds_toArray, List.set_cons_zero, List.set_cons_succ]
  refine takeD 1 (some 4) (v := ?_) rfl rfl (by kernel_rfl) (by kernel_rfl) (by kernel_rfl) (fun _ _ _ h => h) (Or.inl ⟨by rfl, ?_⟩) hH ?_
  rotate_left
  · intro w hSw; obtain ⟨c0, c1, c2, f0, f1, f2⟩ := hSw.2.1.facts; go_simp; try with_reducible rfl
  try simp only [Act.put, List.setIfInBounds_toArray, List.set_cons_zero, List.set_cons_succ]
  refine wpAnyH_ready (rs := [2]) (by kernel_rfl) (by simp) ?_
  refine AllReadyH.cons rfl (fun K hK => ?_) AllReadyH.nil
  go_simp
  go_at_call 47; refine (known_any 4 _).mono ?_; rintro e w' ⟨rfl, rfl⟩
  go_wp2_with fail
  refine hK.out _ _ (hH) (fun hH => ?_)
  clear hK K
  try simp only [Act.put, List.setIfInBounds_toArray, List.set_cons_zero, List.set_cons_succ]
  refine takeD 3 (some 6) (v := ?_) rfl rfl (by kernel_rfl) (by kernel_rfl) (by kernel_rfl) (fun _ _ _ h => h) (Or.inl ⟨by rfl, ?_⟩) hH ?_
  rotate_left
  · intro w hSw; go_simp; try with_reducible rfl
  try simp only [Act.put, List.setIfInBounds_toArray, List.set_cons_zero, List.set_cons_succ]
  refine takeD 4 (some 7) (v := ?_) rfl rfl (by kernel_rfl) (by kernel_rfl) (by kernel_rfl) (fun _ _ _ h => h) (Or.inl ⟨by rfl, ?_⟩) hH ?_
  rotate_left
  · intro w hSw; go_simp; try with_reducible rfl
  try simp only [Act.put, List.setIfInBounds_toArray, List.set_cons_zero, List.set_cons_succ]
  refine takeD 5 (some 8) (v := ?_) rfl rfl (by kernel_rfl) (by kernel_rfl) (by kernel_rfl) (fun _ _ _ h => h) (Or.inl ⟨by rfl, ?_⟩) hH ?_
  rotate_left
  · intro w hSw; go_simp; try with_reducible rfl
  try simp only [Act.put, List.setIfInBounds_toArray, List.set_cons_zero, List.set_cons_succ]
  refine takeD 6 (some 9) (v := ?_) rfl rfl (by kernel_rfl) (by kernel_rfl) (by kernel_rfl) (fun _ _ _ h => h) (Or.inl ⟨by rfl, ?_⟩) hH ?_
  rotate_left
  · intro w hSw; obtain ⟨c0, c1, c2, f0, f1, f2⟩ := hSw.2.1.facts; go_simp; try with_reducible rfl
  try simp only [Act.put, List.setIfInBounds_toArray, List.set_cons_zero, List.set_cons_succ]
  refine takeD 7 (some 10) (v := ?_) rfl rfl (by kernel_rfl) (by kernel_rfl) (by kernel_rfl) (fun _ _ _ h => h) (Or.inl ⟨by rfl, ?_⟩) hH ?_
  rotate_left
  · intro w hSw; go_simp; try with_reducible rfl
  try simp only [Act.put, List.setIfInBounds_toArray, List.set_cons_zero, List.set_cons_succ]
  refine takeD 8 (some 11) (v := ?_) rfl rfl (by kernel_rfl) (by kernel_rfl) (by kernel_rfl) (fun _ _ _ h => h) (Or.inl ⟨by rfl, ?_⟩) hH ?_
  rotate_left
  · intro w hSw; go_simp; try with_reducible rfl
  try simp only [Act.put, List.setIfInBounds_toArray, List.set_cons_zero, List.set_cons_succ]
  refine takeD 9 (some 12) (v := ?_) rfl rfl (by kernel_rfl) (by kernel_rfl) (by kernel_rfl) (fun _ _ _ h => h) (Or.inl ⟨by rfl, ?_⟩) hH ?_
  rotate_left
  · intro w hSw; have c9 := hSw.1.tab 17 (fnV 138) rfl; unfold fnV at c9; go_simp; try with_reducible rfl
  try simp only [Act.put, List.setIfInBounds_toArray, List.set_cons_zero, List.set_cons_succ]
  refine takeD 10 (some 13) (v := ?_) rfl rfl (by kernel_rfl) (by kernel_rfl) (by kernel_rfl) (fun _ _ _ h => h) (Or.inl ⟨by rfl, ?_⟩) hH ?_
  rotate_left
  · intro w hSw; obtain ⟨c0, c1, c2, f0, f1, f2⟩ := hSw.2.1.facts; go_simp; try with_reducible rfl
  try simp only [Act.put, List.setIfInBounds_toArray, List.set_cons_zero, List.set_cons_succ]
  refine wpAnyH_ready (rs := [11]) (by kernel_rfl) (by simp) ?_
  refine AllReadyH.cons rfl (fun K hK => ?_) AllReadyH.nil
  go_simp
  go_at_call 138; refine (HV.out _ hH.1).mono ?_; rintro e w' ⟨rfl, hE⟩; replace hH : EnvS w' ∧ Rw w' w.heap.size 24 (opC 4 a v) ∧ Below w.heap.size w w' := ⟨hH.1.below hE, hH.2.1.below hE hH.2.1.lt, hH.2.2.trans (below_le hE hH.2.2.size)⟩
  go_wp2_with fail
  refine hK.out _ _ (hH) (fun hH => ?_)
  clear hK K
  try simp only [Act.put, List.setIfInBounds_toArray, List.set_cons_zero, List.set_cons_succ]
  refine takeD 12 (some 15) (v := ?_) rfl rfl (by kernel_rfl) (by kernel_rfl) (by kernel_rfl) (fun _ _ _ h => h) (Or.inl ⟨by rfl, ?_⟩) hH ?_
  rotate_left
  · intro w hSw; go_simp; try with_reducible rfl
  try simp only [Act.put, List.setIfInBounds_toArray, List.set_cons_zero, List.set_cons_succ]
  refine takeD 13 (some 16) (v := ?_) rfl rfl (by kernel_rfl) (by kernel_rfl) (by kernel_rfl) (fun _ _ _ h => h) (Or.inl ⟨by rfl, ?_⟩) hH ?_
  rotate_left
  · intro w hSw; go_simp; try with_reducible rfl
  try simp only [Act.put, List.setIfInBounds_toArray, List.set_cons_zero, List.set_cons_succ]
  refine wpAnyH_done (by kernel_rfl) ?_ _
  refine NoPanic.normal ?_
  cases z
  · go_wp2_with fail
    go_ret
    exact ⟨rfl, hH.2.2⟩
  · go_wp2_with fail
    go_ret
    exact ⟨rfl, hH.2.2⟩
set_option linter.unusedSimpArgs false in
set_option maxRecDepth 100000 in
set_option maxHeartbeats 4000000 in
theorem check_5 {w : World} (hw : EnvS w) (a : Int) (v : ByteArray) (hv : v.size ≤ 900000) :
    Calls Tryd.prog 21 #[opV 5 a v] w fun e w' => e = .returned (.int .i64 (if validB 5 a v.data.toList then 0 else 2)) ∧ Below w.heap.size w w' := by
  have hR := Rw.new w 24 (opC 5 a v)
  have hW := hw.below (below_al w (.cells (opC 5 a v) 24))
  have hB := below_al w (.cells (opC 5 a v) 24)
  have HV : Hid (∀ W : World, EnvS W → Calls Tryd.prog 138 #[.agg #[.int .i64 5, .int .i64 a, .string v]] W fun e w' => e = .returned (.bool (validB 5 a v.data.toList)) ∧ Below W.heap.size W w') := Lib.hid (fun W hW => valid_any hW 5 (by decide) 5 a v hv)
  obtain ⟨z, hz⟩ : ∃ z, validB 5 a v.data.toList = z := ⟨_, rfl⟩
  rw [hz] at HV ⊢
  clear hz
  unfold opV
  have hS : EnvS (w.alloc (Obj.cells (opC 5 a v) 24)).drew ∧ Rw (w.alloc (Obj.cells (opC 5 a v) 24)).drew w.heap.size 24 (opC 5 a v) ∧ Below w.heap.size w (w.alloc (Obj.cells (opC 5 a v) 24)).drew := ⟨hW.drew, hR, hB.drew⟩
  clear hW hR hB
  go_enter Tryd.func21, Tryd.ntmps21
  go_wp2_with fail
  refine wp_region_noPanic ?_
  refine wp_region_held_drew (S := fun w' => EnvS w' ∧ Rw w' w.heap.size 24 (opC 5 a v) ∧ Below w.heap.size w w') (by kernel_rfl) (hS) (fun hH => ?_)
  refine takeD 0 (some 3) (v := ?_) rfl rfl (by kernel_rfl) (by kernel_rfl) (by kernel_rfl) (fun _ _ _ h => h) (Or.inl ⟨by rfl, ?_⟩) hH ?_
  rotate_left
  · intro w hSw; go_simp; try with_reducible rfl
  try simp only [Act.put, List.setIfInBounds_toArray, List.set_cons_zero, List.set_cons_succ]
  refine takeD 1 (some 4) (v := ?_) rfl rfl (by kernel_rfl) (by kernel_rfl) (by kernel_rfl) (fun _ _ _ h => h) (Or.inl ⟨by rfl, ?_⟩) hH ?_
  rotate_left
  · intro w hSw; obtain ⟨c0, c1, c2, f0, f1, f2⟩ := hSw.2.1.facts; go_simp; try with_reducible rfl
  try simp only [Act.put, List.setIfInBounds_toArray, List.set_cons_zero, List.set_cons_succ]
  refine wpAnyH_ready (rs := [2]) (by kernel_rfl) (by simp) ?_
  refine AllReadyH.cons rfl (fun K hK => ?_) AllReadyH.nil
  go_simp
  go_at_call 47; refine (known_any 5 _).mono ?_; rintro e w' ⟨rfl, rfl⟩
  go_wp2_with fail
  refine hK.out _ _ (hH) (fun hH => ?_)
  clear hK K
  try simp only [Act.put, List.setIfInBounds_toArray, List.set_cons_zero, List.set_cons_succ]
  refine takeD 3 (some 6) (v := ?_) rfl rfl (by kernel_rfl) (by kernel_rfl) (by kernel_rfl) (fun _ _ _ h => h) (Or.inl ⟨by rfl, ?_⟩) hH ?_
  rotate_left
  · intro w hSw; go_simp; try with_reducible rfl
  try simp only [Act.put, List.setIfInBounds_toArray, List.set_cons_zero, List.set_cons_succ]
  refine takeD 4 (some 7) (v := ?_) rfl rfl (by kernel_rfl) (by kernel_rfl) (by kernel_rfl) (fun _ _ _ h => h) (Or.inl ⟨by rfl, ?_⟩) hH ?_
  rotate_left
  · intro w hSw; go_simp; try with_reducible rfl
  try simp only [Act.put, List.setIfInBounds_toArray, List.set_cons_zero, List.set_cons_succ]
  refine takeD 5 (some 8) (v := ?_) rfl rfl (by kernel_rfl) (by kernel_rfl) (by kernel_rfl) (fun _ _ _ h => h) (Or.inl ⟨by rfl, ?_⟩) hH ?_
  rotate_left
  · intro w hSw; go_simp; try with_reducible rfl
  try simp only [Act.put, List.setIfInBounds_toArray, List.set_cons_zero, List.set_cons_succ]
  refine takeD 6 (some 9) (v := ?_) rfl rfl (by kernel_rfl) (by kernel_rfl) (by kernel_rfl) (fun _ _ _ h => h) (Or.inl ⟨by rfl, ?_⟩) hH ?_
  rotate_left
  · intro w hSw; obtain ⟨c0, c1, c2, f0, f1, f2⟩ := hSw.2.1.facts; go_simp; try with_reducible rfl
  try simp only [Act.put, List.setIfInBounds_toArray, List.set_cons_zero, List.set_cons_succ]
  refine takeD 7 (some 10) (v := ?_) rfl rfl (by kernel_rfl) (by kernel_rfl) (by kernel_rfl) (fun _ _ _ h => h) (Or.inl ⟨by rfl, ?_⟩) hH ?_
  rotate_left
  · intro w hSw; go_simp; try with_reducible rfl
  try simp only [Act.put, List.setIfInBounds_toArray, List.set_cons_zero, List.set_cons_succ]
  refine takeD 8 (some 11) (v := ?_) rfl rfl (by kernel_rfl) (by kernel_rfl) (by kernel_rfl) (fun _ _ _ h => h) (Or.inl ⟨by rfl, ?_⟩) hH ?_
  rotate_left
  · intro w hSw; go_simp; try with_reducible rfl
  try simp only [Act.put, List.setIfInBounds_toArray, List.set_cons_zero, List.set_cons_succ]
  refine takeD 9 (some 12) (v := ?_) rfl rfl (by kernel_rfl) (by kernel_rfl) (by kernel_rfl) (fun _ _ _ h => h) (Or.inl ⟨by rfl, ?_⟩) hH ?_
  rotate_left
  · intro w hSw; have c9 := hSw.1.tab 21 (fnV 138) rfl; unfold fnV at c9; go_simp; try with_reducible rfl
  try simp only [Act.put, List.setIfInBounds_toArray, List.set_cons_zero, List.set_cons_succ]
  refine takeD 10 (some 13) (v := ?_) rfl rfl (by kernel_rfl) (by kernel_rfl) (by kernel_rfl) (fun _ _ _ h => h) (Or.inl ⟨by rfl, ?_⟩) hH ?_
  rotate_left
  · intro w hSw; obtain ⟨c0, c1, c2, f0, f1, f2⟩ := hSw.2.1.facts; go_simp; try with_reducible rfl
  try simp only [Act.put, List.setIfInBounds_toArray, List.set_cons_zero, List.set_cons_succ]
  refine wpAnyH_ready (rs := [11]) (by kernel_rfl) (by simp) ?_
  refine AllReadyH.cons rfl (fun K hK => ?_) AllReadyH.nil
  go_simp
  go_at_call 138; refine (HV.out _ hH.1).mono ?_; rintro e w' ⟨rfl, hE⟩; replace hH : EnvS w' ∧ Rw w' w.heap.size 24 (opC 5 a v) ∧ Below w.heap.size w w' := ⟨hH.1.below hE, hH.2.1.below hE hH.2.1.lt, hH.2.2.trans (below_le hE hH.2.2.size)⟩
  go_wp2_with fail
  refine hK.out _ _ (hH) (fun hH => ?_)
  clear hK K
  try simp only [Act.put, List.setIfInBounds_toArray, List.set_cons_zero, List.set_cons_succ]
  refine takeD 12 (some 15) (v := ?_) rfl rfl (by kernel_rfl) (by kernel_rfl) (by kernel_rfl) (fun _ _ _ h => h) (Or.inl ⟨by rfl, ?_⟩) hH ?_
  rotate_left
  · intro w hSw; go_simp; try with_reducible rfl
  try simp only [Act.put, List.setIfInBounds_toArray, List.set_cons_zero, List.set_cons_succ]
  refine takeD 13 (some 16) (v := ?_) rfl rfl (by kernel_rfl) (by kernel_rfl) (by kernel_rfl) (fun _ _ _ h => h) (Or.inl ⟨by rfl, ?_⟩) hH ?_
  rotate_left
  · intro w hSw; go_simp; try with_reducible rfl
  try simp only [Act.put, List.setIfInBounds_toArray, List.set_cons_zero, List.set_cons_succ]
  refine wpAnyH_done (by kernel_rfl) ?_ _
  refine NoPanic.normal ?_
  cases z
  · go_wp2_with fail
    go_ret
    exact ⟨rfl, hH.2.2⟩
  · go_wp2_with fail
    go_ret
    exact ⟨rfl, hH.2.2⟩
set_option linter.unusedSimpArgs false in
set_option maxRecDepth 100000 in
set_option maxHeartbeats 4000000 in
theorem check_6 {w : World} (hw : EnvS w) (a : Int) (v : ByteArray) (hv : v.size ≤ 900000) :
    Calls Tryd.prog 21 #[opV 6 a v] w fun e w' => e = .returned (.int .i64 (if validB 6 a v.data.toList then 0 else 2)) ∧ Below w.heap.size w w' := by
  have hR := Rw.new w 24 (opC 6 a v)
  have hW := hw.below (below_al w (.cells (opC 6 a v) 24))
  have hB := below_al w (.cells (opC 6 a v) 24)
  have HV : Hid (∀ W : World, EnvS W → Calls Tryd.prog 139 #[.agg #[.int .i64 6, .int .i64 a, .string v]] W fun e w' => e = .returned (.bool (validB 6 a v.data.toList)) ∧ Below W.heap.size W w') := Lib.hid (fun W hW => valid_any hW 6 (by decide) 6 a v hv)
  obtain ⟨z, hz⟩ : ∃ z, validB 6 a v.data.toList = z := ⟨_, rfl⟩
  rw [hz] at HV ⊢
  clear hz
  unfold opV
  have hS : EnvS (w.alloc (Obj.cells (opC 6 a v) 24)).drew ∧ Rw (w.alloc (Obj.cells (opC 6 a v) 24)).drew w.heap.size 24 (opC 6 a v) ∧ Below w.heap.size w (w.alloc (Obj.cells (opC 6 a v) 24)).drew := ⟨hW.drew, hR, hB.drew⟩
  clear hW hR hB
  go_enter Tryd.func21, Tryd.ntmps21
  go_wp2_with fail
  refine wp_region_noPanic ?_
  refine wp_region_held_drew (S := fun w' => EnvS w' ∧ Rw w' w.heap.size 24 (opC 6 a v) ∧ Below w.heap.size w w') (by kernel_rfl) (hS) (fun hH => ?_)
  refine takeD 0 (some 3) (v := ?_) rfl rfl (by kernel_rfl) (by kernel_rfl) (by kernel_rfl) (fun _ _ _ h => h) (Or.inl ⟨by rfl, ?_⟩) hH ?_
  rotate_left
  · intro w hSw; go_simp; try with_reducible rfl
  try simp only [Act.put, List.setIfInBounds_toArray, List.set_cons_zero, List.set_cons_succ]
  refine takeD 1 (some 4) (v := ?_) rfl rfl (by kernel_rfl) (by kernel_rfl) (by kernel_rfl) (fun _ _ _ h => h) (Or.inl ⟨by rfl, ?_⟩) hH ?_
  rotate_left
  · intro w hSw; obtain ⟨c0, c1, c2, f0, f1, f2⟩ := hSw.2.1.facts; go_simp; try with_reducible rfl
  try simp only [Act.put, List.setIfInBounds_toArray, List.set_cons_zero, List.set_cons_succ]
  refine wpAnyH_ready (rs := [2]) (by kernel_rfl) (by simp) ?_
  refine AllReadyH.cons rfl (fun K hK => ?_) AllReadyH.nil
  go_simp
  go_at_call 47; refine (known_any 6 _).mono ?_; rintro e w' ⟨rfl, rfl⟩
  go_wp2_with fail
  refine hK.out _ _ (hH) (fun hH => ?_)
  clear hK K
  try simp only [Act.put, List.setIfInBounds_toArray, List.set_cons_zero, List.set_cons_succ]
  refine takeD 3 (some 6) (v := ?_) rfl rfl (by kernel_rfl) (by kernel_rfl) (by kernel_rfl) (fun _ _ _ h => h) (Or.inl ⟨by rfl, ?_⟩) hH ?_
  rotate_left
  · intro w hSw; go_simp; try with_reducible rfl
  try simp only [Act.put, List.setIfInBounds_toArray, List.set_cons_zero, List.set_cons_succ]
  refine takeD 4 (some 7) (v := ?_) rfl rfl (by kernel_rfl) (by kernel_rfl) (by kernel_rfl) (fun _ _ _ h => h) (Or.inl ⟨by rfl, ?_⟩) hH ?_
  rotate_left
  · intro w hSw; go_simp; try with_reducible rfl
  try simp only [Act.put, List.setIfInBounds_toArray, List.set_cons_zero, List.set_cons_succ]
  refine takeD 5 (some 8) (v := ?_) rfl rfl (by kernel_rfl) (by kernel_rfl) (by kernel_rfl) (fun _ _ _ h => h) (Or.inl ⟨by rfl, ?_⟩) hH ?_
  rotate_left
  · intro w hSw; go_simp; try with_reducible rfl
  try simp only [Act.put, List.setIfInBounds_toArray, List.set_cons_zero, List.set_cons_succ]
  refine takeD 6 (some 9) (v := ?_) rfl rfl (by kernel_rfl) (by kernel_rfl) (by kernel_rfl) (fun _ _ _ h => h) (Or.inl ⟨by rfl, ?_⟩) hH ?_
  rotate_left
  · intro w hSw; obtain ⟨c0, c1, c2, f0, f1, f2⟩ := hSw.2.1.facts; go_simp; try with_reducible rfl
  try simp only [Act.put, List.setIfInBounds_toArray, List.set_cons_zero, List.set_cons_succ]
  refine takeD 7 (some 10) (v := ?_) rfl rfl (by kernel_rfl) (by kernel_rfl) (by kernel_rfl) (fun _ _ _ h => h) (Or.inl ⟨by rfl, ?_⟩) hH ?_
  rotate_left
  · intro w hSw; go_simp; try with_reducible rfl
  try simp only [Act.put, List.setIfInBounds_toArray, List.set_cons_zero, List.set_cons_succ]
  refine takeD 8 (some 11) (v := ?_) rfl rfl (by kernel_rfl) (by kernel_rfl) (by kernel_rfl) (fun _ _ _ h => h) (Or.inl ⟨by rfl, ?_⟩) hH ?_
  rotate_left
  · intro w hSw; go_simp; try with_reducible rfl
  try simp only [Act.put, List.setIfInBounds_toArray, List.set_cons_zero, List.set_cons_succ]
  refine takeD 9 (some 12) (v := ?_) rfl rfl (by kernel_rfl) (by kernel_rfl) (by kernel_rfl) (fun _ _ _ h => h) (Or.inl ⟨by rfl, ?_⟩) hH ?_
  rotate_left
  · intro w hSw; have c9 := hSw.1.tab 25 (fnV 139) rfl; unfold fnV at c9; go_simp; try with_reducible rfl
  try simp only [Act.put, List.setIfInBounds_toArray, List.set_cons_zero, List.set_cons_succ]
  refine takeD 10 (some 13) (v := ?_) rfl rfl (by kernel_rfl) (by kernel_rfl) (by kernel_rfl) (fun _ _ _ h => h) (Or.inl ⟨by rfl, ?_⟩) hH ?_
  rotate_left
  · intro w hSw; obtain ⟨c0, c1, c2, f0, f1, f2⟩ := hSw.2.1.facts; go_simp; try with_reducible rfl
  try simp only [Act.put, List.setIfInBounds_toArray, List.set_cons_zero, List.set_cons_succ]
  refine wpAnyH_ready (rs := [11]) (by kernel_rfl) (by simp) ?_
  refine AllReadyH.cons rfl (fun K hK => ?_) AllReadyH.nil
  go_simp
  go_at_call 139; refine (HV.out _ hH.1).mono ?_; rintro e w' ⟨rfl, hE⟩; replace hH : EnvS w' ∧ Rw w' w.heap.size 24 (opC 6 a v) ∧ Below w.heap.size w w' := ⟨hH.1.below hE, hH.2.1.below hE hH.2.1.lt, hH.2.2.trans (below_le hE hH.2.2.size)⟩
  go_wp2_with fail
  refine hK.out _ _ (hH) (fun hH => ?_)
  clear hK K
  try simp only [Act.put, List.setIfInBounds_toArray, List.set_cons_zero, List.set_cons_succ]
  refine takeD 12 (some 15) (v := ?_) rfl rfl (by kernel_rfl) (by kernel_rfl) (by kernel_rfl) (fun _ _ _ h => h) (Or.inl ⟨by rfl, ?_⟩) hH ?_
  rotate_left
  · intro w hSw; go_simp; try with_reducible rfl
  try simp only [Act.put, List.setIfInBounds_toArray, List.set_cons_zero, List.set_cons_succ]
  refine takeD 13 (some 16) (v := ?_) rfl rfl (by kernel_rfl) (by kernel_rfl) (by kernel_rfl) (fun _ _ _ h => h) (Or.inl ⟨by rfl, ?_⟩) hH ?_
  rotate_left
  · intro w hSw; go_simp; try with_reducible rfl
  try simp only [Act.put, List.setIfInBounds_toArray, List.set_cons_zero, List.set_cons_succ]
  refine wpAnyH_done (by kernel_rfl) ?_ _
  refine NoPanic.normal ?_
  cases z
  · go_wp2_with fail
    go_ret
    exact ⟨rfl, hH.2.2⟩
  · go_wp2_with fail
    go_ret
    exact ⟨rfl, hH.2.2⟩
set_option linter.unusedSimpArgs false in
set_option maxRecDepth 100000 in
set_option maxHeartbeats 4000000 in
theorem check_7 {w : World} (hw : EnvS w) (a : Int) (v : ByteArray) (hv : v.size ≤ 900000) :
    Calls Tryd.prog 21 #[opV 7 a v] w fun e w' => e = .returned (.int .i64 (if validB 7 a v.data.toList then 0 else 2)) ∧ Below w.heap.size w w' := by
  have hR := Rw.new w 24 (opC 7 a v)
  have hW := hw.below (below_al w (.cells (opC 7 a v) 24))
  have hB := below_al w (.cells (opC 7 a v) 24)
  have HV : Hid (∀ W : World, EnvS W → Calls Tryd.prog 139 #[.agg #[.int .i64 7, .int .i64 a, .string v]] W fun e w' => e = .returned (.bool (validB 7 a v.data.toList)) ∧ Below W.heap.size W w') := Lib.hid (fun W hW => valid_any hW 7 (by decide) 7 a v hv)
  obtain ⟨z, hz⟩ : ∃ z, validB 7 a v.data.toList = z := ⟨_, rfl⟩
  rw [hz] at HV ⊢
  clear hz
  unfold opV
  have hS : EnvS (w.alloc (Obj.cells (opC 7 a v) 24)).drew ∧ Rw (w.alloc (Obj.cells (opC 7 a v) 24)).drew w.heap.size 24 (opC 7 a v) ∧ Below w.heap.size w (w.alloc (Obj.cells (opC 7 a v) 24)).drew := ⟨hW.drew, hR, hB.drew⟩
  clear hW hR hB
  go_enter Tryd.func21, Tryd.ntmps21
  go_wp2_with fail
  refine wp_region_noPanic ?_
  refine wp_region_held_drew (S := fun w' => EnvS w' ∧ Rw w' w.heap.size 24 (opC 7 a v) ∧ Below w.heap.size w w') (by kernel_rfl) (hS) (fun hH => ?_)
  refine takeD 0 (some 3) (v := ?_) rfl rfl (by kernel_rfl) (by kernel_rfl) (by kernel_rfl) (fun _ _ _ h => h) (Or.inl ⟨by rfl, ?_⟩) hH ?_
  rotate_left
  · intro w hSw; go_simp; try with_reducible rfl
  try simp only [Act.put, List.setIfInBounds_toArray, List.set_cons_zero, List.set_cons_succ]
  refine takeD 1 (some 4) (v := ?_) rfl rfl (by kernel_rfl) (by kernel_rfl) (by kernel_rfl) (fun _ _ _ h => h) (Or.inl ⟨by rfl, ?_⟩) hH ?_
  rotate_left
  · intro w hSw; obtain ⟨c0, c1, c2, f0, f1, f2⟩ := hSw.2.1.facts; go_simp; try with_reducible rfl
  try simp only [Act.put, List.setIfInBounds_toArray, List.set_cons_zero, List.set_cons_succ]
  refine wpAnyH_ready (rs := [2]) (by kernel_rfl) (by simp) ?_
  refine AllReadyH.cons rfl (fun K hK => ?_) AllReadyH.nil
  go_simp
  go_at_call 47; refine (known_any 7 _).mono ?_; rintro e w' ⟨rfl, rfl⟩
  go_wp2_with fail
  refine hK.out _ _ (hH) (fun hH => ?_)
  clear hK K
  try simp only [Act.put, List.setIfInBounds_toArray, List.set_cons_zero, List.set_cons_succ]
  refine takeD 3 (some 6) (v := ?_) rfl rfl (by kernel_rfl) (by kernel_rfl) (by kernel_rfl) (fun _ _ _ h => h) (Or.inl ⟨by rfl, ?_⟩) hH ?_
  rotate_left
  · intro w hSw; go_simp; try with_reducible rfl
  try simp only [Act.put, List.setIfInBounds_toArray, List.set_cons_zero, List.set_cons_succ]
  refine takeD 4 (some 7) (v := ?_) rfl rfl (by kernel_rfl) (by kernel_rfl) (by kernel_rfl) (fun _ _ _ h => h) (Or.inl ⟨by rfl, ?_⟩) hH ?_
  rotate_left
  · intro w hSw; go_simp; try with_reducible rfl
  try simp only [Act.put, List.setIfInBounds_toArray, List.set_cons_zero, List.set_cons_succ]
  refine takeD 5 (some 8) (v := ?_) rfl rfl (by kernel_rfl) (by kernel_rfl) (by kernel_rfl) (fun _ _ _ h => h) (Or.inl ⟨by rfl, ?_⟩) hH ?_
  rotate_left
  · intro w hSw; go_simp; try with_reducible rfl
  try simp only [Act.put, List.setIfInBounds_toArray, List.set_cons_zero, List.set_cons_succ]
  refine takeD 6 (some 9) (v := ?_) rfl rfl (by kernel_rfl) (by kernel_rfl) (by kernel_rfl) (fun _ _ _ h => h) (Or.inl ⟨by rfl, ?_⟩) hH ?_
  rotate_left
  · intro w hSw; obtain ⟨c0, c1, c2, f0, f1, f2⟩ := hSw.2.1.facts; go_simp; try with_reducible rfl
  try simp only [Act.put, List.setIfInBounds_toArray, List.set_cons_zero, List.set_cons_succ]
  refine takeD 7 (some 10) (v := ?_) rfl rfl (by kernel_rfl) (by kernel_rfl) (by kernel_rfl) (fun _ _ _ h => h) (Or.inl ⟨by rfl, ?_⟩) hH ?_
  rotate_left
  · intro w hSw; go_simp; try with_reducible rfl
  try simp only [Act.put, List.setIfInBounds_toArray, List.set_cons_zero, List.set_cons_succ]
  refine takeD 8 (some 11) (v := ?_) rfl rfl (by kernel_rfl) (by kernel_rfl) (by kernel_rfl) (fun _ _ _ h => h) (Or.inl ⟨by rfl, ?_⟩) hH ?_
  rotate_left
  · intro w hSw; go_simp; try with_reducible rfl
  try simp only [Act.put, List.setIfInBounds_toArray, List.set_cons_zero, List.set_cons_succ]
  refine takeD 9 (some 12) (v := ?_) rfl rfl (by kernel_rfl) (by kernel_rfl) (by kernel_rfl) (fun _ _ _ h => h) (Or.inl ⟨by rfl, ?_⟩) hH ?_
  rotate_left
  · intro w hSw; have c9 := hSw.1.tab 29 (fnV 139) rfl; unfold fnV at c9; go_simp; try with_reducible rfl
  try simp only [Act.put, List.setIfInBounds_toArray, List.set_cons_zero, List.set_cons_succ]
  refine takeD 10 (some 13) (v := ?_) rfl rfl (by kernel_rfl) (by kernel_rfl) (by kernel_rfl) (fun _ _ _ h => h) (Or.inl ⟨by rfl, ?_⟩) hH ?_
  rotate_left
  · intro w hSw; obtain ⟨c0, c1, c2, f0, f1, f2⟩ := hSw.2.1.facts; go_simp; try with_reducible rfl
  try simp only [Act.put, List.setIfInBounds_toArray, List.set_cons_zero, List.set_cons_succ]
  refine wpAnyH_ready (rs := [11]) (by kernel_rfl) (by simp) ?_
  refine AllReadyH.cons rfl (fun K hK => ?_) AllReadyH.nil
  go_simp
  go_at_call 139; refine (HV.out _ hH.1).mono ?_; rintro e w' ⟨rfl, hE⟩; replace hH : EnvS w' ∧ Rw w' w.heap.size 24 (opC 7 a v) ∧ Below w.heap.size w w' := ⟨hH.1.below hE, hH.2.1.below hE hH.2.1.lt, hH.2.2.trans (below_le hE hH.2.2.size)⟩
  go_wp2_with fail
  refine hK.out _ _ (hH) (fun hH => ?_)
  clear hK K
  try simp only [Act.put, List.setIfInBounds_toArray, List.set_cons_zero, List.set_cons_succ]
  refine takeD 12 (some 15) (v := ?_) rfl rfl (by kernel_rfl) (by kernel_rfl) (by kernel_rfl) (fun _ _ _ h => h) (Or.inl ⟨by rfl, ?_⟩) hH ?_
  rotate_left
  · intro w hSw; go_simp; try with_reducible rfl
  try simp only [Act.put, List.setIfInBounds_toArray, List.set_cons_zero, List.set_cons_succ]
  refine takeD 13 (some 16) (v := ?_) rfl rfl (by kernel_rfl) (by kernel_rfl) (by kernel_rfl) (fun _ _ _ h => h) (Or.inl ⟨by rfl, ?_⟩) hH ?_
  rotate_left
  · intro w hSw; go_simp; try with_reducible rfl
  try simp only [Act.put, List.setIfInBounds_toArray, List.set_cons_zero, List.set_cons_succ]
  refine wpAnyH_done (by kernel_rfl) ?_ _
  refine NoPanic.normal ?_
  cases z
  · go_wp2_with fail
    go_ret
    exact ⟨rfl, hH.2.2⟩
  · go_wp2_with fail
    go_ret
    exact ⟨rfl, hH.2.2⟩
set_option linter.unusedSimpArgs false in
set_option maxRecDepth 100000 in
set_option maxHeartbeats 4000000 in
theorem check_8 {w : World} (hw : EnvS w) (a : Int) (v : ByteArray) (hv : v.size ≤ 900000) :
    Calls Tryd.prog 21 #[opV 8 a v] w fun e w' => e = .returned (.int .i64 (if validB 8 a v.data.toList then 0 else 2)) ∧ Below w.heap.size w w' := by
  have hR := Rw.new w 24 (opC 8 a v)
  have hW := hw.below (below_al w (.cells (opC 8 a v) 24))
  have hB := below_al w (.cells (opC 8 a v) 24)
  have HV : Hid (∀ W : World, EnvS W → Calls Tryd.prog 142 #[.agg #[.int .i64 8, .int .i64 a, .string v]] W fun e w' => e = .returned (.bool (validB 8 a v.data.toList)) ∧ Below W.heap.size W w') := Lib.hid (fun W hW => valid_any hW 8 (by decide) 8 a v hv)
  obtain ⟨z, hz⟩ : ∃ z, validB 8 a v.data.toList = z := ⟨_, rfl⟩
  rw [hz] at HV ⊢
  clear hz
  unfold opV
  have hS : EnvS (w.alloc (Obj.cells (opC 8 a v) 24)).drew ∧ Rw (w.alloc (Obj.cells (opC 8 a v) 24)).drew w.heap.size 24 (opC 8 a v) ∧ Below w.heap.size w (w.alloc (Obj.cells (opC 8 a v) 24)).drew := ⟨hW.drew, hR, hB.drew⟩
  clear hW hR hB
  go_enter Tryd.func21, Tryd.ntmps21
  go_wp2_with fail
  refine wp_region_noPanic ?_
  refine wp_region_held_drew (S := fun w' => EnvS w' ∧ Rw w' w.heap.size 24 (opC 8 a v) ∧ Below w.heap.size w w') (by kernel_rfl) (hS) (fun hH => ?_)
  refine takeD 0 (some 3) (v := ?_) rfl rfl (by kernel_rfl) (by kernel_rfl) (by kernel_rfl) (fun _ _ _ h => h) (Or.inl ⟨by rfl, ?_⟩) hH ?_
  rotate_left
  · intro w hSw; go_simp; try with_reducible rfl
  try simp only [Act.put, List.setIfInBounds_toArray, List.set_cons_zero, List.set_cons_succ]
  refine takeD 1 (some 4) (v := ?_) rfl rfl (by kernel_rfl) (by kernel_rfl) (by kernel_rfl) (fun _ _ _ h => h) (Or.inl ⟨by rfl, ?_⟩) hH ?_
  rotate_left
  · intro w hSw; obtain ⟨c0, c1, c2, f0, f1, f2⟩ := hSw.2.1.facts; go_simp; try with_reducible rfl
  try simp only [Act.put, List.setIfInBounds_toArray, List.set_cons_zero, List.set_cons_succ]
  refine wpAnyH_ready (rs := [2]) (by kernel_rfl) (by simp) ?_
  refine AllReadyH.cons rfl (fun K hK => ?_) AllReadyH.nil
  go_simp
  go_at_call 47; refine (known_any 8 _).mono ?_; rintro e w' ⟨rfl, rfl⟩
  go_wp2_with fail
  refine hK.out _ _ (hH) (fun hH => ?_)
  clear hK K
  try simp only [Act.put, List.setIfInBounds_toArray, List.set_cons_zero, List.set_cons_succ]
  refine takeD 3 (some 6) (v := ?_) rfl rfl (by kernel_rfl) (by kernel_rfl) (by kernel_rfl) (fun _ _ _ h => h) (Or.inl ⟨by rfl, ?_⟩) hH ?_
  rotate_left
  · intro w hSw; go_simp; try with_reducible rfl
  try simp only [Act.put, List.setIfInBounds_toArray, List.set_cons_zero, List.set_cons_succ]
  refine takeD 4 (some 7) (v := ?_) rfl rfl (by kernel_rfl) (by kernel_rfl) (by kernel_rfl) (fun _ _ _ h => h) (Or.inl ⟨by rfl, ?_⟩) hH ?_
  rotate_left
  · intro w hSw; go_simp; try with_reducible rfl
  try simp only [Act.put, List.setIfInBounds_toArray, List.set_cons_zero, List.set_cons_succ]
  refine takeD 5 (some 8) (v := ?_) rfl rfl (by kernel_rfl) (by kernel_rfl) (by kernel_rfl) (fun _ _ _ h => h) (Or.inl ⟨by rfl, ?_⟩) hH ?_
  rotate_left
  · intro w hSw; go_simp; try with_reducible rfl
  try simp only [Act.put, List.setIfInBounds_toArray, List.set_cons_zero, List.set_cons_succ]
  refine takeD 6 (some 9) (v := ?_) rfl rfl (by kernel_rfl) (by kernel_rfl) (by kernel_rfl) (fun _ _ _ h => h) (Or.inl ⟨by rfl, ?_⟩) hH ?_
  rotate_left
  · intro w hSw; obtain ⟨c0, c1, c2, f0, f1, f2⟩ := hSw.2.1.facts; go_simp; try with_reducible rfl
  try simp only [Act.put, List.setIfInBounds_toArray, List.set_cons_zero, List.set_cons_succ]
  refine takeD 7 (some 10) (v := ?_) rfl rfl (by kernel_rfl) (by kernel_rfl) (by kernel_rfl) (fun _ _ _ h => h) (Or.inl ⟨by rfl, ?_⟩) hH ?_
  rotate_left
  · intro w hSw; go_simp; try with_reducible rfl
  try simp only [Act.put, List.setIfInBounds_toArray, List.set_cons_zero, List.set_cons_succ]
  refine takeD 8 (some 11) (v := ?_) rfl rfl (by kernel_rfl) (by kernel_rfl) (by kernel_rfl) (fun _ _ _ h => h) (Or.inl ⟨by rfl, ?_⟩) hH ?_
  rotate_left
  · intro w hSw; go_simp; try with_reducible rfl
  try simp only [Act.put, List.setIfInBounds_toArray, List.set_cons_zero, List.set_cons_succ]
  refine takeD 9 (some 12) (v := ?_) rfl rfl (by kernel_rfl) (by kernel_rfl) (by kernel_rfl) (fun _ _ _ h => h) (Or.inl ⟨by rfl, ?_⟩) hH ?_
  rotate_left
  · intro w hSw; have c9 := hSw.1.tab 33 (fnV 142) rfl; unfold fnV at c9; go_simp; try with_reducible rfl
  try simp only [Act.put, List.setIfInBounds_toArray, List.set_cons_zero, List.set_cons_succ]
  refine takeD 10 (some 13) (v := ?_) rfl rfl (by kernel_rfl) (by kernel_rfl) (by kernel_rfl) (fun _ _ _ h => h) (Or.inl ⟨by rfl, ?_⟩) hH ?_
  rotate_left
  · intro w hSw; obtain ⟨c0, c1, c2, f0, f1, f2⟩ := hSw.2.1.facts; go_simp; try with_reducible rfl
  try simp only [Act.put, List.setIfInBounds_toArray, List.set_cons_zero, List.set_cons_succ]
  refine wpAnyH_ready (rs := [11]) (by kernel_rfl) (by simp) ?_
  refine AllReadyH.cons rfl (fun K hK => ?_) AllReadyH.nil
  go_simp
  go_at_call 142; refine (HV.out _ hH.1).mono ?_; rintro e w' ⟨rfl, hE⟩; replace hH : EnvS w' ∧ Rw w' w.heap.size 24 (opC 8 a v) ∧ Below w.heap.size w w' := ⟨hH.1.below hE, hH.2.1.below hE hH.2.1.lt, hH.2.2.trans (below_le hE hH.2.2.size)⟩
  go_wp2_with fail
  refine hK.out _ _ (hH) (fun hH => ?_)
  clear hK K
  try simp only [Act.put, List.setIfInBounds_toArray, List.set_cons_zero, List.set_cons_succ]
  refine takeD 12 (some 15) (v := ?_) rfl rfl (by kernel_rfl) (by kernel_rfl) (by kernel_rfl) (fun _ _ _ h => h) (Or.inl ⟨by rfl, ?_⟩) hH ?_
  rotate_left
  · intro w hSw; go_simp; try with_reducible rfl
  try simp only [Act.put, List.setIfInBounds_toArray, List.set_cons_zero, List.set_cons_succ]
  refine takeD 13 (some 16) (v := ?_) rfl rfl (by kernel_rfl) (by kernel_rfl) (by kernel_rfl) (fun _ _ _ h => h) (Or.inl ⟨by rfl, ?_⟩) hH ?_
  rotate_left
  · intro w hSw; go_simp; try with_reducible rfl
  try simp only [Act.put, List.setIfInBounds_toArray, List.set_cons_zero, List.set_cons_succ]
  refine wpAnyH_done (by kernel_rfl) ?_ _
  refine NoPanic.normal ?_
  cases z
  · go_wp2_with fail
    go_ret
    exact ⟨rfl, hH.2.2⟩
  · go_wp2_with fail
    go_ret
    exact ⟨rfl, hH.2.2⟩
set_option linter.unusedSimpArgs false in
set_option maxRecDepth 100000 in
set_option maxHeartbeats 4000000 in
theorem check_9 {w : World} (hw : EnvS w) (a : Int) (v : ByteArray) (hv : v.size ≤ 900000) :
    Calls Tryd.prog 21 #[opV 9 a v] w fun e w' => e = .returned (.int .i64 (if validB 9 a v.data.toList then 0 else 2)) ∧ Below w.heap.size w w' := by
  have hR := Rw.new w 24 (opC 9 a v)
  have hW := hw.below (below_al w (.cells (opC 9 a v) 24))
  have hB := below_al w (.cells (opC 9 a v) 24)
  have HV : Hid (∀ W : World, EnvS W → Calls Tryd.prog 139 #[.agg #[.int .i64 9, .int .i64 a, .string v]] W fun e w' => e = .returned (.bool (validB 9 a v.data.toList)) ∧ Below W.heap.size W w') := Lib.hid (fun W hW => valid_any hW 9 (by decide) 9 a v hv)
  obtain ⟨z, hz⟩ : ∃ z, validB 9 a v.data.toList = z := ⟨_, rfl⟩
  rw [hz] at HV ⊢
  clear hz
  unfold opV
  have hS : EnvS (w.alloc (Obj.cells (opC 9 a v) 24)).drew ∧ Rw (w.alloc (Obj.cells (opC 9 a v) 24)).drew w.heap.size 24 (opC 9 a v) ∧ Below w.heap.size w (w.alloc (Obj.cells (opC 9 a v) 24)).drew := ⟨hW.drew, hR, hB.drew⟩
  clear hW hR hB
  go_enter Tryd.func21, Tryd.ntmps21
  go_wp2_with fail
  refine wp_region_noPanic ?_
  refine wp_region_held_drew (S := fun w' => EnvS w' ∧ Rw w' w.heap.size 24 (opC 9 a v) ∧ Below w.heap.size w w') (by kernel_rfl) (hS) (fun hH => ?_)
  refine takeD 0 (some 3) (v := ?_) rfl rfl (by kernel_rfl) (by kernel_rfl) (by kernel_rfl) (fun _ _ _ h => h) (Or.inl ⟨by rfl, ?_⟩) hH ?_
  rotate_left
  · intro w hSw; go_simp; try with_reducible rfl
  try simp only [Act.put, List.setIfInBounds_toArray, List.set_cons_zero, List.set_cons_succ]
  refine takeD 1 (some 4) (v := ?_) rfl rfl (by kernel_rfl) (by kernel_rfl) (by kernel_rfl) (fun _ _ _ h => h) (Or.inl ⟨by rfl, ?_⟩) hH ?_
  rotate_left
  · intro w hSw; obtain ⟨c0, c1, c2, f0, f1, f2⟩ := hSw.2.1.facts; go_simp; try with_reducible rfl
  try simp only [Act.put, List.setIfInBounds_toArray, List.set_cons_zero, List.set_cons_succ]
  refine wpAnyH_ready (rs := [2]) (by kernel_rfl) (by simp) ?_
  refine AllReadyH.cons rfl (fun K hK => ?_) AllReadyH.nil
  go_simp
  go_at_call 47; refine (known_any 9 _).mono ?_; rintro e w' ⟨rfl, rfl⟩
  go_wp2_with fail
  refine hK.out _ _ (hH) (fun hH => ?_)
  clear hK K
  try simp only [Act.put, List.setIfInBounds_toArray, List.set_cons_zero, List.set_cons_succ]
  refine takeD 3 (some 6) (v := ?_) rfl rfl (by kernel_rfl) (by kernel_rfl) (by kernel_rfl) (fun _ _ _ h => h) (Or.inl ⟨by rfl, ?_⟩) hH ?_
  rotate_left
  · intro w hSw; go_simp; try with_reducible rfl
  try simp only [Act.put, List.setIfInBounds_toArray, List.set_cons_zero, List.set_cons_succ]
  refine takeD 4 (some 7) (v := ?_) rfl rfl (by kernel_rfl) (by kernel_rfl) (by kernel_rfl) (fun _ _ _ h => h) (Or.inl ⟨by rfl, ?_⟩) hH ?_
  rotate_left
  · intro w hSw; go_simp; try with_reducible rfl
  try simp only [Act.put, List.setIfInBounds_toArray, List.set_cons_zero, List.set_cons_succ]
  refine takeD 5 (some 8) (v := ?_) rfl rfl (by kernel_rfl) (by kernel_rfl) (by kernel_rfl) (fun _ _ _ h => h) (Or.inl ⟨by rfl, ?_⟩) hH ?_
  rotate_left
  · intro w hSw; go_simp; try with_reducible rfl
  try simp only [Act.put, List.setIfInBounds_toArray, List.set_cons_zero, List.set_cons_succ]
  refine takeD 6 (some 9) (v := ?_) rfl rfl (by kernel_rfl) (by kernel_rfl) (by kernel_rfl) (fun _ _ _ h => h) (Or.inl ⟨by rfl, ?_⟩) hH ?_
  rotate_left
  · intro w hSw; obtain ⟨c0, c1, c2, f0, f1, f2⟩ := hSw.2.1.facts; go_simp; try with_reducible rfl
  try simp only [Act.put, List.setIfInBounds_toArray, List.set_cons_zero, List.set_cons_succ]
  refine takeD 7 (some 10) (v := ?_) rfl rfl (by kernel_rfl) (by kernel_rfl) (by kernel_rfl) (fun _ _ _ h => h) (Or.inl ⟨by rfl, ?_⟩) hH ?_
  rotate_left
  · intro w hSw; go_simp; try with_reducible rfl
  try simp only [Act.put, List.setIfInBounds_toArray, List.set_cons_zero, List.set_cons_succ]
  refine takeD 8 (some 11) (v := ?_) rfl rfl (by kernel_rfl) (by kernel_rfl) (by kernel_rfl) (fun _ _ _ h => h) (Or.inl ⟨by rfl, ?_⟩) hH ?_
  rotate_left
  · intro w hSw; go_simp; try with_reducible rfl
  try simp only [Act.put, List.setIfInBounds_toArray, List.set_cons_zero, List.set_cons_succ]
  refine takeD 9 (some 12) (v := ?_) rfl rfl (by kernel_rfl) (by kernel_rfl) (by kernel_rfl) (fun _ _ _ h => h) (Or.inl ⟨by rfl, ?_⟩) hH ?_
  rotate_left
  · intro w hSw; have c9 := hSw.1.tab 37 (fnV 139) rfl; unfold fnV at c9; go_simp; try with_reducible rfl
  try simp only [Act.put, List.setIfInBounds_toArray, List.set_cons_zero, List.set_cons_succ]
  refine takeD 10 (some 13) (v := ?_) rfl rfl (by kernel_rfl) (by kernel_rfl) (by kernel_rfl) (fun _ _ _ h => h) (Or.inl ⟨by rfl, ?_⟩) hH ?_
  rotate_left
  · intro w hSw; obtain ⟨c0, c1, c2, f0, f1, f2⟩ := hSw.2.1.facts; go_simp; try with_reducible rfl
  try simp only [Act.put, List.setIfInBounds_toArray, List.set_cons_zero, List.set_cons_succ]
  refine wpAnyH_ready (rs := [11]) (by kernel_rfl) (by simp) ?_
  refine AllReadyH.cons rfl (fun K hK => ?_) AllReadyH.nil
  go_simp
  go_at_call 139; refine (HV.out _ hH.1).mono ?_; rintro e w' ⟨rfl, hE⟩; replace hH : EnvS w' ∧ Rw w' w.heap.size 24 (opC 9 a v) ∧ Below w.heap.size w w' := ⟨hH.1.below hE, hH.2.1.below hE hH.2.1.lt, hH.2.2.trans (below_le hE hH.2.2.size)⟩
  go_wp2_with fail
  refine hK.out _ _ (hH) (fun hH => ?_)
  clear hK K
  try simp only [Act.put, List.setIfInBounds_toArray, List.set_cons_zero, List.set_cons_succ]
  refine takeD 12 (some 15) (v := ?_) rfl rfl (by kernel_rfl) (by kernel_rfl) (by kernel_rfl) (fun _ _ _ h => h) (Or.inl ⟨by rfl, ?_⟩) hH ?_
  rotate_left
  · intro w hSw; go_simp; try with_reducible rfl
  try simp only [Act.put, List.setIfInBounds_toArray, List.set_cons_zero, List.set_cons_succ]
  refine takeD 13 (some 16) (v := ?_) rfl rfl (by kernel_rfl) (by kernel_rfl) (by kernel_rfl) (fun _ _ _ h => h) (Or.inl ⟨by rfl, ?_⟩) hH ?_
  rotate_left
  · intro w hSw; go_simp; try with_reducible rfl
  try simp only [Act.put, List.setIfInBounds_toArray, List.set_cons_zero, List.set_cons_succ]
  refine wpAnyH_done (by kernel_rfl) ?_ _
  refine NoPanic.normal ?_
  cases z
  · go_wp2_with fail
    go_ret
    exact ⟨rfl, hH.2.2⟩
  · go_wp2_with fail
    go_ret
    exact ⟨rfl, hH.2.2⟩
def chkZ (k a : Int) (v : List UInt8) : Int := if 0 < k ∧ k < 10 ∧ validB k.toNat a v = true then 0 else 2
theorem check_any {w : World} (hw : EnvS w) (k a : Int) (v : ByteArray) (hv : v.size ≤ 900000) :
    Calls Tryd.prog 21 #[opV k a v] w fun e w' => e = .returned (.int .i64 (chkZ k a v.data.toList)) ∧ Below w.heap.size w w' := by
  by_cases hk : 0 < k ∧ k < 10
  · have hk' : k = 1 ∨ k = 2 ∨ k = 3 ∨ k = 4 ∨ k = 5 ∨ k = 6 ∨ k = 7 ∨ k = 8 ∨ k = 9 := by omega
    have hz : ∀ n : Nat, 0 < n → n < 10 → chkZ (n : Int) a v.data.toList = if validB n a v.data.toList then 0 else 2 := fun n h1 h2 => by
      unfold chkZ; rw [Int.toNat_natCast]; by_cases h : validB n a v.data.toList = true
      · rw [if_pos ⟨by omega, by omega, h⟩, if_pos h]
      · rw [if_neg (fun e => h e.2.2), if_neg h]
    rcases hk' with rfl | rfl | rfl | rfl | rfl | rfl | rfl | rfl | rfl
    · have e := hz 1 (by decide) (by decide); rw [show (((1 : Nat) : Int)) = 1 from rfl] at e; rw [e]; exact check_1 hw a v hv
    · have e := hz 2 (by decide) (by decide); rw [show (((2 : Nat) : Int)) = 2 from rfl] at e; rw [e]; exact check_2 hw a v hv
    · have e := hz 3 (by decide) (by decide); rw [show (((3 : Nat) : Int)) = 3 from rfl] at e; rw [e]; exact check_3 hw a v hv
    · have e := hz 4 (by decide) (by decide); rw [show (((4 : Nat) : Int)) = 4 from rfl] at e; rw [e]; exact check_4 hw a v hv
    · have e := hz 5 (by decide) (by decide); rw [show (((5 : Nat) : Int)) = 5 from rfl] at e; rw [e]; exact check_5 hw a v hv
    · have e := hz 6 (by decide) (by decide); rw [show (((6 : Nat) : Int)) = 6 from rfl] at e; rw [e]; exact check_6 hw a v hv
    · have e := hz 7 (by decide) (by decide); rw [show (((7 : Nat) : Int)) = 7 from rfl] at e; rw [e]; exact check_7 hw a v hv
    · have e := hz 8 (by decide) (by decide); rw [show (((8 : Nat) : Int)) = 8 from rfl] at e; rw [e]; exact check_8 hw a v hv
    · have e := hz 9 (by decide) (by decide); rw [show (((9 : Nat) : Int)) = 9 from rfl] at e; rw [e]; exact check_9 hw a v hv
  · have : chkZ k a v.data.toList = 2 := by unfold chkZ; rw [if_neg (fun e => hk ⟨e.1, e.2.1⟩)]
    rw [this]; exact check_no k a v hk w
end Go.Proofs.YtjjnjglbmneecaaDoor
