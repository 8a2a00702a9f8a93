/- The contract of script.Print, at each kind. Printed by spp.py. -/
import Derived.Test.YtjjnjglbmneecaaDoorSpr
namespace Go.Proofs.YtjjnjglbmneecaaDoor
open Go Go.RowKit
theorem run_store_func' {P : Program} {w : World} {a : Addr} {m : Mode} (f : Fn) (x y : Array Value) : (store a (.func f x y) m).run P w = stored P w a (.func f x y) m := run_store P w a _ m rfl
attribute [local go_sem] run_store_func'
theorem Rw.facts4 {w : World} {g : Nat} {t : TypeId} {a b c d : Value} (h : Rw w g t #[a, b, c, d]) : w.cell? ⟨g, 0, none⟩ = some a ∧ w.cell? ⟨g, 1, none⟩ = some b ∧ w.cell? ⟨g, 2, none⟩ = some c ∧ w.cell? ⟨g, 3, none⟩ = some d :=
  ⟨by rw [Lib.cell_of_heap h]; rfl, by rw [Lib.cell_of_heap h]; rfl, by rw [Lib.cell_of_heap h]; rfl, by rw [Lib.cell_of_heap h]; rfl⟩
set_option linter.unusedSimpArgs false in
set_option maxRecDepth 100000 in
set_option maxHeartbeats 4000000 in
theorem print_1 {w : World} (hw : EnvS w) (a : Int) (v : ByteArray) (hv : v.size ≤ 900000) (h0 : -9223372036854775808 ≤ a) (h1 : a ≤ 9223372036854775807) (hc : chkZ 1 a v.data.toList = 0) {s : List UInt8} (hs : encP 1 a v.data.toList = s) (hsl : s.length ≤ 5000000) :
    Calls Tryd.prog 20 #[opV 1 a v] w fun e w' => e = .returned (.tuple #[.string (⟨#[105, 110, 103, 101, 115, 116]⟩ ++ ⟨s.toArray⟩), .int .i64 0]) ∧ Below w.heap.size w w' := by
  have hB := Lib.hid (below_al w (.cells (opC 1 a v) 24))
  have hR := Lib.hid (Rw.new w 24 (opC 1 a v))
  have hW := Lib.hid (hw.below hB.out)
  have HC := Lib.hid (check_any hW.out 1 a v hv)
  have HV : Hid (∀ W : World, EnvS W → Calls Tryd.prog 133 #[.agg #[.int .i64 1, .int .i64 a, .string v]] W fun e w' => e = .returned (.string ⟨s.toArray⟩) ∧ Below W.heap.size W w') := Lib.hid (fun W hW => by rw [← hs]; exact enc_any hW 1 (by decide) 1 a v hv h0 h1)
  rw [hc] at HC
  unfold opV at HC ⊢
  clear hc hs
  have hlt : w.heap.size < (w.alloc (.cells (opC 1 a v) 24)).heap.size := by simp
  go_enter Tryd.func20, Tryd.ntmps20
  go_wp2_with (go_at_call 21; refine HC.out.mono ?_; rintro e w1 ⟨rfl, hE⟩; have hR1 := Lib.hid (hR.out.below hE hlt); have hW1 := Lib.hid (hW.out.below hE); have hB1 := Lib.hid (hB.out.trans (below_le hE (Nat.le_of_lt hlt))); obtain ⟨c0, c1, c2, f0, f1, f2⟩ := hR1.out.facts; have t0 := hW1.out.tab 4 _ rfl; have t1 : w1.cell? ⟨0, 5, none⟩ = some (.func (.func 132) #[] #[]) := hW1.out.tab 5 _ rfl; have t2 : w1.cell? ⟨0, 6, none⟩ = some (.func (.func 133) #[] #[]) := hW1.out.tab 6 _ rfl; have t3 : w1.cell? ⟨0, 7, none⟩ = some (.func (.func 134) #[] #[]) := hW1.out.tab 7 _ rfl; have hne : w.heap.size ≠ w1.heap.size := Nat.ne_of_lt (Nat.lt_of_lt_of_le hlt hE.size); clear hE)
  have hS : EnvS (w1.alloc (Obj.cells #[.string ⟨#[105, 110, 103, 101, 115, 116]⟩, .func (.func 132) #[] #[], .func (.func 133) #[] #[], .func (.func 134) #[] #[]] 71)).drew ∧ Rw (w1.alloc (Obj.cells #[.string ⟨#[105, 110, 103, 101, 115, 116]⟩, .func (.func 132) #[] #[], .func (.func 133) #[] #[], .func (.func 134) #[] #[]] 71)).drew w.heap.size 24 (opC 1 a v) ∧ Rw (w1.alloc (Obj.cells #[.string ⟨#[105, 110, 103, 101, 115, 116]⟩, .func (.func 132) #[] #[], .func (.func 133) #[] #[], .func (.func 134) #[] #[]] 71)).drew w1.heap.size 71 #[.string ⟨#[105, 110, 103, 101, 115, 116]⟩, .func (.func 132) #[] #[], .func (.func 133) #[] #[], .func (.func 134) #[] #[]] ∧ Below w.heap.size w (w1.alloc (Obj.cells #[.string ⟨#[105, 110, 103, 101, 115, 116]⟩, .func (.func 132) #[] #[], .func (.func 133) #[] #[], .func (.func 134) #[] #[]] 71)).drew := ⟨(hW1.out.below (below_al _ _)).drew, hR1.out.alloc _, Rw.new w1 71 #[.string ⟨#[105, 110, 103, 101, 115, 116]⟩, .func (.func 132) #[] #[], .func (.func 133) #[] #[], .func (.func 134) #[] #[]], (hB1.out.alloc hB1.out.size _).drew⟩
  refine wp_region_noPanic ?_
  refine wp_region_held_drew (S := fun w' => EnvS w' ∧ Rw w' w.heap.size 24 (opC 1 a v) ∧ Rw w' w1.heap.size 71 #[.string ⟨#[105, 110, 103, 101, 115, 116]⟩, .func (.func 132) #[] #[], .func (.func 133) #[] #[], .func (.func 134) #[] #[]] ∧ Below w.heap.size w w') (by kernel_rfl) (hS) (fun hH => ?_)
  refine takeD 0 (some 15) (v := ?_) rfl rfl (by kernel_rfl) (by kernel_rfl) (by kernel_rfl) (fun _ _ _ h => h) (Or.inl ⟨by rfl, ?_⟩) hH ?_
  rotate_left
  · intro w hSw; go_simp; try with_reducible rfl
  try simp only [Act.put, List.setIfInBounds_toArray, List.set_cons_zero, List.set_cons_succ]
  refine takeD 1 (some 16) (v := ?_) rfl rfl (by kernel_rfl) (by kernel_rfl) (by kernel_rfl) (fun _ _ _ h => h) (Or.inl ⟨by rfl, ?_⟩) hH ?_
  rotate_left
  · intro w hSw; obtain ⟨r0, r1, r2, r3⟩ := hSw.2.2.1.facts4; go_simp; try with_reducible rfl
  try simp only [Act.put, List.setIfInBounds_toArray, List.set_cons_zero, List.set_cons_succ]
  refine takeD 2 (some 17) (v := ?_) rfl rfl (by kernel_rfl) (by kernel_rfl) (by kernel_rfl) (fun _ _ _ h => h) (Or.inl ⟨by rfl, ?_⟩) hH ?_
  rotate_left
  · intro w hSw; go_simp; try with_reducible rfl
  try simp only [Act.put, List.setIfInBounds_toArray, List.set_cons_zero, List.set_cons_succ]
  refine takeD 3 (some 18) (v := ?_) rfl rfl (by kernel_rfl) (by kernel_rfl) (by kernel_rfl) (fun _ _ _ h => h) (Or.inl ⟨by rfl, ?_⟩) hH ?_
  rotate_left
  · intro w hSw; obtain ⟨r0, r1, r2, r3⟩ := hSw.2.2.1.facts4; go_simp; try with_reducible rfl
  try simp only [Act.put, List.setIfInBounds_toArray, List.set_cons_zero, List.set_cons_succ]
  refine takeD 4 (some 19) (v := ?_) rfl rfl (by kernel_rfl) (by kernel_rfl) (by kernel_rfl) (fun _ _ _ h => h) (Or.inl ⟨by rfl, ?_⟩) hH ?_
  rotate_left
  · intro w hSw; obtain ⟨c0, c1, c2, f0, f1, f2⟩ := hSw.2.1.facts; go_simp; try with_reducible rfl
  try simp only [Act.put, List.setIfInBounds_toArray, List.set_cons_zero, List.set_cons_succ]
  refine wpAnyH_ready (rs := [5]) (by kernel_rfl) (by simp) ?_
  refine AllReadyH.cons rfl (fun K hK => ?_) AllReadyH.nil
  go_simp
  go_at_call 133; refine (HV.out _ hH.1).mono ?_; rintro e w' ⟨rfl, hE⟩; replace hH : EnvS w' ∧ Rw w' w.heap.size 24 (opC 1 a v) ∧ Rw w' w1.heap.size 71 #[.string ⟨#[105, 110, 103, 101, 115, 116]⟩, .func (.func 132) #[] #[], .func (.func 133) #[] #[], .func (.func 134) #[] #[]] ∧ Below w.heap.size w w' := ⟨hH.1.below hE, hH.2.1.below hE hH.2.1.lt, hH.2.2.1.below hE hH.2.2.1.lt, hH.2.2.2.trans (below_le hE hH.2.2.2.size)⟩
  go_wp2_with fail
  refine hK.out _ _ (hH) (fun hH => ?_)
  clear hK K
  try simp only [Act.put, List.setIfInBounds_toArray, List.set_cons_zero, List.set_cons_succ]
  refine takeD 6 (some 21) (v := .string (⟨#[105, 110, 103, 101, 115, 116]⟩ ++ ⟨s.toArray⟩)) rfl rfl (by kernel_rfl) (by kernel_rfl) (by kernel_rfl) (fun _ _ _ h => h) (Or.inl ⟨by rfl, ?_⟩) hH ?_
  · intro w hSw; go_simp; omega
  try simp only [Act.put, List.setIfInBounds_toArray, List.set_cons_zero, List.set_cons_succ]
  refine takeD 7 (some 2) (v := ?_) rfl rfl (by kernel_rfl) (by kernel_rfl) (by kernel_rfl) (fun _ _ _ h => h) (Or.inl ⟨by rfl, ?_⟩) hH ?_
  rotate_left
  · intro w hSw; go_simp; try with_reducible rfl
  try simp only [Act.put, List.setIfInBounds_toArray, List.set_cons_zero, List.set_cons_succ]
  refine takeD 8 (some 3) (v := ?_) rfl rfl (by kernel_rfl) (by kernel_rfl) (by kernel_rfl) (fun _ _ _ h => h) (Or.inl ⟨by rfl, ?_⟩) hH ?_
  rotate_left
  · intro w hSw; go_simp; try with_reducible rfl
  try simp only [Act.put, List.setIfInBounds_toArray, List.set_cons_zero, List.set_cons_succ]
  refine wpAnyH_done (by kernel_rfl) ?_ _
  refine NoPanic.normal ?_
  go_wp2_with fail
  go_ret2
  exact ⟨rfl, hH.2.2.2⟩
set_option linter.unusedSimpArgs false in
set_option maxRecDepth 100000 in
set_option maxHeartbeats 4000000 in
theorem print_2 {w : World} (hw : EnvS w) (a : Int) (v : ByteArray) (hv : v.size ≤ 900000) (h0 : -9223372036854775808 ≤ a) (h1 : a ≤ 9223372036854775807) (hc : chkZ 2 a v.data.toList = 0) {s : List UInt8} (hs : encP 2 a v.data.toList = s) (hsl : s.length ≤ 5000000) :
    Calls Tryd.prog 20 #[opV 2 a v] w fun e w' => e = .returned (.tuple #[.string (⟨#[103, 97, 109, 101]⟩ ++ ⟨s.toArray⟩), .int .i64 0]) ∧ Below w.heap.size w w' := by
  have hB := Lib.hid (below_al w (.cells (opC 2 a v) 24))
  have hR := Lib.hid (Rw.new w 24 (opC 2 a v))
  have hW := Lib.hid (hw.below hB.out)
  have HC := Lib.hid (check_any hW.out 2 a v hv)
  have HV : Hid (∀ W : World, EnvS W → Calls Tryd.prog 136 #[.agg #[.int .i64 2, .int .i64 a, .string v]] W fun e w' => e = .returned (.string ⟨s.toArray⟩) ∧ Below W.heap.size W w') := Lib.hid (fun W hW => by rw [← hs]; exact enc_any hW 2 (by decide) 2 a v hv h0 h1)
  rw [hc] at HC
  unfold opV at HC ⊢
  clear hc hs
  have hlt : w.heap.size < (w.alloc (.cells (opC 2 a v) 24)).heap.size := by simp
  go_enter Tryd.func20, Tryd.ntmps20
  go_wp2_with (go_at_call 21; refine HC.out.mono ?_; rintro e w1 ⟨rfl, hE⟩; have hR1 := Lib.hid (hR.out.below hE hlt); have hW1 := Lib.hid (hW.out.below hE); have hB1 := Lib.hid (hB.out.trans (below_le hE (Nat.le_of_lt hlt))); obtain ⟨c0, c1, c2, f0, f1, f2⟩ := hR1.out.facts; have t0 := hW1.out.tab 8 _ rfl; have t1 : w1.cell? ⟨0, 9, none⟩ = some (.func (.func 135) #[] #[]) := hW1.out.tab 9 _ rfl; have t2 : w1.cell? ⟨0, 10, none⟩ = some (.func (.func 136) #[] #[]) := hW1.out.tab 10 _ rfl; have t3 : w1.cell? ⟨0, 11, none⟩ = some (.func (.func 137) #[] #[]) := hW1.out.tab 11 _ rfl; have hne : w.heap.size ≠ w1.heap.size := Nat.ne_of_lt (Nat.lt_of_lt_of_le hlt hE.size); clear hE)
  have hS : EnvS (w1.alloc (Obj.cells #[.string ⟨#[103, 97, 109, 101]⟩, .func (.func 135) #[] #[], .func (.func 136) #[] #[], .func (.func 137) #[] #[]] 71)).drew ∧ Rw (w1.alloc (Obj.cells #[.string ⟨#[103, 97, 109, 101]⟩, .func (.func 135) #[] #[], .func (.func 136) #[] #[], .func (.func 137) #[] #[]] 71)).drew w.heap.size 24 (opC 2 a v) ∧ Rw (w1.alloc (Obj.cells #[.string ⟨#[103, 97, 109, 101]⟩, .func (.func 135) #[] #[], .func (.func 136) #[] #[], .func (.func 137) #[] #[]] 71)).drew w1.heap.size 71 #[.string ⟨#[103, 97, 109, 101]⟩, .func (.func 135) #[] #[], .func (.func 136) #[] #[], .func (.func 137) #[] #[]] ∧ Below w.heap.size w (w1.alloc (Obj.cells #[.string ⟨#[103, 97, 109, 101]⟩, .func (.func 135) #[] #[], .func (.func 136) #[] #[], .func (.func 137) #[] #[]] 71)).drew := ⟨(hW1.out.below (below_al _ _)).drew, hR1.out.alloc _, Rw.new w1 71 #[.string ⟨#[103, 97, 109, 101]⟩, .func (.func 135) #[] #[], .func (.func 136) #[] #[], .func (.func 137) #[] #[]], (hB1.out.alloc hB1.out.size _).drew⟩
  refine wp_region_noPanic ?_
  refine wp_region_held_drew (S := fun w' => EnvS w' ∧ Rw w' w.heap.size 24 (opC 2 a v) ∧ Rw w' w1.heap.size 71 #[.string ⟨#[103, 97, 109, 101]⟩, .func (.func 135) #[] #[], .func (.func 136) #[] #[], .func (.func 137) #[] #[]] ∧ Below w.heap.size w w') (by kernel_rfl) (hS) (fun hH => ?_)
  refine takeD 0 (some 15) (v := ?_) rfl rfl (by kernel_rfl) (by kernel_rfl) (by kernel_rfl) (fun _ _ _ h => h) (Or.inl ⟨by rfl, ?_⟩) hH ?_
  rotate_left
  · intro w hSw; go_simp; try with_reducible rfl
  try simp only [Act.put, List.setIfInBounds_toArray, List.set_cons_zero, List.set_cons_succ]
  refine takeD 1 (some 16) (v := ?_) rfl rfl (by kernel_rfl) (by kernel_rfl) (by kernel_rfl) (fun _ _ _ h => h) (Or.inl ⟨by rfl, ?_⟩) hH ?_
  rotate_left
  · intro w hSw; obtain ⟨r0, r1, r2, r3⟩ := hSw.2.2.1.facts4; go_simp; try with_reducible rfl
  try simp only [Act.put, List.setIfInBounds_toArray, List.set_cons_zero, List.set_cons_succ]
  refine takeD 2 (some 17) (v := ?_) rfl rfl (by kernel_rfl) (by kernel_rfl) (by kernel_rfl) (fun _ _ _ h => h) (Or.inl ⟨by rfl, ?_⟩) hH ?_
  rotate_left
  · intro w hSw; go_simp; try with_reducible rfl
  try simp only [Act.put, List.setIfInBounds_toArray, List.set_cons_zero, List.set_cons_succ]
  refine takeD 3 (some 18) (v := ?_) rfl rfl (by kernel_rfl) (by kernel_rfl) (by kernel_rfl) (fun _ _ _ h => h) (Or.inl ⟨by rfl, ?_⟩) hH ?_
  rotate_left
  · intro w hSw; obtain ⟨r0, r1, r2, r3⟩ := hSw.2.2.1.facts4; go_simp; try with_reducible rfl
  try simp only [Act.put, List.setIfInBounds_toArray, List.set_cons_zero, List.set_cons_succ]
  refine takeD 4 (some 19) (v := ?_) rfl rfl (by kernel_rfl) (by kernel_rfl) (by kernel_rfl) (fun _ _ _ h => h) (Or.inl ⟨by rfl, ?_⟩) hH ?_
  rotate_left
  · intro w hSw; obtain ⟨c0, c1, c2, f0, f1, f2⟩ := hSw.2.1.facts; go_simp; try with_reducible rfl
  try simp only [Act.put, List.setIfInBounds_toArray, List.set_cons_zero, List.set_cons_succ]
  refine wpAnyH_ready (rs := [5]) (by kernel_rfl) (by simp) ?_
  refine AllReadyH.cons rfl (fun K hK => ?_) AllReadyH.nil
  go_simp
  go_at_call 136; refine (HV.out _ hH.1).mono ?_; rintro e w' ⟨rfl, hE⟩; replace hH : EnvS w' ∧ Rw w' w.heap.size 24 (opC 2 a v) ∧ Rw w' w1.heap.size 71 #[.string ⟨#[103, 97, 109, 101]⟩, .func (.func 135) #[] #[], .func (.func 136) #[] #[], .func (.func 137) #[] #[]] ∧ Below w.heap.size w w' := ⟨hH.1.below hE, hH.2.1.below hE hH.2.1.lt, hH.2.2.1.below hE hH.2.2.1.lt, hH.2.2.2.trans (below_le hE hH.2.2.2.size)⟩
  go_wp2_with fail
  refine hK.out _ _ (hH) (fun hH => ?_)
  clear hK K
  try simp only [Act.put, List.setIfInBounds_toArray, List.set_cons_zero, List.set_cons_succ]
  refine takeD 6 (some 21) (v := .string (⟨#[103, 97, 109, 101]⟩ ++ ⟨s.toArray⟩)) rfl rfl (by kernel_rfl) (by kernel_rfl) (by kernel_rfl) (fun _ _ _ h => h) (Or.inl ⟨by rfl, ?_⟩) hH ?_
  · intro w hSw; go_simp; omega
  try simp only [Act.put, List.setIfInBounds_toArray, List.set_cons_zero, List.set_cons_succ]
  refine takeD 7 (some 2) (v := ?_) rfl rfl (by kernel_rfl) (by kernel_rfl) (by kernel_rfl) (fun _ _ _ h => h) (Or.inl ⟨by rfl, ?_⟩) hH ?_
  rotate_left
  · intro w hSw; go_simp; try with_reducible rfl
  try simp only [Act.put, List.setIfInBounds_toArray, List.set_cons_zero, List.set_cons_succ]
  refine takeD 8 (some 3) (v := ?_) rfl rfl (by kernel_rfl) (by kernel_rfl) (by kernel_rfl) (fun _ _ _ h => h) (Or.inl ⟨by rfl, ?_⟩) hH ?_
  rotate_left
  · intro w hSw; go_simp; try with_reducible rfl
  try simp only [Act.put, List.setIfInBounds_toArray, List.set_cons_zero, List.set_cons_succ]
  refine wpAnyH_done (by kernel_rfl) ?_ _
  refine NoPanic.normal ?_
  go_wp2_with fail
  go_ret2
  exact ⟨rfl, hH.2.2.2⟩
set_option linter.unusedSimpArgs false in
set_option maxRecDepth 100000 in
set_option maxHeartbeats 4000000 in
theorem print_3 {w : World} (hw : EnvS w) (a : Int) (v : ByteArray) (hv : v.size ≤ 900000) (h0 : -9223372036854775808 ≤ a) (h1 : a ≤ 9223372036854775807) (hc : chkZ 3 a v.data.toList = 0) {s : List UInt8} (hs : encP 3 a v.data.toList = s) (hsl : s.length ≤ 5000000) :
    Calls Tryd.prog 20 #[opV 3 a v] w fun e w' => e = .returned (.tuple #[.string (⟨#[112, 111, 115, 105, 116, 105, 111, 110]⟩ ++ ⟨s.toArray⟩), .int .i64 0]) ∧ Below w.heap.size w w' := by
  have hB := Lib.hid (below_al w (.cells (opC 3 a v) 24))
  have hR := Lib.hid (Rw.new w 24 (opC 3 a v))
  have hW := Lib.hid (hw.below hB.out)
  have HC := Lib.hid (check_any hW.out 3 a v hv)
  have HV : Hid (∀ W : World, EnvS W → Calls Tryd.prog 133 #[.agg #[.int .i64 3, .int .i64 a, .string v]] W fun e w' => e = .returned (.string ⟨s.toArray⟩) ∧ Below W.heap.size W w') := Lib.hid (fun W hW => by rw [← hs]; exact enc_any hW 3 (by decide) 3 a v hv h0 h1)
  rw [hc] at HC
  unfold opV at HC ⊢
  clear hc hs
  have hlt : w.heap.size < (w.alloc (.cells (opC 3 a v) 24)).heap.size := by simp
  go_enter Tryd.func20, Tryd.ntmps20
  go_wp2_with (go_at_call 21; refine HC.out.mono ?_; rintro e w1 ⟨rfl, hE⟩; have hR1 := Lib.hid (hR.out.below hE hlt); have hW1 := Lib.hid (hW.out.below hE); have hB1 := Lib.hid (hB.out.trans (below_le hE (Nat.le_of_lt hlt))); obtain ⟨c0, c1, c2, f0, f1, f2⟩ := hR1.out.facts; have t0 := hW1.out.tab 12 _ rfl; have t1 : w1.cell? ⟨0, 13, none⟩ = some (.func (.func 138) #[] #[]) := hW1.out.tab 13 _ rfl; have t2 : w1.cell? ⟨0, 14, none⟩ = some (.func (.func 133) #[] #[]) := hW1.out.tab 14 _ rfl; have t3 : w1.cell? ⟨0, 15, none⟩ = some (.func (.func 134) #[] #[]) := hW1.out.tab 15 _ rfl; have hne : w.heap.size ≠ w1.heap.size := Nat.ne_of_lt (Nat.lt_of_lt_of_le hlt hE.size); clear hE)
  have hS : EnvS (w1.alloc (Obj.cells #[.string ⟨#[112, 111, 115, 105, 116, 105, 111, 110]⟩, .func (.func 138) #[] #[], .func (.func 133) #[] #[], .func (.func 134) #[] #[]] 71)).drew ∧ Rw (w1.alloc (Obj.cells #[.string ⟨#[112, 111, 115, 105, 116, 105, 111, 110]⟩, .func (.func 138) #[] #[], .func (.func 133) #[] #[], .func (.func 134) #[] #[]] 71)).drew w.heap.size 24 (opC 3 a v) ∧ Rw (w1.alloc (Obj.cells #[.string ⟨#[112, 111, 115, 105, 116, 105, 111, 110]⟩, .func (.func 138) #[] #[], .func (.func 133) #[] #[], .func (.func 134) #[] #[]] 71)).drew w1.heap.size 71 #[.string ⟨#[112, 111, 115, 105, 116, 105, 111, 110]⟩, .func (.func 138) #[] #[], .func (.func 133) #[] #[], .func (.func 134) #[] #[]] ∧ Below w.heap.size w (w1.alloc (Obj.cells #[.string ⟨#[112, 111, 115, 105, 116, 105, 111, 110]⟩, .func (.func 138) #[] #[], .func (.func 133) #[] #[], .func (.func 134) #[] #[]] 71)).drew := ⟨(hW1.out.below (below_al _ _)).drew, hR1.out.alloc _, Rw.new w1 71 #[.string ⟨#[112, 111, 115, 105, 116, 105, 111, 110]⟩, .func (.func 138) #[] #[], .func (.func 133) #[] #[], .func (.func 134) #[] #[]], (hB1.out.alloc hB1.out.size _).drew⟩
  refine wp_region_noPanic ?_
  refine wp_region_held_drew (S := fun w' => EnvS w' ∧ Rw w' w.heap.size 24 (opC 3 a v) ∧ Rw w' w1.heap.size 71 #[.string ⟨#[112, 111, 115, 105, 116, 105, 111, 110]⟩, .func (.func 138) #[] #[], .func (.func 133) #[] #[], .func (.func 134) #[] #[]] ∧ Below w.heap.size w w') (by kernel_rfl) (hS) (fun hH => ?_)
  refine takeD 0 (some 15) (v := ?_) rfl rfl (by kernel_rfl) (by kernel_rfl) (by kernel_rfl) (fun _ _ _ h => h) (Or.inl ⟨by rfl, ?_⟩) hH ?_
  rotate_left
  · intro w hSw; go_simp; try with_reducible rfl
  try simp only [Act.put, List.setIfInBounds_toArray, List.set_cons_zero, List.set_cons_succ]
  refine takeD 1 (some 16) (v := ?_) rfl rfl (by kernel_rfl) (by kernel_rfl) (by kernel_rfl) (fun _ _ _ h => h) (Or.inl ⟨by rfl, ?_⟩) hH ?_
  rotate_left
  · intro w hSw; obtain ⟨r0, r1, r2, r3⟩ := hSw.2.2.1.facts4; go_simp; try with_reducible rfl
  try simp only [Act.put, List.setIfInBounds_toArray, List.set_cons_zero, List.set_cons_succ]
  refine takeD 2 (some 17) (v := ?_) rfl rfl (by kernel_rfl) (by kernel_rfl) (by kernel_rfl) (fun _ _ _ h => h) (Or.inl ⟨by rfl, ?_⟩) hH ?_
  rotate_left
  · intro w hSw; go_simp; try with_reducible rfl
  try simp only [Act.put, List.setIfInBounds_toArray, List.set_cons_zero, List.set_cons_succ]
  refine takeD 3 (some 18) (v := ?_) rfl rfl (by kernel_rfl) (by kernel_rfl) (by kernel_rfl) (fun _ _ _ h => h) (Or.inl ⟨by rfl, ?_⟩) hH ?_
  rotate_left
  · intro w hSw; obtain ⟨r0, r1, r2, r3⟩ := hSw.2.2.1.facts4; go_simp; try with_reducible rfl
  try simp only [Act.put, List.setIfInBounds_toArray, List.set_cons_zero, List.set_cons_succ]
  refine takeD 4 (some 19) (v := ?_) rfl rfl (by kernel_rfl) (by kernel_rfl) (by kernel_rfl) (fun _ _ _ h => h) (Or.inl ⟨by rfl, ?_⟩) hH ?_
  rotate_left
  · intro w hSw; obtain ⟨c0, c1, c2, f0, f1, f2⟩ := hSw.2.1.facts; go_simp; try with_reducible rfl
  try simp only [Act.put, List.setIfInBounds_toArray, List.set_cons_zero, List.set_cons_succ]
  refine wpAnyH_ready (rs := [5]) (by kernel_rfl) (by simp) ?_
  refine AllReadyH.cons rfl (fun K hK => ?_) AllReadyH.nil
  go_simp
  go_at_call 133; refine (HV.out _ hH.1).mono ?_; rintro e w' ⟨rfl, hE⟩; replace hH : EnvS w' ∧ Rw w' w.heap.size 24 (opC 3 a v) ∧ Rw w' w1.heap.size 71 #[.string ⟨#[112, 111, 115, 105, 116, 105, 111, 110]⟩, .func (.func 138) #[] #[], .func (.func 133) #[] #[], .func (.func 134) #[] #[]] ∧ Below w.heap.size w w' := ⟨hH.1.below hE, hH.2.1.below hE hH.2.1.lt, hH.2.2.1.below hE hH.2.2.1.lt, hH.2.2.2.trans (below_le hE hH.2.2.2.size)⟩
  go_wp2_with fail
  refine hK.out _ _ (hH) (fun hH => ?_)
  clear hK K
  try simp only [Act.put, List.setIfInBounds_toArray, List.set_cons_zero, List.set_cons_succ]
  refine takeD 6 (some 21) (v := .string (⟨#[112, 111, 115, 105, 116, 105, 111, 110]⟩ ++ ⟨s.toArray⟩)) rfl rfl (by kernel_rfl) (by kernel_rfl) (by kernel_rfl) (fun _ _ _ h => h) (Or.inl ⟨by rfl, ?_⟩) hH ?_
  · intro w hSw; go_simp; omega
  try simp only [Act.put, List.setIfInBounds_toArray, List.set_cons_zero, List.set_cons_succ]
  refine takeD 7 (some 2) (v := ?_) rfl rfl (by kernel_rfl) (by kernel_rfl) (by kernel_rfl) (fun _ _ _ h => h) (Or.inl ⟨by rfl, ?_⟩) hH ?_
  rotate_left
  · intro w hSw; go_simp; try with_reducible rfl
  try simp only [Act.put, List.setIfInBounds_toArray, List.set_cons_zero, List.set_cons_succ]
  refine takeD 8 (some 3) (v := ?_) rfl rfl (by kernel_rfl) (by kernel_rfl) (by kernel_rfl) (fun _ _ _ h => h) (Or.inl ⟨by rfl, ?_⟩) hH ?_
  rotate_left
  · intro w hSw; go_simp; try with_reducible rfl
  try simp only [Act.put, List.setIfInBounds_toArray, List.set_cons_zero, List.set_cons_succ]
  refine wpAnyH_done (by kernel_rfl) ?_ _
  refine NoPanic.normal ?_
  go_wp2_with fail
  go_ret2
  exact ⟨rfl, hH.2.2.2⟩
set_option linter.unusedSimpArgs false in
set_option maxRecDepth 100000 in
set_option maxHeartbeats 4000000 in
theorem print_4 {w : World} (hw : EnvS w) (a : Int) (v : ByteArray) (hv : v.size ≤ 900000) (h0 : -9223372036854775808 ≤ a) (h1 : a ≤ 9223372036854775807) (hc : chkZ 4 a v.data.toList = 0) {s : List UInt8} (hs : encP 4 a v.data.toList = s) (hsl : s.length ≤ 5000000) :
    Calls Tryd.prog 20 #[opV 4 a v] w fun e w' => e = .returned (.tuple #[.string (⟨#[109, 97, 116, 101, 114, 105, 97, 108]⟩ ++ ⟨s.toArray⟩), .int .i64 0]) ∧ Below w.heap.size w w' := by
  have hB := Lib.hid (below_al w (.cells (opC 4 a v) 24))
  have hR := Lib.hid (Rw.new w 24 (opC 4 a v))
  have hW := Lib.hid (hw.below hB.out)
  have HC := Lib.hid (check_any hW.out 4 a v hv)
  have HV : Hid (∀ W : World, EnvS W → Calls Tryd.prog 133 #[.agg #[.int .i64 4, .int .i64 a, .string v]] W fun e w' => e = .returned (.string ⟨s.toArray⟩) ∧ Below W.heap.size W w') := Lib.hid (fun W hW => by rw [← hs]; exact enc_any hW 4 (by decide) 4 a v hv h0 h1)
  rw [hc] at HC
  unfold opV at HC ⊢
  clear hc hs
  have hlt : w.heap.size < (w.alloc (.cells (opC 4 a v) 24)).heap.size := by simp
  go_enter Tryd.func20, Tryd.ntmps20
  go_wp2_with (go_at_call 21; refine HC.out.mono ?_; rintro e w1 ⟨rfl, hE⟩; have hR1 := Lib.hid (hR.out.below hE hlt); have hW1 := Lib.hid (hW.out.below hE); have hB1 := Lib.hid (hB.out.trans (below_le hE (Nat.le_of_lt hlt))); obtain ⟨c0, c1, c2, f0, f1, f2⟩ := hR1.out.facts; have t0 := hW1.out.tab 16 _ rfl; have t1 : w1.cell? ⟨0, 17, none⟩ = some (.func (.func 138) #[] #[]) := hW1.out.tab 17 _ rfl; have t2 : w1.cell? ⟨0, 18, none⟩ = some (.func (.func 133) #[] #[]) := hW1.out.tab 18 _ rfl; have t3 : w1.cell? ⟨0, 19, none⟩ = some (.func (.func 134) #[] #[]) := hW1.out.tab 19 _ rfl; have hne : w.heap.size ≠ w1.heap.size := Nat.ne_of_lt (Nat.lt_of_lt_of_le hlt hE.size); clear hE)
  have hS : EnvS (w1.alloc (Obj.cells #[.string ⟨#[109, 97, 116, 101, 114, 105, 97, 108]⟩, .func (.func 138) #[] #[], .func (.func 133) #[] #[], .func (.func 134) #[] #[]] 71)).drew ∧ Rw (w1.alloc (Obj.cells #[.string ⟨#[109, 97, 116, 101, 114, 105, 97, 108]⟩, .func (.func 138) #[] #[], .func (.func 133) #[] #[], .func (.func 134) #[] #[]] 71)).drew w.heap.size 24 (opC 4 a v) ∧ Rw (w1.alloc (Obj.cells #[.string ⟨#[109, 97, 116, 101, 114, 105, 97, 108]⟩, .func (.func 138) #[] #[], .func (.func 133) #[] #[], .func (.func 134) #[] #[]] 71)).drew w1.heap.size 71 #[.string ⟨#[109, 97, 116, 101, 114, 105, 97, 108]⟩, .func (.func 138) #[] #[], .func (.func 133) #[] #[], .func (.func 134) #[] #[]] ∧ Below w.heap.size w (w1.alloc (Obj.cells #[.string ⟨#[109, 97, 116, 101, 114, 105, 97, 108]⟩, .func (.func 138) #[] #[], .func (.func 133) #[] #[], .func (.func 134) #[] #[]] 71)).drew := ⟨(hW1.out.below (below_al _ _)).drew, hR1.out.alloc _, Rw.new w1 71 #[.string ⟨#[109, 97, 116, 101, 114, 105, 97, 108]⟩, .func (.func 138) #[] #[], .func (.func 133) #[] #[], .func (.func 134) #[] #[]], (hB1.out.alloc hB1.out.size _).drew⟩
  refine wp_region_noPanic ?_
  refine wp_region_held_drew (S := fun w' => EnvS w' ∧ Rw w' w.heap.size 24 (opC 4 a v) ∧ Rw w' w1.heap.size 71 #[.string ⟨#[109, 97, 116, 101, 114, 105, 97, 108]⟩, .func (.func 138) #[] #[], .func (.func 133) #[] #[], .func (.func 134) #[] #[]] ∧ Below w.heap.size w w') (by kernel_rfl) (hS) (fun hH => ?_)
  refine takeD 0 (some 15) (v := ?_) rfl rfl (by kernel_rfl) (by kernel_rfl) (by kernel_rfl) (fun _ _ _ h => h) (Or.inl ⟨by rfl, ?_⟩) hH ?_
  rotate_left
  · intro w hSw; go_simp; try with_reducible rfl
  try simp only [Act.put, List.setIfInBounds_toArray, List.set_cons_zero, List.set_cons_succ]
  refine takeD 1 (some 16) (v := ?_) rfl rfl (by kernel_rfl) (by kernel_rfl) (by kernel_rfl) (fun _ _ _ h => h) (Or.inl ⟨by rfl, ?_⟩) hH ?_
  rotate_left
  · intro w hSw; obtain ⟨r0, r1, r2, r3⟩ := hSw.2.2.1.facts4; go_simp; try with_reducible rfl
  try simp only [Act.put, List.setIfInBounds_toArray, List.set_cons_zero, List.set_cons_succ]
  refine takeD 2 (some 17) (v := ?_) rfl rfl (by kernel_rfl) (by kernel_rfl) (by kernel_rfl) (fun _ _ _ h => h) (Or.inl ⟨by rfl, ?_⟩) hH ?_
  rotate_left
  · intro w hSw; go_simp; try with_reducible rfl
  try simp only [Act.put, List.setIfInBounds_toArray, List.set_cons_zero, List.set_cons_succ]
  refine takeD 3 (some 18) (v := ?_) rfl rfl (by kernel_rfl) (by kernel_rfl) (by kernel_rfl) (fun _ _ _ h => h) (Or.inl ⟨by rfl, ?_⟩) hH ?_
  rotate_left
  · intro w hSw; obtain ⟨r0, r1, r2, r3⟩ := hSw.2.2.1.facts4; go_simp; try with_reducible rfl
  try simp only [Act.put, List.setIfInBounds_toArray, List.set_cons_zero, List.set_cons_succ]
  refine takeD 4 (some 19) (v := ?_) rfl rfl (by kernel_rfl) (by kernel_rfl) (by kernel_rfl) (fun _ _ _ h => h) (Or.inl ⟨by rfl, ?_⟩) hH ?_
  rotate_left
  · intro w hSw; obtain ⟨c0, c1, c2, f0, f1, f2⟩ := hSw.2.1.facts; go_simp; try with_reducible rfl
  try simp only [Act.put, List.setIfInBounds_toArray, List.set_cons_zero, List.set_cons_succ]
  refine wpAnyH_ready (rs := [5]) (by kernel_rfl) (by simp) ?_
  refine AllReadyH.cons rfl (fun K hK => ?_) AllReadyH.nil
  go_simp
  go_at_call 133; refine (HV.out _ hH.1).mono ?_; rintro e w' ⟨rfl, hE⟩; replace hH : EnvS w' ∧ Rw w' w.heap.size 24 (opC 4 a v) ∧ Rw w' w1.heap.size 71 #[.string ⟨#[109, 97, 116, 101, 114, 105, 97, 108]⟩, .func (.func 138) #[] #[], .func (.func 133) #[] #[], .func (.func 134) #[] #[]] ∧ Below w.heap.size w w' := ⟨hH.1.below hE, hH.2.1.below hE hH.2.1.lt, hH.2.2.1.below hE hH.2.2.1.lt, hH.2.2.2.trans (below_le hE hH.2.2.2.size)⟩
  go_wp2_with fail
  refine hK.out _ _ (hH) (fun hH => ?_)
  clear hK K
  try simp only [Act.put, List.setIfInBounds_toArray, List.set_cons_zero, List.set_cons_succ]
  refine takeD 6 (some 21) (v := .string (⟨#[109, 97, 116, 101, 114, 105, 97, 108]⟩ ++ ⟨s.toArray⟩)) rfl rfl (by kernel_rfl) (by kernel_rfl) (by kernel_rfl) (fun _ _ _ h => h) (Or.inl ⟨by rfl, ?_⟩) hH ?_
  · intro w hSw; go_simp; omega
  try simp only [Act.put, List.setIfInBounds_toArray, List.set_cons_zero, List.set_cons_succ]
  refine takeD 7 (some 2) (v := ?_) rfl rfl (by kernel_rfl) (by kernel_rfl) (by kernel_rfl) (fun _ _ _ h => h) (Or.inl ⟨by rfl, ?_⟩) hH ?_
  rotate_left
  · intro w hSw; go_simp; try with_reducible rfl
  try simp only [Act.put, List.setIfInBounds_toArray, List.set_cons_zero, List.set_cons_succ]
  refine takeD 8 (some 3) (v := ?_) rfl rfl (by kernel_rfl) (by kernel_rfl) (by kernel_rfl) (fun _ _ _ h => h) (Or.inl ⟨by rfl, ?_⟩) hH ?_
  rotate_left
  · intro w hSw; go_simp; try with_reducible rfl
  try simp only [Act.put, List.setIfInBounds_toArray, List.set_cons_zero, List.set_cons_succ]
  refine wpAnyH_done (by kernel_rfl) ?_ _
  refine NoPanic.normal ?_
  go_wp2_with fail
  go_ret2
  exact ⟨rfl, hH.2.2.2⟩
set_option linter.unusedSimpArgs false in
set_option maxRecDepth 100000 in
set_option maxHeartbeats 4000000 in
theorem print_5 {w : World} (hw : EnvS w) (a : Int) (v : ByteArray) (hv : v.size ≤ 900000) (h0 : -9223372036854775808 ≤ a) (h1 : a ≤ 9223372036854775807) (hc : chkZ 5 a v.data.toList = 0) {s : List UInt8} (hs : encP 5 a v.data.toList = s) (hsl : s.length ≤ 5000000) :
    Calls Tryd.prog 20 #[opV 5 a v] w fun e w' => e = .returned (.tuple #[.string (⟨#[115, 116, 97, 116, 115]⟩ ++ ⟨s.toArray⟩), .int .i64 0]) ∧ Below w.heap.size w w' := by
  have hB := Lib.hid (below_al w (.cells (opC 5 a v) 24))
  have hR := Lib.hid (Rw.new w 24 (opC 5 a v))
  have hW := Lib.hid (hw.below hB.out)
  have HC := Lib.hid (check_any hW.out 5 a v hv)
  have HV : Hid (∀ W : World, EnvS W → Calls Tryd.prog 133 #[.agg #[.int .i64 5, .int .i64 a, .string v]] W fun e w' => e = .returned (.string ⟨s.toArray⟩) ∧ Below W.heap.size W w') := Lib.hid (fun W hW => by rw [← hs]; exact enc_any hW 5 (by decide) 5 a v hv h0 h1)
  rw [hc] at HC
  unfold opV at HC ⊢
  clear hc hs
  have hlt : w.heap.size < (w.alloc (.cells (opC 5 a v) 24)).heap.size := by simp
  go_enter Tryd.func20, Tryd.ntmps20
  go_wp2_with (go_at_call 21; refine HC.out.mono ?_; rintro e w1 ⟨rfl, hE⟩; have hR1 := Lib.hid (hR.out.below hE hlt); have hW1 := Lib.hid (hW.out.below hE); have hB1 := Lib.hid (hB.out.trans (below_le hE (Nat.le_of_lt hlt))); obtain ⟨c0, c1, c2, f0, f1, f2⟩ := hR1.out.facts; have t0 := hW1.out.tab 20 _ rfl; have t1 : w1.cell? ⟨0, 21, none⟩ = some (.func (.func 138) #[] #[]) := hW1.out.tab 21 _ rfl; have t2 : w1.cell? ⟨0, 22, none⟩ = some (.func (.func 133) #[] #[]) := hW1.out.tab 22 _ rfl; have t3 : w1.cell? ⟨0, 23, none⟩ = some (.func (.func 134) #[] #[]) := hW1.out.tab 23 _ rfl; have hne : w.heap.size ≠ w1.heap.size := Nat.ne_of_lt (Nat.lt_of_lt_of_le hlt hE.size); clear hE)
  have hS : EnvS (w1.alloc (Obj.cells #[.string ⟨#[115, 116, 97, 116, 115]⟩, .func (.func 138) #[] #[], .func (.func 133) #[] #[], .func (.func 134) #[] #[]] 71)).drew ∧ Rw (w1.alloc (Obj.cells #[.string ⟨#[115, 116, 97, 116, 115]⟩, .func (.func 138) #[] #[], .func (.func 133) #[] #[], .func (.func 134) #[] #[]] 71)).drew w.heap.size 24 (opC 5 a v) ∧ Rw (w1.alloc (Obj.cells #[.string ⟨#[115, 116, 97, 116, 115]⟩, .func (.func 138) #[] #[], .func (.func 133) #[] #[], .func (.func 134) #[] #[]] 71)).drew w1.heap.size 71 #[.string ⟨#[115, 116, 97, 116, 115]⟩, .func (.func 138) #[] #[], .func (.func 133) #[] #[], .func (.func 134) #[] #[]] ∧ Below w.heap.size w (w1.alloc (Obj.cells #[.string ⟨#[115, 116, 97, 116, 115]⟩, .func (.func 138) #[] #[], .func (.func 133) #[] #[], .func (.func 134) #[] #[]] 71)).drew := ⟨(hW1.out.below (below_al _ _)).drew, hR1.out.alloc _, Rw.new w1 71 #[.string ⟨#[115, 116, 97, 116, 115]⟩, .func (.func 138) #[] #[], .func (.func 133) #[] #[], .func (.func 134) #[] #[]], (hB1.out.alloc hB1.out.size _).drew⟩
  refine wp_region_noPanic ?_
  refine wp_region_held_drew (S := fun w' => EnvS w' ∧ Rw w' w.heap.size 24 (opC 5 a v) ∧ Rw w' w1.heap.size 71 #[.string ⟨#[115, 116, 97, 116, 115]⟩, .func (.func 138) #[] #[], .func (.func 133) #[] #[], .func (.func 134) #[] #[]] ∧ Below w.heap.size w w') (by kernel_rfl) (hS) (fun hH => ?_)
  refine takeD 0 (some 15) (v := ?_) rfl rfl (by kernel_rfl) (by kernel_rfl) (by kernel_rfl) (fun _ _ _ h => h) (Or.inl ⟨by rfl, ?_⟩) hH ?_
  rotate_left
  · intro w hSw; go_simp; try with_reducible rfl
  try simp only [Act.put, List.setIfInBounds_toArray, List.set_cons_zero, List.set_cons_succ]
  refine takeD 1 (some 16) (v := ?_) rfl rfl (by kernel_rfl) (by kernel_rfl) (by kernel_rfl) (fun _ _ _ h => h) (Or.inl ⟨by rfl, ?_⟩) hH ?_
  rotate_left
  · intro w hSw; obtain ⟨r0, r1, r2, r3⟩ := hSw.2.2.1.facts4; go_simp; try with_reducible rfl
  try simp only [Act.put, List.setIfInBounds_toArray, List.set_cons_zero, List.set_cons_succ]
  refine takeD 2 (some 17) (v := ?_) rfl rfl (by kernel_rfl) (by kernel_rfl) (by kernel_rfl) (fun _ _ _ h => h) (Or.inl ⟨by rfl, ?_⟩) hH ?_
  rotate_left
  · intro w hSw; go_simp; try with_reducible rfl
  try simp only [Act.put, List.setIfInBounds_toArray, List.set_cons_zero, List.set_cons_succ]
  refine takeD 3 (some 18) (v := ?_) rfl rfl (by kernel_rfl) (by kernel_rfl) (by kernel_rfl) (fun _ _ _ h => h) (Or.inl ⟨by rfl, ?_⟩) hH ?_
  rotate_left
  · intro w hSw; obtain ⟨r0, r1, r2, r3⟩ := hSw.2.2.1.facts4; go_simp; try with_reducible rfl
  try simp only [Act.put, List.setIfInBounds_toArray, List.set_cons_zero, List.set_cons_succ]
  refine takeD 4 (some 19) (v := ?_) rfl rfl (by kernel_rfl) (by kernel_rfl) (by kernel_rfl) (fun _ _ _ h => h) (Or.inl ⟨by rfl, ?_⟩) hH ?_
  rotate_left
  · intro w hSw; obtain ⟨c0, c1, c2, f0, f1, f2⟩ := hSw.2.1.facts; go_simp; try with_reducible rfl
  try simp only [Act.put, List.setIfInBounds_toArray, List.set_cons_zero, List.set_cons_succ]
  refine wpAnyH_ready (rs := [5]) (by kernel_rfl) (by simp) ?_
  refine AllReadyH.cons rfl (fun K hK => ?_) AllReadyH.nil
  go_simp
  go_at_call 133; refine (HV.out _ hH.1).mono ?_; rintro e w' ⟨rfl, hE⟩; replace hH : EnvS w' ∧ Rw w' w.heap.size 24 (opC 5 a v) ∧ Rw w' w1.heap.size 71 #[.string ⟨#[115, 116, 97, 116, 115]⟩, .func (.func 138) #[] #[], .func (.func 133) #[] #[], .func (.func 134) #[] #[]] ∧ Below w.heap.size w w' := ⟨hH.1.below hE, hH.2.1.below hE hH.2.1.lt, hH.2.2.1.below hE hH.2.2.1.lt, hH.2.2.2.trans (below_le hE hH.2.2.2.size)⟩
  go_wp2_with fail
  refine hK.out _ _ (hH) (fun hH => ?_)
  clear hK K
  try simp only [Act.put, List.setIfInBounds_toArray, List.set_cons_zero, List.set_cons_succ]
  refine takeD 6 (some 21) (v := .string (⟨#[115, 116, 97, 116, 115]⟩ ++ ⟨s.toArray⟩)) rfl rfl (by kernel_rfl) (by kernel_rfl) (by kernel_rfl) (fun _ _ _ h => h) (Or.inl ⟨by rfl, ?_⟩) hH ?_
  · intro w hSw; go_simp; omega
  try simp only [Act.put, List.setIfInBounds_toArray, List.set_cons_zero, List.set_cons_succ]
  refine takeD 7 (some 2) (v := ?_) rfl rfl (by kernel_rfl) (by kernel_rfl) (by kernel_rfl) (fun _ _ _ h => h) (Or.inl ⟨by rfl, ?_⟩) hH ?_
  rotate_left
  · intro w hSw; go_simp; try with_reducible rfl
  try simp only [Act.put, List.setIfInBounds_toArray, List.set_cons_zero, List.set_cons_succ]
  refine takeD 8 (some 3) (v := ?_) rfl rfl (by kernel_rfl) (by kernel_rfl) (by kernel_rfl) (fun _ _ _ h => h) (Or.inl ⟨by rfl, ?_⟩) hH ?_
  rotate_left
  · intro w hSw; go_simp; try with_reducible rfl
  try simp only [Act.put, List.setIfInBounds_toArray, List.set_cons_zero, List.set_cons_succ]
  refine wpAnyH_done (by kernel_rfl) ?_ _
  refine NoPanic.normal ?_
  go_wp2_with fail
  go_ret2
  exact ⟨rfl, hH.2.2.2⟩
set_option linter.unusedSimpArgs false in
set_option maxRecDepth 100000 in
set_option maxHeartbeats 4000000 in
theorem print_6 {w : World} (hw : EnvS w) (a : Int) (v : ByteArray) (hv : v.size ≤ 900000) (h0 : -9223372036854775808 ≤ a) (h1 : a ≤ 9223372036854775807) (hc : chkZ 6 a v.data.toList = 0) {s : List UInt8} (hs : encP 6 a v.data.toList = s) (hsl : s.length ≤ 5000000) :
    Calls Tryd.prog 20 #[opV 6 a v] w fun e w' => e = .returned (.tuple #[.string (⟨#[98, 111, 111, 107]⟩ ++ ⟨s.toArray⟩), .int .i64 0]) ∧ Below w.heap.size w w' := by
  have hB := Lib.hid (below_al w (.cells (opC 6 a v) 24))
  have hR := Lib.hid (Rw.new w 24 (opC 6 a v))
  have hW := Lib.hid (hw.below hB.out)
  have HC := Lib.hid (check_any hW.out 6 a v hv)
  have HV : Hid (∀ W : World, EnvS W → Calls Tryd.prog 140 #[.agg #[.int .i64 6, .int .i64 a, .string v]] W fun e w' => e = .returned (.string ⟨s.toArray⟩) ∧ Below W.heap.size W w') := Lib.hid (fun W hW => by rw [← hs]; exact enc_any hW 6 (by decide) 6 a v hv h0 h1)
  rw [hc] at HC
  unfold opV at HC ⊢
  clear hc hs
  have hlt : w.heap.size < (w.alloc (.cells (opC 6 a v) 24)).heap.size := by simp
  go_enter Tryd.func20, Tryd.ntmps20
  go_wp2_with (go_at_call 21; refine HC.out.mono ?_; rintro e w1 ⟨rfl, hE⟩; have hR1 := Lib.hid (hR.out.below hE hlt); have hW1 := Lib.hid (hW.out.below hE); have hB1 := Lib.hid (hB.out.trans (below_le hE (Nat.le_of_lt hlt))); obtain ⟨c0, c1, c2, f0, f1, f2⟩ := hR1.out.facts; have t0 := hW1.out.tab 24 _ rfl; have t1 : w1.cell? ⟨0, 25, none⟩ = some (.func (.func 139) #[] #[]) := hW1.out.tab 25 _ rfl; have t2 : w1.cell? ⟨0, 26, none⟩ = some (.func (.func 140) #[] #[]) := hW1.out.tab 26 _ rfl; have t3 : w1.cell? ⟨0, 27, none⟩ = some (.func (.func 141) #[] #[]) := hW1.out.tab 27 _ rfl; have hne : w.heap.size ≠ w1.heap.size := Nat.ne_of_lt (Nat.lt_of_lt_of_le hlt hE.size); clear hE)
  have hS : EnvS (w1.alloc (Obj.cells #[.string ⟨#[98, 111, 111, 107]⟩, .func (.func 139) #[] #[], .func (.func 140) #[] #[], .func (.func 141) #[] #[]] 71)).drew ∧ Rw (w1.alloc (Obj.cells #[.string ⟨#[98, 111, 111, 107]⟩, .func (.func 139) #[] #[], .func (.func 140) #[] #[], .func (.func 141) #[] #[]] 71)).drew w.heap.size 24 (opC 6 a v) ∧ Rw (w1.alloc (Obj.cells #[.string ⟨#[98, 111, 111, 107]⟩, .func (.func 139) #[] #[], .func (.func 140) #[] #[], .func (.func 141) #[] #[]] 71)).drew w1.heap.size 71 #[.string ⟨#[98, 111, 111, 107]⟩, .func (.func 139) #[] #[], .func (.func 140) #[] #[], .func (.func 141) #[] #[]] ∧ Below w.heap.size w (w1.alloc (Obj.cells #[.string ⟨#[98, 111, 111, 107]⟩, .func (.func 139) #[] #[], .func (.func 140) #[] #[], .func (.func 141) #[] #[]] 71)).drew := ⟨(hW1.out.below (below_al _ _)).drew, hR1.out.alloc _, Rw.new w1 71 #[.string ⟨#[98, 111, 111, 107]⟩, .func (.func 139) #[] #[], .func (.func 140) #[] #[], .func (.func 141) #[] #[]], (hB1.out.alloc hB1.out.size _).drew⟩
  refine wp_region_noPanic ?_
  refine wp_region_held_drew (S := fun w' => EnvS w' ∧ Rw w' w.heap.size 24 (opC 6 a v) ∧ Rw w' w1.heap.size 71 #[.string ⟨#[98, 111, 111, 107]⟩, .func (.func 139) #[] #[], .func (.func 140) #[] #[], .func (.func 141) #[] #[]] ∧ Below w.heap.size w w') (by kernel_rfl) (hS) (fun hH => ?_)
  refine takeD 0 (some 15) (v := ?_) rfl rfl (by kernel_rfl) (by kernel_rfl) (by kernel_rfl) (fun _ _ _ h => h) (Or.inl ⟨by rfl, ?_⟩) hH ?_
  rotate_left
  · intro w hSw; go_simp; try with_reducible rfl
  try simp only [Act.put, List.setIfInBounds_toArray, List.set_cons_zero, List.set_cons_succ]
  refine takeD 1 (some 16) (v := ?_) rfl rfl (by kernel_rfl) (by kernel_rfl) (by kernel_rfl) (fun _ _ _ h => h) (Or.inl ⟨by rfl, ?_⟩) hH ?_
  rotate_left
  · intro w hSw; obtain ⟨r0, r1, r2, r3⟩ := hSw.2.2.1.facts4; go_simp; try with_reducible rfl
  try simp only [Act.put, List.setIfInBounds_toArray, List.set_cons_zero, List.set_cons_succ]
  refine takeD 2 (some 17) (v := ?_) rfl rfl (by kernel_rfl) (by kernel_rfl) (by kernel_rfl) (fun _ _ _ h => h) (Or.inl ⟨by rfl, ?_⟩) hH ?_
  rotate_left
  · intro w hSw; go_simp; try with_reducible rfl
  try simp only [Act.put, List.setIfInBounds_toArray, List.set_cons_zero, List.set_cons_succ]
  refine takeD 3 (some 18) (v := ?_) rfl rfl (by kernel_rfl) (by kernel_rfl) (by kernel_rfl) (fun _ _ _ h => h) (Or.inl ⟨by rfl, ?_⟩) hH ?_
  rotate_left
  · intro w hSw; obtain ⟨r0, r1, r2, r3⟩ := hSw.2.2.1.facts4; go_simp; try with_reducible rfl
  try simp only [Act.put, List.setIfInBounds_toArray, List.set_cons_zero, List.set_cons_succ]
  refine takeD 4 (some 19) (v := ?_) rfl rfl (by kernel_rfl) (by kernel_rfl) (by kernel_rfl) (fun _ _ _ h => h) (Or.inl ⟨by rfl, ?_⟩) hH ?_
  rotate_left
  · intro w hSw; obtain ⟨c0, c1, c2, f0, f1, f2⟩ := hSw.2.1.facts; go_simp; try with_reducible rfl
  try simp only [Act.put, List.setIfInBounds_toArray, List.set_cons_zero, List.set_cons_succ]
  refine wpAnyH_ready (rs := [5]) (by kernel_rfl) (by simp) ?_
  refine AllReadyH.cons rfl (fun K hK => ?_) AllReadyH.nil
  go_simp
  go_at_call 140; refine (HV.out _ hH.1).mono ?_; rintro e w' ⟨rfl, hE⟩; replace hH : EnvS w' ∧ Rw w' w.heap.size 24 (opC 6 a v) ∧ Rw w' w1.heap.size 71 #[.string ⟨#[98, 111, 111, 107]⟩, .func (.func 139) #[] #[], .func (.func 140) #[] #[], .func (.func 141) #[] #[]] ∧ Below w.heap.size w w' := ⟨hH.1.below hE, hH.2.1.below hE hH.2.1.lt, hH.2.2.1.below hE hH.2.2.1.lt, hH.2.2.2.trans (below_le hE hH.2.2.2.size)⟩
  go_wp2_with fail
  refine hK.out _ _ (hH) (fun hH => ?_)
  clear hK K
  try simp only [Act.put, List.setIfInBounds_toArray, List.set_cons_zero, List.set_cons_succ]
  refine takeD 6 (some 21) (v := .string (⟨#[98, 111, 111, 107]⟩ ++ ⟨s.toArray⟩)) rfl rfl (by kernel_rfl) (by kernel_rfl) (by kernel_rfl) (fun _ _ _ h => h) (Or.inl ⟨by rfl, ?_⟩) hH ?_
  · intro w hSw; go_simp; omega
  try simp only [Act.put, List.setIfInBounds_toArray, List.set_cons_zero, List.set_cons_succ]
  refine takeD 7 (some 2) (v := ?_) rfl rfl (by kernel_rfl) (by kernel_rfl) (by kernel_rfl) (fun _ _ _ h => h) (Or.inl ⟨by rfl, ?_⟩) hH ?_
  rotate_left
  · intro w hSw; go_simp; try with_reducible rfl
  try simp only [Act.put, List.setIfInBounds_toArray, List.set_cons_zero, List.set_cons_succ]
  refine takeD 8 (some 3) (v := ?_) rfl rfl (by kernel_rfl) (by kernel_rfl) (by kernel_rfl) (fun _ _ _ h => h) (Or.inl ⟨by rfl, ?_⟩) hH ?_
  rotate_left
  · intro w hSw; go_simp; try with_reducible rfl
  try simp only [Act.put, List.setIfInBounds_toArray, List.set_cons_zero, List.set_cons_succ]
  refine wpAnyH_done (by kernel_rfl) ?_ _
  refine NoPanic.normal ?_
  go_wp2_with fail
  go_ret2
  exact ⟨rfl, hH.2.2.2⟩
set_option linter.unusedSimpArgs false in
set_option maxRecDepth 100000 in
set_option maxHeartbeats 4000000 in
theorem print_7 {w : World} (hw : EnvS w) (a : Int) (v : ByteArray) (hv : v.size ≤ 900000) (h0 : -9223372036854775808 ≤ a) (h1 : a ≤ 9223372036854775807) (hc : chkZ 7 a v.data.toList = 0) {s : List UInt8} (hs : encP 7 a v.data.toList = s) (hsl : s.length ≤ 5000000) :
    Calls Tryd.prog 20 #[opV 7 a v] w fun e w' => e = .returned (.tuple #[.string (⟨#[99, 104, 101, 99, 107, 112, 111, 105, 110, 116]⟩ ++ ⟨s.toArray⟩), .int .i64 0]) ∧ Below w.heap.size w w' := by
  have hB := Lib.hid (below_al w (.cells (opC 7 a v) 24))
  have hR := Lib.hid (Rw.new w 24 (opC 7 a v))
  have hW := Lib.hid (hw.below hB.out)
  have HC := Lib.hid (check_any hW.out 7 a v hv)
  have HV : Hid (∀ W : World, EnvS W → Calls Tryd.prog 140 #[.agg #[.int .i64 7, .int .i64 a, .string v]] W fun e w' => e = .returned (.string ⟨s.toArray⟩) ∧ Below W.heap.size W w') := Lib.hid (fun W hW => by rw [← hs]; exact enc_any hW 7 (by decide) 7 a v hv h0 h1)
  rw [hc] at HC
  unfold opV at HC ⊢
  clear hc hs
  have hlt : w.heap.size < (w.alloc (.cells (opC 7 a v) 24)).heap.size := by simp
  go_enter Tryd.func20, Tryd.ntmps20
  go_wp2_with (go_at_call 21; refine HC.out.mono ?_; rintro e w1 ⟨rfl, hE⟩; have hR1 := Lib.hid (hR.out.below hE hlt); have hW1 := Lib.hid (hW.out.below hE); have hB1 := Lib.hid (hB.out.trans (below_le hE (Nat.le_of_lt hlt))); obtain ⟨c0, c1, c2, f0, f1, f2⟩ := hR1.out.facts; have t0 := hW1.out.tab 28 _ rfl; have t1 : w1.cell? ⟨0, 29, none⟩ = some (.func (.func 139) #[] #[]) := hW1.out.tab 29 _ rfl; have t2 : w1.cell? ⟨0, 30, none⟩ = some (.func (.func 140) #[] #[]) := hW1.out.tab 30 _ rfl; have t3 : w1.cell? ⟨0, 31, none⟩ = some (.func (.func 141) #[] #[]) := hW1.out.tab 31 _ rfl; have hne : w.heap.size ≠ w1.heap.size := Nat.ne_of_lt (Nat.lt_of_lt_of_le hlt hE.size); clear hE)
  have hS : EnvS (w1.alloc (Obj.cells #[.string ⟨#[99, 104, 101, 99, 107, 112, 111, 105, 110, 116]⟩, .func (.func 139) #[] #[], .func (.func 140) #[] #[], .func (.func 141) #[] #[]] 71)).drew ∧ Rw (w1.alloc (Obj.cells #[.string ⟨#[99, 104, 101, 99, 107, 112, 111, 105, 110, 116]⟩, .func (.func 139) #[] #[], .func (.func 140) #[] #[], .func (.func 141) #[] #[]] 71)).drew w.heap.size 24 (opC 7 a v) ∧ Rw (w1.alloc (Obj.cells #[.string ⟨#[99, 104, 101, 99, 107, 112, 111, 105, 110, 116]⟩, .func (.func 139) #[] #[], .func (.func 140) #[] #[], .func (.func 141) #[] #[]] 71)).drew w1.heap.size 71 #[.string ⟨#[99, 104, 101, 99, 107, 112, 111, 105, 110, 116]⟩, .func (.func 139) #[] #[], .func (.func 140) #[] #[], .func (.func 141) #[] #[]] ∧ Below w.heap.size w (w1.alloc (Obj.cells #[.string ⟨#[99, 104, 101, 99, 107, 112, 111, 105, 110, 116]⟩, .func (.func 139) #[] #[], .func (.func 140) #[] #[], .func (.func 141) #[] #[]] 71)).drew := ⟨(hW1.out.below (below_al _ _)).drew, hR1.out.alloc _, Rw.new w1 71 #[.string ⟨#[99, 104, 101, 99, 107, 112, 111, 105, 110, 116]⟩, .func (.func 139) #[] #[], .func (.func 140) #[] #[], .func (.func 141) #[] #[]], (hB1.out.alloc hB1.out.size _).drew⟩
  refine wp_region_noPanic ?_
  refine wp_region_held_drew (S := fun w' => EnvS w' ∧ Rw w' w.heap.size 24 (opC 7 a v) ∧ Rw w' w1.heap.size 71 #[.string ⟨#[99, 104, 101, 99, 107, 112, 111, 105, 110, 116]⟩, .func (.func 139) #[] #[], .func (.func 140) #[] #[], .func (.func 141) #[] #[]] ∧ Below w.heap.size w w') (by kernel_rfl) (hS) (fun hH => ?_)
  refine takeD 0 (some 15) (v := ?_) rfl rfl (by kernel_rfl) (by kernel_rfl) (by kernel_rfl) (fun _ _ _ h => h) (Or.inl ⟨by rfl, ?_⟩) hH ?_
  rotate_left
  · intro w hSw; go_simp; try with_reducible rfl
  try simp only [Act.put, List.setIfInBounds_toArray, List.set_cons_zero, List.set_cons_succ]
  refine takeD 1 (some 16) (v := ?_) rfl rfl (by kernel_rfl) (by kernel_rfl) (by kernel_rfl) (fun _ _ _ h => h) (Or.inl ⟨by rfl, ?_⟩) hH ?_
  rotate_left
  · intro w hSw; obtain ⟨r0, r1, r2, r3⟩ := hSw.2.2.1.facts4; go_simp; try with_reducible rfl
  try simp only [Act.put, List.setIfInBounds_toArray, List.set_cons_zero, List.set_cons_succ]
  refine takeD 2 (some 17) (v := ?_) rfl rfl (by kernel_rfl) (by kernel_rfl) (by kernel_rfl) (fun _ _ _ h => h) (Or.inl ⟨by rfl, ?_⟩) hH ?_
  rotate_left
  · intro w hSw; go_simp; try with_reducible rfl
  try simp only [Act.put, List.setIfInBounds_toArray, List.set_cons_zero, List.set_cons_succ]
  refine takeD 3 (some 18) (v := ?_) rfl rfl (by kernel_rfl) (by kernel_rfl) (by kernel_rfl) (fun _ _ _ h => h) (Or.inl ⟨by rfl, ?_⟩) hH ?_
  rotate_left
  · intro w hSw; obtain ⟨r0, r1, r2, r3⟩ := hSw.2.2.1.facts4; go_simp; try with_reducible rfl
  try simp only [Act.put, List.setIfInBounds_toArray, List.set_cons_zero, List.set_cons_succ]
  refine takeD 4 (some 19) (v := ?_) rfl rfl (by kernel_rfl) (by kernel_rfl) (by kernel_rfl) (fun _ _ _ h => h) (Or.inl ⟨by rfl, ?_⟩) hH ?_
  rotate_left
  · intro w hSw; obtain ⟨c0, c1, c2, f0, f1, f2⟩ := hSw.2.1.facts; go_simp; try with_reducible rfl
  try simp only [Act.put, List.setIfInBounds_toArray, List.set_cons_zero, List.set_cons_succ]
  refine wpAnyH_ready (rs := [5]) (by kernel_rfl) (by simp) ?_
  refine AllReadyH.cons rfl (fun K hK => ?_) AllReadyH.nil
  go_simp
  go_at_call 140; refine (HV.out _ hH.1).mono ?_; rintro e w' ⟨rfl, hE⟩; replace hH : EnvS w' ∧ Rw w' w.heap.size 24 (opC 7 a v) ∧ Rw w' w1.heap.size 71 #[.string ⟨#[99, 104, 101, 99, 107, 112, 111, 105, 110, 116]⟩, .func (.func 139) #[] #[], .func (.func 140) #[] #[], .func (.func 141) #[] #[]] ∧ Below w.heap.size w w' := ⟨hH.1.below hE, hH.2.1.below hE hH.2.1.lt, hH.2.2.1.below hE hH.2.2.1.lt, hH.2.2.2.trans (below_le hE hH.2.2.2.size)⟩
  go_wp2_with fail
  refine hK.out _ _ (hH) (fun hH => ?_)
  clear hK K
  try simp only [Act.put, List.setIfInBounds_toArray, List.set_cons_zero, List.set_cons_succ]
  refine takeD 6 (some 21) (v := .string (⟨#[99, 104, 101, 99, 107, 112, 111, 105, 110, 116]⟩ ++ ⟨s.toArray⟩)) rfl rfl (by kernel_rfl) (by kernel_rfl) (by kernel_rfl) (fun _ _ _ h => h) (Or.inl ⟨by rfl, ?_⟩) hH ?_
  · intro w hSw; go_simp; omega
  try simp only [Act.put, List.setIfInBounds_toArray, List.set_cons_zero, List.set_cons_succ]
  refine takeD 7 (some 2) (v := ?_) rfl rfl (by kernel_rfl) (by kernel_rfl) (by kernel_rfl) (fun _ _ _ h => h) (Or.inl ⟨by rfl, ?_⟩) hH ?_
  rotate_left
  · intro w hSw; go_simp; try with_reducible rfl
  try simp only [Act.put, List.setIfInBounds_toArray, List.set_cons_zero, List.set_cons_succ]
  refine takeD 8 (some 3) (v := ?_) rfl rfl (by kernel_rfl) (by kernel_rfl) (by kernel_rfl) (fun _ _ _ h => h) (Or.inl ⟨by rfl, ?_⟩) hH ?_
  rotate_left
  · intro w hSw; go_simp; try with_reducible rfl
  try simp only [Act.put, List.setIfInBounds_toArray, List.set_cons_zero, List.set_cons_succ]
  refine wpAnyH_done (by kernel_rfl) ?_ _
  refine NoPanic.normal ?_
  go_wp2_with fail
  go_ret2
  exact ⟨rfl, hH.2.2.2⟩
set_option linter.unusedSimpArgs false in
set_option maxRecDepth 100000 in
set_option maxHeartbeats 4000000 in
theorem print_8 {w : World} (hw : EnvS w) (a : Int) (v : ByteArray) (hv : v.size ≤ 900000) (h0 : -9223372036854775808 ≤ a) (h1 : a ≤ 9223372036854775807) (hc : chkZ 8 a v.data.toList = 0) {s : List UInt8} (hs : encP 8 a v.data.toList = s) (hsl : s.length ≤ 5000000) :
    Calls Tryd.prog 20 #[opV 8 a v] w fun e w' => e = .returned (.tuple #[.string (⟨#[99, 114, 97, 115, 104]⟩ ++ ⟨s.toArray⟩), .int .i64 0]) ∧ Below w.heap.size w w' := by
  have hB := Lib.hid (below_al w (.cells (opC 8 a v) 24))
  have hR := Lib.hid (Rw.new w 24 (opC 8 a v))
  have hW := Lib.hid (hw.below hB.out)
  have HC := Lib.hid (check_any hW.out 8 a v hv)
  have HV : Hid (∀ W : World, EnvS W → Calls Tryd.prog 143 #[.agg #[.int .i64 8, .int .i64 a, .string v]] W fun e w' => e = .returned (.string ⟨s.toArray⟩) ∧ Below W.heap.size W w') := Lib.hid (fun W hW => by rw [← hs]; exact enc_any hW 8 (by decide) 8 a v hv h0 h1)
  rw [hc] at HC
  unfold opV at HC ⊢
  clear hc hs
  have hlt : w.heap.size < (w.alloc (.cells (opC 8 a v) 24)).heap.size := by simp
  go_enter Tryd.func20, Tryd.ntmps20
  go_wp2_with (go_at_call 21; refine HC.out.mono ?_; rintro e w1 ⟨rfl, hE⟩; have hR1 := Lib.hid (hR.out.below hE hlt); have hW1 := Lib.hid (hW.out.below hE); have hB1 := Lib.hid (hB.out.trans (below_le hE (Nat.le_of_lt hlt))); obtain ⟨c0, c1, c2, f0, f1, f2⟩ := hR1.out.facts; have t0 := hW1.out.tab 32 _ rfl; have t1 : w1.cell? ⟨0, 33, none⟩ = some (.func (.func 142) #[] #[]) := hW1.out.tab 33 _ rfl; have t2 : w1.cell? ⟨0, 34, none⟩ = some (.func (.func 143) #[] #[]) := hW1.out.tab 34 _ rfl; have t3 : w1.cell? ⟨0, 35, none⟩ = some (.func (.func 144) #[] #[]) := hW1.out.tab 35 _ rfl; have hne : w.heap.size ≠ w1.heap.size := Nat.ne_of_lt (Nat.lt_of_lt_of_le hlt hE.size); clear hE)
  have hS : EnvS (w1.alloc (Obj.cells #[.string ⟨#[99, 114, 97, 115, 104]⟩, .func (.func 142) #[] #[], .func (.func 143) #[] #[], .func (.func 144) #[] #[]] 71)).drew ∧ Rw (w1.alloc (Obj.cells #[.string ⟨#[99, 114, 97, 115, 104]⟩, .func (.func 142) #[] #[], .func (.func 143) #[] #[], .func (.func 144) #[] #[]] 71)).drew w.heap.size 24 (opC 8 a v) ∧ Rw (w1.alloc (Obj.cells #[.string ⟨#[99, 114, 97, 115, 104]⟩, .func (.func 142) #[] #[], .func (.func 143) #[] #[], .func (.func 144) #[] #[]] 71)).drew w1.heap.size 71 #[.string ⟨#[99, 114, 97, 115, 104]⟩, .func (.func 142) #[] #[], .func (.func 143) #[] #[], .func (.func 144) #[] #[]] ∧ Below w.heap.size w (w1.alloc (Obj.cells #[.string ⟨#[99, 114, 97, 115, 104]⟩, .func (.func 142) #[] #[], .func (.func 143) #[] #[], .func (.func 144) #[] #[]] 71)).drew := ⟨(hW1.out.below (below_al _ _)).drew, hR1.out.alloc _, Rw.new w1 71 #[.string ⟨#[99, 114, 97, 115, 104]⟩, .func (.func 142) #[] #[], .func (.func 143) #[] #[], .func (.func 144) #[] #[]], (hB1.out.alloc hB1.out.size _).drew⟩
  refine wp_region_noPanic ?_
  refine wp_region_held_drew (S := fun w' => EnvS w' ∧ Rw w' w.heap.size 24 (opC 8 a v) ∧ Rw w' w1.heap.size 71 #[.string ⟨#[99, 114, 97, 115, 104]⟩, .func (.func 142) #[] #[], .func (.func 143) #[] #[], .func (.func 144) #[] #[]] ∧ Below w.heap.size w w') (by kernel_rfl) (hS) (fun hH => ?_)
  refine takeD 0 (some 15) (v := ?_) rfl rfl (by kernel_rfl) (by kernel_rfl) (by kernel_rfl) (fun _ _ _ h => h) (Or.inl ⟨by rfl, ?_⟩) hH ?_
  rotate_left
  · intro w hSw; go_simp; try with_reducible rfl
  try simp only [Act.put, List.setIfInBounds_toArray, List.set_cons_zero, List.set_cons_succ]
  refine takeD 1 (some 16) (v := ?_) rfl rfl (by kernel_rfl) (by kernel_rfl) (by kernel_rfl) (fun _ _ _ h => h) (Or.inl ⟨by rfl, ?_⟩) hH ?_
  rotate_left
  · intro w hSw; obtain ⟨r0, r1, r2, r3⟩ := hSw.2.2.1.facts4; go_simp; try with_reducible rfl
  try simp only [Act.put, List.setIfInBounds_toArray, List.set_cons_zero, List.set_cons_succ]
  refine takeD 2 (some 17) (v := ?_) rfl rfl (by kernel_rfl) (by kernel_rfl) (by kernel_rfl) (fun _ _ _ h => h) (Or.inl ⟨by rfl, ?_⟩) hH ?_
  rotate_left
  · intro w hSw; go_simp; try with_reducible rfl
  try simp only [Act.put, List.setIfInBounds_toArray, List.set_cons_zero, List.set_cons_succ]
  refine takeD 3 (some 18) (v := ?_) rfl rfl (by kernel_rfl) (by kernel_rfl) (by kernel_rfl) (fun _ _ _ h => h) (Or.inl ⟨by rfl, ?_⟩) hH ?_
  rotate_left
  · intro w hSw; obtain ⟨r0, r1, r2, r3⟩ := hSw.2.2.1.facts4; go_simp; try with_reducible rfl
  try simp only [Act.put, List.setIfInBounds_toArray, List.set_cons_zero, List.set_cons_succ]
  refine takeD 4 (some 19) (v := ?_) rfl rfl (by kernel_rfl) (by kernel_rfl) (by kernel_rfl) (fun _ _ _ h => h) (Or.inl ⟨by rfl, ?_⟩) hH ?_
  rotate_left
  · intro w hSw; obtain ⟨c0, c1, c2, f0, f1, f2⟩ := hSw.2.1.facts; go_simp; try with_reducible rfl
  try simp only [Act.put, List.setIfInBounds_toArray, List.set_cons_zero, List.set_cons_succ]
  refine wpAnyH_ready (rs := [5]) (by kernel_rfl) (by simp) ?_
  refine AllReadyH.cons rfl (fun K hK => ?_) AllReadyH.nil
  go_simp
  go_at_call 143; refine (HV.out _ hH.1).mono ?_; rintro e w' ⟨rfl, hE⟩; replace hH : EnvS w' ∧ Rw w' w.heap.size 24 (opC 8 a v) ∧ Rw w' w1.heap.size 71 #[.string ⟨#[99, 114, 97, 115, 104]⟩, .func (.func 142) #[] #[], .func (.func 143) #[] #[], .func (.func 144) #[] #[]] ∧ Below w.heap.size w w' := ⟨hH.1.below hE, hH.2.1.below hE hH.2.1.lt, hH.2.2.1.below hE hH.2.2.1.lt, hH.2.2.2.trans (below_le hE hH.2.2.2.size)⟩
  go_wp2_with fail
  refine hK.out _ _ (hH) (fun hH => ?_)
  clear hK K
  try simp only [Act.put, List.setIfInBounds_toArray, List.set_cons_zero, List.set_cons_succ]
  refine takeD 6 (some 21) (v := .string (⟨#[99, 114, 97, 115, 104]⟩ ++ ⟨s.toArray⟩)) rfl rfl (by kernel_rfl) (by kernel_rfl) (by kernel_rfl) (fun _ _ _ h => h) (Or.inl ⟨by rfl, ?_⟩) hH ?_
  · intro w hSw; go_simp; omega
  try simp only [Act.put, List.setIfInBounds_toArray, List.set_cons_zero, List.set_cons_succ]
  refine takeD 7 (some 2) (v := ?_) rfl rfl (by kernel_rfl) (by kernel_rfl) (by kernel_rfl) (fun _ _ _ h => h) (Or.inl ⟨by rfl, ?_⟩) hH ?_
  rotate_left
  · intro w hSw; go_simp; try with_reducible rfl
  try simp only [Act.put, List.setIfInBounds_toArray, List.set_cons_zero, List.set_cons_succ]
  refine takeD 8 (some 3) (v := ?_) rfl rfl (by kernel_rfl) (by kernel_rfl) (by kernel_rfl) (fun _ _ _ h => h) (Or.inl ⟨by rfl, ?_⟩) hH ?_
  rotate_left
  · intro w hSw; go_simp; try with_reducible rfl
  try simp only [Act.put, List.setIfInBounds_toArray, List.set_cons_zero, List.set_cons_succ]
  refine wpAnyH_done (by kernel_rfl) ?_ _
  refine NoPanic.normal ?_
  go_wp2_with fail
  go_ret2
  exact ⟨rfl, hH.2.2.2⟩
set_option linter.unusedSimpArgs false in
set_option maxRecDepth 100000 in
set_option maxHeartbeats 4000000 in
theorem print_9 {w : World} (hw : EnvS w) (a : Int) (v : ByteArray) (hv : v.size ≤ 900000) (h0 : -9223372036854775808 ≤ a) (h1 : a ≤ 9223372036854775807) (hc : chkZ 9 a v.data.toList = 0) {s : List UInt8} (hs : encP 9 a v.data.toList = s) (hsl : s.length ≤ 5000000) :
    Calls Tryd.prog 20 #[opV 9 a v] w fun e w' => e = .returned (.tuple #[.string (⟨#[114, 101, 111, 112, 101, 110]⟩ ++ ⟨s.toArray⟩), .int .i64 0]) ∧ Below w.heap.size w w' := by
  have hB := Lib.hid (below_al w (.cells (opC 9 a v) 24))
  have hR := Lib.hid (Rw.new w 24 (opC 9 a v))
  have hW := Lib.hid (hw.below hB.out)
  have HC := Lib.hid (check_any hW.out 9 a v hv)
  have HV : Hid (∀ W : World, EnvS W → Calls Tryd.prog 140 #[.agg #[.int .i64 9, .int .i64 a, .string v]] W fun e w' => e = .returned (.string ⟨s.toArray⟩) ∧ Below W.heap.size W w') := Lib.hid (fun W hW => by rw [← hs]; exact enc_any hW 9 (by decide) 9 a v hv h0 h1)
  rw [hc] at HC
  unfold opV at HC ⊢
  clear hc hs
  have hlt : w.heap.size < (w.alloc (.cells (opC 9 a v) 24)).heap.size := by simp
  go_enter Tryd.func20, Tryd.ntmps20
  go_wp2_with (go_at_call 21; refine HC.out.mono ?_; rintro e w1 ⟨rfl, hE⟩; have hR1 := Lib.hid (hR.out.below hE hlt); have hW1 := Lib.hid (hW.out.below hE); have hB1 := Lib.hid (hB.out.trans (below_le hE (Nat.le_of_lt hlt))); obtain ⟨c0, c1, c2, f0, f1, f2⟩ := hR1.out.facts; have t0 := hW1.out.tab 36 _ rfl; have t1 : w1.cell? ⟨0, 37, none⟩ = some (.func (.func 139) #[] #[]) := hW1.out.tab 37 _ rfl; have t2 : w1.cell? ⟨0, 38, none⟩ = some (.func (.func 140) #[] #[]) := hW1.out.tab 38 _ rfl; have t3 : w1.cell? ⟨0, 39, none⟩ = some (.func (.func 141) #[] #[]) := hW1.out.tab 39 _ rfl; have hne : w.heap.size ≠ w1.heap.size := Nat.ne_of_lt (Nat.lt_of_lt_of_le hlt hE.size); clear hE)
  have hS : EnvS (w1.alloc (Obj.cells #[.string ⟨#[114, 101, 111, 112, 101, 110]⟩, .func (.func 139) #[] #[], .func (.func 140) #[] #[], .func (.func 141) #[] #[]] 71)).drew ∧ Rw (w1.alloc (Obj.cells #[.string ⟨#[114, 101, 111, 112, 101, 110]⟩, .func (.func 139) #[] #[], .func (.func 140) #[] #[], .func (.func 141) #[] #[]] 71)).drew w.heap.size 24 (opC 9 a v) ∧ Rw (w1.alloc (Obj.cells #[.string ⟨#[114, 101, 111, 112, 101, 110]⟩, .func (.func 139) #[] #[], .func (.func 140) #[] #[], .func (.func 141) #[] #[]] 71)).drew w1.heap.size 71 #[.string ⟨#[114, 101, 111, 112, 101, 110]⟩, .func (.func 139) #[] #[], .func (.func 140) #[] #[], .func (.func 141) #[] #[]] ∧ Below w.heap.size w (w1.alloc (Obj.cells #[.string ⟨#[114, 101, 111, 112, 101, 110]⟩, .func (.func 139) #[] #[], .func (.func 140) #[] #[], .func (.func 141) #[] #[]] 71)).drew := ⟨(hW1.out.below (below_al _ _)).drew, hR1.out.alloc _, Rw.new w1 71 #[.string ⟨#[114, 101, 111, 112, 101, 110]⟩, .func (.func 139) #[] #[], .func (.func 140) #[] #[], .func (.func 141) #[] #[]], (hB1.out.alloc hB1.out.size _).drew⟩
  refine wp_region_noPanic ?_
  refine wp_region_held_drew (S := fun w' => EnvS w' ∧ Rw w' w.heap.size 24 (opC 9 a v) ∧ Rw w' w1.heap.size 71 #[.string ⟨#[114, 101, 111, 112, 101, 110]⟩, .func (.func 139) #[] #[], .func (.func 140) #[] #[], .func (.func 141) #[] #[]] ∧ Below w.heap.size w w') (by kernel_rfl) (hS) (fun hH => ?_)
  refine takeD 0 (some 15) (v := ?_) rfl rfl (by kernel_rfl) (by kernel_rfl) (by kernel_rfl) (fun _ _ _ h => h) (Or.inl ⟨by rfl, ?_⟩) hH ?_
  rotate_left
  · intro w hSw; go_simp; try with_reducible rfl
  try simp only [Act.put, List.setIfInBounds_toArray, List.set_cons_zero, List.set_cons_succ]
  refine takeD 1 (some 16) (v := ?_) rfl rfl (by kernel_rfl) (by kernel_rfl) (by kernel_rfl) (fun _ _ _ h => h) (Or.inl ⟨by rfl, ?_⟩) hH ?_
  rotate_left
  · intro w hSw; obtain ⟨r0, r1, r2, r3⟩ := hSw.2.2.1.facts4; go_simp; try with_reducible rfl
  try simp only [Act.put, List.setIfInBounds_toArray, List.set_cons_zero, List.set_cons_succ]
  refine takeD 2 (some 17) (v := ?_) rfl rfl (by kernel_rfl) (by kernel_rfl) (by kernel_rfl) (fun _ _ _ h => h) (Or.inl ⟨by rfl, ?_⟩) hH ?_
  rotate_left
  · intro w hSw; go_simp; try with_reducible rfl
  try simp only [Act.put, List.setIfInBounds_toArray, List.set_cons_zero, List.set_cons_succ]
  refine takeD 3 (some 18) (v := ?_) rfl rfl (by kernel_rfl) (by kernel_rfl) (by kernel_rfl) (fun _ _ _ h => h) (Or.inl ⟨by rfl, ?_⟩) hH ?_
  rotate_left
  · intro w hSw; obtain ⟨r0, r1, r2, r3⟩ := hSw.2.2.1.facts4; go_simp; try with_reducible rfl
  try simp only [Act.put, List.setIfInBounds_toArray, List.set_cons_zero, List.set_cons_succ]
  refine takeD 4 (some 19) (v := ?_) rfl rfl (by kernel_rfl) (by kernel_rfl) (by kernel_rfl) (fun _ _ _ h => h) (Or.inl ⟨by rfl, ?_⟩) hH ?_
  rotate_left
  · intro w hSw; obtain ⟨c0, c1, c2, f0, f1, f2⟩ := hSw.2.1.facts; go_simp; try with_reducible rfl
  try simp only [Act.put, List.setIfInBounds_toArray, List.set_cons_zero, List.set_cons_succ]
  refine wpAnyH_ready (rs := [5]) (by kernel_rfl) (by simp) ?_
  refine AllReadyH.cons rfl (fun K hK => ?_) AllReadyH.nil
  go_simp
  go_at_call 140; refine (HV.out _ hH.1).mono ?_; rintro e w' ⟨rfl, hE⟩; replace hH : EnvS w' ∧ Rw w' w.heap.size 24 (opC 9 a v) ∧ Rw w' w1.heap.size 71 #[.string ⟨#[114, 101, 111, 112, 101, 110]⟩, .func (.func 139) #[] #[], .func (.func 140) #[] #[], .func (.func 141) #[] #[]] ∧ Below w.heap.size w w' := ⟨hH.1.below hE, hH.2.1.below hE hH.2.1.lt, hH.2.2.1.below hE hH.2.2.1.lt, hH.2.2.2.trans (below_le hE hH.2.2.2.size)⟩
  go_wp2_with fail
  refine hK.out _ _ (hH) (fun hH => ?_)
  clear hK K
  try simp only [Act.put, List.setIfInBounds_toArray, List.set_cons_zero, List.set_cons_succ]
  refine takeD 6 (some 21) (v := .string (⟨#[114, 101, 111, 112, 101, 110]⟩ ++ ⟨s.toArray⟩)) rfl rfl (by kernel_rfl) (by kernel_rfl) (by kernel_rfl) (fun _ _ _ h => h) (Or.inl ⟨by rfl, ?_⟩) hH ?_
  · intro w hSw; go_simp; omega
  try simp only [Act.put, List.setIfInBounds_toArray, List.set_cons_zero, List.set_cons_succ]
  refine takeD 7 (some 2) (v := ?_) rfl rfl (by kernel_rfl) (by kernel_rfl) (by kernel_rfl) (fun _ _ _ h => h) (Or.inl ⟨by rfl, ?_⟩) hH ?_
  rotate_left
  · intro w hSw; go_simp; try with_reducible rfl
  try simp only [Act.put, List.setIfInBounds_toArray, List.set_cons_zero, List.set_cons_succ]
  refine takeD 8 (some 3) (v := ?_) rfl rfl (by kernel_rfl) (by kernel_rfl) (by kernel_rfl) (fun _ _ _ h => h) (Or.inl ⟨by rfl, ?_⟩) hH ?_
  rotate_left
  · intro w hSw; go_simp; try with_reducible rfl
  try simp only [Act.put, List.setIfInBounds_toArray, List.set_cons_zero, List.set_cons_succ]
  refine wpAnyH_done (by kernel_rfl) ?_ _
  refine NoPanic.normal ?_
  go_wp2_with fail
  go_ret2
  exact ⟨rfl, hH.2.2.2⟩
end Go.Proofs.YtjjnjglbmneecaaDoor
