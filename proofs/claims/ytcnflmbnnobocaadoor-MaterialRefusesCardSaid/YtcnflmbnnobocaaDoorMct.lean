/- The laws MaterialCounts, MaterialSigns, MaterialReads. Conditions: as in Env. -/
import Derived.Test.YtcnflmbnnobocaaDoorMwk
import Derived.Deep.RegionHeld3
namespace Go.Proofs.YtcnflmbnnobocaaDoor
open Go Go.RowKit

theorem works_R {w0 w : World} {hs : List (Nat × TypeId × List Int)} (h : Rch w0 hs w) : Calls Tryd.prog 13 #[] w fun e w' => e = .returned (.bool true) ∧ Rch w0 hs w' := (works_any w h.env).mono fun _ _ ⟨a, b⟩ => ⟨a, h.go b⟩
theorem Holds.range {w : World} {g : Nat} {k : IntKind} {t : TypeId} {l : List Int} (h : Holds w g k t l) : w.rangeAt g 0 (l.map (Value.int k)) := fun j v hv => by
  have hl : j < l.length := by
    have := List.getElem?_eq_some_iff.1 hv
    obtain ⟨h1, _⟩ := this
    simpa using h1
  rw [Nat.zero_add, h.cell j hl]
  simp at hv
  obtain ⟨x, hx, rfl⟩ := hv
  simp [hx]
theorem Rch.held_new {w0 w : World} {hs : List (Nat × TypeId × List Int)} (h : Rch w0 hs w) (t : TypeId) (l : List Int) : Rch w0 ((w.heap.size, t, l) :: hs) (w.alloc (.cells (ints l) t)) := by
  have h2 := h.alloc (.cells (ints l) t)
  refine ⟨h2.env, h2.bel, fun x hx => ?_⟩
  rcases List.mem_cons.1 hx with rfl | hx
  · exact Holds.new w .i64 t l
  · exact h2.held x hx
theorem matV_len (b : List Int) : (matV b).length = 10 := by unfold matV; rw [cnt_len]; rfl
theorem eqI {w : World} (l : List Int) (h : l.length = 10) : (Op.equalIn 10000 25 (.agg (ints l)) (.agg (ints l))).run Tryd.prog w = .ok true w := by
  have := run_eq_ints (P := Tryd.prog) (w := w) 9998 (t := 25) (e := 3) l l Tryd.underlying25 Tryd.underlying3 (by kernel_rfl) (by kernel_rfl) h h
  simpa using this
theorem takeD {P : Program} {md : Region.Mode} {ops : Array Oper} {Q : Exit → Act → World → Prop} {S : World → Prop} (i : Nat) (d : Option Tmp) {oi : Oper} {v : Value} {fuel : Nat} {listed : Array Bool} {a : Act} {w : World} (hi : ops[i]? = some oi) (hd : oi.dst = d)
    (hs : Region.noSelect ops = true) (hf : Region.free md ops listed i = true) (hr : (Region.ready md ops listed).contains i = true)
    (hQ : ∀ c a w, Q (.panic c) (a.put oi.dst v) w → Q (.panic c) a w) (hy : YieldsIf P ops S oi v a) (hS : S w)
    (h : wpAnyH P md ops Q S fuel (listed.setIfInBounds i true) (a.put d v) w) : wpAnyH P md ops Q S (fuel + 1) listed a w := by
  subst hd
  exact wpAnyH_take hi hs hf hr hQ hy hS h
theorem fieldI {w : World} (l : List Int) (h : l.length = 10) : (Instr.field 28 (.agg (ints l)) 0).run Tryd.prog w = .ok (.agg (ints l)) w := by
  obtain ⟨a0, a1, a2, a3, a4, a5, a6, a7, a8, a9, rfl⟩ := list10 l h
  kernel_rfl
set_option maxRecDepth 100000 in
set_option linter.unusedSimpArgs false in
set_option maxHeartbeats 4000000 in
theorem counts_any (b : List Int) (hb : b.length = 64) (w : World) (hw : Env w) : Calls Tryd.prog 3 #[.agg (ints b)] w fun e w' => e = .returned (.bool true) ∧ Below w.heap.size w w' := by
  have hR := (Rch.start hw).held_new 23 b
  have hu := Tryd.underlying23
  have hi : (Tryd.prog.info? 23).map (·.size) = some (b.map (Value.int .i64)).length := by rw [List.length_map, hb]; kernel_rfl
  have hcl : (b.map (Value.int .i64)).length = 64 := by rw [List.length_map, hb]
  have hoc : ∀ v ∈ b.map (Value.int .i64), v.oneCell' = true := by intro v hv; simp at hv; obtain ⟨x, _, rfl⟩ := hv; rfl
  have hE : ∀ w : World, (Op.equalIn 10000 25 (.agg (ints (matV b))) (.agg (ints (matV b)))).run Tryd.prog w = .ok true w := fun w => eqI _ (matV_len b)
  have hF : ∀ w : World, (Instr.field 28 (.agg (ints (matV b))) 0).run Tryd.prog w = .ok (.agg (ints (matV b))) w := fun w => fieldI _ (matV_len b)
  go_enter Tryd.func3, Tryd.ntmps3
  go_wp2_with fail
  generalize w.alloc (.cells (ints b) 23) = wq at *
  refine wp_region_noPanic ?_
  refine wp_region_held_drew (S := fun w' => Rch w [(w.heap.size, 23, b)] w') (by kernel_rfl) (hR.drew) (fun hH => ?_)
  refine takeD 0 (some 3) rfl rfl (by kernel_rfl) (by kernel_rfl) (by kernel_rfl) (fun _ _ _ h => h) (yieldsIf_load_mid (by rfl) _ _ rfl _ _ rfl _ _ (fun w h => h.hd.range) hu rfl hi) hH ?_
  try simp only [Act.put, List.setIfInBounds_toArray, List.set_cons_zero, List.set_cons_succ]
  refine takeD 2 (some 5) rfl rfl (by kernel_rfl) (by kernel_rfl) (by kernel_rfl) (fun _ _ _ h => h) (yieldsIf_load_mid (by rfl) _ _ rfl _ _ rfl _ _ (fun w h => h.hd.range) hu rfl hi) hH ?_
  try simp only [Act.put, List.setIfInBounds_toArray, List.set_cons_zero, List.set_cons_succ]
  refine wpAnyH_ready (rs := [1]) (by kernel_rfl) (by simp) ?_
  refine AllReadyH.cons rfl (fun K hK => ?_) AllReadyH.nil
  go_simp
  go_at_call 11; refine (of_R hH b hb).mono ?_; clear hH; rintro e w' ⟨rfl, hH⟩
  go_wp2_with fail
  refine hK.out _ _ (hH) (fun hH => ?_)
  clear hK K
  try simp only [Act.put, List.setIfInBounds_toArray, List.set_cons_zero, List.set_cons_succ]
  refine wpAnyH_ready (rs := [3]) (by kernel_rfl) (by simp) ?_
  refine AllReadyH.cons rfl (fun K hK => ?_) AllReadyH.nil
  go_simp
  go_at_call 12; refine (ofr_R hH b hb).mono ?_; clear hH; rintro e w' ⟨rfl, hH⟩
  go_wp2_with fail
  refine hK.out _ _ (hH) (fun hH => ?_)
  clear hK K
  try simp only [Act.put, List.setIfInBounds_toArray, List.set_cons_zero, List.set_cons_succ]
  refine takeD 4 (some 7) (v := ?_) rfl rfl (by kernel_rfl) (by kernel_rfl) (by kernel_rfl) (fun _ _ _ h => h) (Or.inl ⟨by rfl, ?_⟩) hH ?_
  rotate_left
  · intro w hSw; go_simp; try with_reducible rfl
  try simp only [Act.put, List.setIfInBounds_toArray, List.set_cons_zero, List.set_cons_succ]
  refine takeD 5 (some 8) (v := ?_) rfl rfl (by kernel_rfl) (by kernel_rfl) (by kernel_rfl) (fun _ _ _ h => h) (Or.inl ⟨by rfl, ?_⟩) hH ?_
  rotate_left
  · intro w hSw; go_simp; try with_reducible rfl
  try simp only [Act.put, List.setIfInBounds_toArray, List.set_cons_zero, List.set_cons_succ]
  refine takeD 6 (some 9) (v := ?_) rfl rfl (by kernel_rfl) (by kernel_rfl) (by kernel_rfl) (fun _ _ _ h => h) (Or.inl ⟨by rfl, ?_⟩) hH ?_
  rotate_left
  · intro w hSw; go_simp; try with_reducible rfl
  try simp only [Act.put, List.setIfInBounds_toArray, List.set_cons_zero, List.set_cons_succ]
  refine wpAnyH_ready (rs := [7]) (by kernel_rfl) (by simp) ?_
  refine AllReadyH.cons rfl (fun K hK => ?_) AllReadyH.nil
  go_simp
  go_at_call 13; refine (works_R hH).mono ?_; clear hH; rintro e w' ⟨rfl, hH⟩
  go_wp2_with fail
  refine hK.out _ _ (hH) (fun hH => ?_)
  clear hK K
  try simp only [Act.put, List.setIfInBounds_toArray, List.set_cons_zero, List.set_cons_succ]
  refine takeD 8 (some 11) (v := ?_) rfl rfl (by kernel_rfl) (by kernel_rfl) (by kernel_rfl) (fun _ _ _ h => h) (Or.inl ⟨by rfl, ?_⟩) hH ?_
  rotate_left
  · intro w hSw; go_simp; try with_reducible rfl
  try simp only [Act.put, List.setIfInBounds_toArray, List.set_cons_zero, List.set_cons_succ]
  refine takeD 9 (some 2) (v := ?_) rfl rfl (by kernel_rfl) (by kernel_rfl) (by kernel_rfl) (fun _ _ _ h => h) (Or.inl ⟨by rfl, ?_⟩) hH ?_
  rotate_left
  · intro w hSw; go_simp; try with_reducible rfl
  try simp only [Act.put, List.setIfInBounds_toArray, List.set_cons_zero, List.set_cons_succ]
  refine wpAnyH_done (by kernel_rfl) ?_ _
  refine NoPanic.normal ?_
  go_wp2_with fail
  go_ret
  exact ⟨rfl, hH.bel⟩
end Go.Proofs.YtcnflmbnnobocaaDoor
