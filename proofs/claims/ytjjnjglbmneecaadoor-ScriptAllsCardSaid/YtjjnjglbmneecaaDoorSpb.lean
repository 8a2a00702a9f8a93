/- The contract of script.plan. -/
import Derived.Test.YtjjnjglbmneecaaDoorSpa
namespace Go.Proofs.YtjjnjglbmneecaaDoor
open Go Go.RowKit Go.Shelf
attribute [local go_sem] Oper.semAt_some
theorem splitC_len (l : List UInt8) : (splitC l).length ≤ l.length + 1 ∧ ∀ p ∈ splitC l, p.length ≤ l.length := by
  induction l with
  | nil => simp [splitC]
  | cons c r ih =>
    unfold splitC
    split
    · refine ⟨by simp; omega, fun p hp => ?_⟩
      rcases List.mem_cons.1 hp with rfl | hp
      · simp
      · have := ih.2 p hp; simp; omega
    · split
      · rename_i h t he
        rw [he] at ih
        refine ⟨by have := ih.1; simp at this ⊢; omega, fun p hp => ?_⟩
        rcases List.mem_cons.1 hp with rfl | hp
        · have := ih.2 h (by simp); simpa using this
        · have := ih.2 p (by simp [hp]); simp; omega
      · simp
theorem atR_bd {l : List UInt8} {n : Int} (h : atR l = some n) : -9223372036854775808 ≤ n ∧ n ≤ 9223372036854775807 := by
  unfold atR at h
  split at h
  · rename_i v hv
    have := Option.some.inj h; subst this
    unfold Lib.atoiAll at hv
    split at hv
    · cases hv
    · simp only at hv
      split at hv
      · cases hv
      · cases hv
      · split at hv
        · cases hv
        · split at hv
          · cases hv
          · have := Lib.NumEnd.ok.inj hv
            subst this
            split <;> omega
  · exact absurd h (by simp)
theorem Rw.facts2 {w : World} {g : Nat} {t : TypeId} {a b : Value} (h : Rw w g t #[a, b]) : w.cell? ⟨g, 0, none⟩ = some a ∧ w.cell? ⟨g, 1, none⟩ = some b ∧ w.frozen? ⟨g, 0, none⟩ = false ∧ w.frozen? ⟨g, 1, none⟩ = false :=
  ⟨by rw [Lib.cell_of_heap h]; rfl, by rw [Lib.cell_of_heap h]; rfl, Lib.frozen_of_heap h 0, Lib.frozen_of_heap h 1⟩
theorem Rw.facts1 {w : World} {g : Nat} {t : TypeId} {a : Value} (h : Rw w g t #[a]) : w.cell? ⟨g, 0, none⟩ = some a ∧ w.frozen? ⟨g, 0, none⟩ = false := ⟨by rw [Lib.cell_of_heap h]; rfl, Lib.frozen_of_heap h 0⟩
theorem Rw.setCellOther {w : World} {g g' : Nat} {t t' : TypeId} {cs cs' : Array Value} (h : Rw w g t cs) (h' : Rw w g' t' cs') (hn : g ≠ g') (i : Nat) (v : Value) : Rw (w.setCell ⟨g', i, none⟩ v) g t cs := by
  rw [setCell_eq_setRow w g' i cs' t' (0, 0) v h']; exact h.setOther hn
/-- A round that returns. -/
theorem plX_round {w W w1 : World} {pre : List (List UInt8)} {p : List UInt8} {nums : List Int} (hn : numP p = none) (h1 : numsP pre = some nums)
    (h5 : Rw W (w.heap.size + 1) 50 #[.int .i64 0, .slice none 0 0]) (h6 : Rw W (w.heap.size + 2) 4 #[.bool false]) (h7 : Below w.heap.size w W) (hb : Below W.heap.size W w1) :
    KeepsOthers W (((w1.setCell ⟨w.heap.size + 1, 0, none⟩ (.int .i64 0)).setCell ⟨w.heap.size + 1, 1, none⟩ (.slice none 0 0)).setCell ⟨w.heap.size + 2, 0, none⟩ (.bool false)) ∧
    (numsP (pre ++ [p]) = none ∧ Rw (((w1.setCell ⟨w.heap.size + 1, 0, none⟩ (.int .i64 0)).setCell ⟨w.heap.size + 1, 1, none⟩ (.slice none 0 0)).setCell ⟨w.heap.size + 2, 0, none⟩ (.bool false)) (w.heap.size + 1) 50 #[.int .i64 0, .slice none 0 0] ∧
     Rw (((w1.setCell ⟨w.heap.size + 1, 0, none⟩ (.int .i64 0)).setCell ⟨w.heap.size + 1, 1, none⟩ (.slice none 0 0)).setCell ⟨w.heap.size + 2, 0, none⟩ (.bool false)) (w.heap.size + 2) 4 #[.bool false] ∧
     Below w.heap.size w (((w1.setCell ⟨w.heap.size + 1, 0, none⟩ (.int .i64 0)).setCell ⟨w.heap.size + 1, 1, none⟩ (.slice none 0 0)).setCell ⟨w.heap.size + 2, 0, none⟩ (.bool false))) := by
  have y5 := h5.below hb h5.lt
  have y6 := h6.below hb h6.lt
  have z5 := (y5.cell 0 (.int .i64 0)).cell 1 (.slice none 0 0)
  have z6 := (y6.setCellOther y5 (by omega) 0 (.int .i64 0)).setCellOther (y5.cell 0 (.int .i64 0)) (by omega) 1 (.slice none 0 0)
  have k1 : KeepsOthers W w1 := ⟨hb.size, fun k o hk _ => (hb.block k (Array.getElem?_eq_some_iff.1 hk).1).trans hk⟩
  refine ⟨((k1.trans (KeepsOthers.setCell _ _ _)).trans (KeepsOthers.setCell _ _ _)).trans (KeepsOthers.setCell _ _ _), by rw [numsP_app pre p h1, hn]; rfl, z5.setCellOther z6 (by omega) 0 _, z6.cell 0 _, ?_⟩
  exact (((h7.trans (below_le hb h7.size)).setCell (p := ⟨w.heap.size + 1, 0, none⟩) (by simp) _).setCell (p := ⟨w.heap.size + 1, 1, none⟩) (by simp) _).setCell (p := ⟨w.heap.size + 2, 0, none⟩) (by simp) _
theorem res49 {tmps : Array Value} {W : World} {g h : Nat} {x sl y : Value} (hp : tmps.getD 2 undef = .pointer (some ⟨g, 0, none⟩)) (hq : tmps.getD 3 undef = .pointer (some ⟨h, 0, none⟩)) (r1 : Rw W g 50 #[x, sl]) (r2 : Rw W h 4 #[y]) :
    (results Tryd.f49 tmps).run Tryd.prog W = .ok (.tuple #[.agg #[x, sl], y]) W := by
  have hp' : tmps[2]?.getD undef = .pointer (some ⟨g, 0, none⟩) := by simpa using hp
  have hq' : tmps[3]?.getD undef = .pointer (some ⟨h, 0, none⟩) := by simpa using hq
  obtain ⟨c0, _⟩ := r2.facts1
  obtain ⟨a0, a1, _, _⟩ := r1.facts2
  simp [results, hp', hq', asAddr, go_sem, a0, a1, c0]
/-- The way out of the call: the results are stored, and the list of what is deferred is taken up. -/
theorem plan_end {w W : World} {D : Nat} {x sl y x0 s0 y0 : Value} (hD : w.heap.size + 7 ≤ D) (h5 : Rw W (w.heap.size + 1) 50 #[x0, s0]) (h6 : Rw W (w.heap.size + 2) 4 #[y0]) (h7 : Below w.heap.size w W) (hK : W.heap[D]? = some (.deferred (some []))) :
    (((W.setCell ⟨w.heap.size + 1, 0, none⟩ x).setCell ⟨w.heap.size + 1, 1, none⟩ sl).setCell ⟨w.heap.size + 2, 0, none⟩ y).heap[D]? = some (.deferred (some [])) ∧
    Rw ((((W.setCell ⟨w.heap.size + 1, 0, none⟩ x).setCell ⟨w.heap.size + 1, 1, none⟩ sl).setCell ⟨w.heap.size + 2, 0, none⟩ y).putObj D (.deferred none)) (w.heap.size + 1) 50 #[x, sl] ∧
    Rw ((((W.setCell ⟨w.heap.size + 1, 0, none⟩ x).setCell ⟨w.heap.size + 1, 1, none⟩ sl).setCell ⟨w.heap.size + 2, 0, none⟩ y).putObj D (.deferred none)) (w.heap.size + 2) 4 #[y] ∧
    Below w.heap.size w ((((W.setCell ⟨w.heap.size + 1, 0, none⟩ x).setCell ⟨w.heap.size + 1, 1, none⟩ sl).setCell ⟨w.heap.size + 2, 0, none⟩ y).putObj D (.deferred none)) ∧
    (∀ v n xs, W.ownsRow (w.heap.size + 7) 3 1 v n xs → ((((W.setCell ⟨w.heap.size + 1, 0, none⟩ x).setCell ⟨w.heap.size + 1, 1, none⟩ sl).setCell ⟨w.heap.size + 2, 0, none⟩ y).putObj D (.deferred none)).ownsRow (w.heap.size + 7) 3 1 v n xs) := by
  have z5 := (h5.cell 0 x).cell 1 sl
  have z6 := (h6.setCellOther h5 (by omega) 0 x).setCellOther (h5.cell 0 x) (by omega) 1 sl
  have y5 := z5.setCellOther z6 (by omega) 0 y
  have y6 := z6.cell 0 y
  have k : KeepsOthers W (((W.setCell ⟨w.heap.size + 1, 0, none⟩ x).setCell ⟨w.heap.size + 1, 1, none⟩ sl).setCell ⟨w.heap.size + 2, 0, none⟩ y) := ((KeepsOthers.setCell _ _ _).trans (KeepsOthers.setCell _ _ _)).trans (KeepsOthers.setCell _ _ _)
  have hK' := k.same _ _ hK rfl
  have hB : Below w.heap.size w (((W.setCell ⟨w.heap.size + 1, 0, none⟩ x).setCell ⟨w.heap.size + 1, 1, none⟩ sl).setCell ⟨w.heap.size + 2, 0, none⟩ y) :=
    ((h7.setCell (p := ⟨w.heap.size + 1, 0, none⟩) (by simp) _).setCell (p := ⟨w.heap.size + 1, 1, none⟩) (by simp) _).setCell (p := ⟨w.heap.size + 2, 0, none⟩) (by simp) _
  refine ⟨hK', (World.putObj_heap_other (by omega)).trans y5, (World.putObj_heap_other (by omega)).trans y6, hB.trans (belowK_b (w := w) (Nat.le_refl _) _ D _ _ (by omega) hK' rfl rfl), fun v n xs h => ?_⟩
  have h' := ((h.kept (grown_set h5 0 x) (.inr (h5.ne_row h (by decide)).symm)))
  have h'' := h'.kept (grown_set (h5.cell 0 x) 1 sl) (.inr ((h5.cell 0 x).ne_row h' (by decide)).symm)
  have h3 := h''.kept (grown_set z6 0 y) (.inr (z6.ne_row h'' (by decide)).symm)
  exact row_other h3 (grownBy_putObj' _ D _) (fun r e => by cases e; exact ⟨_, hK', rfl⟩)
/-- A round has returned. -/
def PlX (w : World) (pre : List (List UInt8)) (W : World) : Prop := numsP pre = none ∧ Rw W (w.heap.size + 1) 50 #[.int .i64 0, .slice none 0 0] ∧ Rw W (w.heap.size + 2) 4 #[.bool false] ∧ Below w.heap.size w W
theorem plX_own (w : World) (B : Nat) (hB : w.heap.size + 5 ≤ B) : OwnFrom B (PlX w) := by
  rintro s W W' row ⟨h1, h2, h3, h7⟩ hg hr
  have hne : ∀ g, g < B → some g ≠ row := fun g hgB e => by have := (hr g e.symm).1; omega
  exact ⟨h1, h2.grown hg (hne _ (by omega)), h3.grown hg (hne _ (by omega)), h7.grown hg (by have := h7.size; omega) (fun k e => by have := (hr k e).1; omega)⟩
set_option maxRecDepth 100000 in
set_option maxHeartbeats 4000000 in
theorem plan_in {w : World} (hw : EnvS w) (k a : Int) (v : ByteArray) (hv : v.size ≤ 1000000) :
    CallsIn Fence.wide 4 Tryd.prog 49 #[opV k a v] w fun e W' => Below w.heap.size w W' ∧
      ((∃ l sl, planP v.data.toList = some l ∧ e = .returned (.tuple #[.agg #[.int .i64 a, sl], .bool true]) ∧ W'.ownsRow (w.heap.size + 7) 3 1 sl l.length (Vi l)) ∨
       (planP v.data.toList = none ∧ e = .returned (.tuple #[.agg #[.int .i64 0, .slice none 0 0], .bool false]))) := by
  unfold opV
  refine callsIn_of_wp_marks Tryd.func49 rfl trivial ?_ rfl
  simp only [Tryd.ntmps49, List.size_toArray, List.length_cons, List.length_nil, Nat.reduceAdd, Nat.reduceSub, Array.replicate_succ, Array.replicate_zero, List.push_toArray, List.append_toArray, List.nil_append, List.cons_append]
  gi_wp2_with (refine ⟨trivial, ?_⟩; gi_at_call 65; refine (callsIn_wide.2 (splitseq_any v _)).mono ?_; rintro e w2 ⟨rfl, rfl⟩)
  have g1 : Rw (w.alloc (.cells #[.int .i64 k, .int .i64 a, .string v] 24)) w.heap.size 24 #[.int .i64 k, .int .i64 a, .string v] := Rw.new _ _ _
  have g2 := Rw.new (w.alloc (.cells #[.int .i64 k, .int .i64 a, .string v] 24)) 50 #[.int .i64 0, .slice none 0 0]
  have g3 := Rw.new ((w.alloc (.cells #[.int .i64 k, .int .i64 a, .string v] 24)).alloc (.cells #[.int .i64 0, .slice none 0 0] 50)) 4 #[.bool false]
  have g4 := Rw.new (((w.alloc (.cells #[.int .i64 k, .int .i64 a, .string v] 24)).alloc (.cells #[.int .i64 0, .slice none 0 0] 50)).alloc (.cells #[.bool false] 4)) 50 #[.int .i64 a, .slice none 0 0]
  have hB0 : Below w.heap.size w ((((w.alloc (.cells #[.int .i64 k, .int .i64 a, .string v] 24)).alloc (.cells #[.int .i64 0, .slice none 0 0] 50)).alloc (.cells #[.bool false] 4)).alloc (.cells #[.int .i64 a, .slice none 0 0] 50)) := ((((Below.refl _ w).alloc (Nat.le_refl _) _).alloc (by simp) _).alloc (by simp; omega) _).alloc (by simp; omega) _
  obtain ⟨W4, hW4⟩ : ∃ W4, W4 = ((((w.alloc (.cells #[.int .i64 k, .int .i64 a, .string v] 24)).alloc (.cells #[.int .i64 0, .slice none 0 0] 50)).alloc (.cells #[.bool false] 4)).alloc (.cells #[.int .i64 a, .slice none 0 0] 50)) := ⟨_, rfl⟩
  have hs4 : W4.heap.size = w.heap.size + 4 := by rw [hW4]; simp
  have q2 : Rw W4 (w.heap.size + 1) 50 #[.int .i64 0, .slice none 0 0] := by rw [hW4]; simpa using (g2.alloc (.cells #[.bool false] 4)).alloc (.cells #[.int .i64 a, .slice none 0 0] 50)
  have q3 : Rw W4 (w.heap.size + 2) 4 #[.bool false] := by rw [hW4]; simpa using g3.alloc (.cells #[.int .i64 a, .slice none 0 0] 50)
  have q4 : Rw W4 (w.heap.size + 3) 50 #[.int .i64 a, .slice none 0 0] := by rw [hW4]; simpa using g4
  rw [← hW4] at hB0 ⊢
  clear g1 g2 g3 g4 hW4
  have s1 := Boxed.new W4 9 (.string v)
  have s2 := Boxed.new (W4.alloc (.cells #[.string v] 9)) 9 (.string ⟨#[44]⟩)
  have s3 := Boxed.new ((W4.alloc (.cells #[.string v] 9)).alloc (.cells #[.string ⟨#[44]⟩] 9)) 3 (.int .i64 0)
  have hB1 : Below w.heap.size w (((W4.alloc (.cells #[.string v] 9)).alloc (.cells #[.string ⟨#[44]⟩] 9)).alloc (.cells #[.int .i64 0] 3)) := ((hB0.alloc hB0.size _).alloc (by simp; omega) _).alloc (by simp; omega) _
  obtain ⟨W7, hW7⟩ : ∃ W7, W7 = (((W4.alloc (.cells #[.string v] 9)).alloc (.cells #[.string ⟨#[44]⟩] 9)).alloc (.cells #[.int .i64 0] 3)) := ⟨_, rfl⟩
  have hs7 : W7.heap.size = w.heap.size + 7 := by rw [hW7]; simp [hs4]
  have r1 : Rw W7 (w.heap.size + 4) 9 #[.string v] := by rw [hW7, ← hs4]; exact (Rw.alloc (Rw.alloc s1 _) _)
  have r2 : Rw W7 (w.heap.size + 5) 9 #[.string ⟨#[44]⟩] := by rw [hW7]; have := Rw.alloc (cs := #[.string ⟨#[44]⟩]) s2 (.cells #[.int .i64 0] 3); simpa [hs4] using this
  have r3 : Rw W7 (w.heap.size + 6) 3 #[.int .i64 0] := by rw [hW7]; have := s3; simp [hs4] at this; exact this
  have p2 : Rw W7 (w.heap.size + 1) 50 #[.int .i64 0, .slice none 0 0] := by rw [hW7]; exact ((q2.alloc _).alloc _).alloc _
  have p3 : Rw W7 (w.heap.size + 2) 4 #[.bool false] := by rw [hW7]; exact ((q3.alloc _).alloc _).alloc _
  have p4 : Rw W7 (w.heap.size + 3) 50 #[.int .i64 a, .slice none 0 0] := by rw [hW7]; exact ((q4.alloc _).alloc _).alloc _
  rw [← hW7] at hB1
  try rw [hs4]
  rw [← hW7]
  clear s1 s2 s3 q2 q3 q4 hB0 hW7
  have hvl : v.data.toList.length ≤ 1000000 := by have := Lib.size_eq v; omega
  have hsp := splitC_len v.data.toList
  have hen : encL v.data.toList = .string v := by unfold encL; rw [Lib.mk_data]
  refine wp_rf rfl (by omega) (gf := 87) (lb := #[.pointer (some ⟨w.heap.size + 4 + 1, 0, none⟩), .pointer (some ⟨w.heap.size + 4, 0, none⟩), .pointer (some ⟨w.heap.size + 4 + 2, 0, none⟩)]) rfl trivial (enters_of Tryd.func87 (by kernel_rfl) rfl)
    (enc := encL) (Kp := Kp3 (w.heap.size + 4)) (b := w.heap.size + 4) (seq_stops (w.heap.size + 4) v.data.toList hvl W7 (by rw [hen]; exact r1) r2 r3) (fun h k => h.trans k)
    (fun W l o hl => ⟨World.putObj_heap_other (by omega), World.putObj_heap_other (by omega), World.putObj_heap_other (by omega)⟩)
    (fun o o' => ⟨((r1.alloc o).alloc o').trans r1.symm, ((r2.alloc o).alloc o').trans r2.symm, ((r3.alloc o).alloc o').trans r3.symm⟩)
    (PlI a w) (PlX w) (plI_own a w _ (by omega)) (plX_own w _ (by omega)) (plI_set a w)
    ⟨.slice none 0 0, [], rfl, rfl, p4, World.ownsRow_nil _ _ _ _, p2, p3, hB1, ⟨_, r1⟩, ⟨_, r2⟩, _, r3⟩
    (fun x => { tmps := #[Value.agg #[Value.int IntKind.i64 k, Value.int IntKind.i64 a, Value.string v],
          Value.pointer (some { block := w.heap.size, off := 0 }),
          Value.pointer (some { block := w.heap.size + 1, off := 0 }),
          Value.pointer (some { block := w.heap.size + 1 + 1, off := 0 }),
          Value.pointer (some { block := w.heap.size + 1 + 1 + 1, off := 0 }), encL x, undef, undef,
          Value.pointer (some { block := w.heap.size, off := 1 }), Value.int IntKind.i64 a,
          Value.agg #[Value.int IntKind.i64 a, Value.slice none 0 0],
          Value.pointer (some { block := w.heap.size, off := 2 }), Value.string v,
          Value.func (Fn.func 87) #[]
            #[Value.pointer (some { block := w.heap.size + 1 + 1 + 1 + 1 + 1, off := 0 }),
              Value.pointer (some { block := w.heap.size + 1 + 1 + 1 + 1, off := 0 }),
              Value.pointer (some { block := w.heap.size + 1 + 1 + 1 + 1 + 2, off := 0 })],
          encL x, undef, undef, undef, undef, undef, undef, undef, undef, undef, undef, undef, undef, undef, undef,
          undef, undef, undef, undef, undef, undef, undef], defers := [] }) ?assign ?body ?done ?stop
  case assign =>
    intro l x W K hK
    gi_wp2
    exact hK
  case body =>
    rintro l pre x W ⟨sl, nums, h1, h2, h3, h4, h5, h6, h7, x0, x1, x2⟩ hpx
    have hmem : x ∈ splitC v.data.toList := by obtain ⟨t, ht⟩ := hpx; rw [← ht]; simp
    have hxl := hsp.2 x hmem
    have hpl : pre.length + 1 ≤ 1000001 := by
      have := hpx.length_le
      simp at this
      have := hsp.1
      omega
    have hW := Lib.hid (hw.below h7)
    have hWs : w.heap.size + 7 ≤ W.heap.size := by obtain ⟨v, hv⟩ := x2; exact hv.lt
    obtain ⟨bs, hbs⟩ : ∃ bs : ByteArray, bs = ⟨x.toArray⟩ := ⟨_, rfl⟩
    have hbl : bs.data.toList = x := by rw [hbs]
    have hsz : bs.size ≤ 1000000 := by rw [Lib.size_eq, hbl]; omega
    have en : encL x = .string bs := by rw [hbs]; rfl
    rw [en]
    clear en hbs r1 r2 r3 p2 p3 p4 hB1 hen
    obtain ⟨i0, hi0, hz0, hz1, hz2⟩ := info_parts infoInt
    have HP := Lib.hid (And.intro h1 (And.intro h2 (And.intro h3 (And.intro h4 (And.intro h5 (And.intro h6 h7))))))
    have HX := Lib.hid (And.intro x0 (And.intro x1 x2))
    have HL := Lib.hid hbl
    clear h1 h2 h3 h4 h5 h6 h7 x0 x1 x2 hbl hpx hmem hvl hs4 hs7
    rcases hn : atR x with _ | n
    · have HN : Hid (numP x = none) := Lib.hid (by unfold numP; rw [hn])
      rw [← HL.out] at hn
      gi_wp2_with (refine ⟨trivial, ?_⟩; gi_at_call 66; refine (CallsIn.inRound l (callsIn_wide.2 (atoi_no (by omega) hn hW.out))).mono ?_; rintro e w1 ⟨z, tt, pp, rfl, hE⟩; have HE := Lib.hid hE; obtain ⟨c0, c1, f0, f1⟩ := (HP.out.2.2.2.2.1.below HE.out HP.out.2.2.2.2.1.lt).facts2; obtain ⟨d0, e0⟩ := (HP.out.2.2.2.2.2.1.below HE.out HP.out.2.2.2.2.2.1.lt).facts1; clear hE)
      refine ⟨trivial, ?_⟩
      gi_wp2
      exact plX_round HN.out HP.out.1 HP.out.2.2.2.2.1 HP.out.2.2.2.2.2.1 HP.out.2.2.2.2.2.2 HE.out
    · have hbd := atR_bd hn
      by_cases hi : Lib.itoa n = x
      · have HN : Hid (numP x = some n) := Lib.hid (by unfold numP; rw [hn]; simp [hi])
        have HC : (Lib.itoa n == bs.toList) = true := by rw [Lib.toList_data, HL.out]; simpa using hi
        rw [← HL.out] at hn
        clear hi
        have hcl : nums.length + 1 ≤ 1000001 := by have := HP.out.2.1; omega
        have hws := HP.out.2.2.2.2.2.2.size
        gi_wp2_with (first
          | (refine ⟨trivial, ?_⟩; gi_at_call 66; refine (CallsIn.inRound l (callsIn_wide.2 (atoi_ok (by omega) hn _))).mono ?_; rintro e w1 ⟨rfl, hE⟩; have HE1 := Lib.hid hE; have hW1 := Lib.hid (hW.out.below hE); clear hE)
          | (refine ⟨trivial, ?_⟩; gi_at_call 67; refine (CallsIn.inRound l (callsIn_wide.2 (itoa_any hW1.out n hbd.1 hbd.2))).mono ?_; rintro e w2 ⟨rfl, hE⟩; have HE := Lib.hid (HE1.out.trans (below_le hE HE1.out.size)); obtain ⟨c0, c1, f0, f1⟩ := (HP.out.2.2.1.below HE.out HP.out.2.2.1.lt).facts2; have hsz2 := HE.out.size; have HO2 := Lib.hid (owns_below HP.out.2.2.2.1 HE.out); clear hE)
          | (gi_at_builtin; refine wpListIn_append_own _ rfl _ _ 48 rfl (w.heap.size + 7) 3 i0 (.int .i64 0) 1 8 Tryd.underlying48 hi0 hz0 hz1 hz2 rfl (by decide) _ _ _ rfl (HO2.out.alloc _) ⟨w2.heap.size, 0, none⟩ 1 1 [.int .i64 n] rfl rfl (cell_one_new _ _ _) (by simp [Value.oneCell']) (by unfold maxLen; omega) (by omega) (by simp; omega) ?_; intro v' w5 hown' hgrow _; obtain ⟨g', cap', rfl⟩ := ownsRow_succ hown'; have HO := Lib.hid hown'; have HG := Lib.hid hgrow; obtain ⟨c3, c4, f3, f4⟩ := (((HP.out.2.2.1.below HE.out HP.out.2.2.1.lt).alloc (.cells #[.int .i64 n] 3)).grown hgrow (HP.out.2.2.1.ne_row HP.out.2.2.2.1 (by decide))).facts2; clear hown' hgrow))
        exact plI_round HN.out HP.out.1 HP.out.2.1 HP.out.2.2.1 HP.out.2.2.2.1 HP.out.2.2.2.2.1 HP.out.2.2.2.2.2.1 HP.out.2.2.2.2.2.2 HX.out.1 HX.out.2.1 HX.out.2.2 HE.out HO.out HG.out
      · have HN : Hid (numP x = none) := Lib.hid (by unfold numP; rw [hn]; simp [hi])
        have HC : (Lib.itoa n == bs.toList) = false := by rw [Lib.toList_data, HL.out]; simpa using hi
        rw [← HL.out] at hn
        clear hi
        gi_wp2_with (first
          | (refine ⟨trivial, ?_⟩; gi_at_call 66; refine (CallsIn.inRound l (callsIn_wide.2 (atoi_ok (by omega) hn _))).mono ?_; rintro e w1 ⟨rfl, hE⟩; have HE1 := Lib.hid hE; have hW1 := Lib.hid (hW.out.below hE); clear hE)
          | (refine ⟨trivial, ?_⟩; gi_at_call 67; refine (CallsIn.inRound l (callsIn_wide.2 (itoa_any hW1.out n hbd.1 hbd.2))).mono ?_; rintro e w2 ⟨rfl, hE⟩; have HE := Lib.hid (HE1.out.trans (below_le hE HE1.out.size)); obtain ⟨c0, c1, f0, f1⟩ := (HP.out.2.2.2.2.1.below HE.out HP.out.2.2.2.2.1.lt).facts2; obtain ⟨d0, e0⟩ := (HP.out.2.2.2.2.2.1.below HE.out HP.out.2.2.2.2.2.1.lt).facts1; clear hE))
        exact plX_round HN.out HP.out.1 HP.out.2.2.2.2.1 HP.out.2.2.2.2.2.1 HP.out.2.2.2.2.2.2 HE.out
  case done =>
    rintro D W hD ⟨sl, nums, h1, h2, h3, h4, h5, h6, h7, _⟩ hK
    obtain ⟨ao, n', cap, rfl⟩ : ∃ ao n' cap, sl = .slice ao n' cap := by
      rcases h4.2 with ⟨hv, _⟩ | ⟨g, cap, cur, hv, _⟩
      · exact ⟨_, _, _, hv⟩
      · exact ⟨_, _, _, hv⟩
    obtain ⟨c0, c1, f0, f1⟩ := h3.facts2
    obtain ⟨d0, d1, e0, e1⟩ := h5.facts2
    obtain ⟨k0, k1⟩ := h6.facts1
    have HP := Lib.hid (plan_end (x := .int .i64 a) (sl := .slice ao n' cap) (y := .bool true) (by omega) h5 h6 h7 hK)
    have H1 := Lib.hid h1
    have H4 := Lib.hid h4
    clear h1 h2 h3 h4 h5 h6 h7 hK
    gi_wp2
    refine ⟨by simp, .inl ⟨_, _, rfl, run_takeDeferred HP.out.1, ?_⟩⟩
    exact ⟨_, res49 rfl rfl HP.out.2.1 HP.out.2.2.1, HP.out.2.2.2.1, .inl ⟨nums, _, H1.out, rfl, HP.out.2.2.2.2 _ _ _ H4.out⟩⟩
  case stop =>
    rintro D pre W hD hpre ⟨h1, h5, h6, h7⟩ hK
    have HN : Hid (planP v.data.toList = none) := Lib.hid (by obtain ⟨t, ht⟩ := hpre; unfold planP; rw [← ht]; exact numsP_pre h1)
    gi_wp2
    refine ⟨by simp, .inl ⟨_, _, rfl, run_takeDeferred hK, ?_⟩⟩
    exact ⟨_, res49 rfl rfl ((World.putObj_heap_other (by omega)).trans h5) ((World.putObj_heap_other (by omega)).trans h6), h7.trans (belowK_b (w := w) (Nat.le_refl _) _ D _ _ (by omega) hK rfl rfl), .inr ⟨HN.out, rfl⟩⟩
theorem plan_any {w : World} (hw : EnvS w) (k a : Int) (v : ByteArray) (hv : v.size ≤ 1000000) :
    Calls Tryd.prog 49 #[opV k a v] w fun e W' => Below w.heap.size w W' ∧
      ((∃ l sl, planP v.data.toList = some l ∧ e = .returned (.tuple #[.agg #[.int .i64 a, sl], .bool true]) ∧ W'.ownsRow (w.heap.size + 7) 3 1 sl l.length (Vi l)) ∨
       (planP v.data.toList = none ∧ e = .returned (.tuple #[.agg #[.int .i64 0, .slice none 0 0], .bool false]))) :=
  callsIn_wide.1 (plan_in hw k a v hv)
end Go.Proofs.YtjjnjglbmneecaaDoor
