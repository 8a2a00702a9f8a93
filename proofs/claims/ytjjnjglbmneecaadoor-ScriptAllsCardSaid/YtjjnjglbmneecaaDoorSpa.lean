/- The contract of script.plan. -/
import Derived.Test.YtjjnjglbmneecaaDoorSrf
namespace Go.Proofs.YtjjnjglbmneecaaDoor
open Go Go.RowKit Go.Shelf
attribute [local go_sem] Oper.semAt_some
/-- The number that a part of a plan is. -/
def numP (p : List UInt8) : Option Int := match atR p with | some n => if Lib.itoa n = p then some n else none | none => none
def numsP : List (List UInt8) → Option (List Int)
  | [] => some []
  | p :: r => match numP p, numsP r with
    | some n, some l => some (n :: l)
    | _, _ => none
def planP (v : List UInt8) : Option (List Int) := numsP (splitC v)
theorem numsP_app (a : List (List UInt8)) (p : List UInt8) {l : List Int} (h : numsP a = some l) : numsP (a ++ [p]) = (numP p).map fun n => l ++ [n] := by
  induction a generalizing l with
  | nil => simp [numsP] at h; subst h; simp only [List.nil_append, numsP]; cases numP p <;> rfl
  | cons q r ih =>
    simp only [numsP] at h
    split at h
    · rename_i n l' hn hl
      have := Option.some.inj h; subst this
      rw [List.cons_append, numsP, hn, ih hl]; cases numP p <;> rfl
    · exact absurd h (by simp)
theorem numsP_pre {a b : List (List UInt8)} (h : numsP a = none) : numsP (a ++ b) = none := by
  induction a with
  | nil => simp [numsP] at h
  | cons q r ih =>
    rw [List.cons_append]
    simp only [numsP] at h ⊢
    cases hq : numP q with
    | none => rfl
    | some n =>
      rw [hq] at h
      cases hr : numsP r with
      | none => rw [ih hr]
      | some l => rw [hr] at h; exact absurd h (by simp)
theorem splitseq_any (v : ByteArray) (w : World) : Calls Tryd.prog 65 #[.string v, .string ⟨#[44]⟩] w fun e w' =>
    e = .returned (.func (.func 87) #[] #[.pointer (some ⟨w.heap.size + 1, 0, none⟩), .pointer (some ⟨w.heap.size, 0, none⟩), .pointer (some ⟨w.heap.size + 2, 0, none⟩)]) ∧
    w' = ((w.alloc (.cells #[.string v] 9)).alloc (.cells #[.string ⟨#[44]⟩] 9)).alloc (.cells #[.int .i64 0] 3) := by
  have H : Calls Tryd.prog 76 #[.string v, .string ⟨#[44]⟩, .int .i64 0] w fun e w' =>
    e = .returned (.func (.func 87) #[] #[.pointer (some ⟨w.heap.size + 1, 0, none⟩), .pointer (some ⟨w.heap.size, 0, none⟩), .pointer (some ⟨w.heap.size + 2, 0, none⟩)]) ∧
    w' = ((w.alloc (.cells #[.string v] 9)).alloc (.cells #[.string ⟨#[44]⟩] 9)).alloc (.cells #[.int .i64 0] 3) := by
    go_enter Tryd.func76, Tryd.ntmps76
    go_wp2_with fail
    go_ret
    exact ⟨rfl, rfl⟩
  have HH := Lib.hid H
  clear H
  go_enter Tryd.func65, Tryd.ntmps65
  go_wp2_with (go_at_call 76; refine HH.out.mono ?_; rintro e w' ⟨rfl, rfl⟩)
  go_ret
  exact ⟨rfl, rfl⟩
def Vi (l : List Int) : List Value := l.map fun y => Value.int .i64 y
theorem Vi_snoc (l : List Int) (x : Int) : Vi l ++ [.int .i64 x] = Vi (l ++ [x]) := by unfold Vi; simp
theorem infoInt : (Tryd.prog.info? 3).map (fun i => (i.zero, i.size, i.bytes)) = some (some (.int .i64 0), 1, 8) := by kernel_rfl
/-- Between two rounds. -/
def PlI (a : Int) (w : World) (pre : List (List UInt8)) (W : World) : Prop :=
  ∃ sl nums, numsP pre = some nums ∧ nums.length = pre.length ∧ Rw W (w.heap.size + 3) 50 #[.int .i64 a, sl] ∧ W.ownsRow (w.heap.size + 7) 3 1 sl nums.length (Vi nums) ∧
    Rw W (w.heap.size + 1) 50 #[.int .i64 0, .slice none 0 0] ∧ Rw W (w.heap.size + 2) 4 #[.bool false] ∧ Below w.heap.size w W ∧ (∃ v, Rw W (w.heap.size + 4) 9 #[v]) ∧ (∃ v, Rw W (w.heap.size + 5) 9 #[v]) ∧ ∃ v, Rw W (w.heap.size + 6) 3 #[v]
theorem Rw.ne_row {W : World} {g : Nat} {t : TypeId} {cs : Array Value} (h : Rw W g t cs) {B e sz n : Nat} {v : Value} {xs : List Value} (ho : W.ownsRow B e sz v n xs) (hte : t ≠ e) : some g ≠ v.ownBlock := by
  intro e1
  rcases ho.2 with ⟨rfl, _⟩ | ⟨g', cap, cur, rfl, _, hgg, _⟩
  · simp [Value.ownBlock] at e1
  · simp [Value.ownBlock] at e1
    subst e1
    have := (show W.heap[g]? = _ from h).symm.trans hgg
    simp at this
    exact hte this.2
theorem Rw.grown {W W' : World} {g : Nat} {t : TypeId} {cs : Array Value} {row : Option Nat} (h : Rw W g t cs) (hg : W.grownBy W' row) (hne : some g ≠ row) : Rw W' g t cs := (hg.block g h.lt hne).trans h
theorem grown_set {W : World} {g : Nat} {t : TypeId} {cs : Array Value} (h : Rw W g t cs) (i : Nat) (v : Value) : W.grownBy (W.setCell ⟨g, i, none⟩ v) (some g) := by
  rw [setCell_eq_setRow W g i cs t (0, 0) v h]
  exact ⟨rfl, rfl, rfl, by simp, fun k _ hk => setRow_other W g k _ (fun e => hk (by rw [e]))⟩
theorem row_other {W W' : World} {row : Option Nat} {B e sz n : Nat} {v : Value} {xs : List Value} (h : W.ownsRow B e sz v n xs) (hg : W.grownBy W' row) (hr : ∀ r, row = some r → ∃ o : Obj, W.heap[r]? = some o ∧ o.isCells = false) : W'.ownsRow B e sz v n xs := by
  refine h.kept hg ?_
  rcases h.2 with ⟨rfl, _⟩ | ⟨g', cap, cur, rfl, _, hgg, _⟩
  · exact .inl rfl
  · refine .inr fun e1 => ?_
    obtain ⟨o, ho, hc⟩ := hr g' e1.symm
    rw [hgg] at ho
    rw [← Option.some.inj ho] at hc
    simp [Obj.isCells] at hc
theorem plI_own (a : Int) (w : World) (B : Nat) (hB : w.heap.size + 7 ≤ B) : OwnFrom B (PlI a w) := by
  rintro s W W' row ⟨sl, nums, h1, h2, h3, h4, h5, h6, h7, ⟨v, h8⟩, ⟨v9, h9⟩, v0, h0⟩ hg hr
  have hne : ∀ g, g < B → some g ≠ row := fun g hgB e => by have := (hr g e.symm).1; omega
  exact ⟨sl, nums, h1, h2, h3.grown hg (hne _ (by omega)), row_other h4 hg (fun r e => (hr r e).2), h5.grown hg (hne _ (by omega)), h6.grown hg (hne _ (by omega)), h7.grown hg (by have := h7.size; omega) (fun k e => by have := (hr k e).1; omega), ⟨v, h8.grown hg (hne _ (by omega))⟩, ⟨v9, h9.grown hg (hne _ (by omega))⟩, v0, h0.grown hg (hne _ (by omega))⟩
theorem plI_set (a : Int) (w : World) (s : List (List UInt8)) (W : World) (v : Value) (h : PlI a w s W) : PlI a w s (W.setCell ⟨w.heap.size + 4, 0, none⟩ v) := by
  obtain ⟨sl, nums, h1, h2, h3, h4, h5, h6, h7, ⟨u, h8⟩, ⟨v9, h9⟩, v0, h0⟩ := h
  have ho : ∀ {g t' cs'}, Rw W g t' cs' → g ≠ w.heap.size + 4 → Rw (W.setCell ⟨w.heap.size + 4, 0, none⟩ v) g t' cs' := fun hr hn => by
    rw [setCell_eq_setRow W _ 0 _ 9 (0, 0) v h8]; exact hr.setOther hn
  exact ⟨sl, nums, h1, h2, ho h3 (by omega), h4.kept (grownBy_setCell' W _ v) (.inr fun e => h8.ne_row h4 (by decide) e.symm), ho h5 (by omega), ho h6 (by omega), h7.setCell (p := ⟨w.heap.size + 4, 0, none⟩) (by simp) v, ⟨_, h8.cell 0 v⟩, ⟨v9, ho h9 (by omega)⟩, v0, ho h0 (by omega)⟩
/-- A round that goes on. -/
theorem plI_round {a : Int} {w W w4 w5 : World} {pre : List (List UInt8)} {p : List UInt8} {n : Int} {sl sl' : Value} {nums : List Int} {tmp : Obj} (hn : numP p = some n)
    (h1 : numsP pre = some nums) (h2 : nums.length = pre.length) (h3 : Rw W (w.heap.size + 3) 50 #[.int .i64 a, sl]) (h4 : W.ownsRow (w.heap.size + 7) 3 1 sl nums.length (Vi nums))
    (h5 : Rw W (w.heap.size + 1) 50 #[.int .i64 0, .slice none 0 0]) (h6 : Rw W (w.heap.size + 2) 4 #[.bool false]) (h7 : Below w.heap.size w W)
    (x0 : ∃ v, Rw W (w.heap.size + 4) 9 #[v]) (x1 : ∃ v, Rw W (w.heap.size + 5) 9 #[v]) (x2 : ∃ v, Rw W (w.heap.size + 6) 3 #[v])
    (hb : Below W.heap.size W w4) (hown : w5.ownsRow (w.heap.size + 7) 3 1 sl' (nums.length + 1) (Vi nums ++ [.int .i64 n])) (hgrow : (w4.alloc tmp).grownBy w5 sl.ownBlock) :
    KeepsOthers W (w5.setCell ⟨w.heap.size + 3, 1, none⟩ sl') ∧ Kp3 (w.heap.size + 4) W (w5.setCell ⟨w.heap.size + 3, 1, none⟩ sl') ∧ PlI a w (pre ++ [p]) (w5.setCell ⟨w.heap.size + 3, 1, none⟩ sl') := by
  obtain ⟨v0, x0⟩ := x0
  obtain ⟨v1, x1⟩ := x1
  obtain ⟨v2, x2⟩ := x2
  have lift : ∀ {g t cs}, Rw W g t cs → some g ≠ sl.ownBlock → Rw w5 g t cs := fun hr hne => ((hr.below hb hr.lt).alloc tmp).grown hgrow hne
  have y3 := lift h3 (h3.ne_row h4 (by decide))
  have ho : ∀ {g t cs}, Rw w5 g t cs → g ≠ w.heap.size + 3 → Rw (w5.setCell ⟨w.heap.size + 3, 1, none⟩ sl') g t cs := fun hr hn => by
    rw [setCell_eq_setRow w5 _ 1 _ 50 (0, 0) sl' y3]; exact hr.setOther hn
  have z0 := ho (lift x0 (x0.ne_row h4 (by decide))) (by omega)
  have z1 := ho (lift x1 (x1.ne_row h4 (by decide))) (by omega)
  have z2 := ho (lift x2 (fun e => by have := (h4.lt _ e.symm).1; omega)) (by omega)
  have hB5 : Below w.heap.size w w5 := ((h7.trans (below_le hb h7.size)).alloc (by have := h7.size; have := hb.size; omega) tmp).grown hgrow (by have := h7.size; have := hb.size; simp; omega) (fun k hk => by have := (h4.lt k hk).1; omega)
  refine ⟨?_, ⟨z0.trans x0.symm, z1.trans x1.symm, z2.trans x2.symm⟩, sl', nums ++ [n], ?_, by simp [h2], y3.cell 1 sl', ?_, ho (lift h5 (h5.ne_row h4 (by decide))) (by omega), ho (lift h6 (h6.ne_row h4 (by decide))) (by omega), hB5.setCell (p := ⟨w.heap.size + 3, 1, none⟩) (by simp) _, ⟨_, z0⟩, ⟨_, z1⟩, _, z2⟩
  · have k1 : KeepsOthers W w4 := ⟨hb.size, fun k o hk _ => (hb.block k (Array.getElem?_eq_some_iff.1 hk).1).trans hk⟩
    refine ((k1.trans (KeepsOthers.alloc _ _)).trans (KeepsOthers.of_grownBy hgrow fun j o hj ho' => ?_)).trans (KeepsOthers.setCell _ _ _)
    rcases h4.2 with ⟨rfl, _⟩ | ⟨g', cap, cur, rfl, _, hgg, _⟩
    · simp [Value.ownBlock] at hj
    · simp [Value.ownBlock] at hj
      subst hj
      have hgl := (Array.getElem?_eq_some_iff.1 hgg).1
      have : (w4.alloc tmp).heap[g']? = some (.cells cur 3) := (Lib.alloc_old w4 tmp g' (by have := hb.size; omega)).trans ((hb.block g' hgl).trans hgg)
      rw [this] at ho'
      rw [← Option.some.inj ho']; rfl
  · rw [numsP_app pre p h1, hn]; rfl
  · rw [List.length_append, ← Vi_snoc]
    exact hown.kept (grown_set y3 1 sl') (.inr fun e => y3.ne_row hown (by decide) e.symm)
end Go.Proofs.YtjjnjglbmneecaaDoor
