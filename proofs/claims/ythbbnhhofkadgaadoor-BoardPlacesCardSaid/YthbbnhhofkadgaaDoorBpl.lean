/- The contract of board.Placement. No condition. -/
import Derived.Maps.AppendAt
import Derived.Sort.LoopGhostIn
import Derived.Test.YthbbnhhofkadgaaDoorBch
import Derived.Test.YthbbnhhofkadgaaDoorBfl
namespace Go.Proofs.YthbbnhhofkadgaaDoor
open Go Go.RowKit Go.Shelf
attribute [local go_sem] Oper.semAt_some
set_option maxHeartbeats 400000 in
theorem chunk_any (g : Nat) (w : World) : Calls Tryd.prog 40 #[.slice (some ⟨g, 0, none⟩) 64 64, .int .i64 8] w fun e w' => e = .returned (.func (.func 66) #[] #[.pointer (some ⟨w.heap.size, 0, none⟩), .pointer (some ⟨w.heap.size + 1, 0, none⟩)]) ∧ (w.alloc (.cells #[.slice (some ⟨g, 0, none⟩) 64 64] 56)).alloc (.cells #[.int .i64 8] 3) = w' := by
  go_enter Tryd.func40, Tryd.ntmps40
  go_wp2
  go_ret
  exact ⟨rfl, rfl⟩
theorem wplI_load {n : Nat} {P : Program} {ops : Array Oper} {rest : List Oper} {o : Oper} {a : Act} {w : World} {Q : Exit → Act → World → Prop} {g : Nat} {k : IntKind} {t : TypeId} {l : List Int} (hg : Holds w g k t l) (hgd : o.guard = none) (ty : TypeId) (x : Operand) (ho : o.op = .load ty x)
    (hx : a.eval x = .pointer (some ⟨g, 0, none⟩)) {m : Nat} {e : TypeId} (hu : P.underlying ty = some (.array m e)) (hi : (P.info? ty).map (·.size) = some l.length)
    (h : wpListIn Fence.wide n P ops Q rest (a.put o.dst (.agg (intsK k l))) w) : wpListIn Fence.wide n P ops Q (o :: rest) a w := by
  refine wpListIn_plain hgd fun K hK => ⟨fun _ _ => trivial, ?_⟩
  show o.uponIn Fence.wide n P a K Q ((o.semAt none a.eval).run P w)
  rw [Oper.semAt_none]
  unfold execOp
  simp only [ho, hx, Instr.loadAt, Instr.sureAddr, Sem.run_bind, Sem.run_pure, Result.andThen_ok, run_loadVar_row w g t ty (intsK k l) (0, 0) _ hg hu rfl (by rw [intsK_size]; exact hi)]
  exact hK _ _ h
/-- The line of a rank under way: what is written, and how many squares are empty behind it. -/
def lnK (b : List Int) (i : Nat) : Nat → ByteArray × Nat
  | 0 => (⟨#[]⟩, 0)
  | k + 1 => if b.getD (8 * i + k) 0 = 0 then ((lnK b i k).1, (lnK b i k).2 + 1) else (flS (lnK b i k).1 (lnK b i k).2 ++ letS (b.getD (8 * i + k) 0), 0)
def lineB (b : List Int) (i : Nat) : ByteArray := flS (lnK b i 8).1 (lnK b i 8).2
theorem flS_size (s : ByteArray) (n : Nat) (h : n < 100) : (flS s n).size ≤ s.size + 2 := by
  unfold flS
  split
  · omega
  · have := numS_size n h
    have e : (s ++ numS n).size = s.size + (numS n).size := by simp
    omega
theorem letS_size (p : Int) : (letS p).size ≤ 1 := by
  unfold letS
  split
  · simp; omega
  · simp [ByteArray.size]
theorem lnK_bd (b : List Int) (i k : Nat) (hk : k ≤ 8) : (lnK b i k).1.size ≤ 3 * k ∧ (lnK b i k).2 ≤ k := by
  induction k with
  | zero => exact ⟨by simp [lnK, ByteArray.size], by simp [lnK]⟩
  | succ k ih =>
    have ih := ih (by omega)
    simp only [lnK]
    split
    · exact ⟨by simp; omega, by simp; omega⟩
    · refine ⟨?_, by simp⟩
      have h1 := letS_size (b.getD (8 * i + k) 0)
      have h2 : (flS (lnK b i k).1 (lnK b i k).2).size ≤ (lnK b i k).1.size + 2 := flS_size _ _ (by omega)
      have e : (flS (lnK b i k).1 (lnK b i k).2 ++ letS (b.getD (8 * i + k) 0)).size = (flS (lnK b i k).1 (lnK b i k).2).size + (letS (b.getD (8 * i + k) 0)).size := by simp
      simp only []
      omega
theorem okB_get {b : List Int} (h : okB b) (i : Nat) : 0 ≤ b.getD i 0 ∧ b.getD i 0 ≤ 12 := by
  by_cases hi : i < b.length
  · exact h _ (List.mem_of_getElem? (i := i) (by simp [hi]))
  · rw [List.getD_eq_getElem?_getD, List.getElem?_eq_none (by omega)]; decide
def plS (b : List Int) : ByteArray := ⟨(Lib.join (((List.range 8).reverse.map (lineB b)).map (·.data.toList)) [47]).toArray⟩
theorem grown_drewN (W : World) (n : Nat) : W.grownBy (W.drewN n) none := ⟨rfl, rfl, rfl, Nat.le_refl _, fun _ _ _ => rfl⟩
/-- The ranks come, each once. -/
theorem chunk_stops (C g : Nat) (W3 : World) (x1 : Boxed W3 C 56 (.slice (some ⟨g, 0, none⟩) 64 64)) (x2 : Boxed W3 (C + 1) 3 (.int .i64 8)) :
    SeqStopsK (α := Fin 8) Fence.wide 3 Tryd.prog 66 #[.pointer (some ⟨C, 0, none⟩), .pointer (some ⟨C + 1, 0, none⟩)] (fun i => #[.slice (some ⟨g, 8 * i.val, none⟩) 8 8]) (KpC C) (fun ys => ys.map (·.val) = List.range 8) (fun _ => True) 8 W3 := by
  intro l J Jx W hW hJ hJx hY h0
  have y1 : W.heap[C]? = some (.cells #[.slice (some ⟨g, 0, none⟩) 64 64] 56 (0, 0)) := (hW.block C x1.lt).trans x1
  have y2 : W.heap[C + 1]? = some (.cells #[.int .i64 8] 3 (0, 0)) := (hW.block (C + 1) x2.lt).trans x2
  refine (chunk1_in l C g (fun pre W => ∃ q : List (Fin 8), q.map (·.val) = pre ∧ J q W) (fun pre W => ∃ q : List (Fin 8), q.map (·.val) = pre ∧ Jx q W) ?_ ?_ W y1 y2 ⟨[], rfl, h0⟩).mono ?_
  · rintro pre W n ⟨q, rfl, hq⟩
    exact ⟨q, rfl, hJ q W _ none hq (grown_drewN W n) (fun r e => by cases e)⟩
  · rintro pre i W1 hi ⟨q, rfl, hq⟩ hl
    refine (hY q ⟨i, hi⟩ W1 hq (by simpa using hl)).mono ?_
    rintro e W' (⟨rfl, h1, h2⟩ | ⟨rfl, h1⟩)
    · exact .inl ⟨rfl, ⟨q ++ [⟨i, hi⟩], by simp, h1⟩, h2⟩
    · exact .inr ⟨rfl, q ++ [⟨i, hi⟩], by simp, h1⟩
  · rintro e W' ⟨h1, ⟨ys, rfl, q, h2, h3⟩ | ⟨pre, _, q, h2, h3⟩⟩
    · exact ⟨h1, .inl ⟨q, h2, h3⟩⟩
    · exact ⟨h1, .inr ⟨q, trivial, h3⟩⟩
/-- Between two ranks: the lines so far, the board, the iterator's two variables. -/
def PlI (b : List Int) (w : World) (R : Nat) (pre : List (Fin 8)) (W : World) : Prop :=
  (∃ v, Boxed W R 33 v ∧ W.ownsRow w.heap.size 9 1 v pre.length (pre.map fun i => Value.string (lineB b i.val)) ∧ True) ∧ Holds W w.heap.size .i64 24 b ∧ Boxed W (R + 1) 56 (.slice (some ⟨w.heap.size, 0, none⟩) 64 64) ∧ Boxed W (R + 1 + 1) 3 (.int .i64 8) ∧ Below w.heap.size w W
theorem holds_own {β : Type} (g : Nat) (k : IntKind) (t : TypeId) (l : List Int) : Own (fun (_ : β) W => Holds W g k t l) := fun s X Y row hs hg hrow =>
  (hg.block g hs.lt (fun e => by obtain ⟨o, ho, hc⟩ := hrow g e.symm; rw [show X.heap[g]? = _ from hs] at ho; cases ho; cases hc)).trans hs
theorem plI_own (b : List Int) (w : World) (R : Nat) {B : Nat} (hB : w.heap.size ≤ B) : OwnFrom B (PlI b w R) :=
  OwnFrom.and (Own.from (holdsRow_own w.heap.size R 33 9 1 (fun pre : List (Fin 8) => pre.length) (fun pre => pre.map fun i => Value.string (lineB b i.val)) (fun _ _ => True)) _)
    (OwnFrom.and (Own.from (holds_own _ _ _ _) _) (OwnFrom.and (Own.from (boxed_own _ _ _) _) (OwnFrom.and (Own.from (boxed_own _ _ _) _) (ownFrom_below (Nat.le_refl _) hB))))
theorem size_setCells' (b : Nat) : ∀ (vs : List Value) (o : Nat) (w : World), (w.setCells b o vs).heap.size = w.heap.size
  | [], _, _ => rfl
  | v :: r, o, w => by
    show ((w.setCell ⟨b, o, none⟩ v).setCells b (o + 1) r).heap.size = _
    rw [size_setCells' b r]; simp [World.setCell]
theorem heap_setCells' (b : Nat) : ∀ (vs : List Value) (o : Nat) (w : World) (k : Nat), k ≠ b → (w.setCells b o vs).heap[k]? = w.heap[k]?
  | [], _, _, _, _ => rfl
  | _ :: r, o, _, k, hk => (heap_setCells' b r (o + 1) _ k hk).trans (Below.heap_setCell _ _ _ _ hk)
theorem below_setCells' {B b : Nat} {a : World} (hb : B ≤ b) : ∀ (vs : List Value) (o : Nat) (w : World), Below B a w → Below B a (w.setCells b o vs)
  | [], _, _, h => h
  | v :: r, o, _, h => below_setCells' hb r (o + 1) _ (h.setCell (p := ⟨b, o, none⟩) hb v)
theorem below_dn' (w : World) (n B : Nat) : Below B w (w.drewN n) := ⟨rfl, rfl, rfl, Nat.le_refl _, fun _ _ => rfl⟩
theorem rev_any (g cap : Nat) (S : Nat → ByteArray) (W : World) (hc : ∀ i, i < 8 → W.cell? ⟨g, 0 + i, none⟩ = some (.string (S i))) (hf : ∀ j, j < 8 → W.frozen? ⟨g, 0 + j, none⟩ = false) :
    Calls Tryd.prog 44 #[.slice (some ⟨g, 0, none⟩) 8 cap] W fun e w' => e = .returned (.tuple #[]) ∧ (∀ j, j < 8 → w'.cell? ⟨g, 0 + j, none⟩ = some (.string (S (7 - j)))) ∧ (∀ k, k ≠ g → k < W.heap.size → w'.heap[k]? = W.heap[k]?) ∧ w'.heap.size = W.heap.size ∧ ∀ B, B ≤ g → Below B W w' := by
  refine (Tryd.slices_Reverse_string_cells g 0 8 cap S W (by decide) hc hf).mono ?_
  rintro e w' ⟨rfl, q, rfl⟩
  have hl : ((Lib.strsOf S 8).reverse.map encStr).length = 8 := by simp [Lib.strsOf]
  refine ⟨rfl, ?_, ?_, ?_, ?_⟩
  · intro j hj
    have h1 := World.cell?_setCells_in g ((Lib.strsOf S 8).reverse.map encStr) 0 (W.drewN q) (fun i hi => by
      have := hc i (by omega)
      show (W.cell? _).isSome = true
      rw [this]; rfl) j (by omega)
    rw [h1]
    have h2 : ((Lib.strsOf S 8).reverse.map encStr)[j]? = some (.string (S (7 - j))) := by
      rw [List.getElem?_map, List.getElem?_reverse (by simp [Lib.strsOf]; exact hj)]
      have hlt : 8 - 1 - j < 8 := by omega
      simp [Lib.strsOf, hlt]
    rw [List.getElem?_eq_getElem (by omega)] at h2
    exact h2
  · intro k hk hlt
    exact heap_setCells' g _ 0 (W.drewN q) k hk
  · exact (size_setCells' g _ 0 (W.drewN q))
  · intro B hB
    exact below_setCells' hB _ _ _ (below_dn' W q B)
theorem join_len {xs : List (List UInt8)} {c : UInt8} {m : Nat} (h : ∀ x ∈ xs, x.length ≤ m) : (Lib.join xs [c]).length ≤ (m + 1) * xs.length := by
  induction xs with
  | nil => simp [Lib.join]
  | cons x r ih =>
    have h1 := h x (by simp)
    have h2 := ih (fun y hy => h y (by simp [hy]))
    cases r with
    | nil => simp [Lib.join]; omega
    | cons y s =>
      have e : Lib.join (x :: y :: s) [c] = x ++ ([c] ++ Lib.join (y :: s) [c]) := by simp [Lib.join, List.intercalate, List.intersperse]
      rw [e]
      simp only [List.length_append, List.length_cons, List.length_nil] at h2 ⊢
      have e2 : (m + 1) * (s.length + 1 + 1) = (m + 1) * (s.length + 1) + (m + 1) := Nat.mul_succ _ _
      rw [e2]
      omega
theorem lineB_size (b : List Int) (i : Nat) : (lineB b i).size ≤ 26 := by
  have h := lnK_bd b i 8 (Nat.le_refl _)
  have := flS_size (lnK b i 8).1 (lnK b i 8).2 (by omega)
  unfold lineB
  omega
theorem join_any (b : List Int) (g cap : Nat) (W : World) (hg : g < W.heap.size) (hcap : 8 ≤ cap) (hc : ∀ j, j < 8 → W.cell? ⟨g, 0 + j, none⟩ = some (.string (lineB b (7 - j)))) :
    Calls Tryd.prog 45 #[.slice (some ⟨g, 0, none⟩) 8 cap, .string ⟨#[47]⟩] W fun e w' => e = .returned (.string (plS b)) ∧ Below W.heap.size W w' := by
  have hxl : ((List.range 8).reverse.map (lineB b)).length = 8 := by simp
  have hlen : (Lib.join (((List.range 8).reverse.map (lineB b)).map (·.data.toList)) [47]).length ≤ 140737488355328 := by
    have := join_len (xs := ((List.range 8).reverse.map (lineB b)).map (·.data.toList)) (c := 47) (m := 26) (by
      intro x hx
      simp only [List.map_map, List.mem_map] at hx
      obtain ⟨i, _, rfl⟩ := hx
      have := lineB_size b i
      simpa using this)
    rw [List.length_map, hxl] at this
    omega
  have := Tryd.strings_Join g 0 cap ((List.range 8).reverse.map (lineB b)) ⟨#[47]⟩ W (fun j x hx => by
    have hj : j < 8 := by have := (List.getElem?_eq_some_iff.1 hx).1; rw [hxl] at this; exact this
    rw [hc j hj]
    rw [List.getElem?_map, List.getElem?_reverse (by simpa using hj)] at hx
    have hlt : 8 - 1 - j < 8 := by omega
    simp [hlt] at hx
    rw [hx]) hg (by rw [hxl]; decide) (by rw [hxl]; exact hcap) hlen
  rw [hxl] at this
  exact this
theorem infoStr : (Tryd.prog.info? 9).map (fun i => (i.zero, i.size, i.bytes)) = some (some (.string ⟨#[]⟩), 1, 16) := by kernel_rfl
theorem boxed_below {W W' : World} {B : Nat} {t : TypeId} {v : Value} {n : Nat} (h : Boxed W B t v) (hb : Below n W W') (hn : B < n) : Boxed W' B t v := (hb.block B hn).trans h
theorem owns_below {W W' : World} {base : Nat} {e : TypeId} {size : Nat} {v : Value} {n : Nat} {xs : List Value} (h : W.ownsRow base e size v n xs) (hb : Below W.heap.size W W') : W'.ownsRow base e size v n xs := by
  refine ⟨h.1, ?_⟩
  rcases h.2 with hn | ⟨g, cap, cur, rfl, hg, hgg, rest⟩
  · exact .inl hn
  · exact .inr ⟨g, cap, cur, rfl, hg, (hb.block g (Array.getElem?_eq_some_iff.1 hgg).1).trans hgg, rest⟩
theorem plP_below {b : List Int} {w W W' : World} {R : Nat} {v : Value} {n : Nat} {xs : List Value} (h : Boxed W R 33 v ∧ W.ownsRow w.heap.size 9 1 v n xs ∧ Holds W w.heap.size .i64 24 b ∧ Boxed W (R + 1) 56 (.slice (some ⟨w.heap.size, 0, none⟩) 64 64) ∧ Boxed W (R + 1 + 1) 3 (.int .i64 8) ∧ Below w.heap.size w W) (hb : Below W.heap.size W W') :
    Boxed W' R 33 v ∧ W'.ownsRow w.heap.size 9 1 v n xs ∧ Holds W' w.heap.size .i64 24 b ∧ Boxed W' (R + 1) 56 (.slice (some ⟨w.heap.size, 0, none⟩) 64 64) ∧ Boxed W' (R + 1 + 1) 3 (.int .i64 8) ∧ Below w.heap.size w W' :=
  ⟨boxed_below h.1 hb h.1.lt, owns_below h.2.1 hb, h.2.2.1.below hb h.2.2.1.lt, boxed_below h.2.2.2.1 hb h.2.2.2.1.lt, boxed_below h.2.2.2.2.1 hb h.2.2.2.2.1.lt, h.2.2.2.2.2.trans (hb.mono h.2.2.2.2.2.size)⟩
theorem round_end {b : List Int} {w W w4 w5 : World} {R : Nat} {v v' : Value} {pre : List (Fin 8)} {i : Fin 8} {iv : Nat} {B : Nat} {tmp : Obj} (hi : i.val = iv)
    (h : Boxed W R 33 v ∧ W.ownsRow w.heap.size 9 1 v pre.length (pre.map fun i => Value.string (lineB b i.val)) ∧ Holds W w.heap.size .i64 24 b ∧ Boxed W (R + 1) 56 (.slice (some ⟨w.heap.size, 0, none⟩) 64 64) ∧ Boxed W (R + 1 + 1) 3 (.int .i64 8) ∧ Below w.heap.size w W)
    (hb : Below W.heap.size W w4) (hR : w.heap.size < R) (hown : w5.ownsRow w.heap.size 9 1 v' (pre.length + 1) ((pre.map fun i => Value.string (lineB b i.val)) ++ [.string (lineB b iv)])) (hgrow : (w4.alloc tmp).grownBy w5 v.ownBlock) :
    KeepsFrom B W (w5.setCell ⟨R, 0, none⟩ v') ∧ KpC (R + 1) W (w5.setCell ⟨R, 0, none⟩ v') ∧ PlI b w R (pre ++ [i]) (w5.setCell ⟨R, 0, none⟩ v') := by
  obtain ⟨hv, hr, hH, hC1, hC2, hBl⟩ := plP_below h hb
  have hsz := hBl.size
  obtain ⟨hv1, hv2, hr2, hk2, hb2⟩ := hv.appended (by decide) hr hsz (by omega) hown hgrow
  have e1 : Boxed (w5.setCell ⟨R, 0, none⟩ v') (R + 1) 56 (.slice (some ⟨w.heap.size, 0, none⟩) 64 64) := bx_other ((hC1.alloc tmp).kept hgrow (hC1.not_row (by decide) hr)) v' (by simp)
  have e2 : Boxed (w5.setCell ⟨R, 0, none⟩ v') (R + 1 + 1) 3 (.int .i64 8) := bx_other ((hC2.alloc tmp).kept hgrow (hC2.not_row (by decide) hr)) v' (by simp; omega)
  have e3 : Holds (w5.setCell ⟨R, 0, none⟩ v') w.heap.size .i64 24 b := by
    refine Holds.setOther ?_ v' (by simp; omega)
    have hne : some w.heap.size ≠ v.ownBlock := by
      intro e
      rcases hr.2 with ⟨rfl, _⟩ | ⟨g, cap, cur, rfl, _, hgg, _⟩
      · simp [Value.ownBlock] at e
      · simp [Value.ownBlock] at e
        subst e
        have := (show w4.heap[w.heap.size]? = _ from hH).symm.trans hgg
        simp at this
    exact (hgrow.block _ (by have := hH.lt; simp; omega) hne).trans (hH.alloc tmp)
  refine ⟨⟨Nat.le_trans hb.size hk2.size, fun k o _ hk ho => hk2.same k o ((hb.block k (Array.getElem?_eq_some_iff.1 hk).1).trans hk) ho⟩, ⟨e1.trans h.2.2.2.1.symm, e2.trans h.2.2.2.2.1.symm⟩, ⟨v', hv2, ?_, trivial⟩, e3, e1, e2, hBl.trans hb2⟩
  rw [List.length_append, List.map_append, List.map_singleton, List.length_singleton, hi]
  exact hr2
set_option maxRecDepth 100000 in
set_option maxHeartbeats 1000000 in
theorem place_in (b : List Int) (hb : b.length = 64) (hok : okB b) (w : World) :
    CallsIn Fence.wide 4 Tryd.prog 15 #[.agg (ints b)] w fun e W' => e = .returned (.tuple #[.string (plS b), .int .i64 0]) ∧ Below w.heap.size w W' := by
  have hi : (Tryd.prog.info? 24).map (·.size) = some b.length := by rw [hb]; kernel_rfl
  have hg : Holds (w.alloc (.cells (intsK .i64 b) 24)) w.heap.size .i64 24 b := Holds.new w .i64 24 b
  have hB : Below w.heap.size w (w.alloc (.cells (intsK .i64 b) 24)) := (Below.refl _ _).alloc (Nat.le_refl _) _
  have HC := Lib.hid (chkB_t hok)
  refine callsIn_of_wp_marks Tryd.func15 rfl trivial ?_ rfl
  simp only [Tryd.ntmps15, List.size_toArray, List.length_cons, List.length_nil, Nat.reduceAdd, Nat.reduceSub, Array.replicate_succ, Array.replicate_zero, List.push_toArray, List.append_toArray, List.nil_append, List.cons_append]
  gi_wp2_with (first
    | (with_reducible refine wplI_load (g := w.heap.size) (k := .i64) (t := 24) (l := b) hg rfl 24 _ rfl rfl Tryd.underlying24 hi ?_)
    | (refine ⟨trivial, ?_⟩; gi_at_call 17; refine (callsIn_wide.2 (check_any b hb _)).mono ?_; rintro e w1 ⟨rfl, hb1⟩; rw [HC.out]; have hg1 := hg.below hb1 (by simp); have hB1 := hB.trans (hb1.mono hB.size); clear hb1)
    | (refine ⟨trivial, ?_⟩; gi_at_call 40; refine (callsIn_wide.2 (chunk_any _ _)).mono ?_; rintro e w2 ⟨rfl, rfl⟩))
  have hB3 : Below w.heap.size w (((w1.alloc (.cells #[.slice none 0 0] 33)).alloc (.cells #[.slice (some ⟨w.heap.size, 0, none⟩) 64 64] 56)).alloc (.cells #[.int .i64 8] 3)) := ((hB1.alloc hB1.size _).alloc (by simp; have := hB1.size; omega) _).alloc (by simp; have := hB1.size; omega) _
  have hg3 : Holds (((w1.alloc (.cells #[.slice none 0 0] 33)).alloc (.cells #[.slice (some ⟨w.heap.size, 0, none⟩) 64 64] 56)).alloc (.cells #[.int .i64 8] 3)) w.heap.size .i64 24 b := ((hg1.alloc _).alloc _).alloc _
  have x0 : Boxed (((w1.alloc (.cells #[.slice none 0 0] 33)).alloc (.cells #[.slice (some ⟨w.heap.size, 0, none⟩) 64 64] 56)).alloc (.cells #[.int .i64 8] 3)) w1.heap.size 33 (.slice none 0 0) := ((Boxed.new w1 33 _).alloc _).alloc _
  have x1 : Boxed (((w1.alloc (.cells #[.slice none 0 0] 33)).alloc (.cells #[.slice (some ⟨w.heap.size, 0, none⟩) 64 64] 56)).alloc (.cells #[.int .i64 8] 3)) (w1.heap.size + 1) 56 (.slice (some ⟨w.heap.size, 0, none⟩) 64 64) := by
    have := (Boxed.new (w1.alloc (.cells #[.slice none 0 0] 33)) 56 (.slice (some ⟨w.heap.size, 0, none⟩) 64 64)).alloc (.cells #[.int .i64 8] 3)
    simpa using this
  have x2 : Boxed (((w1.alloc (.cells #[.slice none 0 0] 33)).alloc (.cells #[.slice (some ⟨w.heap.size, 0, none⟩) 64 64] 56)).alloc (.cells #[.int .i64 8] 3)) (w1.heap.size + 1 + 1) 3 (.int .i64 8) := by
    have := Boxed.new ((w1.alloc (.cells #[.slice none 0 0] 33)).alloc (.cells #[.slice (some ⟨w.heap.size, 0, none⟩) 64 64] 56)) 3 (.int .i64 8)
    simpa using this
  have hR0 : w.heap.size < w1.heap.size := hg1.lt
  obtain ⟨W3, hW3⟩ : ∃ W3, W3 = (((w1.alloc (.cells #[.slice none 0 0] 33)).alloc (.cells #[.slice (some ⟨w.heap.size, 0, none⟩) 64 64] 56)).alloc (.cells #[.int .i64 8] 3)) := ⟨_, rfl⟩
  rw [← hW3] at hB3 hg3 x0 x1 x2 ⊢
  have hsz3 : w1.heap.size + 1 + 1 + 1 = W3.heap.size := by rw [hW3]; simp
  clear hW3
  have hseq := chunk_stops (w1.heap.size + 1) w.heap.size W3 x1 x2
  generalize hR : w1.heap.size = R at *
  clear hg1 hB1 hB hg hi
  refine wpIn_rangeFunc_ownG rfl (by omega) (gf := 66) (lb := #[.pointer (some ⟨R + 1, 0, none⟩), .pointer (some ⟨R + 1 + 1, 0, none⟩)]) rfl trivial (enters_of Tryd.func66 (by kernel_rfl) rfl)
    hseq (fun h k => KpC.trans h k) (fun W l o o' hl _ _ _ => ⟨World.putObj_heap_other (by omega), World.putObj_heap_other (by omega)⟩) (Below.refl _ _) (fun _ => rfl)
    (PlI b w R) (fun _ _ _ => False) (plI_own b w R (by omega)) (fun _ _ _ _ _ hs _ _ => hs) ⟨⟨_, x0, World.ownsRow_nil _ _ _ _, trivial⟩, hg3, x1, x2, hB3⟩
    (fun i => { tmps := #[Value.agg (ints b), .pointer (some ⟨w.heap.size, 0, none⟩), .string ⟨#[]⟩, .int .i64 0, .int .i64 0, .pointer (some ⟨R, 0, none⟩), .slice (some ⟨w.heap.size, 8 * i.val, none⟩) 8 8, undef, undef, undef, undef, undef, undef, undef, .agg (intsK .i64 b), .int .i64 0, .int .i64 0, .bool false, undef, .slice (some ⟨w.heap.size, 0, none⟩) 64 64, .func (.func 66) #[] #[.pointer (some ⟨R + 1, 0, none⟩), .pointer (some ⟨R + 1 + 1, 0, none⟩)], .slice (some ⟨w.heap.size, 8 * i.val, none⟩) 8 8, undef, undef, undef, undef, undef, undef, undef, undef, undef, undef, undef, undef, undef, undef, undef, undef, undef, undef, undef, undef, undef, undef, undef, undef, undef, undef, undef, undef, undef, undef, undef, undef], defers := [] }) ?assign ?body ?done ?stop
  case assign =>
    intro l x W K hK
    gi_wp2
    exact hK
  case body =>
    rintro l pre i W ⟨⟨v, hv, hr, _⟩, hH, hC1, hC2, hBl⟩ hlen
    have hl0 := hok
    have HI := Lib.hid (And.intro hv (And.intro hr (And.intro hH (And.intro hC1 (And.intro hC2 hBl)))))
    have hHs := hH.lt
    have hlen0 := Lib.hid hlen
    clear hv hr hC1 hC2 hBl hseq x0 x1 x2 hg3 hB3 hlen hl0
    have hi8 := i.isLt
    generalize hi : i.val = iv at *
    gi_wp2_with fail
    gi_loopg [25] 8 (fun m c wr => ∃ k : Nat, m = 8 - k ∧ k ≤ 8 ∧ c = .int .i64 k ∧ Boxed wr W.heap.size 9 (.string (lnK b iv k).1) ∧ Boxed wr (W.heap.size + 1) 3 (.int .i64 ((lnK b iv k).2 : Nat)) ∧ Below W.heap.size W wr)
    case atStart =>
      exact ⟨0, rfl, by omega, rfl, (Boxed.new W 9 _).alloc _, by
        have := Boxed.new (W.alloc (.cells #[.string ⟨#[]⟩] 9)) 3 (.int .i64 0)
        show Boxed _ (W.heap.size + 1) 3 (.int .i64 0)
        simpa using this, ((Below.refl _ _).alloc (Nat.le_refl _) _).alloc (by simp) _⟩
    case round =>
      obtain ⟨k, hkm, hk, rfl, hL, hE, hB⟩ := hrel
      have HK := Lib.hid hkm
      clear hkm
      have c3 := hL.cell
      have c4 := hL.frozen
      have c5 := hE.cell
      have c6 := hE.frozen
      obtain ⟨sz1, sz2⟩ := lnK_bd b iv k hk
      by_cases hlt : k < 8
      · have c1 : wr.cell? ⟨w.heap.size, 8 * iv + k, none⟩ = some (.int .i64 (b.getD (8 * iv + k) 0)) := (hH.below hB hHs).cell (8 * iv + k) (by omega)
        have hp := okB_get hok (8 * iv + k)
        have HS0 : Hid (b.getD (8 * iv + k) 0 = 0 → lnK b iv (k + 1) = ((lnK b iv k).1, (lnK b iv k).2 + 1)) := Lib.hid fun h => by simp only [lnK]; rw [if_pos h]
        have HS1 : Hid (b.getD (8 * iv + k) 0 ≠ 0 → lnK b iv (k + 1) = (flS (lnK b iv k).1 (lnK b iv k).2 ++ letS (b.getD (8 * iv + k) 0), 0)) := Lib.hid fun h => by simp only [lnK]; rw [if_neg h]
        have hdi : decide ((k : Int) < 8) = true := by simp; omega
        generalize b.getD (8 * iv + k) 0 = p at *
        generalize (lnK b iv k).1 = s at *
        generalize (lnK b iv k).2 = q at *
        have HB := Lib.hid hB
        have HL : Hid (Boxed wr W.heap.size 9 (.string s)) := Lib.hid hL
        have HE : Hid (Boxed wr (W.heap.size + 1) 3 (.int .i64 (q : Nat))) := Lib.hid hE
        clear hB hL hE hH
        by_cases h0 : p = 0
        · subst h0
          have HX1 : Hid (letS 0 = ⟨#[]⟩) := Lib.hid (by decide)
          have HX2 : Hid (colE 0 = 3) := Lib.hid (by decide)
          gi_wp2_with (refine ⟨trivial, ?_⟩; gi_at_call 43; refine (CallsIn.inRound l (callsIn_wide.2 (letter_any 0 _))).mono ?_; rintro e w' ⟨rfl, rfl⟩; rw [HX1.out, HX2.out])
          gi_roundg (8 - (k + 1))
          case measure => have := HK.out; omega
          case rel =>
            refine ⟨k + 1, rfl, by omega, by go_num, ?_, ?_, ?_⟩
            · rw [HS0.out (by trivial)]; exact bx_other HL.out _ (by simp)
            · rw [HS0.out (by trivial)]; exact HE.out.set _
            · exact HB.out.setCell (by simp) _
        · have hin : inP p := ⟨by omega, by omega⟩
          have HX2 : Hid (colE p = 0) := Lib.hid (colE_t hin)
          have HF := Lib.hid (flush_any s q (by omega) (by omega) (W.heap.size + 1) W.heap.size (by omega) wr HE.out HL.out)
          have zL := letS_size p
          have zF := flS_size s q (by omega)
          have HS := Lib.hid (HS1.out h0)
          clear h0 c5 c6 c3 c4
          generalize hlp : letS p = t at *
          gi_wp2_with (first
            | (refine ⟨trivial, ?_⟩; gi_at_call 43; refine (CallsIn.inRound l (callsIn_wide.2 (letter_any p _))).mono ?_; rintro e w' ⟨rfl, rfl⟩; rw [HX2.out, hlp])
            | (refine ⟨trivial, ?_⟩; gi_at_call 41; refine (CallsIn.inRound l (callsIn_wide.2 HF.out)).mono ?_; rintro e w4 ⟨rfl, hE4, hL4, hT4⟩; have d1 := hL4.cell; have d2 := hL4.frozen))
          have HB4 := hT4.below W.heap.size (by omega) (Nat.le_refl _)
          gi_roundg (8 - (k + 1))
          case measure => have := HK.out; omega
          case rel =>
            refine ⟨k + 1, rfl, by omega, by go_num, ?_, ?_, ?_⟩
            · rw [HS.out]; exact hL4.set _
            · rw [HS.out]; exact bx_other hE4 _ (by simp)
            · exact (HB.out.trans HB4).setCell (by simp) _
      · have hk8 : k = 8 := by omega
        subst hk8
        clear hlt HK c3 c4 c5 c6
        have HF := Lib.hid (flush_any (lnK b iv 8).1 (lnK b iv 8).2 (by omega) (by omega) (W.heap.size + 1) W.heap.size (by omega) wr hE hL)
        have HB := Lib.hid hB
        have HLN : Hid (flS (lnK b iv 8).1 (lnK b iv 8).2 = lineB b iv) := Lib.hid rfl
        have hlen : pre.length < 8 := hlen0.out
        clear hL hE hB hH
        obtain ⟨i0, hi0, hz0, hz1, hz2⟩ := info_parts infoStr
        gi_wp2_with (first
          | (refine ⟨trivial, ?_⟩; gi_at_call 41; refine (CallsIn.inRound l (callsIn_wide.2 HF.out)).mono ?_; rintro e w4 ⟨rfl, hE4, hL4, hT4⟩; rw [HLN.out] at hL4; have HL4 : Hid (Boxed w4 W.heap.size 9 (.string (lineB b iv))) := Lib.hid hL4; have d1 := hL4.cell; have HB4 := Lib.hid (HB.out.trans (hT4.below W.heap.size (by omega) (Nat.le_refl _))); have HP := Lib.hid (plP_below HI.out HB4.out); have d2 := HP.out.1.cell; have hsz4 := HB4.out.size; clear hE4 hL4 hT4)
          | (gi_at_builtin; refine wpListIn_append_own _ rfl _ _ 33 rfl w.heap.size 9 i0 (.string ⟨#[]⟩) 1 16 Tryd.underlying33 hi0 hz0 hz1 hz2 rfl (by decide) _ _ _ rfl (HP.out.2.1.alloc _) ⟨w4.heap.size, 0, none⟩ 1 1 [.string (lineB b iv)] rfl rfl (cell_one_new _ _ _) (by simp [Value.oneCell']) (by unfold maxLen; omega) (by omega) (by simp; omega) ?_; intro v' w5 hown' hgrow _; obtain ⟨g', cap', rfl⟩ := ownsRow_succ hown'; have HO := Lib.hid hown'; have HG := Lib.hid hgrow; obtain ⟨hv1, _, _, _, _⟩ := HP.out.1.appended (by decide) HP.out.2.1 (by omega) (by omega) HO.out HG.out; have hc1 := hv1.cell; have hf1 := hv1.frozen; clear hown' hgrow hv1))
        exact round_end (i := i) hi HI.out HB4.out hR0 HO.out HG.out
  case done =>
    rintro D ys W hD hS ⟨⟨v, hv, hr, _⟩, hH, hC1, hC2, hBl⟩ hK
    have hl8 : ys.length = 8 := by have := congrArg List.length hS; simpa using this
    have hm : (ys.map fun i => Value.string (lineB b i.val)) = (List.range 8).map fun j => Value.string (lineB b j) := by
      rw [← hS, List.map_map]; rfl
    rw [hl8, hm] at hr
    obtain ⟨g, cap, rfl⟩ := ownsRow_succ hr
    have hcap : 8 ≤ cap := by
      rcases hr.2 with ⟨h, _⟩ | ⟨g', cap', cur, e, _, _, hc, _⟩
      · cases h
      · cases e; exact hc
    obtain ⟨hgb, hgl⟩ := hr.lt g rfl
    have hcells : ∀ i, i < 8 → W.cell? ⟨g, 0 + i, none⟩ = some (.string (lineB b i)) := fun i hi => by
      have := hr.cellAt i hi
      rw [Nat.zero_add, this]
      simp [hi]
    have hfr : ∀ j, j < 8 → W.frozen? ⟨g, 0 + j, none⟩ = false := fun j _ => by
      rcases hr.2 with ⟨h, _⟩ | ⟨g', cap', cur, e, _, hgg, _⟩
      · cases h
      · cases e; exact frozen_of_row W g (0 + j) _ _ hgg
    have hDg : D ≠ g := by
      rintro rfl
      rcases hr.2 with ⟨h, _⟩ | ⟨g', cap', cur, e, _, hgg, _⟩
      · cases h
      · cases e; rw [hgg] at hK; cases hK
    have hDl : D < W.heap.size := (Array.getElem?_eq_some_iff.1 hK).1
    have hRg : R ≠ g := by
      rintro rfl
      rcases hr.2 with ⟨h, _⟩ | ⟨g', cap', cur, e, _, hgg, _⟩
      · cases h
      · cases e
        have := (show W.heap[R]? = _ from hv).symm.trans hgg
        simp at this
    have HRV := Lib.hid (rev_any g cap (lineB b) W hcells hfr)
    have c1 := hv.cell
    have HV : Hid (Boxed W R 33 (.slice (some ⟨g, 0, none⟩) 8 cap)) := Lib.hid hv
    have HK := Lib.hid hK
    have HB := Lib.hid hBl
    clear hseq x0 x1 x2 hg3 hB3 hS hm hr hcells hfr hH hC1 hC2 hv hK hBl
    gi_wp2_with (first
      | (refine ⟨trivial, ?_⟩; gi_at_call 44; refine (callsIn_wide.2 HRV.out).mono ?_; rintro e w4 ⟨rfl, k1, k2, k3, k4⟩; have hv4 : Boxed w4 R 33 (.slice (some ⟨g, 0, none⟩) 8 cap) := (k2 R hRg HV.out.lt).trans HV.out; have c2 := hv4.cell; have HJ := Lib.hid (join_any b g cap w4 (by omega) hcap k1); have HK4 : Hid (w4.heap[D]? = some (.deferred (some []))) := Lib.hid ((k2 D hDg hDl).trans HK.out); have HB4 := Lib.hid (HB.out.trans (k4 w.heap.size hgb)); clear k1 k2 k4 hv4)
      | (refine ⟨trivial, ?_⟩; gi_at_call 45; refine (callsIn_wide.2 HJ.out).mono ?_; rintro e w5 ⟨rfl, hb5⟩; have HK5 : Hid (w5.heap[D]? = some (.deferred (some []))) := Lib.hid ((hb5.block D (by omega)).trans HK4.out); have HB5 := Lib.hid (HB4.out.trans (hb5.mono HB4.out.size)); clear hb5))
    refine ⟨by simp, .inl ⟨_, _, rfl, run_takeDeferred HK5.out, ?_⟩⟩
    refine ⟨.tuple #[.string (plS b), .int .i64 0], ?_, rfl, HB5.out.trans (belowK_b (w := w) (Nat.le_refl _) _ D _ _ (by omega) HK5.out rfl rfl)⟩
    simp [results, Tryd.f15, go_sem]
  case stop =>
    rintro D c pre W hD _ h _
    exact h.elim
set_option maxRecDepth 100000 in
set_option maxHeartbeats 400000 in
theorem place_no (b : List Int) (hb : b.length = 64) (hok : ¬ okB b) (w : World) :
    CallsIn Fence.wide 4 Tryd.prog 15 #[.agg (ints b)] w fun e W' => e = .returned (.tuple #[.string ⟨#[]⟩, .int .i64 2]) ∧ Below w.heap.size w W' := by
  have hi : (Tryd.prog.info? 24).map (·.size) = some b.length := by rw [hb]; kernel_rfl
  have hg : Holds (w.alloc (.cells (intsK .i64 b) 24)) w.heap.size .i64 24 b := Holds.new w .i64 24 b
  have hB : Below w.heap.size w (w.alloc (.cells (intsK .i64 b) 24)) := (Below.refl _ _).alloc (Nat.le_refl _) _
  have HC := Lib.hid (chkB_f hok)
  clear hok
  refine callsIn_of_wp_marks Tryd.func15 rfl trivial ?_ rfl
  simp only [Tryd.ntmps15, List.size_toArray, List.length_cons, List.length_nil, Nat.reduceAdd, Nat.reduceSub, Array.replicate_succ, Array.replicate_zero, List.push_toArray, List.append_toArray, List.nil_append, List.cons_append]
  gi_wp2_with (first
    | (with_reducible refine wplI_load (g := w.heap.size) (k := .i64) (t := 24) (l := b) hg rfl 24 _ rfl rfl Tryd.underlying24 hi ?_)
    | (refine ⟨trivial, ?_⟩; gi_at_call 17; refine (callsIn_wide.2 (check_any b hb _)).mono ?_; rintro e w1 ⟨rfl, hb1⟩; rw [HC.out]; have hB1 := hB.trans (hb1.mono hB.size); clear hb1))
  refine ⟨.tuple #[.string ⟨#[]⟩, .int .i64 2], ?_, rfl, hB1⟩
  simp [results, Tryd.f15, go_sem]
/-- The first field of FEN, or the empty string. -/
def plV (b : List Int) : ByteArray := if okB b then plS b else ⟨#[]⟩
theorem plV_t {b : List Int} (h : okB b) : plV b = plS b := if_pos h
theorem plV_f {b : List Int} (h : ¬ okB b) : plV b = ⟨#[]⟩ := if_neg h
theorem place_any (b : List Int) (hb : b.length = 64) (w : World) :
    Calls Tryd.prog 15 #[.agg (ints b)] w fun e W' => e = .returned (.tuple #[.string (plV b), .int .i64 (chkB b)]) ∧ Below w.heap.size w W' := by
  by_cases h : okB b
  · rw [plV_t h, chkB_t h]; exact callsIn_wide.1 (place_in b hb h w)
  · rw [plV_f h, chkB_f h]; exact callsIn_wide.1 (place_no b hb h w)
end Go.Proofs.YthbbnhhofkadgaaDoor
