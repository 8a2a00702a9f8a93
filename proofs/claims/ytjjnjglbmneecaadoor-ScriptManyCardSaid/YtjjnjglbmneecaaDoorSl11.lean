/- The law ScriptMany, walked. -/
import Derived.Test.YtjjnjglbmneecaaDoorSl10
import Derived.Laws.MakeOwn
namespace Go.Proofs.YtjjnjglbmneecaaDoor
open Go Go.RowKit
/-- The row of operations: the kinds of the first i of n are laid. -/
def BkAt (W : World) (g n i : Nat) : Prop := ∃ cs : Array Value, Rw W g 24 cs ∧ ∀ j, j < n → cs[j * 3]? = some (.int .i64 (if j < i then 6 else 0)) ∧ cs[j * 3 + 1]? = some (.int .i64 0) ∧ cs[j * 3 + 2]? = some (.string ⟨#[]⟩)
theorem BkAt.new (W : World) (n : Nat) : BkAt (W.alloc (.cells (madeCells #[.int .i64 0, .int .i64 0, .string ⟨#[]⟩] (n * 3)) 24)) W.heap.size n 0 := by
  refine ⟨_, Rw.new W 24 _, fun j hj => ?_⟩
  have h : ∀ m, m < n * 3 → (madeCells #[.int .i64 0, .int .i64 0, .string ⟨#[]⟩] (n * 3))[m]? = some ((#[.int .i64 0, .int .i64 0, .string ⟨#[]⟩] : Array Value)[m % 3]!) := fun m hm => by
    unfold madeCells; simp [hm]
  refine ⟨?_, ?_, ?_⟩
  · rw [h _ (by omega), show j * 3 % 3 = 0 by omega]; rfl
  · rw [h _ (by omega), show (j * 3 + 1) % 3 = 1 by omega]; rfl
  · rw [h _ (by omega), show (j * 3 + 2) % 3 = 2 by omega]; rfl
theorem BkAt.step {W : World} {g n i : Nat} (h : BkAt W g n i) (hi : i < n) : BkAt (W.setCell ⟨g, i * 3, none⟩ (.int .i64 6)) g n (i + 1) := by
  obtain ⟨cs, hr, hc⟩ := h
  refine ⟨_, hr.cell (i * 3) (.int .i64 6), fun j hj => ?_⟩
  obtain ⟨h0, h1, h2⟩ := hc j hj
  have hlt : i * 3 < cs.size := by
    have := (hc i hi).1
    exact (Array.getElem?_eq_some_iff.1 this).1
  refine ⟨?_, ?_, ?_⟩
  · by_cases e : j = i
    · subst e; rw [if_pos (by omega)]; simp [hlt]
    · rw [Array.getElem?_setIfInBounds_ne (by omega), h0]
      by_cases hji : j < i
      · rw [if_pos hji, if_pos (by omega)]
      · rw [if_neg hji, if_neg (by omega)]
  · rw [Array.getElem?_setIfInBounds_ne (by omega), h1]
  · rw [Array.getElem?_setIfInBounds_ne (by omega), h2]
theorem BkAt.ops {W : World} {g n : Nat} (h : BkAt W g n n) (m : Nat) (hm : m ≤ n) : OpsAt W g (List.replicate m (6, 0, [])) := by
  obtain ⟨cs, hr, hc⟩ := h
  intro i hi
  rw [List.length_replicate] at hi
  obtain ⟨h0, h1, h2⟩ := hc i (by omega)
  rw [if_pos (by omega)] at h0
  rw [List.getElem_replicate]
  exact ⟨by rw [Lib.cell_of_heap hr]; exact h0, by rw [Lib.cell_of_heap hr]; exact h1, by rw [Lib.cell_of_heap hr]; exact h2⟩
theorem BkAt.below {W W' : World} {g n i : Nat} (h : BkAt W g n i) (hb : Below W.heap.size W W') : BkAt W' g n i := by
  obtain ⟨cs, hr, hc⟩ := h
  exact ⟨cs, hr.below hb hr.lt, hc⟩
theorem BkAt.lt {W : World} {g n i : Nat} (h : BkAt W g n i) : g < W.heap.size := by obtain ⟨cs, hr, _⟩ := h; exact hr.lt
theorem BkAt.fact {W : World} {g n i : Nat} (h : BkAt W g n i) (hi : i < n) : W.cell? ⟨g, i * 3, none⟩ = some (.int .i64 0) ∧ W.frozen? ⟨g, i * 3, none⟩ = false := by
  obtain ⟨cs, hr, hc⟩ := h
  obtain ⟨h0, _⟩ := hc i hi
  rw [if_neg (by omega)] at h0
  exact ⟨by rw [Lib.cell_of_heap hr]; exact h0, Lib.frozen_of_heap hr _⟩
/-- The text of m books. -/
def bkS (m : Nat) : List UInt8 := flatL (List.replicate m [98, 111, 111, 107])
theorem bkS_len (m : Nat) : (bkS m).length = m * 5 := by
  induction m with
  | zero => rfl
  | succ m ih => unfold bkS at ih ⊢; rw [List.replicate_succ, flatL]; simp [ih]; omega
theorem prx_book : prx (6, 0, []) = [98, 111, 111, 107] := by decide +kernel
theorem zx_book : zx (6, 0, []) = 0 := by decide +kernel
theorem book_it (m : Nat) : (List.replicate m (Sum.inl (6, 0, []) : Itm)).map itL = List.replicate m [98, 111, 111, 107] ∧ itO (List.replicate m (Sum.inl (6, 0, []) : Itm)) = List.replicate m (6, 0, []) := by
  induction m with
  | zero => exact ⟨rfl, rfl⟩
  | succ m ih => exact ⟨by rw [List.replicate_succ, List.map_cons, ih.1, show itL (Sum.inl (6, 0, [])) = [98, 111, 111, 107] from prx_book]; rfl, by rw [List.replicate_succ, itO, ih.2]; rfl⟩
theorem book_10 (m : Nat) : ∀ l ∈ List.replicate m ([98, 111, 111, 107] : List UInt8), (10 : UInt8) ∉ l := fun l hl => by rw [List.eq_of_mem_replicate hl]; decide
theorem books (m : Nat) (hm : m ≤ 1000) (r : List (List UInt8)) : paG (List.replicate m [98, 111, 111, 107] ++ r) 0 [] = paG r m (List.replicate m (6, 0, [])) := by
  have h := paG_its (List.replicate m (Sum.inl (6, 0, []) : Itm)) (fun x hx => by rw [List.eq_of_mem_replicate hx]; exact zx_book) r 0 [] (by rw [(book_it m).2]; simpa using hm)
  rw [(book_it m).1, (book_it m).2] at h
  simpa using h
theorem pa_books : paA (bkS 1000) = (List.replicate 1000 (6, 0, []), 0, 0) := by
  unfold paA
  rw [if_neg (by rw [bkS_len]; decide)]
  have := parts_flat _ (book_10 1000) []
  rw [List.append_nil] at this
  rw [show bkS 1000 = flatL (List.replicate 1000 [98, 111, 111, 107]) from rfl, this, books 1000 (Nat.le_refl _)]
  exact paG_skip rfl [] _ _
theorem pa_more : paA (bkS 1000 ++ [10, 35, 10, 98, 111, 111, 107]) = ([], 1003, 10) := by
  unfold paA
  rw [if_neg (by rw [List.length_append, bkS_len]; decide), show bkS 1000 = flatL (List.replicate 1000 [98, 111, 111, 107]) from rfl, parts_flat _ (book_10 1000), books 1000 (Nat.le_refl _),
    show parts 10 ([10, 35, 10, 98, 111, 111, 107] : List UInt8) = [[], [35], [98, 111, 111, 107]] by decide, paG_skip rfl, paG_skip rfl, paG_many (by decide) _ _ (List.length_replicate ..)]
  rfl
theorem pa_noth : paA (bkS 1000 ++ [110, 111, 116, 104, 105, 110, 103]) = ([], 1001, 10) := by
  unfold paA
  rw [if_neg (by rw [List.length_append, bkS_len]; decide), show bkS 1000 = flatL (List.replicate 1000 [98, 111, 111, 107]) from rfl, parts_flat _ (book_10 1000), books 1000 (Nat.le_refl _),
    show parts 10 ([110, 111, 116, 104, 105, 110, 103] : List UInt8) = [[110, 111, 116, 104, 105, 110, 103]] by decide, paG_many (by decide) _ _ (List.length_replicate ..)]
  rfl
theorem pp_books : paP (List.replicate 1000 (6, 0, [])) = (bkS 1000, 0) := by
  have hm : (List.replicate 1000 ((6, 0, []) : Opx)).map prx = List.replicate 1000 [98, 111, 111, 107] := by rw [List.map_replicate, prx_book]
  rw [paP_flat _ (fun x hx => by rw [List.eq_of_mem_replicate hx]; exact zx_book) (by rw [List.length_replicate]; exact Nat.le_refl _) (by rw [hm]; exact Nat.le_trans (Nat.le_of_eq (bkS_len 1000)) (by decide)), hm]
  rfl
theorem pp_many (n : Nat) (h : 1000 < n) : paP (List.replicate n (6, 0, [])) = ([], 10) := by
  unfold paP; rw [if_pos (by rw [List.length_replicate]; exact h)]
/-- The long string. -/
def zeroS (n : Nat) : List UInt8 := List.replicate n 0
theorem qL_zero (n : Nat) : (qL (zeroS n)).length = n * 4 := by
  induction n with
  | zero => rfl
  | succ n ih => unfold zeroS at ih ⊢; rw [List.replicate_succ, qL, List.length_append, ih, show (qB 0).length = 4 by decide]; omega
theorem zeroS_len (n : Nat) : (zeroS n).length = n := List.length_replicate ..
theorem big_ok {n : Nat} (h : n ≤ 40000) : zx (1, 0, zeroS n) = 0 := chk_iff.2 ⟨by show (0 : Int) < 1; decide, by show (1 : Int) < 10; decide, decide_eq_true ⟨rfl, by dsimp only; rw [zeroS_len]; exact h⟩⟩
theorem big_len {n : Nat} (h : n ≤ 40000) : (prx (1, 0, zeroS n)).length = 7 + n * 4 := by
  have h0 := big_ok h
  generalize hz : zeroS n = z at h0 ⊢
  have h1 : prx (1, 0, z) = [105, 110, 103, 101, 115, 116, 32] ++ qL z := by
    unfold prx prS
    rw [show chkZ (1, 0, z).1 (1, 0, z).2.1 (1, 0, z).2.2 = 0 from h0, if_pos rfl]
    rfl
  rw [h1, ← hz, List.length_append, qL_zero]
  rfl
theorem pp_two {n : Nat} (h : n = 40000) : paP [(1, 0, zeroS n), (1, 0, zeroS n)] = ([], 9) := by
  have hl := big_len (n := n) (by omega)
  have h0 := big_ok (n := n) (by omega)
  generalize (1, 0, zeroS n) = x at *
  unfold paP
  rw [if_neg (by simp), if_neg (fun ⟨y, hm, hz⟩ => hz (by
    simp only [List.mem_cons, List.not_mem_nil, or_false, or_self] at hm
    rw [hm]; exact h0)), paL, if_neg (by simp; omega), paL, if_pos (by simp; omega)]
theorem pp_one {n : Nat} (h : n = 40000) : (paP [(1, 0, zeroS n)]).2 = 0 ∧ (paP [(1, 0, zeroS n)]).1.length = 160008 := by
  have hl := big_len (n := n) (by omega)
  have h0 := big_ok (n := n) (by omega)
  generalize (1, 0, zeroS n) = x at *
  unfold paP
  rw [if_neg (by simp), if_neg (fun ⟨y, hm, hz⟩ => hz (by
    simp only [List.mem_cons, List.not_mem_nil, or_false] at hm
    rw [hm]; exact h0)), paL, if_neg (by simp; omega), paL]
  exact ⟨rfl, by simp; omega⟩
theorem ck_big {n : Nat} (h : 40000 ≤ n) : zx (1, 0, zeroS n ++ [120]) = 2 := by
  have hl : (zeroS n ++ [120]).length = n + 1 := by rw [List.length_append, zeroS_len]; rfl
  generalize zeroS n ++ [120] = z at *
  unfold zx chkZ
  rw [if_neg (fun h' => by
    have h2 : validB 1 0 z = true := h'.2.2
    have h3 : (0 : Int) = 0 ∧ z.length ≤ 40000 := of_decide_eq_true h2
    omega)]
theorem mk_ops (n : Nat) (hn : n ≤ 2000) (W : World) : (Instr.makeSlice 43 (.int .i64 (n : Int)) (.int .i64 (n : Int))).run Tryd.prog W = .ok (.slice (some ⟨W.heap.size, 0, none⟩) n n) (W.alloc (.cells (madeCells #[.int .i64 0, .int .i64 0, .string ⟨#[]⟩] (n * 3)) 24)) := by
  obtain ⟨i0, hi0, hz0, hz1, hz2⟩ := info_parts infoOp
  have := run_make (P := Tryd.prog) W 43 24 i0 _ Tryd.underlying43 hi0 hz0 .i64 .i64 n n (by omega) (Int.le_refl _) (by rw [hz2]; omega) (by omega)
  rw [hz1, Int.toNat_natCast] at this
  exact this
theorem mk_bytes (n : Nat) (hn : n ≤ 300000) (W : World) : (Instr.makeSlice 33 (.int .i64 (n : Int)) (.int .i64 (n : Int))).run Tryd.prog W = .ok (.slice (some ⟨W.heap.size, 0, none⟩) n n) (W.alloc (.cells (madeCells #[.int .u8 0] (n * 1)) 5)) := by
  obtain ⟨i0, hi0, hz0, hz1, hz2⟩ := info_parts infoByte
  have := run_make (P := Tryd.prog) W 33 5 i0 _ Tryd.underlying33 hi0 hz0 .i64 .i64 n n (by omega) (Int.le_refl _) (by rw [hz2]; omega) (by omega)
  rw [hz1, Int.toNat_natCast] at this
  exact this
theorem cv_zero (n : Nat) (W : World) : (convert 33 9 (.slice (some ⟨W.heap.size, 0, none⟩) n n)).run Tryd.prog (W.alloc (.cells (madeCells #[.int .u8 0] (n * 1)) 5)) = .ok (.string ⟨(zeroS n).toArray⟩) (W.alloc (.cells (madeCells #[.int .u8 0] (n * 1)) 5)) := by
  rw [run_convert_bytes_arg (W.alloc (.cells (madeCells #[.int .u8 0] (n * 1)) 5)) 33 5 Tryd.underlying33 Tryd.underlying5 W.heap.size 0 n n (List.replicate n (0 : Int)) (List.length_replicate ..) (fun i hi => by
    rw [Lib.cell_of_heap (heap_alloc_new _ _), Nat.zero_add]
    unfold madeCells
    simp [hi, Nat.mod_one]) 9 Tryd.underlying9]
  congr 2
  apply ByteArray.ext
  apply Array.toList_inj.1
  rw [strOfNums_data]
  simp [zeroS]
theorem mkcv (n : Nat) (hn : n ≤ 300000) : ∃ mc, (∀ W : World, (Instr.makeSlice 33 (.int .i64 (n : Int)) (.int .i64 (n : Int))).run Tryd.prog W = .ok (.slice (some ⟨W.heap.size, 0, none⟩) n n) (W.alloc (.cells mc 5))) ∧ (∀ W : World, (convert 33 9 (.slice (some ⟨W.heap.size, 0, none⟩) n n)).run Tryd.prog (W.alloc (.cells mc 5)) = .ok (.string ⟨(zeroS n).toArray⟩) (W.alloc (.cells mc 5))) :=
  ⟨_, mk_bytes n hn, cv_zero n⟩
/-- What the text's parts give, at these numbers. -/
theorem mkcv2 (n m : Nat) (h : n = m) (hn : n ≤ 300000) (k : Int) (hk : (m : Int) = k) : ∃ mc, (∀ W : World, (Instr.makeSlice 33 (.int .i64 k) (.int .i64 k)).run Tryd.prog W = .ok (.slice (some ⟨W.heap.size, 0, none⟩) m m) (W.alloc (.cells mc 5))) ∧ (∀ W : World, (convert 33 9 (.slice (some ⟨W.heap.size, 0, none⟩) m m)).run Tryd.prog (W.alloc (.cells mc 5)) = .ok (.string ⟨(zeroS n).toArray⟩) (W.alloc (.cells mc 5))) := by
  subst h; subst hk; exact mkcv n hn
theorem pair_ops (W : World) (z : List UInt8) : IsOps (W.alloc (.cells #[.int .i64 1, .int .i64 0, .string ⟨z.toArray⟩, .int .i64 1, .int .i64 0, .string ⟨z.toArray⟩] 24)) (.slice (some ⟨W.heap.size, 0, none⟩) 2 2) [(1, 0, z), (1, 0, z)] := by
  refine .inr ⟨W.heap.size, 2, rfl, by simp, by simp, fun i hi => ?_⟩
  have hi' : i = 0 ∨ i = 1 := by simp at hi; omega
  rcases hi' with rfl | rfl <;> refine ⟨?_, ?_, ?_⟩ <;> (rw [Lib.cell_of_heap (heap_alloc_new _ _)]; rfl)
theorem one_ops (W : World) (z : List UInt8) : IsOps (W.alloc (.cells #[.int .i64 1, .int .i64 0, .string ⟨z.toArray⟩] 24)) (.slice (some ⟨W.heap.size, 0, none⟩) 1 1) [(1, 0, z)] := by
  refine .inr ⟨W.heap.size, 1, rfl, by simp, by simp, fun i hi => ?_⟩
  have hi' : i = 0 := by simp at hi; omega
  subst hi'
  refine ⟨?_, ?_, ?_⟩ <;> (rw [Lib.cell_of_heap (heap_alloc_new _ _)]; rfl)
set_option linter.unusedSimpArgs false in
set_option maxRecDepth 100000 in
set_option maxHeartbeats 8000000 in
theorem many_law {w : World} (hw : EnvS w) (mo : Nat) (hmo : mo ≤ 255) :
    Calls Tryd.prog 11 #[.int .u8 mo] w fun e w' => e = .returned (.bool true) ∧ Below w.heap.size w w' := by
  have HWk := Lib.hid (fun (W : World) (h : EnvS W) => works_any h)
  obtain ⟨n, hn⟩ : ∃ n, 1001 + mo % 20 = n := ⟨_, rfl⟩
  have hni : 1001 + (mo : Int) % 20 = (n : Int) := by omega
  have hn1 : 1001 ≤ n := by omega
  have hn2 : n ≤ 1020 := by omega
  have hmk := mk_ops n (by omega) w
  have hB0 := Lib.hid (below_al w (.cells (madeCells #[.int .i64 0, .int .i64 0, .string ⟨#[]⟩] (n * 3)) 24))
  have hK0 := Lib.hid (BkAt.new w n)
  generalize madeCells #[.int .i64 0, .int .i64 0, .string ⟨#[]⟩] (n * 3) = mc at *
  clear hn
  go_enter Tryd.func11, Tryd.ntmps11
  go_wp2_with fail
  have HBk : Hid (∀ (W : World) (g : Nat), EnvS W → BkAt W g n n → Calls Tryd.prog 33 #[.slice (some ⟨g, 0, none⟩) 1000 n] W fun e w' => e = .returned (.tuple #[.string ⟨(bkS 1000).toArray⟩, .int .i64 0]) ∧ Below W.heap.size W w') := Lib.hid (fun W g hW hk => by
    have := pall_any hW (List.replicate 1000 (6, 0, [])) g n (by rw [List.length_replicate]; decide) (hk.ops 1000 (by omega)) hk.lt (fun x hx => by rw [List.eq_of_mem_replicate hx]; exact ⟨by decide, by decide, by decide⟩)
    rw [pp_books, List.length_replicate] at this
    exact this)
  have HBn : Hid (∀ (W : World) (g : Nat), EnvS W → BkAt W g n n → Calls Tryd.prog 33 #[.slice (some ⟨g, 0, none⟩) n n] W fun e w' => e = .returned (.tuple #[.string ⟨#[]⟩, .int .i64 10]) ∧ Below W.heap.size W w') := Lib.hid (fun W g hW hk => by
    have := pall_any hW (List.replicate n (6, 0, [])) g n (by rw [List.length_replicate]; omega) (hk.ops n (Nat.le_refl _)) hk.lt (fun x hx => by rw [List.eq_of_mem_replicate hx]; exact ⟨by decide, by decide, by decide⟩)
    rw [pp_many n (by omega), List.length_replicate] at this
    exact this)
  have hSl := bkS_len 1000
  have HPa : ∀ T : List UInt8, T.length ≤ 250000 → ∀ W : World, EnvS W → Calls Tryd.prog 24 #[.string ⟨T.toArray⟩] W fun e w' => (∃ ao cap, e = .returned (.tuple #[.slice ao (paA T).1.length cap, .int .i64 (paA T).2.1, .int .i64 (paA T).2.2])) ∧ Below W.heap.size W w' := fun T hT W hW => by
    have := pa_any hW ⟨T.toArray⟩ (by simpa [ByteArray.size] using hT)
    rw [show (⟨T.toArray⟩ : ByteArray).data.toList = T from rfl] at this
    refine this.mono fun e w' ⟨v, h1, h2⟩ => ⟨?_, h2.bel⟩
    obtain ⟨ao, cap, hv⟩ := h2.isOps.sl
    exact ⟨ao, cap, by rw [h1, hv]⟩
  have HC1 := Lib.hid (HPa (bkS 1000) (by omega))
  have HC2 := Lib.hid (HPa (bkS 1000 ++ [10, 35, 10, 98, 111, 111, 107]) (by rw [List.length_append, hSl]; decide))
  have HC3 := Lib.hid (HPa (bkS 1000 ++ [110, 111, 116, 104, 105, 110, 103]) (by rw [List.length_append, hSl]; decide))
  rw [pa_books, List.length_replicate] at HC1
  rw [pa_more, bs_app] at HC2
  rw [pa_noth, bs_app] at HC3
  generalize bkS 1000 = S at *
  have hSl2 : S.length ≤ 6000 := by omega
  obtain ⟨nz, hnz⟩ : ∃ nz, nz = 40000 := ⟨_, rfl⟩
  obtain ⟨mc4, hm4, hv4⟩ := mkcv2 nz 40000 hnz (by omega) 40000 rfl
  obtain ⟨nl, hnl⟩ : ∃ nl, nl = 262145 := ⟨_, rfl⟩
  obtain ⟨mc2, hm2, hv2⟩ := mkcv2 nl 262145 hnl (by omega) 262145 rfl
  have hzl := zeroS_len nz
  have hz2 := pp_two hnz
  have hz1 := pp_one hnz
  have hzc := ck_big (n := nz) (by omega)
  have HL : Hid (∀ W : World, Calls Tryd.prog 24 #[.string ⟨(zeroS nl).toArray⟩] W fun e w' => (∃ v, e = .returned (.tuple #[v, .int .i64 0, .int .i64 9])) ∧ Below W.heap.size W w') := Lib.hid (fun W => by
    have hl := zeroS_len nl
    have := pa_long ⟨(zeroS nl).toArray⟩ (by simp only [ByteArray.size, List.size_toArray]; omega) W
    rw [show (⟨(zeroS nl).toArray⟩ : ByteArray).data.toList = zeroS nl from rfl, show paA (zeroS nl) = ([], 0, 9) from if_pos (by omega)] at this
    exact this.mono fun e w' ⟨v, h1, h2⟩ => ⟨⟨v, h1⟩, h2.bel⟩)
  generalize zeroS nz = z at *
  generalize zeroS nl = zl at *
  have HP2 : Hid (∀ W : World, EnvS W → ∀ v, IsOps W v [(1, 0, z), (1, 0, z)] → Calls Tryd.prog 33 #[v] W fun e w' => e = .returned (.tuple #[.string ⟨#[]⟩, .int .i64 9]) ∧ Below W.heap.size W w') := Lib.hid (fun W hW v hv => by
    have := pall_is hW _ v (by simp) hv (fun x hx => by
      simp only [List.mem_cons, List.not_mem_nil, or_false, or_self] at hx
      rw [hx]; exact ⟨by dsimp only; omega, by show (-9223372036854775808 : Int) ≤ 0; decide, by show (0 : Int) ≤ 9223372036854775807; decide⟩)
    rw [hz2] at this
    exact this)
  have HP1 : Hid (∀ W : World, EnvS W → ∀ v, IsOps W v [(1, 0, z)] → Calls Tryd.prog 33 #[v] W fun e w' => e = .returned (.tuple #[.string ⟨(paP [(1, 0, z)]).1.toArray⟩, .int .i64 0]) ∧ Below W.heap.size W w') := Lib.hid (fun W hW v hv => by
    have := pall_is hW _ v (by simp) hv (fun x hx => by
      simp only [List.mem_cons, List.not_mem_nil, or_false] at hx
      rw [hx]; exact ⟨by dsimp only; omega, by show (-9223372036854775808 : Int) ≤ 0; decide, by show (0 : Int) ≤ 9223372036854775807; decide⟩)
    rw [hz1.1] at this
    exact this)
  have hLl := hz1.2
  obtain ⟨zb, hzb⟩ : ∃ zb : List UInt8, z ++ [120] = zb := ⟨_, rfl⟩
  have hzbl : zb.length = nz + 1 := by rw [← hzb, List.length_append, hzl]; rfl
  have hbz : (⟨zb.toArray⟩ : ByteArray) = ⟨z.toArray⟩ ++ ⟨#[120]⟩ := by rw [← hzb]; exact bs_app z [120]
  rw [hzb] at hzc
  have HCk : Hid (∀ W : World, EnvS W → Calls Tryd.prog 21 #[.agg #[.int .i64 1, .int .i64 0, .string (⟨z.toArray⟩ ++ ⟨#[120]⟩)]] W fun e w' => e = .returned (.int .i64 2) ∧ Below W.heap.size W w') := Lib.hid (fun W hW => by
    have := check_any hW 1 0 ⟨zb.toArray⟩ (by simp only [ByteArray.size, List.size_toArray]; omega)
    rw [show (⟨zb.toArray⟩ : ByteArray).data.toList = zb from rfl, show chkZ 1 0 zb = 2 from hzc, hbz] at this
    exact this)
  clear hzb hzbl hbz
  generalize (paP [(1, 0, z)]).1 = L at *
  have hnz4 : nz ≤ 40000 := by omega
  clear hz2 hz1 hzc hnl HPa hnz
  go_loopg [6] n (fun mm i wr => ∃ j : Nat, mm = n - j ∧ j ≤ n ∧ i = .int .i64 j ∧ Below w.heap.size w wr ∧ BkAt wr w.heap.size n j)
  case atStart => exact ⟨0, rfl, by omega, rfl, hB0.out, hK0.out⟩
  case round =>
    obtain ⟨j, hkm, hj, rfl, hb, hbk⟩ := hrel
    have HK := Lib.hid hkm
    have HB := Lib.hid hb
    have HBK := Lib.hid hbk
    clear hkm hb
    by_cases hjn : j < n
    · have dj : decide ((j : Int) < (n : Int)) = true := by simp; omega
      obtain ⟨c0, f0⟩ := hbk.fact hjn
      clear hbk
      go_wp2_with fail
      go_roundg (n - (j + 1))
      case measure => have := HK.out; omega
      case rel => exact ⟨j + 1, rfl, by omega, by go_num, below_set1 HB.out (Nat.le_refl _) _, HBK.out.step hjn⟩
    · have hjj : j = n := by omega
      subst hjj
      have dj : decide ((j : Int) < (j : Int)) = false := by simp
      clear hbk
      have m1 := trivial
      have m2 := trivial
      have m3 := trivial
      have m4 := trivial
      go_wp2_with (first
        | (have _t := m1; go_at_call 33; refine (HBk.out _ _ (hw.below HB.out) HBK.out).mono ?_; clear m1 _t; rintro e w1 ⟨rfl, hE⟩; have B1 := Lib.hid (HB.out.trans (below_le hE HB.out.size)); have K1 := Lib.hid (HBK.out.below hE); clear hE)
        | (have _t := m2; go_at_call 33; refine (HBn.out _ _ (hw.below B1.out) K1.out).mono ?_; clear m2 _t; rintro e w2 ⟨rfl, hE⟩; have B2 := Lib.hid (B1.out.trans (below_le hE B1.out.size)); clear hE)
        | (have _t := m3; go_at_call 24; refine (HC1.out _ (hw.below B2.out)).mono ?_; clear m3 _t; rintro e w3 ⟨⟨a3, c3, rfl⟩, hE⟩; have B3 := Lib.hid (B2.out.trans (below_le hE B2.out.size)); clear hE)
        | (have _t := m4; go_at_call 24; refine (HC2.out _ (hw.below B3.out)).mono ?_; clear m4 _t; rintro e w4 ⟨⟨a4, c4, rfl⟩, hE⟩; have B4 := Lib.hid (B3.out.trans (below_le hE B3.out.size)); clear hE; have m5 := trivial)
        | (have _t := m5; go_at_call 24; refine (HC3.out _ (hw.below B4.out)).mono ?_; clear m5 _t; rintro e w5 ⟨⟨a5, c5, rfl⟩, hE⟩; have B5 := Lib.hid (B4.out.trans (below_le hE B4.out.size)); clear hE
           have B6 := Lib.hid ((B5.out.alloc B5.out.size (.cells mc4 5)).alloc (by have := B5.out.size; simp; omega) (.cells #[.int .i64 1, .int .i64 0, .string ⟨z.toArray⟩] 24))
           have h51 : (w5.alloc (.cells mc4 5)).heap.size = w5.heap.size + 1 := by simp
           have h52 : ((w5.alloc (.cells mc4 5)).alloc (.cells #[.int .i64 1, .int .i64 0, .string ⟨z.toArray⟩] 24)).heap.size = w5.heap.size + 1 + 1 := by simp
           have R6 := Lib.hid (show Rw ((w5.alloc (.cells mc4 5)).alloc (.cells #[.int .i64 1, .int .i64 0, .string ⟨z.toArray⟩] 24)) (w5.heap.size + 1) 24 #[.int .i64 1, .int .i64 0, .string ⟨z.toArray⟩] by have := Rw.new (w5.alloc (.cells mc4 5)) 24 #[.int .i64 1, .int .i64 0, .string ⟨z.toArray⟩]; rwa [h51] at this)
           have P6 := Lib.hid (show IsOps (((w5.alloc (.cells mc4 5)).alloc (.cells #[.int .i64 1, .int .i64 0, .string ⟨z.toArray⟩] 24)).alloc (.cells #[.int .i64 1, .int .i64 0, .string ⟨z.toArray⟩, .int .i64 1, .int .i64 0, .string ⟨z.toArray⟩] 24)) (.slice (some ⟨w5.heap.size + 1 + 1, 0, none⟩) 2 2) [(1, 0, z), (1, 0, z)] by have := pair_ops ((w5.alloc (.cells mc4 5)).alloc (.cells #[.int .i64 1, .int .i64 0, .string ⟨z.toArray⟩] 24)) z; rwa [h52] at this)
           have B7 := Lib.hid (B6.out.alloc B6.out.size (.cells #[.int .i64 1, .int .i64 0, .string ⟨z.toArray⟩, .int .i64 1, .int .i64 0, .string ⟨z.toArray⟩] 24))
           have R7 := Lib.hid (R6.out.alloc (.cells #[.int .i64 1, .int .i64 0, .string ⟨z.toArray⟩, .int .i64 1, .int .i64 0, .string ⟨z.toArray⟩] 24))
           clear h51 h52 B6 R6; have m6 := trivial)
        | (have _t := m6; go_at_call 33; refine (HP2.out _ (hw.below B7.out) _ P6.out).mono ?_; clear m6 _t; rintro e w6 ⟨rfl, hE⟩; have B8 := Lib.hid (B7.out.trans (below_le hE B7.out.size)); have R8 := Lib.hid (R7.out.below hE R7.out.lt)
           obtain ⟨r0, r1, r2, _, _, _⟩ := R8.out.facts
           have B9 := Lib.hid (B8.out.alloc B8.out.size (.cells #[.int .i64 1, .int .i64 0, .string ⟨z.toArray⟩] 24))
           have R9 := Lib.hid (R8.out.alloc (.cells #[.int .i64 1, .int .i64 0, .string ⟨z.toArray⟩] 24))
           have P9 := Lib.hid (one_ops w6 z)
           clear hE R8; have m7 := trivial)
        | (have _t := m7; go_at_call 33; refine (HP1.out _ (hw.below B9.out) _ P9.out).mono ?_; clear m7 _t r0 r1 r2; rintro e w7 ⟨rfl, hE⟩; have B10 := Lib.hid (B9.out.trans (below_le hE B9.out.size)); have R10 := Lib.hid (R9.out.below hE R9.out.lt); obtain ⟨r0, r1, r2, f0, f1, f2⟩ := R10.out.facts
           have hcv := hv2 (w7.setCell ⟨w5.heap.size + 1, 2, none⟩ (.string (⟨z.toArray⟩ ++ ⟨#[120]⟩)))
           rw [show (w7.setCell ⟨w5.heap.size + 1, 2, none⟩ (.string (⟨z.toArray⟩ ++ ⟨#[120]⟩))).heap.size = w7.heap.size by simp [World.setCell]] at hcv
           have B11 := Lib.hid ((below_set1 (i := 2) B10.out (g := w5.heap.size + 1) (by have := B5.out.size; omega) (.string (⟨z.toArray⟩ ++ ⟨#[120]⟩))).alloc (by have := B10.out.size; simp [World.setCell]; omega) (.cells mc2 5))
           have R11 := Lib.hid (show Rw ((w7.setCell ⟨w5.heap.size + 1, 2, none⟩ (.string (⟨z.toArray⟩ ++ ⟨#[120]⟩))).alloc (.cells mc2 5)) (w5.heap.size + 1) 24 #[.int .i64 1, .int .i64 0, .string (⟨z.toArray⟩ ++ ⟨#[120]⟩)] from (R10.out.cell 2 _).alloc _)
           clear hE; have m8 := trivial)
        | (have _t := m8; go_at_call 24; refine (HL.out _).mono ?_; clear m8 _t r0 r1 r2 f0 f1 f2; rintro e w8 ⟨⟨v8, rfl⟩, hE⟩; have B12 := Lib.hid (B11.out.trans (below_le hE B11.out.size)); have R12 := Lib.hid (R11.out.below hE R11.out.lt); obtain ⟨r0, r1, r2, _, _, _⟩ := R12.out.facts; clear hE)
        | (go_at_call 21; refine (HCk.out _ (hw.below B12.out)).mono ?_; rintro e w9 ⟨rfl, hE⟩; have B13 := Lib.hid (B12.out.trans (below_le hE B12.out.size)); clear hE)
        | (go_at_call 12; refine (HWk.out _ (hw.below B13.out)).mono ?_; rintro e w10 ⟨rfl, hE⟩; have B14 := Lib.hid (B13.out.trans (below_le hE B13.out.size)); clear hE))
      go_ret
      exact ⟨rfl, B14.out⟩
theorem many_int {w : World} (hw : EnvS w) (a : Int) (a0 : 0 ≤ a) (a1 : a ≤ 255) : Calls Tryd.prog 11 #[.int .u8 a] w fun e w' => e = .returned (.bool true) ∧ Below w.heap.size w w' := by
  have := many_law hw a.toNat (by omega)
  rwa [Int.toNat_of_nonneg a0] at this
end Go.Proofs.YtjjnjglbmneecaaDoor
