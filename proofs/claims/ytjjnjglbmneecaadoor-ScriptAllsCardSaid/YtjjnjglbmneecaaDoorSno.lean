/- The contract of the law's method Numbers.Op. -/
import Derived.Test.YtjjnjglbmneecaaDoorSdm
namespace Go.Proofs.YtjjnjglbmneecaaDoor
open Go Go.RowKit
/-- A slice of bytes in a world. -/
def ByS (w : World) (v : Value) (l : List UInt8) : Prop := ∃ ao cap, v = .slice ao l.length cap ∧ l.length ≤ cap ∧ (l ≠ [] → ∃ g off, ao = some ⟨g, off, none⟩ ∧ g < w.heap.size ∧ ∀ i (h : i < l.length), w.cell? ⟨g, off + i, none⟩ = some (.int .u8 l[i].toNat))
theorem ByS.below {w w' : World} {v : Value} {l : List UInt8} (h : ByS w v l) (hb : Below w.heap.size w w') : ByS w' v l := by
  obtain ⟨ao, cap, h1, h2, h3⟩ := h
  refine ⟨ao, cap, h1, h2, fun hl => ?_⟩
  obtain ⟨g, off, h4, h5, h6⟩ := h3 hl
  exact ⟨g, off, h4, Nat.lt_of_lt_of_le h5 hb.size, fun i hi => (hb.cell (p := ⟨g, off + i, none⟩) h5).trans (h6 i hi)⟩
theorem ByS.sl {w : World} {v : Value} {l : List UInt8} (h : ByS w v l) : ∃ ao cap, v = .slice ao l.length cap ∧ l.length ≤ cap ∧ (l ≠ [] → ∃ g off, ao = some ⟨g, off, none⟩) := by
  obtain ⟨ao, cap, h1, h2, h3⟩ := h
  exact ⟨ao, cap, h1, h2, fun hl => by obtain ⟨g, off, h4, _⟩ := h3 hl; exact ⟨g, off, h4⟩⟩
theorem conv_0 (w : World) (ao : Option Addr) (cap : Nat) : (convert 33 9 (.slice ao 0 cap)).run Tryd.prog w = .ok (.string ⟨#[]⟩) w := by
  rcases ao with _ | a
  · exact run_convert_bytes_nil w 33 5 Tryd.underlying33 Tryd.underlying5 0 cap 9 Tryd.underlying9
  · have hl : (loadCells a 0).run Tryd.prog w = .ok ([] : List Value).toArray w := by
      have := run_loadCells_list (P := Tryd.prog) w a [] (fun j v hj => by simp at hj)
      simpa using this
    rw [run_convert_bytes_string w 33 9 5 _ 0 cap Tryd.underlying33 Tryd.underlying5 Tryd.underlying9, run_bytesToString w _ 0 cap [] hl]
    rfl
theorem ByS.str {w : World} {v : Value} {l : List UInt8} (h : ByS w v l) : (convert 33 9 v).run Tryd.prog w = .ok (.string ⟨l.toArray⟩) w := by
  obtain ⟨ao, cap, rfl, h2, h3⟩ := h
  by_cases hl : l = []
  · subst hl; exact conv_0 w ao cap
  · obtain ⟨g, off, rfl, _, h4⟩ := h3 hl
    rw [run_convert_bytes_arg w 33 5 Tryd.underlying33 Tryd.underlying5 g off l.length cap (l.map fun x => (x.toNat : Int)) (by simp) (fun i hi => by
      rw [h4 i hi]; congr 1; simp [hi]) 9 Tryd.underlying9]
    congr 2
    apply ByteArray.ext
    apply Array.toList_inj.1
    rw [strOfNums_data, List.map_map]
    show _ = l
    conv => rhs; rw [← List.map_id l]
    apply List.map_congr_left
    intro x _
    simp
theorem ByS.take {w : World} {g off cap : Nat} {l : List UInt8} (h : ByS w (.slice (some ⟨g, off, none⟩) l.length cap) l) (n : Nat) (hn : n ≤ l.length) : ByS w (.slice (some ⟨g, off, none⟩) n cap) (l.take n) := by
  obtain ⟨ao, cap', h1, h2, h3⟩ := h
  cases h1
  refine ⟨some ⟨g, off, none⟩, cap, by rw [List.length_take, Nat.min_eq_left hn], by rw [List.length_take]; omega, fun hl => ?_⟩
  obtain ⟨g', off', h4, h5, h6⟩ := h3 (fun e => hl (by rw [e]; simp))
  cases h4
  refine ⟨g, off, rfl, h5, fun i hi => ?_⟩
  rw [List.length_take] at hi
  rw [List.getElem_take]
  exact h6 i (by omega)
/-- The digits behind the commas. -/
def comL : List UInt8 → List UInt8
  | [] => []
  | c :: r => 44 :: (Lib.itoa ((c.toNat % 129 : Nat) : Int) ++ comL r)
/-- The operation by numbers. -/
def opP (k a : Nat) (l : List UInt8) : Opx := match 1 + k % 9 with
  | 1 => (1, 0, l)
  | 2 => (2, (a % 1000001 : Nat), [])
  | 3 => (3, 0, l.take 200)
  | 4 => (4, 0, l.take 200)
  | 5 => (5, 0, l.take 200)
  | 6 => (6, 0, [])
  | 7 => (7, 0, [])
  | 8 => (8, (a % 1000001 : Nat), 48 :: comL (l.take 63))
  | _ => (9, 0, [])
def nmV (k a : Nat) (v : Value) : Value := .agg #[.int .u8 k, .int .u32 a, v]
theorem nop_w (w : World) (b o x : Obj) : Below w.heap.size w (((w.alloc b).alloc o).alloc x) := ((below_al w b).alloc (by simp) o).alloc (by simp; omega) x
theorem nop_row (w : World) (b x : Obj) (cs : Array Value) : Rw (((w.alloc b).alloc (.cells cs 24)).alloc x) (w.heap.size + 1) 24 cs := by
  have h := (Rw.new (w.alloc b) 24 cs).alloc x
  rwa [show (w.alloc b).heap.size = w.heap.size + 1 by simp] at h
set_option linter.unusedSimpArgs false in
set_option maxRecDepth 100000 in
set_option maxHeartbeats 4000000 in
theorem nop_1 (k a : Nat) (hk : k % 9 = 0) (hk2 : k ≤ 255) (l : List UInt8) (v : Value) (w : World) (hv : ByS w v l) :
    Calls Tryd.prog 19 #[nmV k a v] w fun e w' => e = .returned (opx (1, 0, l)) ∧ Below w.heap.size w w' := by
  have hki : (k : Int) % 9 = 0 := by omega
  unfold nmV opx opV
  dsimp only
  have hs := (hv.below (nop_w w (.cells #[.int .u8 k, .int .u32 a, v] 35) (.cells #[.int .i64 0, .int .i64 0, .string ⟨#[]⟩] 24) (.cells #[.int .i64 1, .int .i64 0, .string ⟨#[]⟩] 24))).str
  obtain ⟨ao, cap, rfl, _, _⟩ := hv.sl
  clear hv hk
  go_enter Tryd.func19, Tryd.ntmps19
  go_wp2_with fail
  refine bodyPost_ret (ret_op (fn := Tryd.f19) (g := w.heap.size + 1) rfl rfl (nop_row _ _ _ _)) rfl ?_
  exact ⟨rfl, nop_w _ _ _ _⟩
set_option linter.unusedSimpArgs false in
set_option maxRecDepth 100000 in
set_option maxHeartbeats 4000000 in
theorem nop_2 (k a : Nat) (hk : k % 9 = 1) (hk2 : k ≤ 255) (ha : a ≤ 4294967295) (l : List UInt8) (v : Value) (w : World) (hv : ByS w v l) :
    Calls Tryd.prog 19 #[nmV k a v] w fun e w' => e = .returned (opx (2, (a % 1000001 : Nat), [])) ∧ Below w.heap.size w w' := by
  have hki : (k : Int) % 9 = 1 := by omega
  unfold nmV opx opV
  dsimp only
  obtain ⟨ao, cap, rfl, _, _⟩ := hv.sl
  clear hv hk
  rw [show ((a % 1000001 : Nat) : Int) = (a : Int) % 1000001 by omega]
  go_enter Tryd.func19, Tryd.ntmps19
  go_wp2_with fail
  refine bodyPost_ret (ret_op (fn := Tryd.f19) (g := w.heap.size + 1) rfl rfl (nop_row _ _ _ _)) rfl ?_
  exact ⟨rfl, nop_w _ _ _ _⟩
set_option linter.unusedSimpArgs false in
set_option maxRecDepth 100000 in
set_option maxHeartbeats 4000000 in
theorem nop_6 (k a : Nat) (hk : k % 9 = 5) (hk2 : k ≤ 255) (l : List UInt8) (v : Value) (w : World) (hv : ByS w v l) :
    Calls Tryd.prog 19 #[nmV k a v] w fun e w' => e = .returned (opx (6, 0, [])) ∧ Below w.heap.size w w' := by
  have hki : (k : Int) % 9 = 5 := by omega
  unfold nmV opx opV
  dsimp only
  obtain ⟨ao, cap, rfl, _, _⟩ := hv.sl
  clear hv hk
  go_enter Tryd.func19, Tryd.ntmps19
  go_wp2_with fail
  refine bodyPost_ret (ret_op (fn := Tryd.f19) (g := w.heap.size + 1) rfl rfl (nop_row _ _ _ _)) rfl ?_
  exact ⟨rfl, nop_w _ _ _ _⟩
set_option linter.unusedSimpArgs false in
set_option maxRecDepth 100000 in
set_option maxHeartbeats 4000000 in
theorem nop_7 (k a : Nat) (hk : k % 9 = 6) (hk2 : k ≤ 255) (l : List UInt8) (v : Value) (w : World) (hv : ByS w v l) :
    Calls Tryd.prog 19 #[nmV k a v] w fun e w' => e = .returned (opx (7, 0, [])) ∧ Below w.heap.size w w' := by
  have hki : (k : Int) % 9 = 6 := by omega
  unfold nmV opx opV
  dsimp only
  obtain ⟨ao, cap, rfl, _, _⟩ := hv.sl
  clear hv hk
  go_enter Tryd.func19, Tryd.ntmps19
  go_wp2_with fail
  refine bodyPost_ret (ret_op (fn := Tryd.f19) (g := w.heap.size + 1) rfl rfl (nop_row _ _ _ _)) rfl ?_
  exact ⟨rfl, nop_w _ _ _ _⟩
set_option linter.unusedSimpArgs false in
set_option maxRecDepth 100000 in
set_option maxHeartbeats 4000000 in
theorem nop_9 (k a : Nat) (hk : k % 9 = 8) (hk2 : k ≤ 255) (l : List UInt8) (v : Value) (w : World) (hv : ByS w v l) :
    Calls Tryd.prog 19 #[nmV k a v] w fun e w' => e = .returned (opx (9, 0, [])) ∧ Below w.heap.size w w' := by
  have hki : (k : Int) % 9 = 8 := by omega
  unfold nmV opx opV
  dsimp only
  obtain ⟨ao, cap, rfl, _, _⟩ := hv.sl
  clear hv hk
  go_enter Tryd.func19, Tryd.ntmps19
  go_wp2_with fail
  refine bodyPost_ret (ret_op (fn := Tryd.f19) (g := w.heap.size + 1) rfl rfl (nop_row _ _ _ _)) rfl ?_
  exact ⟨rfl, nop_w _ _ _ _⟩
set_option linter.unusedSimpArgs false in
set_option maxRecDepth 100000 in
set_option maxHeartbeats 4000000 in
theorem nop_3a (k a : Nat) (hk : k % 9 = 2) (hk2 : k ≤ 255) (l : List UInt8) (v : Value) (w : World) (hv : ByS w v l) (hl : l.length ≤ 200) :
    Calls Tryd.prog 19 #[nmV k a v] w fun e w' => e = .returned (opx (3, 0, l.take 200)) ∧ Below w.heap.size w w' := by
  have hki : (k : Int) % 9 = 2 := by omega
  unfold nmV opx opV
  dsimp only
  have hs := (hv.below (nop_w w (.cells #[.int .u8 k, .int .u32 a, v] 35) (.cells #[.int .i64 0, .int .i64 0, .string ⟨#[]⟩] 24) (.cells #[.int .i64 3, .int .i64 0, .string ⟨#[]⟩] 24))).str
  rw [List.take_of_length_le hl]
  obtain ⟨ao, cap, rfl, hcap, _⟩ := hv.sl
  have hmin : min (l.length : Int) 200 = l.length := by omega
  clear hv hk
  go_enter Tryd.func19, Tryd.ntmps19
  go_wp2_with fail
  refine bodyPost_ret (ret_op (fn := Tryd.f19) (g := w.heap.size + 1) rfl rfl (nop_row _ _ _ _)) rfl ?_
  exact ⟨rfl, nop_w _ _ _ _⟩
set_option linter.unusedSimpArgs false in
set_option maxRecDepth 100000 in
set_option maxHeartbeats 4000000 in
theorem nop_3b (k a : Nat) (hk : k % 9 = 2) (hk2 : k ≤ 255) (l : List UInt8) (v : Value) (w : World) (hv : ByS w v l) (hl : 200 < l.length) :
    Calls Tryd.prog 19 #[nmV k a v] w fun e w' => e = .returned (opx (3, 0, l.take 200)) ∧ Below w.heap.size w w' := by
  have hki : (k : Int) % 9 = 2 := by omega
  unfold nmV opx opV
  dsimp only
  obtain ⟨ao, cap, rfl, hcap, hne⟩ := hv.sl
  obtain ⟨g, off, rfl⟩ := hne (fun e => by rw [e] at hl; simp at hl)
  have hs := ((hv.take 200 (by omega)).below (nop_w w (.cells #[.int .u8 k, .int .u32 a, .slice (some ⟨g, off, none⟩) l.length cap] 35) (.cells #[.int .i64 0, .int .i64 0, .string ⟨#[]⟩] 24) (.cells #[.int .i64 3, .int .i64 0, .string ⟨#[]⟩] 24))).str
  have hmin : min (l.length : Int) 200 = 200 := by omega
  clear hv hk hne
  go_enter Tryd.func19, Tryd.ntmps19
  go_wp2_with fail
  refine bodyPost_ret (ret_op (fn := Tryd.f19) (g := w.heap.size + 1) rfl rfl (nop_row _ _ _ _)) rfl ?_
  exact ⟨rfl, nop_w _ _ _ _⟩
set_option linter.unusedSimpArgs false in
set_option maxRecDepth 100000 in
set_option maxHeartbeats 4000000 in
theorem nop_4a (k a : Nat) (hk : k % 9 = 3) (hk2 : k ≤ 255) (l : List UInt8) (v : Value) (w : World) (hv : ByS w v l) (hl : l.length ≤ 200) :
    Calls Tryd.prog 19 #[nmV k a v] w fun e w' => e = .returned (opx (4, 0, l.take 200)) ∧ Below w.heap.size w w' := by
  have hki : (k : Int) % 9 = 3 := by omega
  unfold nmV opx opV
  dsimp only
  have hs := (hv.below (nop_w w (.cells #[.int .u8 k, .int .u32 a, v] 35) (.cells #[.int .i64 0, .int .i64 0, .string ⟨#[]⟩] 24) (.cells #[.int .i64 4, .int .i64 0, .string ⟨#[]⟩] 24))).str
  rw [List.take_of_length_le hl]
  obtain ⟨ao, cap, rfl, hcap, _⟩ := hv.sl
  have hmin : min (l.length : Int) 200 = l.length := by omega
  clear hv hk
  go_enter Tryd.func19, Tryd.ntmps19
  go_wp2_with fail
  refine bodyPost_ret (ret_op (fn := Tryd.f19) (g := w.heap.size + 1) rfl rfl (nop_row _ _ _ _)) rfl ?_
  exact ⟨rfl, nop_w _ _ _ _⟩
set_option linter.unusedSimpArgs false in
set_option maxRecDepth 100000 in
set_option maxHeartbeats 4000000 in
theorem nop_4b (k a : Nat) (hk : k % 9 = 3) (hk2 : k ≤ 255) (l : List UInt8) (v : Value) (w : World) (hv : ByS w v l) (hl : 200 < l.length) :
    Calls Tryd.prog 19 #[nmV k a v] w fun e w' => e = .returned (opx (4, 0, l.take 200)) ∧ Below w.heap.size w w' := by
  have hki : (k : Int) % 9 = 3 := by omega
  unfold nmV opx opV
  dsimp only
  obtain ⟨ao, cap, rfl, hcap, hne⟩ := hv.sl
  obtain ⟨g, off, rfl⟩ := hne (fun e => by rw [e] at hl; simp at hl)
  have hs := ((hv.take 200 (by omega)).below (nop_w w (.cells #[.int .u8 k, .int .u32 a, .slice (some ⟨g, off, none⟩) l.length cap] 35) (.cells #[.int .i64 0, .int .i64 0, .string ⟨#[]⟩] 24) (.cells #[.int .i64 4, .int .i64 0, .string ⟨#[]⟩] 24))).str
  have hmin : min (l.length : Int) 200 = 200 := by omega
  clear hv hk hne
  go_enter Tryd.func19, Tryd.ntmps19
  go_wp2_with fail
  refine bodyPost_ret (ret_op (fn := Tryd.f19) (g := w.heap.size + 1) rfl rfl (nop_row _ _ _ _)) rfl ?_
  exact ⟨rfl, nop_w _ _ _ _⟩
set_option linter.unusedSimpArgs false in
set_option maxRecDepth 100000 in
set_option maxHeartbeats 4000000 in
theorem nop_5a (k a : Nat) (hk : k % 9 = 4) (hk2 : k ≤ 255) (l : List UInt8) (v : Value) (w : World) (hv : ByS w v l) (hl : l.length ≤ 200) :
    Calls Tryd.prog 19 #[nmV k a v] w fun e w' => e = .returned (opx (5, 0, l.take 200)) ∧ Below w.heap.size w w' := by
  have hki : (k : Int) % 9 = 4 := by omega
  unfold nmV opx opV
  dsimp only
  have hs := (hv.below (nop_w w (.cells #[.int .u8 k, .int .u32 a, v] 35) (.cells #[.int .i64 0, .int .i64 0, .string ⟨#[]⟩] 24) (.cells #[.int .i64 5, .int .i64 0, .string ⟨#[]⟩] 24))).str
  rw [List.take_of_length_le hl]
  obtain ⟨ao, cap, rfl, hcap, _⟩ := hv.sl
  have hmin : min (l.length : Int) 200 = l.length := by omega
  clear hv hk
  go_enter Tryd.func19, Tryd.ntmps19
  go_wp2_with fail
  refine bodyPost_ret (ret_op (fn := Tryd.f19) (g := w.heap.size + 1) rfl rfl (nop_row _ _ _ _)) rfl ?_
  exact ⟨rfl, nop_w _ _ _ _⟩
set_option linter.unusedSimpArgs false in
set_option maxRecDepth 100000 in
set_option maxHeartbeats 4000000 in
theorem nop_5b (k a : Nat) (hk : k % 9 = 4) (hk2 : k ≤ 255) (l : List UInt8) (v : Value) (w : World) (hv : ByS w v l) (hl : 200 < l.length) :
    Calls Tryd.prog 19 #[nmV k a v] w fun e w' => e = .returned (opx (5, 0, l.take 200)) ∧ Below w.heap.size w w' := by
  have hki : (k : Int) % 9 = 4 := by omega
  unfold nmV opx opV
  dsimp only
  obtain ⟨ao, cap, rfl, hcap, hne⟩ := hv.sl
  obtain ⟨g, off, rfl⟩ := hne (fun e => by rw [e] at hl; simp at hl)
  have hs := ((hv.take 200 (by omega)).below (nop_w w (.cells #[.int .u8 k, .int .u32 a, .slice (some ⟨g, off, none⟩) l.length cap] 35) (.cells #[.int .i64 0, .int .i64 0, .string ⟨#[]⟩] 24) (.cells #[.int .i64 5, .int .i64 0, .string ⟨#[]⟩] 24))).str
  have hmin : min (l.length : Int) 200 = 200 := by omega
  clear hv hk hne
  go_enter Tryd.func19, Tryd.ntmps19
  go_wp2_with fail
  refine bodyPost_ret (ret_op (fn := Tryd.f19) (g := w.heap.size + 1) rfl rfl (nop_row _ _ _ _)) rfl ?_
  exact ⟨rfl, nop_w _ _ _ _⟩
end Go.Proofs.YtjjnjglbmneecaaDoor
