/- What the calls of this seat need of the world, and the contracts of the small functions of package script. -/
import Derived.Test.YtjjnjglbmneecaaDoorSuq
import Derived.Lib.SmallJoins
import Derived.Lib.ItoaLen
import Derived.Lib.AppendIntMem
namespace Go.Proofs.YtjjnjglbmneecaaDoor
open Go Go.RowKit
def fnV (n : Nat) : Value := .func (.func n) #[] #[]
def shRow (w : List UInt8) (a b c : Nat) : List Value := [.string ⟨w.toArray⟩, fnV a, fnV b, fnV c]
/-- The cells of the table of the shapes. -/
def shCells : List Value := [.string ⟨#[]⟩, .nilFunc, .nilFunc, .nilFunc] ++ shRow [105, 110, 103, 101, 115, 116] 132 133 134 ++ shRow [103, 97, 109, 101] 135 136 137 ++ shRow [112, 111, 115, 105, 116, 105, 111, 110] 138 133 134 ++ shRow [109, 97, 116, 101, 114, 105, 97, 108] 138 133 134 ++ shRow [115, 116, 97, 116, 115] 138 133 134 ++ shRow [98, 111, 111, 107] 139 140 141 ++ shRow [99, 104, 101, 99, 107, 112, 111, 105, 110, 116] 139 140 141 ++ shRow [99, 114, 97, 115, 104] 142 143 144 ++ shRow [114, 101, 111, 112, 101, 110] 139 140 141
/-- What the calls of this seat need of the world. -/
structure EnvS (w : World) : Prop where
  tab : ∀ i v, shCells[i]? = some v → w.cell? ⟨0, i, none⟩ = some v
  maxlen : ∃ m, w.cell? ⟨1, 0, none⟩ = some (.int .i64 m)
  syn : ∃ te pe, w.cell? ⟨2, 0, none⟩ = some (.iface te pe)
  rng : ∃ te pe, w.cell? ⟨3, 0, none⟩ = some (.iface te pe)
  pow : Lib.TabIs Tryd.prog w "internal/strconv.uint64pow10" .u64 Lib.pow10Tab
  size : 8 ≤ w.heap.size
theorem EnvS.below {w w' : World} (h : EnvS w) (hb : Below w.heap.size w w') : EnvS w' where
  tab := fun i v hv => (hb.cell (p := ⟨0, i, none⟩) (by have := h.size; simp; omega)).trans (h.tab i v hv)
  maxlen := by obtain ⟨m, hm⟩ := h.maxlen; exact ⟨m, (hb.cell (p := ⟨1, 0, none⟩) (by have := h.size; simp; omega)).trans hm⟩
  syn := by obtain ⟨m, n, hm⟩ := h.syn; exact ⟨m, n, (hb.cell (p := ⟨2, 0, none⟩) (by have := h.size; simp; omega)).trans hm⟩
  rng := by obtain ⟨m, n, hm⟩ := h.rng; exact ⟨m, n, (hb.cell (p := ⟨3, 0, none⟩) (by have := h.size; simp; omega)).trans hm⟩
  pow := Joins.tab_stays (show Tryd.prog.globalNamed "internal/strconv.uint64pow10" = some 6 by kernel_rfl) h.pow hb (Nat.le_refl _)
  size := Nat.le_trans h.size hb.size
def opV (k a : Int) (v : ByteArray) : Value := .agg #[.int .i64 k, .int .i64 a, .string v]
theorem below_al (w : World) (o : Obj) : Below w.heap.size w (w.alloc o) := (Below.refl _ _).alloc (Nat.le_refl _) o
set_option linter.unusedSimpArgs false in
set_option maxHeartbeats 1000000 in
theorem text_any (k a : Int) (v : ByteArray) (w : World) : Calls Tryd.prog 132 #[opV k a v] w fun e w' => e = .returned (.bool (decide (a = 0 ∧ v.size ≤ 40000))) ∧ Below w.heap.size w w' := by
  unfold opV
  by_cases ha : a = 0
  · have h1 : (a == 0) = true := by simpa using ha
    go_enter Tryd.func132, Tryd.ntmps132
    go_wp2_with fail
    go_ret
    exact ⟨ret_bool (by simp [ha]; omega), below_al _ _⟩
  · have h1 : (a == 0) = false := by simpa using ha
    go_enter Tryd.func132, Tryd.ntmps132
    go_wp2_with fail
    go_ret
    exact ⟨ret_bool (by simp [ha]), below_al _ _⟩
set_option linter.unusedSimpArgs false in
set_option maxHeartbeats 1000000 in
theorem query_any (k a : Int) (v : ByteArray) (w : World) : Calls Tryd.prog 138 #[opV k a v] w fun e w' => e = .returned (.bool (decide (a = 0 ∧ v.size ≤ 200))) ∧ Below w.heap.size w w' := by
  unfold opV
  by_cases ha : a = 0
  · have h1 : (a == 0) = true := by simpa using ha
    go_enter Tryd.func138, Tryd.ntmps138
    go_wp2_with fail
    go_ret
    exact ⟨ret_bool (by simp [ha]; omega), below_al _ _⟩
  · have h1 : (a == 0) = false := by simpa using ha
    go_enter Tryd.func138, Tryd.ntmps138
    go_wp2_with fail
    go_ret
    exact ⟨ret_bool (by simp [ha]), below_al _ _⟩
theorem emp_dec (v : ByteArray) : v.toList.isEmpty = decide (v.size = 0) := by
  rw [Lib.toList_data, Lib.size_eq]
  cases v.data.toList <;> simp
set_option linter.unusedSimpArgs false in
set_option maxHeartbeats 1000000 in
theorem bare_any (k a : Int) (v : ByteArray) (w : World) : Calls Tryd.prog 139 #[opV k a v] w fun e w' => e = .returned (.bool (decide (a = 0 ∧ v.size = 0))) ∧ Below w.heap.size w w' := by
  unfold opV
  by_cases ha : a = 0
  · have h1 : (a == 0) = true := by simpa using ha
    go_enter Tryd.func139, Tryd.ntmps139
    go_wp2_with fail
    go_ret
    exact ⟨ret_bool (by simp [ha, emp_dec]), below_al _ _⟩
  · have h1 : (a == 0) = false := by simpa using ha
    go_enter Tryd.func139, Tryd.ntmps139
    go_wp2_with fail
    go_ret
    exact ⟨ret_bool (by simp [ha]), below_al _ _⟩
set_option linter.unusedSimpArgs false in
set_option maxHeartbeats 1000000 in
theorem number_any (k a : Int) (v : ByteArray) (w : World) : Calls Tryd.prog 135 #[opV k a v] w fun e w' => e = .returned (.bool (decide (0 ≤ a ∧ a ≤ 1000000 ∧ v.size = 0))) ∧ Below w.heap.size w w' := by
  unfold opV
  by_cases ha : 0 ≤ a
  · have h1 : decide (0 ≤ a) = true := by simpa using ha
    by_cases hb : a ≤ 1000000
    · have h2 : decide (a ≤ 1000000) = true := by simpa using hb
      go_enter Tryd.func135, Tryd.ntmps135
      go_wp2_with fail
      go_ret
      exact ⟨ret_bool (by simp [ha, hb, emp_dec]), below_al _ _⟩
    · have h2 : decide (a ≤ 1000000) = false := by simpa using hb
      go_enter Tryd.func135, Tryd.ntmps135
      go_wp2_with fail
      go_ret
      exact ⟨ret_bool (by simp [hb]), below_al _ _⟩
  · have h1 : decide (0 ≤ a) = false := by simpa using ha
    go_enter Tryd.func135, Tryd.ntmps135
    go_wp2_with fail
    go_ret
    exact ⟨ret_bool (by simp [ha]), below_al _ _⟩
theorem nothing_any (k a : Int) (v : ByteArray) (w : World) : Calls Tryd.prog 140 #[opV k a v] w fun e w' => e = .returned (.string ⟨#[]⟩) ∧ Below w.heap.size w w' := by
  unfold opV
  go_enter Tryd.func140, Tryd.ntmps140
  go_wp2_with fail
  go_ret
  exact ⟨rfl, below_al _ _⟩
theorem quoted_any (k a : Int) (v : ByteArray) (hv : v.size ≤ 1000000) (w : World) : Calls Tryd.prog 133 #[opV k a v] w fun e w' => e = .returned (.string ⟨(32 :: qL v.data.toList).toArray⟩) ∧ Below w.heap.size w w' := by
  unfold opV
  have hl : (qL v.data.toList).length ≤ 4000000 := by have := (qL_len v.data.toList).2; have := Lib.size_eq v; omega
  go_enter Tryd.func133, Tryd.ntmps133
  go_wp2_with (go_at_call 17; refine (quote_any _ hv _).mono ?_; rintro e w' ⟨rfl, hE⟩)
  go_ret
  refine ⟨ret_str (ByteArray.ext (Array.toList_inj.1 (by simp))), (below_al _ _).trans (below_le hE (by simp))⟩
/-- The result of Atoi: none where it gives an error. -/
def atR (l : List UInt8) : Option Int := match Lib.atoiAll l with | .ok v => some v | _ => none
theorem itoa_any {w : World} (h : EnvS w) (n : Int) (h0 : -9223372036854775808 ≤ n) (h1 : n ≤ 9223372036854775807) :
    Calls Tryd.prog 67 #[.int .i64 n] w fun e w' => e = .returned (.string ⟨(Lib.itoa n).toArray⟩) ∧ Below w.heap.size w w' :=
  (Tryd.strconv_Itoa n h0 h1 w h.pow).mono fun e w' ⟨a, k, os, b⟩ => ⟨a, by rw [b]; exact Lib.below_grow _ w (Nat.le_refl _) k os⟩
theorem numbered_any {w : World} (h : EnvS w) (k a : Int) (v : ByteArray) (h0 : -9223372036854775808 ≤ a) (h1 : a ≤ 9223372036854775807) :
    Calls Tryd.prog 136 #[opV k a v] w fun e w' => e = .returned (.string ⟨(32 :: Lib.itoa a).toArray⟩) ∧ Below w.heap.size w w' := by
  unfold opV
  have hl := Lib.itoa_length_le a h0 h1
  have hE1 := Lib.hid (h.below (below_al w (.cells #[.int .i64 k, .int .i64 a, .string v] 24)))
  go_enter Tryd.func136, Tryd.ntmps136
  go_wp2_with (go_at_call 67; refine (itoa_any hE1.out a h0 h1).mono ?_; rintro e w' ⟨rfl, hE⟩)
  go_ret
  refine ⟨ret_str (ByteArray.ext (Array.toList_inj.1 (by simp))), (below_al _ _).trans (below_le hE (by simp))⟩
end Go.Proofs.YtjjnjglbmneecaaDoor
