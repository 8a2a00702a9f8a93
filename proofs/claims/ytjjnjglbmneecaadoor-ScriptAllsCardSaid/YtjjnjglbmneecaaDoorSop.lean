/- Slices of operations: the contracts of PrintAll's own function, slices.IndexFunc and slices.ContainsFunc over operations. -/
import Derived.Test.YtjjnjglbmneecaaDoorSdg
import Derived.Test.YtjjnjglbmneecaaDoorSwd
namespace Go.Proofs.YtjjnjglbmneecaaDoor
open Go Go.RowKit
/-- An operation: its kind, number and string. -/
abbrev Opx := Int × Int × List UInt8
def Fine (x : Opx) : Prop := x.2.2.length ≤ 900000 ∧ -9223372036854775808 ≤ x.2.1 ∧ x.2.1 ≤ 9223372036854775807
def opx (x : Opx) : Value := opV x.1 x.2.1 ⟨x.2.2.toArray⟩
def zx (x : Opx) : Int := chkZ x.1 x.2.1 x.2.2
/-- The cells of a slice of operations. -/
def OpsAt (w : World) (g : Nat) (l : List Opx) : Prop := ∀ i (h : i < l.length), w.cell? ⟨g, i * 3, none⟩ = some (.int .i64 l[i].1) ∧ w.cell? ⟨g, i * 3 + 1, none⟩ = some (.int .i64 l[i].2.1) ∧ w.cell? ⟨g, i * 3 + 2, none⟩ = some (.string ⟨l[i].2.2.toArray⟩)
theorem OpsAt.of_block {w w' : World} {g : Nat} {l : List Opx} (h : OpsAt w g l) (hb : w'.heap[g]? = w.heap[g]?) : OpsAt w' g l := fun i hi =>
  ⟨(World.cell?_of_block (a := ⟨g, _, none⟩) hb).trans (h i hi).1, (World.cell?_of_block (a := ⟨g, _, none⟩) hb).trans (h i hi).2.1, (World.cell?_of_block (a := ⟨g, _, none⟩) hb).trans (h i hi).2.2⟩
theorem OpsAt.below {w w' : World} {g n : Nat} {l : List Opx} (h : OpsAt w g l) (hb : Below n w w') (hg : g < n) : OpsAt w' g l := h.of_block (hb.block g hg)
set_option linter.unusedSimpArgs false in
theorem own_any {w : World} (hw : EnvS w) (x : Opx) (hx : Fine x) : Calls Tryd.prog 55 #[opx x] w fun e w' => e = .returned (.bool (zx x != 0)) ∧ Below w.heap.size w w' := by
  have hB := Lib.hid (below_al w (.cells (opC x.1 x.2.1 ⟨x.2.2.toArray⟩) 24))
  have HC := Lib.hid (check_any (hw.below hB.out) x.1 x.2.1 ⟨x.2.2.toArray⟩ (by simpa [ByteArray.size] using hx.1))
  rw [show chkZ x.1 x.2.1 (⟨x.2.2.toArray⟩ : ByteArray).data.toList = zx x from rfl] at HC
  generalize zx x = z at *
  obtain ⟨k, a, v⟩ := x
  unfold opx
  dsimp only at *
  unfold opV at HC ⊢
  go_enter Tryd.func55, Tryd.ntmps55
  go_wp2_with (go_at_call 21; refine HC.out.mono ?_; rintro e w' ⟨rfl, hE⟩)
  go_ret
  exact ⟨rfl, hB.out.trans (below_le hE (by simp))⟩
/-- The index of the first operation that is not valid. -/
def ixNo : List Opx → Nat → Int
  | [], _ => -1
  | x :: r, k => if zx x ≠ 0 then k else ixNo r (k + 1)
theorem ixNo_iff (l : List Opx) (k : Nat) : (0 ≤ ixNo l k ↔ ∃ x ∈ l, zx x ≠ 0) := by
  induction l generalizing k with
  | nil => simp [ixNo]
  | cons x r ih =>
    unfold ixNo
    by_cases h : zx x ≠ 0
    · rw [if_pos h]; simp [h]
    · rw [if_neg h, ih]; simp [h]
set_option maxHeartbeats 1000000 in
theorem oindex_any {w : World} (hw : EnvS w) (l : List Opx) (g cap : Nat) (hl : l.length ≤ 1000000) (hc : OpsAt w g l) (hg : g < w.heap.size) (hf : ∀ x ∈ l, Fine x) :
    Calls Tryd.prog 69 #[.slice (some ⟨g, 0, none⟩) l.length cap, .func (.func 55) #[] #[]] w fun e w' => e = .returned (.int .i64 (ixNo l 0)) ∧ Below w.heap.size w w' := by
  have HC := Lib.hid hc
  have HF := Lib.hid hf
  clear hc hf
  go_enter Tryd.func69, Tryd.ntmps69
  go_wp2_with fail
  go_loopg [8] l.length (fun mm i wr => ∃ k : Nat, mm = l.length - k ∧ k ≤ l.length ∧ i = .int .i64 k ∧ ixNo l 0 = ixNo (l.drop k) k ∧ Below w.heap.size w wr)
  case atStart => exact ⟨0, rfl, by omega, rfl, by rw [List.drop_zero], Below.refl _ _⟩
  case round =>
    obtain ⟨k, hkm, hk, rfl, hix, hb⟩ := hrel
    have HK := Lib.hid hkm
    clear hkm
    by_cases hlt : k < l.length
    · have hdi : decide ((k : Int) < (l.length : Int)) = true := by simp; omega
      obtain ⟨q0, q1, q2⟩ := (HC.out.below hb hg) k hlt
      have hd : l.drop k = l[k] :: l.drop (k + 1) := List.drop_eq_getElem_cons hlt
      have hfx := HF.out _ (List.getElem_mem hlt)
      rw [hd] at hix
      generalize l[k] = x at q0 q1 q2 hix hfx
      rw [show ixNo (x :: l.drop (k + 1)) k = if zx x ≠ 0 then (k : Int) else ixNo (l.drop (k + 1)) (k + 1) from rfl] at hix
      have HI := Lib.hid hix
      have HX := Lib.hid (own_any (hw.below hb) x hfx)
      have HB := Lib.hid hb
      have hle := hb.size
      clear hix hd hb hfx
      obtain ⟨xk, xa, xv⟩ := x
      unfold opx opV at HX
      dsimp only at *
      generalize zx (xk, xa, xv) = z at *
      by_cases hx : z ≠ 0
      · have hdx : (z != 0) = true := by simpa using hx
        have HZ : Hid (ixNo l 0 = k) := Lib.hid (by rw [HI.out, if_pos hx])
        rw [hdx] at HX
        clear hx hdx
        go_wp2_with (go_at_call 55; refine HX.out.mono ?_; rintro e w' ⟨rfl, hE⟩)
        go_ret
        exact ⟨ret_int HZ.out.symm, HB.out.trans (below_le hE hle)⟩
      · have hdx : (z != 0) = false := by simpa using hx
        have HZ : Hid (ixNo l 0 = ixNo (l.drop (k + 1)) (k + 1)) := Lib.hid (by rw [HI.out, if_neg hx])
        rw [hdx] at HX
        clear hx hdx
        go_wp2_with (go_at_call 55; refine HX.out.mono ?_; rintro e w' ⟨rfl, hE⟩)
        go_roundg (l.length - (k + 1))
        case measure => have := HK.out; omega
        case rel => exact ⟨k + 1, rfl, by omega, by go_num, HZ.out, HB.out.trans (below_le hE hle)⟩
    · have hkl : k = l.length := by omega
      subst hkl
      rw [List.drop_length] at hix
      have HI := Lib.hid hix
      clear hix
      go_wp2_with fail
      go_ret
      exact ⟨ret_int HI.out.symm, hb⟩
theorem oindex_nil (w : World) : Calls Tryd.prog 69 #[.slice none 0 0, .func (.func 55) #[] #[]] w fun e w' => e = .returned (.int .i64 (-1)) ∧ Below w.heap.size w w' := by
  go_enter Tryd.func69, Tryd.ntmps69
  go_wp2_with fail
  go_loopg [8] 1 (fun mm i wr => mm = 1 ∧ i = .int .i64 0 ∧ wr = w)
  case atStart => exact ⟨rfl, rfl, rfl⟩
  case round =>
    obtain ⟨rfl, rfl, rfl⟩ := hrel
    go_wp2_with fail
    go_ret
    exact ⟨rfl, Below.refl _ _⟩
theorem ocontains_any {w : World} (hw : EnvS w) (l : List Opx) (g cap : Nat) (hl : l.length ≤ 1000000) (hc : OpsAt w g l) (hg : g < w.heap.size) (hf : ∀ x ∈ l, Fine x) :
    Calls Tryd.prog 54 #[.slice (some ⟨g, 0, none⟩) l.length cap, .func (.func 55) #[] #[]] w fun e w' => e = .returned (.bool (decide (∃ x ∈ l, zx x ≠ 0))) ∧ Below w.heap.size w w' := by
  have HC := Lib.hid (oindex_any hw l g cap hl hc hg hf)
  have HI := Lib.hid (ixNo_iff l 0)
  clear hc hf
  generalize ixNo l 0 = z at HC HI
  go_enter Tryd.func54, Tryd.ntmps54
  go_wp2_with (go_at_call 69; refine HC.out.mono ?_; rintro e w' ⟨rfl, hE⟩)
  go_ret
  exact ⟨ret_bool (decide_eq_decide.2 HI.out), hE⟩
theorem ocontains_nil (w : World) : Calls Tryd.prog 54 #[.slice none 0 0, .func (.func 55) #[] #[]] w fun e w' => e = .returned (.bool false) ∧ Below w.heap.size w w' := by
  go_enter Tryd.func54, Tryd.ntmps54
  go_wp2_with (go_at_call 69; refine (oindex_nil _).mono ?_; rintro e w' ⟨rfl, hE⟩)
  go_ret
  exact ⟨rfl, hE⟩
end Go.Proofs.YtjjnjglbmneecaaDoor
