/- An array of numbers that comes in as an argument: opened, and shut again. No condition. -/
import Derived.Test.YtjjnjglbmneecaaDoorArr
import Derived.OpenShut
import Derived.Lib.LaidTab
import Derived.DataShut
import Derived.ChangeSame
namespace Go.Proofs.YtjjnjglbmneecaaDoor
open Go Go.RowKit
section
variable {H : Type} {enc : TypeId × Value → H} {P : Program} {w : World} {base : Nat} {spare : Nat → Bool} {held : Bool}
theorem cells_agg {v : Value} {n : Nat} (h : v.cells.size = n) (hn : n ≠ 1) : v = .agg v.cells := by
  cases v <;> first | rfl | (exfalso; simp [Value.cells] at h; omega)
theorem open_arr {t e : TypeId} {n : Nat} {k : IntKind} {v : Value} {d : DataW H} {ps : List MemPlace} (ht : P.underlying t = some (.array n e)) (he : P.underlying e = some (.int k)) (hce : P.cellsOf e = 1) (hct : P.cellsOf t = n) (hn : n ≠ 1)
    (hd : DataW.Trod enc P w base spare held t v d ps) :
    ∃ l : List Int, v = .agg (intsK k l) ∧ d = .agg (l.map fun z => .lit (.int k z)) ∧ ps = [] ∧ l.length = n ∧ ∀ z ∈ l, (Lit.int k z).wf = true := by
  obtain ⟨fuel, hf⟩ := hd
  obtain ⟨xs, m, _, hx, hl, hxl, hel⟩ := DataW.trod_array ht hf
  rw [hct] at hl
  have hz : ∀ i, i < n → ∃ z, v.cells.toList[i]? = some (.int k z) ∧ xs[i]? = some (.lit (.int k z), []) ∧ (Lit.int k z).wf = true := fun i hi => by
    have hE := hel i hi
    rw [hce, Nat.mul_one, List.getElem?_eq_getElem (by omega)] at hE
    obtain ⟨z, e1, e2, e3⟩ := DataW.trod_int he hE
    refine ⟨z, ?_, by rw [List.getElem?_eq_getElem (by omega), e2], e3⟩
    have h0 : ((v.cells.toList.drop i).take 1)[0]? = some (.int k z) := by rw [e1]; rfl
    simpa using h0
  have key : ∀ m, m ≤ n → ∃ l : List Int, l.length = m ∧ v.cells.toList.take m = l.map (Value.int k) ∧ xs.take m = l.map (fun z => (DataW.lit (.int k z), [])) ∧ ∀ z ∈ l, (Lit.int k z).wf = true := by
    intro m
    induction m with
    | zero => intro _; exact ⟨[], rfl, by simp, by simp, by simp⟩
    | succ m ih =>
      intro hm
      obtain ⟨l, h1, h2, h3, h4⟩ := ih (by omega)
      obtain ⟨z, z1, z2, z3⟩ := hz m (by omega)
      refine ⟨l ++ [z], by simp [h1], ?_, ?_, ?_⟩
      · rw [List.take_add_one, h2, z1]; simp
      · rw [List.take_add_one, h3, z2]; simp
      · intro y hy
        rcases List.mem_append.1 hy with hy | hy
        · exact h4 y hy
        · obtain rfl := List.mem_singleton.1 hy; exact z3
  obtain ⟨l, h1, h2, h3, h4⟩ := key n (Nat.le_refl _)
  rw [List.take_of_length_le (by omega)] at h2 h3
  rw [h3] at hx
  simp only [Prod.mk.injEq] at hx
  refine ⟨l, ?_, ?_, ?_, h1, h4⟩
  · rw [cells_agg (v := v) (n := n) (by simpa using hl) hn]
    congr 1
    rw [← Array.toArray_toList (xs := v.cells), h2]; rfl
  · rw [hx.1]; simp
  · rw [hx.2]; simp
theorem shut_arr {t e : TypeId} {n : Nat} {k : IntKind} {l : List Int} (ht : P.underlying t = some (.array n e)) (he : P.underlying e = some (.int k)) (hce : P.cellsOf e = 1) (hct : P.cellsOf t = n) (hl : l.length = n) (hw : ∀ z ∈ l, (Lit.int k z).wf = true) :
    DataW.Trod enc P w base spare held t (.agg (intsK k l)) (.agg (l.map fun z => .lit (.int k z))) [] := by
  refine ⟨2, ?_⟩
  have hc : (Value.agg (intsK k l)).cells.toList = l.map (Value.int k) := by simp [Value.cells, intsK]
  rw [hc]
  have hm : (List.range n).mapM (fun i => DataW.trod enc P w base spare held 1 e (((l.map (Value.int k)).drop (i * 1)).take 1)) = some (l.map fun z => (DataW.lit (.int k z), [])) := by
    refine mapM_some_of_get _ _ (by simp [hl]) (fun i x hi => ?_)
    obtain ⟨hin, rfl⟩ : i < n ∧ i = x := by
      have hlt : i < (List.range n).length := (List.getElem?_eq_some_iff.1 hi).1
      rw [List.length_range] at hlt
      rw [List.getElem?_range hlt] at hi
      exact ⟨hlt, Option.some.inj hi⟩
    have hx : ((l.map (Value.int k)).drop (i * 1)).take 1 = [.int k (l[i]'(by omega))] := by
      rw [Nat.mul_one, List.drop_eq_getElem_cons (by simp; omega)]
      simp
    rw [hx]
    have hil : i < l.length := by omega
    have hwi := hw l[i] (List.getElem_mem _)
    simp [DataW.trod, he, hwi, hil]
  unfold DataW.trod
  rw [ht]
  simp only [hct, hce]
  rw [if_pos (by simp [hl]), hm]
  simp
end
end Go.Proofs.YtjjnjglbmneecaaDoor
