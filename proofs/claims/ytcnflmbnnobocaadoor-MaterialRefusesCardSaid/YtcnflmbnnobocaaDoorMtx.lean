/- The contract of material.Text: the numbers with blanks between them, or the error. No condition. -/
import Derived.Test.YtcnflmbnnobocaaDoorMsg
import Derived.Test.YtcnflmbnnobocaaDoorShelf
import Derived.Maps.AppendAt
import Derived.RangeFuncBox
namespace Go.Proofs.YtcnflmbnnobocaaDoor
open Go Go.RowKit

def zsN (ns : List Nat) : List Int := ns.map (fun n : Nat => (n : Int))
theorem zsN_len (ns : List Nat) : (zsN ns).length = ns.length := by simp [zsN]
def numS (n : Nat) : ByteArray := ⟨(Lib.decDigits n).toArray⟩
def txtN (ns : List Nat) : ByteArray := ⟨(Lib.join (ns.map Lib.decDigits) [32]).toArray⟩
def txtM (a0 a1 a2 a3 a4 a5 a6 a7 a8 a9 : Int) : ByteArray := if okM a0 a1 a2 a3 a4 a5 a6 a7 a8 a9 then txtN [a0.toNat, a1.toNat, a2.toNat, a3.toNat, a4.toNat, a5.toNat, a6.toNat, a7.toNat, a8.toNat, a9.toNat] else ⟨#[]⟩
theorem txtM_t {a0 a1 a2 a3 a4 a5 a6 a7 a8 a9 : Int} (h : okM a0 a1 a2 a3 a4 a5 a6 a7 a8 a9) : txtM a0 a1 a2 a3 a4 a5 a6 a7 a8 a9 = txtN [a0.toNat, a1.toNat, a2.toNat, a3.toNat, a4.toNat, a5.toNat, a6.toNat, a7.toNat, a8.toNat, a9.toNat] := if_pos h
theorem txtM_f {a0 a1 a2 a3 a4 a5 a6 a7 a8 a9 : Int} (h : ¬ okM a0 a1 a2 a3 a4 a5 a6 a7 a8 a9) : txtM a0 a1 a2 a3 a4 a5 a6 a7 a8 a9 = ⟨#[]⟩ := if_neg h
theorem infoStr : (Tryd.prog.info? 9).map (fun i => (i.zero, i.size, i.bytes)) = some (some (.string ⟨#[]⟩), 1, 16) := by kernel_rfl
theorem take_succ_getD (ns : List Nat) (k : Nat) (h : k < ns.length) : ns.take (k + 1) = ns.take k ++ [ns.getD k 0] := by
  rw [List.take_succ_eq_append_getElem h]; simp [h]
theorem digits_len (n : Nat) (h : n ≤ 15) : (Lib.decDigits n).length ≤ 2 := by
  have key : ∀ n, n < 16 → (Lib.decDigits n).length ≤ 2 := by decide +kernel
  exact key n (by omega)
theorem join_len (xs : List (List UInt8)) (h : ∀ x ∈ xs, x.length ≤ 2) : (Lib.join xs [32]).length ≤ 3 * xs.length := by
  induction xs with
  | nil => simp [Lib.join]
  | cons x r ih =>
    have h1 := h x (by simp)
    have h2 := ih (fun y hy => h y (by simp [hy]))
    cases r with
    | nil => simp [Lib.join]; omega
    | cons y s => simp [Lib.join, List.intercalate, List.intersperse] at h2 ⊢; omega

theorem itoa_small (n : Nat) (w : World) (h : n < 100) : Calls Tryd.prog 27 #[.int .i64 n] w fun e w' => e = .returned (.string (numS n)) ∧ w = w' :=
  (Tryd.strconv_Itoa_small n h w).mono fun _ _ ⟨he, hw⟩ => ⟨he, hw.symm⟩

set_option maxRecDepth 100000 in
set_option maxHeartbeats 4000000 in
theorem text_any (a0 a1 a2 a3 a4 a5 a6 a7 a8 a9 : Int) (w : World) :
    Calls Tryd.prog 16 #[.agg #[.int .i64 a0, .int .i64 a1, .int .i64 a2, .int .i64 a3, .int .i64 a4, .int .i64 a5, .int .i64 a6, .int .i64 a7, .int .i64 a8, .int .i64 a9]] w fun e w' => e = .returned (.tuple #[.string (txtM a0 a1 a2 a3 a4 a5 a6 a7 a8 a9), .int .i64 (chkE a0 a1 a2 a3 a4 a5 a6 a7 a8 a9)]) ∧ Below w.heap.size w w' := by
  by_cases h : okM a0 a1 a2 a3 a4 a5 a6 a7 a8 a9
  · have hE := chkE_t h
    have HS := Lib.hid (txtM_t h)
    obtain ⟨h0, h0', h1, h2, h3, h4, hs, h5, h5', h6, h7, h8, h9, hs'⟩ := h
    go_enter Tryd.func16, Tryd.ntmps16
    go_wp2_with fail
    refine (check_any _ _ _ _ _ _ _ _ _ _ _).mono ?_
    rintro e w1 ⟨rfl, hb1⟩
    have hH : Holds w1 w.heap.size .i64 25 [a0, a1, a2, a3, a4, a5, a6, a7, a8, a9] := (Holds.new w .i64 25 [a0, a1, a2, a3, a4, a5, a6, a7, a8, a9]).below hb1 (by simp)
    have hb : Below w.heap.size w w1 := ((Below.refl _ _).alloc (Nat.le_refl _) _).trans (hb1.mono (by simp))
    clear hb1
    obtain ⟨ns, hns⟩ : ∃ ns : List Nat, ns = [a0.toNat, a1.toNat, a2.toNat, a3.toNat, a4.toNat, a5.toNat, a6.toNat, a7.toNat, a8.toNat, a9.toNat] := ⟨_, rfl⟩
    have hl : ns.length = 10 := by rw [hns]; rfl
    have hle : ∀ n ∈ ns, n ≤ 15 := by rw [hns]; intro n hn; simp at hn; omega
    have he : [a0, a1, a2, a3, a4, a5, a6, a7, a8, a9] = zsN ns := by
      rw [hns]; simp [zsN]; omega
    rw [he] at hH
    rw [← hns] at HS
    clear hns he
    go_wp2_with (with_reducible refine wpl_load (g := w.heap.size) (k := .i64) (t := 25) (l := zsN ns) hH rfl 25 _ rfl rfl Tryd.underlying25 ?hi ?_)
    case hi => rw [zsN_len, hl]; kernel_rfl
    obtain ⟨i0, hi0, hz0, hz1, hz2⟩ := info_parts infoStr
    clear h0 h0' h1 h2 h3 h4 hs h5 h5' h6 h7 h8 h9 hs' hH
    go_loopw [5, 14] (fun v i wr => ∃ k : Nat, k ≤ 10 ∧ i = .int .i64 k ∧ wr.ownsRow w.heap.size 9 1 v k ((ns.take k).map fun n => Value.string (numS n)) ∧ Below w.heap.size w wr) (fun _ i _ => 10 - (intOf i).toNat)
    case atStart => exact ⟨0, by omega, rfl, World.ownsRow_nil _ _ _ _, hb⟩
    case round =>
      obtain ⟨k, hk, rfl, hown, hbl⟩ := hrel
      by_cases hlt : k < 10
      · have hix : (Instr.index 25 (.agg (intsK .i64 (zsN ns))) (.int .i64 k)).run Tryd.prog wr = .ok (.int .i64 ((zsN ns).getD k 0)) wr := run_index_ints k Tryd.underlying25 Tryd.underlying3 (by kernel_rfl) (by rw [zsN_len, hl]) hlt
        have hgk : (zsN ns).getD k 0 = ((ns.getD k 0 : Nat) : Int) := by simp [zsN, hl, hlt]
        rw [hgk] at hix
        have hmem : ns.getD k 0 ≤ 15 := hle _ (by simp [hl, hlt])
        have HT := Lib.hid (take_succ_getD ns k (by omega))
        generalize ns.getD k 0 = n at *
        have HR := Lib.hid hown
        have hsz := hbl.size
        clear hown hgk
        go_wp2_with (first
          | (go_at_call 27; refine (itoa_small _ _ (by omega)).mono ?_; rintro e w' ⟨rfl, rfl⟩)
          | (at_builtin; refine wpList_append_own _ rfl _ _ 57 rfl w.heap.size 9 i0 (.string ⟨#[]⟩) 1 16 Tryd.underlying57 hi0 hz0 hz1 hz2 rfl (by decide) _ _ _ rfl (HR.out.alloc _) ⟨wr.heap.size, 0, none⟩ 1 1 [.string (numS n)] rfl rfl (cell_one_new _ _ _) (by simp [Value.oneCell']) (by unfold maxLen; omega) (by omega) (by simp; omega) ?_; intro v' w1' hown' hgrow _))
        have hown2 : w1'.ownsRow w.heap.size 9 1 v' (k + 1) ((ns.take (k + 1)).map fun n => Value.string (numS n)) := by
          rw [HT.out, List.map_append]; exact hown'
        have hbl2 : Below w.heap.size w w1' := (hbl.alloc hsz _).grown hgrow (by simp; omega) (fun j e => (HR.out.lt j e).1)
        clear hown' hgrow
        go_wp2_with fail
        go_roundw
        case rel => exact ⟨k + 1, by omega, by go_num, hown2, hbl2⟩
        case measure => simp [intOf]; omega
      · have hk : k = 10 := by omega
        subst hk
        obtain ⟨g, cap, rfl⟩ := ownsRow_succ hown
        have hlen : ((ns.take 10).map numS).length = 10 := by simp [hl]
        have hcells : ∀ (j : Nat) x, ((ns.take 10).map numS)[j]? = some x → wr.cell? ⟨g, 0 + j, none⟩ = some (.string x) := by
          intro j x hx
          have hj : j < 10 := by have := (List.getElem?_eq_some_iff.1 hx).1; omega
          have := hown.cellAt j (by omega)
          rw [Nat.zero_add, this]
          simp only [List.getElem?_map, Option.map_eq_some_iff] at hx ⊢
          obtain ⟨n, h1, h2⟩ := hx
          exact ⟨n, h1, by rw [h2]⟩
        have hcap : 10 ≤ cap := by
          rcases hown.2 with h | ⟨g', cap', cur, e, _, _, hc, _⟩
          · omega
          · cases e; exact hc
        have hgl : g < wr.heap.size := (hown.lt g rfl).2
        have hd : ((ns.take 10).map numS).map (·.data.toList) = ns.map Lib.decDigits := by
          rw [List.take_of_length_le (by omega), List.map_map]; rfl
        have hj : (Lib.join (((ns.take 10).map numS).map (·.data.toList)) [32]).length ≤ 140737488355328 := by
          rw [hd]
          have := join_len (ns.map Lib.decDigits) (by intro x hx; simp only [List.mem_map] at hx; obtain ⟨n, hn, rfl⟩ := hx; exact digits_len n (hle n hn))
          rw [List.length_map, hl] at this
          omega
        have HC : Hid (Calls Tryd.prog 28 #[.slice (some ⟨g, 0, none⟩) 10 cap, .string ⟨#[32]⟩] wr fun e w' => e = .returned (.string (txtN ns)) ∧ Below wr.heap.size wr w') := by
          have := Tryd.strings_Join g 0 cap ((ns.take 10).map numS) ⟨#[32]⟩ wr hcells hgl (by rw [hlen]; omega) (by rw [hlen]; exact hcap) hj
          rw [hlen, hd] at this
          exact this
        clear hcells hd hj hown hle hlen hcap hgl
        go_wp2_with (go_at_call 28; refine HC.out.mono ?_; rintro e w2 ⟨rfl, hb2⟩)
        go_ret2
        exact ⟨ret2_str HS.out.symm hE.symm, hbl.trans (hb2.mono hbl.size)⟩
  · have hE := chkE_f h
    have HS := Lib.hid (txtM_f h)
    go_enter Tryd.func16, Tryd.ntmps16
    go_wp2_with fail
    refine (check_any _ _ _ _ _ _ _ _ _ _ _).mono ?_
    rintro e w1 ⟨rfl, hb1⟩
    go_wp2_with fail
    go_ret2
    exact ⟨ret2_str HS.out.symm hE.symm, ((Below.refl _ _).alloc (Nat.le_refl _) _).trans (hb1.mono (by simp))⟩
end Go.Proofs.YtcnflmbnnobocaaDoor
