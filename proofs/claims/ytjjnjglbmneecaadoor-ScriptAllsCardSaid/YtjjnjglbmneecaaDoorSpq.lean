/- The contract of script.ParseAll. -/
import Derived.Test.YtjjnjglbmneecaaDoorSpt
import Derived.Test.YtjjnjglbmneecaaDoorParts
namespace Go.Proofs.YtjjnjglbmneecaaDoor
open Go Go.RowKit
theorem infoOp : (Tryd.prog.info? 24).map (fun i => (i.zero, i.size, i.bytes)) = some (some (.agg #[.int .i64 0, .int .i64 0, .string ⟨#[]⟩]), 3, 32) := by kernel_rfl
def opCs : List Opx → List Value
  | [] => []
  | x :: r => .int .i64 x.1 :: .int .i64 x.2.1 :: .string ⟨x.2.2.toArray⟩ :: opCs r
theorem opCs_app (a b : List Opx) : opCs (a ++ b) = opCs a ++ opCs b := by
  induction a with
  | nil => rfl
  | cons x r ih => simp [opCs, ih]
theorem opCs_len (l : List Opx) : (opCs l).length = l.length * 3 := by
  induction l with
  | nil => rfl
  | cons x r ih => simp [opCs, ih]; omega
theorem opCs_at (l : List Opx) (i : Nat) (h : i < l.length) : (opCs l)[i * 3]? = some (.int .i64 l[i].1) ∧ (opCs l)[i * 3 + 1]? = some (.int .i64 l[i].2.1) ∧ (opCs l)[i * 3 + 2]? = some (.string ⟨l[i].2.2.toArray⟩) := by
  induction l generalizing i with
  | nil => simp at h
  | cons x r ih =>
    rcases i with _ | i
    · simp [opCs]
    · have := ih i (by simpa using h)
      rw [show (i + 1) * 3 = i * 3 + 1 + 1 + 1 by omega]
      simpa [opCs] using this
/-- A slice of operations that is made here. -/
structure Opsl (w0 : World) (w : World) (v : Value) (l : List Opx) : Prop where
  own : w.ownsRow w0.heap.size 24 3 v l.length (opCs l)
  bel : Below w0.heap.size w0 w
theorem Opsl.nil {w0 w : World} (h : Below w0.heap.size w0 w) : Opsl w0 w (.slice none 0 0) [] := ⟨World.ownsRow_nil _ _ _ _, h⟩
theorem Opsl.grow {w0 w w' : World} {v : Value} {l : List Opx} (h : Opsl w0 w v l) (hb : Below w.heap.size w w') : Opsl w0 w' v l := ⟨owns_below h.own hb, h.bel.trans (below_le hb h.bel.size)⟩
theorem Opsl.app {w0 w w' : World} {v v' : Value} {l : List Opx} {x : Opx} (h : Opsl w0 w v l) (ho : w'.ownsRow w0.heap.size 24 3 v' (l.length + 1) (opCs l ++ [.int .i64 x.1, .int .i64 x.2.1, .string ⟨x.2.2.toArray⟩])) (hg : w.grownBy w' v.ownBlock) : Opsl w0 w' v' (l ++ [x]) := by
  refine ⟨by rw [List.length_append, opCs_app]; exact ho, ?_⟩
  exact h.bel.grown hg (by have := h.bel.size; omega) (fun k hk => (h.own.lt k hk).1)
theorem Opsl.base {w0 w1 w : World} {v : Value} {l : List Opx} (h : Opsl w1 w v l) (hb : Below w0.heap.size w0 w1) : Opsl w0 w v l := by
  refine ⟨⟨h.own.1, ?_⟩, hb.trans (below_le h.bel hb.size)⟩
  rcases h.own.2 with hn | ⟨g, cap, cur, h1, h2, h3⟩
  · exact .inl hn
  · exact .inr ⟨g, cap, cur, h1, Nat.le_trans hb.size h2, h3⟩
/-- What a slice of operations is: nil, or a row. -/
theorem Opsl.row {w0 w : World} {v : Value} {l : List Opx} (h : Opsl w0 w v l) : (v = .slice none 0 0 ∧ l = []) ∨ ∃ g cap, v = .slice (some ⟨g, 0, none⟩) l.length cap ∧ w0.heap.size ≤ g ∧ g < w.heap.size ∧ l.length ≤ cap ∧ OpsAt w g l := by
  rcases h.own.2 with ⟨hv, h0⟩ | ⟨g, cap, cur, rfl, hg, hgg, hc, _⟩
  · exact .inl ⟨hv, List.eq_nil_of_length_eq_zero h0⟩
  · refine .inr ⟨g, cap, rfl, hg, (Array.getElem?_eq_some_iff.1 hgg).1, hc, fun i hi => ?_⟩
    obtain ⟨a, b, c⟩ := opCs_at l i hi
    have ha : ∀ j, (⟨g, 0, none⟩ : Addr).add j = ⟨g, j, none⟩ := fun j => by unfold Addr.add; split <;> simp_all
    have e := fun j u hu => (ha j) ▸ h.own.cells (g := g) rfl j u hu
    exact ⟨e _ _ a, e _ _ b, e _ _ c⟩
theorem cell_row3_new (w : World) (a b c : Value) (t : TypeId) : ∀ j u, [a, b, c][j]? = some u → (w.alloc (.cells #[a, b, c] t)).cell? ((⟨w.heap.size, 0, none⟩ : Addr).add j) = some u := by
  intro j u hj
  match j, hj with
  | 0, hj => simp at hj; subst hj; simp [Addr.add]
  | 1, hj => simp at hj; subst hj; simp [Addr.add]
  | 2, hj => simp at hj; subst hj; simp [Addr.add]
def Words (w : World) (g : Nat) (ws : List ByteArray) : Prop := w.heap[g]? = some (.cells (ws.map Value.string).toArray 9 (0, 0))
theorem Words.cell {w : World} {g : Nat} {ws : List ByteArray} (h : Words w g ws) (i : Nat) (hi : i < ws.length) : w.cell? ⟨g, i, none⟩ = some (.string ws[i]) := by
  rw [Lib.cell_of_heap h]; simp [hi]
theorem Words.lt {w : World} {g : Nat} {ws : List ByteArray} (h : Words w g ws) : g < w.heap.size := (Array.getElem?_eq_some_iff.1 h).1
theorem Words.below {w w' : World} {g : Nat} {ws : List ByteArray} {B : Nat} (h : Words w g ws) (hb : Below B w w') (hg : g < B) : Words w' g ws := by
  unfold Words; rw [hb.block g hg]; exact h
theorem split_words (s : ByteArray) : ∃ ws : List ByteArray, Lib.splitB ⟨#[10]⟩ 0 (Lib.countB s ⟨#[10]⟩) s = ws ∧ ws.map (·.data.toList) = parts 10 s.data.toList ∧ Lib.countB s ⟨#[10]⟩ + 1 = ws.length := by
  obtain ⟨h1, h2⟩ := splitB_parts 10 s
  exact ⟨_, rfl, h1, by rw [h2, ← h1, List.length_map]⟩
/-- The loop of ParseAll: the lines that are left, the number of the line, the operations so far. -/
def paG : List (List UInt8) → Nat → List Opx → List Opx × Int × Int
  | [], _, acc => (acc, 0, 0)
  | ln :: r, i, acc => if ln.head?.getD 35 = 35 then paG r (i + 1) acc else if acc.length = 1000 then ([], i + 1, 10) else
    match parO ln with
    | none => ([], i + 1, 8)
    | some x => paG r (i + 1) (acc ++ [x])
/-- What ParseAll returns. -/
def paA (s : List UInt8) : List Opx × Int × Int := if 262144 < s.length then ([], 0, 9) else paG (parts 10 s) 0 []
theorem pa_long (s : ByteArray) (hs : 262144 < s.size) (w : World) :
    Calls Tryd.prog 24 #[.string s] w fun e w' => ∃ v, e = .returned (.tuple #[v, .int .i64 (paA s.data.toList).2.1, .int .i64 (paA s.data.toList).2.2]) ∧ Opsl w w' v (paA s.data.toList).1 := by
  have hp : paA s.data.toList = ([], 0, 9) := if_pos (by have := Lib.size_eq s; omega)
  rw [hp]
  go_enter Tryd.func24, Tryd.ntmps24
  go_wp2_with fail
  go_ret3
  exact ⟨_, rfl, Opsl.nil (Below.refl _ _)⟩
set_option maxRecDepth 100000 in
set_option maxHeartbeats 4000000 in
theorem pa_any {w : World} (hw : EnvS w) (s : ByteArray) (hs : s.size ≤ 250000) :
    Calls Tryd.prog 24 #[.string s] w fun e w' => ∃ v, e = .returned (.tuple #[v, .int .i64 (paA s.data.toList).2.1, .int .i64 (paA s.data.toList).2.2]) ∧ Opsl w w' v (paA s.data.toList).1 := by
  have hp : paA s.data.toList = paG (parts 10 s.data.toList) 0 [] := if_neg (by have := Lib.size_eq s; omega)
  rw [hp]
  clear hp
  obtain ⟨i0, hi0, hz0, hz1, hz2⟩ := info_parts infoOp
  obtain ⟨ws, hws, hwl, hwn⟩ := split_words s
  have hcl := Nat.le_trans (partsA_count 10 s.data.toList []) (by have := Lib.size_eq s; omega : s.data.toList.length + 1 ≤ 250001)
  have hln : ∀ x ∈ ws, x.size ≤ 250000 := fun x hx => by
    have h1 := parts_len 10 s.data.toList x.data.toList (by rw [← hwl]; exact List.mem_map.2 ⟨x, hx, rfl⟩)
    have := Lib.size_eq s; have := Lib.size_eq x; omega
  rw [← hwl]
  have hwl2 : ws.length ≤ 250001 := by
    have h1 : (parts 10 s.data.toList).length ≤ 250001 := hcl
    rw [← hwl, List.length_map] at h1; exact h1
  obtain ⟨m, hm⟩ := hw.maxlen
  have HS := Lib.hid (Tryd.strings_Split s ⟨#[10]⟩ m w (by omega) hm (by decide))
  rw [hws, hwn] at HS
  have HN := Lib.hid hln
  clear hln hws hwn hwl hcl hm
  obtain ⟨rs, hrs⟩ : ∃ rs, paG (ws.map (·.data.toList)) 0 [] = rs := ⟨_, rfl⟩
  rw [hrs]
  have HRS := Lib.hid hrs
  clear hrs
  have hWs := Lib.hid (show Words (w.alloc (.cells (ws.map Value.string).toArray 9)) w.heap.size ws from heap_alloc_new _ _)
  have hBs := Lib.hid (below_al w (.cells (ws.map Value.string).toArray 9))
  have hsz1 : w.heap.size < (w.alloc (.cells (ws.map Value.string).toArray 9)).heap.size := by simp
  have hdl : decide (262144 < (s.size : Int)) = false := by simp; omega
  have HSZ := Lib.hid hs
  have HWL := Lib.hid hwl2
  clear hs hwl2
  go_enter Tryd.func24, Tryd.ntmps24
  go_wp2_with (go_at_call 48; refine HS.out.mono ?_; rintro e w1 ⟨rfl, rfl⟩)
  generalize w.alloc _ = w1 at *
  go_loopg [5, 16] ws.length (fun mm o i wr => ∃ (k : Nat) (acc : List Opx), mm = ws.length - k ∧ k ≤ ws.length ∧ acc.length ≤ k ∧ i = .int .i64 k ∧ rs = paG ((ws.drop k).map (·.data.toList)) k acc ∧ Opsl w1 wr o acc)
  case atStart => exact ⟨0, [], rfl, by omega, by simp, rfl, by rw [List.drop_zero]; exact HRS.out.symm, Opsl.nil (Below.refl _ _)⟩
  case round =>
    obtain ⟨k, acc, hkm, hk, hak, rfl, hix, hb⟩ := hrel
    have HK := Lib.hid hkm
    clear hkm
    by_cases hlt : k < ws.length
    · have hdi : decide ((k : Int) < (ws.length : Int)) = true := by simp; omega
      have hcell := (hWs.out.below hb.bel hsz1).cell k hlt
      have hd : ws.drop k = ws[k] :: ws.drop (k + 1) := List.drop_eq_getElem_cons hlt
      have hqz := HN.out _ (List.getElem_mem hlt)
      rw [hd] at hix
      generalize ws[k] = q at hcell hix hqz
      rw [List.map_cons, paG] at hix
      have hql : q.toList = q.data.toList := Lib.toList_data q
      have HI := Lib.hid hix
      have Hb := Lib.hid hb
      have HWr := Lib.hid ((hw.below hBs.out).below hb.bel)
      have hkb : k ≤ 250000 := by have := HWL.out; omega
      clear hix hd hb
      by_cases hq0 : q.data.toList = []
      · have hq1 : q.toList.isEmpty = true := by rw [hql, hq0]; rfl
        have HZ : Hid (rs = paG ((ws.drop (k + 1)).map (·.data.toList)) (k + 1) acc) := Lib.hid (by rw [HI.out, hq0]; rfl)
        clear hq0 hql
        go_wp2_with fail
        go_roundg (ws.length - (k + 1))
        case measure => have := HK.out; omega
        case rel => exact ⟨k + 1, acc, rfl, by omega, by omega, by go_num, HZ.out, Hb.out⟩
      obtain ⟨c, r, hcr⟩ : ∃ c r, q.data.toList = c :: r := by
        rcases h : q.data.toList with _ | ⟨c, r⟩
        · exact absurd h hq0
        · exact ⟨c, r, rfl⟩
      have hq1 : q.toList.isEmpty = false := by rw [hql, hcr]; rfl
      have hqs : 0 < q.size := by rw [Lib.size_eq, hcr]; simp
      have hc0 : q[0] = c := by
        have : q.data.toList[0]'(by rw [hcr]; simp) = c := by simp [hcr]
        rw [← this]; rfl
      by_cases hc : c = 35
      · have HZ : Hid (rs = paG ((ws.drop (k + 1)).map (·.data.toList)) (k + 1) acc) := Lib.hid (by rw [HI.out, hcr, if_pos (by simp [hc])])
        subst hc
        clear hq0 hql hcr
        go_wp2_with fail
        go_roundg (ws.length - (k + 1))
        case measure => have := HK.out; omega
        case rel => exact ⟨k + 1, acc, rfl, by omega, by omega, by go_num, HZ.out, Hb.out⟩
      have hc35 : (c.toNat : Int) ≠ 35 := fun h => hc (UInt8.toNat_inj.1 (by show c.toNat = 35; omega))
      have HI2 : Hid (rs = if acc.length = 1000 then ([], (k : Int) + 1, 10) else match parO q.data.toList with | none => ([], (k : Int) + 1, 8) | some x => paG ((ws.drop (k + 1)).map (·.data.toList)) (k + 1) (acc ++ [x])) := Lib.hid (by rw [HI.out, if_neg (by rw [hcr]; simpa using hc)])
      have HP := Lib.hid (fun (W : World) (hW : EnvS W) => parse_any hW q hqz)
      unfold parV parE at HP
      clear HI hcr hql hq0
      obtain ⟨ao, oc, rfl⟩ : ∃ ao oc, u5 = .slice ao acc.length oc := by
        rcases Hb.out.row with ⟨h, h2⟩ | ⟨g, cap, h, _⟩
        · exact ⟨none, 0, by rw [h, h2]; rfl⟩
        · exact ⟨_, _, h⟩
      by_cases hn : acc.length = 1000
      · have dn : ((acc.length : Int) == 1000) = true := by simp; omega
        have HZ : Hid (rs = ([], (k : Int) + 1, 10)) := Lib.hid (by rw [HI2.out, if_pos hn])
        clear HP hn
        go_wp2_with fail
        go_ret3
        exact ⟨_, by rw [HZ.out]; rfl, by rw [HZ.out]; exact Opsl.nil (hBs.out.trans (below_le Hb.out.bel hBs.out.size))⟩
      have dn : ((acc.length : Int) == 1000) = false := by simp; omega
      rcases hpo : parO q.data.toList with _ | x
      · rw [hpo] at HP HI2
        have HZ : Hid (rs = ([], (k : Int) + 1, 8)) := Lib.hid (by rw [HI2.out, if_neg hn])
        clear hpo HI2 hn
        unfold opV at HP
        dsimp only at HP
        go_wp2_with (go_at_call 13; refine (HP.out _ HWr.out).mono ?_; rintro e w2 ⟨rfl, hE⟩; have HE := Lib.hid ((Hb.out.grow hE).bel); clear hE)
        go_ret3
        exact ⟨_, by rw [HZ.out]; rfl, by rw [HZ.out]; exact Opsl.nil ((hBs.out.trans (below_le HE.out hBs.out.size)).alloc (by have h1 := HE.out.size; have h2 := hBs.out.size; omega) _)⟩
      · rw [hpo] at HP HI2
        have HZ : Hid (rs = paG ((ws.drop (k + 1)).map (·.data.toList)) (k + 1) (acc ++ [x])) := Lib.hid (by rw [HI2.out, if_neg hn])
        clear hpo HI2 hn
        obtain ⟨xk, xa, xv⟩ := x
        unfold opV at HP
        dsimp only at HP
        go_wp2_with (first
          | (go_at_call 13; refine (HP.out _ HWr.out).mono ?_; rintro e w2 ⟨rfl, hE⟩; have HO2 := Hb.out.grow hE; have HO3 := Lib.hid ((HO2.grow (below_al w2 (.cells #[.int .i64 xk, .int .i64 xa, .string ⟨xv.toArray⟩] 24))).grow (below_al _ (.cells #[.int .i64 xk, .int .i64 xa, .string ⟨xv.toArray⟩] 24)))
             have hCR := Lib.hid (cell_row3_new (w2.alloc (.cells #[.int .i64 xk, .int .i64 xa, .string ⟨xv.toArray⟩] 24)) (.int .i64 xk) (.int .i64 xa) (.string ⟨xv.toArray⟩) 24)
             have hle2 := HO2.bel.size
             clear hE HO2)
          | (at_builtin; refine wpList_append_own _ rfl _ _ 43 rfl w1.heap.size 24 i0 (.agg #[.int .i64 0, .int .i64 0, .string ⟨#[]⟩]) 3 32 Tryd.underlying43 hi0 hz0 hz1 hz2 rfl (by decide) _ _ _ rfl HO3.out.own ⟨w2.heap.size + 1, 0, none⟩ 1 1 [.int .i64 xk, .int .i64 xa, .string ⟨xv.toArray⟩] rfl rfl (by have := hCR.out; rwa [show (w2.alloc (.cells #[.int .i64 xk, .int .i64 xa, .string ⟨xv.toArray⟩] 24)).heap.size = w2.heap.size + 1 by simp] at this) (by simp [Value.oneCell']) (by unfold maxLen; omega) (by omega) (by simp; omega) ?_; intro v' w5 hown' hgrow _; have HO := Lib.hid hown'; have HG := Lib.hid hgrow; clear hown' hgrow))
        go_roundg (ws.length - (k + 1))
        case measure => have := HK.out; omega
        case rel => exact ⟨k + 1, acc ++ [(xk, xa, xv)], rfl, by omega, by simp; omega, by go_num, HZ.out, HO3.out.app (x := (xk, xa, xv)) HO.out HG.out⟩
    · have hkl : k = ws.length := by omega
      subst hkl
      rw [List.drop_length] at hix
      have HI := Lib.hid hix
      have Hb := Lib.hid hb
      clear hix hb
      go_wp2_with fail
      go_ret3
      rw [HI.out]
      exact ⟨_, rfl, Hb.out.base hBs.out⟩
end Go.Proofs.YtjjnjglbmneecaaDoor
