/- The contract of board.Parse. Conditions: the variables of the library lie in memory as it lays them (EnvB). -/
import Derived.Test.YthbbnhhofkadgaaDoorBpl
import Derived.Test.YthbbnhhofkadgaaDoorBlo
import Derived.Test.YthbbnhhofkadgaaDoorBmv
import Derived.Test.YthbbnhhofkadgaaDoorParts
import Derived.Test.YthbbnhhofkadgaaDoorKit
import Derived.Lib.OthersKept
import Derived.Laws.RangeAny
import Derived.Laws.Runes
namespace Go.Proofs.YthbbnhhofkadgaaDoor
open Go Go.RowKit
/-- The variables of the library. -/
structure EnvB (w : World) : Prop where
  tab : Tab64 w
  maxlen : ∃ m, w.cell? ⟨1, 0, none⟩ = some (.int .i64 m)
  size : 6 ≤ w.heap.size
theorem EnvB.below {w w' : World} (h : EnvB w) {B : Nat} (hb : Below B w w') (hB : 6 ≤ B) : EnvB w' where
  tab := h.tab.below hb (by omega)
  maxlen := by obtain ⟨m, hm⟩ := h.maxlen; exact ⟨m, (hb.cell (p := ⟨1, 0, none⟩) (by simp; omega)).trans hm⟩
  size := Nat.le_trans h.size hb.size
def letP (c : UInt8) : Int := parseFrom [c] 0 lets
theorem letP_eq (c : UInt8) : parseV ⟨#[c]⟩ = letP c := by unfold parseV; rw [ByteArray.toList_eq]; rfl
/-- The bytes of a rank are read: from a square on, up to the rank's end. -/
def prL (en : Nat) : List UInt8 → Nat → List Int → Option (List Int)
  | [], _, b => some b
  | c :: r, at_, b =>
    if 49 ≤ c.toNat ∧ c.toNat ≤ 56 then prL en r (at_ + (c.toNat - 48)) b
    else if 128 ≤ c.toNat then none
    else if letP c = 0 ∨ en ≤ at_ then none
    else prL en r (at_ + 1) (b.set at_ (letP c))
def prR : List (List UInt8) → Nat → List Int → Option (List Int)
  | [], _, b => some b
  | l :: ls, i, b => match prL (8 * (7 - i) + 8) l (8 * (7 - i)) b with
    | none => none
    | some b' => prR ls (i + 1) b'
def prN (ls : List (List UInt8)) (i : Nat) : Option (List Int) → Option (List Int)
  | none => none
  | some b => prR ls i b
theorem prR_cons (l : List UInt8) (ls : List (List UInt8)) (i : Nat) (b : List Int) : prR (l :: ls) i b = prN ls (i + 1) (prL (8 * (7 - i) + 8) l (8 * (7 - i)) b) := by
  rw [prR]
  cases prL (8 * (7 - i) + 8) l (8 * (7 - i)) b <;> rfl
def psB (s : ByteArray) : Option (List Int) := if (parts 47 s.data.toList).length = 8 then prR (parts 47 s.data.toList) 0 zero64 else none
def psV (s : ByteArray) : List Int := match psB s with
  | some b => if plV b = s then b else zero64
  | none => zero64
def psE (s : ByteArray) : Int := match psB s with
  | some b => if plV b = s then 0 else 15
  | none => 15
theorem ps_none {s : ByteArray} (h : psB s = none) : psV s = zero64 ∧ psE s = 15 := by unfold psV psE; rw [h]; exact ⟨rfl, rfl⟩
theorem ps_bad {s : ByteArray} {b : List Int} (h : psB s = some b) (hn : plV b ≠ s) : psV s = zero64 ∧ psE s = 15 := by unfold psV psE; rw [h]; simp only []; rw [if_neg hn, if_neg hn]; exact ⟨rfl, rfl⟩
theorem ps_good {s : ByteArray} {b : List Int} (h : psB s = some b) (hn : plV b = s) : psV s = b ∧ psE s = 0 := by unfold psV psE; rw [h]; simp only []; rw [if_pos hn, if_pos hn]; exact ⟨rfl, rfl⟩
theorem prL_len {en : Nat} {l : List UInt8} : ∀ {at_ : Nat} {b b' : List Int}, prL en l at_ b = some b' → b'.length = b.length := by
  induction l with
  | nil => intro at_ b b' h; simp [prL] at h; rw [h]
  | cons c r ih =>
    intro at_ b b' h
    simp only [prL] at h
    split at h
    · exact ih h
    · split at h
      · cases h
      · split at h
        · cases h
        · rw [ih h, List.length_set]
/-- The words of a string lie in a block. -/
def Words (w : World) (g : Nat) (ws : List ByteArray) : Prop := w.heap[g]? = some (.cells (ws.map Value.string).toArray 9 (0, 0))
theorem Words.cell {w : World} {g : Nat} {ws : List ByteArray} (h : Words w g ws) (i : Nat) (hi : i < ws.length) : w.cell? ⟨g, i, none⟩ = some (.string (ws.getD i ⟨#[]⟩)) := by
  rw [cell_of_row w g i _ _ _ h]; simp [hi]
theorem Words.lt {w : World} {g : Nat} {ws : List ByteArray} (h : Words w g ws) : g < w.heap.size := (Array.getElem?_eq_some_iff.1 h).1
theorem Words.below {w w' : World} {g : Nat} {ws : List ByteArray} {B : Nat} (h : Words w g ws) (hb : Below B w w') (hg : g < B) : Words w' g ws := by
  unfold Words; rw [hb.block g hg]; exact h
theorem Words.setOther {w : World} {g : Nat} {ws : List ByteArray} (h : Words w g ws) {a : Addr} (v : Value) (ha : g ≠ a.block) : Words (w.setCell a v) g ws := by
  unfold Words; rw [heap_setCell_other w a g v ha]; exact h
theorem split_words (s : ByteArray) : ∃ ws : List ByteArray, Lib.splitB ⟨#[47]⟩ 0 (Lib.countB s ⟨#[47]⟩) s = ws ∧ ws.map (·.data.toList) = parts 47 s.data.toList ∧ Lib.countB s ⟨#[47]⟩ + 1 = ws.length := by
  obtain ⟨h1, h2⟩ := splitB_parts 47 s
  exact ⟨_, rfl, h1, by rw [h2, ← h1, List.length_map]⟩
/-- Reading the rank: what is known at a byte. -/
structure PsI (w : World) (ws : List ByteArray) (q : ByteArray) (en : Nat) (goal : Option (List Int)) (k pos at_ : Nat) (cur : List Int) (wr : World) : Prop where
  it : wr.heap[k]? = some (.stringIter q pos)
  zr : Holds wr w.heap.size .i64 24 zero64
  brd : Holds wr (w.heap.size + 1) .i64 24 cur
  wds : Words wr (w.heap.size + 1 + 1) ws
  bel : Below w.heap.size w wr
  len : cur.length = 64
  res : prL en (q.data.toList.drop pos) at_ cur = goal
theorem PsI.next {w : World} {ws : List ByteArray} {q : ByteArray} {en : Nat} {goal : Option (List Int)} {k pos at_ : Nat} {cur : List Int} {wr wr' : World} (h : PsI w ws q en goal k pos at_ cur wr) (hb : Below wr.heap.size wr wr') : PsI w ws q en goal k pos at_ cur wr' where
  it := (hb.block k (Array.getElem?_eq_some_iff.1 h.it).1).trans h.it
  zr := h.zr.below hb h.zr.lt
  brd := h.brd.below hb h.brd.lt
  wds := h.wds.below hb h.wds.lt
  bel := h.bel.trans (hb.mono h.bel.size)
  len := h.len
  res := h.res
theorem PsI.move {w : World} {ws : List ByteArray} {q : ByteArray} {en : Nat} {goal : Option (List Int)} {k pos at_ : Nat} {cur : List Int} {wr : World} (h : PsI w ws q en goal k pos at_ cur wr) (hk : w.heap.size + 1 + 1 < k) {pos' at' : Nat} {goal' : Option (List Int)} (hres : prL en (q.data.toList.drop pos') at' cur = goal') : PsI w ws q en goal' k pos' at' cur (wr.iterAt k q pos') where
  it := Lib.iterAt_heap wr k q pos pos' h.it
  zr := (Lib.iterAt_other wr k _ q pos' (by omega)).trans h.zr
  brd := (Lib.iterAt_other wr k _ q pos' (by omega)).trans h.brd
  wds := (Lib.iterAt_other wr k _ q pos' (by omega)).trans h.wds
  bel := Lib.below_iterAt h.bel (by omega) q pos'
  len := h.len
  res := hres
theorem PsI.put {w : World} {ws : List ByteArray} {q : ByteArray} {en : Nat} {goal : Option (List Int)} {k pos at_ : Nat} {cur : List Int} {wr : World} (h : PsI w ws q en goal k pos at_ cur wr) (hk : w.heap.size + 1 + 1 < k) {i at' : Nat} {x : Int} {goal' : Option (List Int)} (hres : prL en (q.data.toList.drop pos) at' (cur.set i x) = goal') : PsI w ws q en goal' k pos at' (cur.set i x) (wr.setCell ⟨w.heap.size + 1, i, none⟩ (.int .i64 x)) where
  it := (Below.heap_setCell _ _ _ _ (by simp; omega)).trans h.it
  zr := h.zr.setOther _ (by simp)
  brd := h.brd.set i x
  wds := h.wds.setOther _ (by simp)
  bel := h.bel.setCell (by simp) _
  len := by rw [List.length_set]; exact h.len
  res := hres
theorem parseFrom_len (s : List UInt8) (h : s.length ≠ 1) : ∀ (l : List UInt8) (k : Nat), parseFrom s k l = 0
  | [], _ => rfl
  | c :: r, k => by
    have : [c] ≠ s := fun e => h (by rw [← e]; rfl)
    rw [parseFrom, if_neg this]; exact parseFrom_len s h r (k + 1)
theorem encode_hi (r : Nat) (h : 128 ≤ r) : parseV (Utf8.encode r) = 0 := by
  refine parseFrom_len _ ?_ _ _
  rw [ByteArray.toList_eq]
  have hc : ¬ (if Utf8.valid r = true then (r : Int).toNat else Utf8.runeError) < 128 := by
    unfold Utf8.runeError
    split <;> omega
  unfold Utf8.encode
  simp only [hc, if_false]
  repeat' split
  all_goals simp only [List.length_cons, List.length_nil]
  all_goals decide
theorem encode_lo (c : UInt8) (h : c.toNat < 128) : Utf8.encode (c.toNat : Int) = ⟨#[c]⟩ := by
  have hv : Utf8.valid (c.toNat : Int) = true := by
    rw [validRune_eq]; exact decide_eq_true (.inl ⟨by omega, by omega⟩)
  unfold Utf8.encode
  simp only [hv, if_true]
  rw [if_pos (by omega)]
  simp
theorem par_zero {z : ByteArray} (h : parseV z = 0) (W : World) : Calls Tryd.prog 18 #[.string z] W fun e w' => e = .returned (.tuple #[.int .i64 0, .int .i64 8]) ∧ Below W.heap.size W w' := by
  have := parse_any z W
  rw [h, show parseE z = 8 from if_pos h] at this; exact this
theorem par_good {c : UInt8} (hc : c.toNat < 128) (h : letP c ≠ 0) (W : World) : Calls Tryd.prog 18 #[.string (Utf8.encode (c.toNat : Int))] W fun e w' => e = .returned (.tuple #[.int .i64 (letP c), .int .i64 0]) ∧ Below W.heap.size W w' := by
  have := parse_any ⟨#[c]⟩ W
  rw [letP_eq, show parseE ⟨#[c]⟩ = 0 from if_neg (by rw [letP_eq]; exact h)] at this
  rw [encode_lo c hc]; exact this
theorem drop_at (q : ByteArray) (pos : Nat) (h : pos < q.size) : q.data.toList.drop pos = (q[pos]'h) :: q.data.toList.drop (pos + 1) := by
  rw [List.drop_eq_getElem_cons (by simpa using h)]
  rfl
theorem prL_dig {en : Nat} {c : UInt8} {r : List UInt8} {at_ : Nat} {b : List Int} {G : Option (List Int)} (h : prL en (c :: r) at_ b = G) (h1 : 49 ≤ c.toNat ∧ c.toNat ≤ 56) : prL en r (at_ + (c.toNat - 48)) b = G := by
  rw [← h, prL, if_pos h1]
theorem prL_hi {en : Nat} {c : UInt8} {r : List UInt8} {at_ : Nat} {b : List Int} {G : Option (List Int)} (h : prL en (c :: r) at_ b = G) (h1 : 128 ≤ c.toNat) : G = none := by
  rw [← h, prL, if_neg (by omega), if_pos h1]
theorem prL_no {en : Nat} {c : UInt8} {r : List UInt8} {at_ : Nat} {b : List Int} {G : Option (List Int)} (h : prL en (c :: r) at_ b = G) (h1 : ¬ (49 ≤ c.toNat ∧ c.toNat ≤ 56)) (h3 : letP c = 0 ∨ en ≤ at_) : G = none := by
  rw [← h, prL, if_neg h1, if_pos h3, ite_self]
theorem prL_put {en : Nat} {c : UInt8} {r : List UInt8} {at_ : Nat} {b : List Int} {G : Option (List Int)} (h : prL en (c :: r) at_ b = G) (h1 : ¬ (49 ≤ c.toNat ∧ c.toNat ≤ 56)) (h2 : c.toNat < 128) (h3 : ¬ (letP c = 0 ∨ en ≤ at_)) : prL en r (at_ + 1) (b.set at_ (letP c)) = G := by
  rw [← h, prL, if_neg h1, if_neg (by omega), if_neg h3]
theorem ps_no8 {s : ByteArray} (h : (parts 47 s.data.toList).length ≠ 8) : psB s = none := if_neg h
theorem split_call (s : ByteArray) (hs : s.size ≤ 100000) (m : Int) : ∃ ws : List ByteArray, ws.map (·.data.toList) = parts 47 s.data.toList ∧ (parts 47 s.data.toList).length = ws.length ∧
    Hid (∀ W : World, W.cell? ⟨1, 0, none⟩ = some (.int .i64 m) → Calls Tryd.prog 16 #[.string s, .string ⟨#[47]⟩] W fun e w' => e = .returned (.slice (some ⟨W.heap.size, 0, none⟩) ws.length ws.length) ∧ w' = W.alloc (.cells (ws.map Value.string).toArray 9)) := by
  obtain ⟨ws, e1, e2, e3⟩ := split_words s
  refine ⟨ws, e2, by rw [← e2, List.length_map], fun W hW => ?_⟩
  have := Tryd.strings_Split s ⟨#[47]⟩ m W (by omega) hW (by decide)
  rw [e1, e3] at this
  exact this
set_option maxRecDepth 100000 in
set_option maxHeartbeats 1000000 in
theorem ps_cn8 (s : ByteArray) (hs : s.size ≤ 100000) (w : World) (hw : EnvB w) (hN : (parts 47 s.data.toList).length ≠ 8) :
    Calls Tryd.prog 12 #[.string s] w fun e w' => e = .returned (.tuple #[.agg (ints (psV s)), .int .i64 (psE s)]) ∧ Below w.heap.size w w' := by
  obtain ⟨m, hm⟩ := hw.maxlen
  have hsz := hw.size
  obtain ⟨ws, e2, hwl, HSP⟩ := split_call s hs m
  have hm2 : ((w.alloc (.cells (intsK .i64 zero64) 24)).alloc (.cells (intsK .i64 zero64) 24)).cell? ⟨1, 0, none⟩ = some (.int .i64 m) := by
    rw [World.cell?_alloc_past _ _ _ (by simp; omega), World.cell?_alloc_past _ _ _ (by omega)]; exact hm
  have hZ : Holds ((w.alloc (.cells (intsK .i64 zero64) 24)).alloc (.cells (intsK .i64 zero64) 24)) w.heap.size .i64 24 zero64 := (Holds.new w .i64 24 zero64).alloc _
  have hB : Below w.heap.size w ((w.alloc (.cells (intsK .i64 zero64) 24)).alloc (.cells (intsK .i64 zero64) 24)) := ((Below.refl _ _).alloc (Nat.le_refl _) _).alloc (by simp) _
  have hb : ((ws.length : Int) != 8) = true := by rw [bne_iff_ne]; omega
  have HR := Lib.hid (ps_none (ps_no8 hN)).1
  have HE := Lib.hid (ps_none (ps_no8 hN)).2
  clear hN hwl e2 hw hm
  go_enter Tryd.func12, Tryd.ntmps12
  go_wp2_with (first
    | (go_at_call 16; refine (HSP.out _ hm2).mono ?_; rintro e w' ⟨rfl, rfl⟩)
    | (with_reducible refine wpl_store (g := w.heap.size) (k := .i64) (t := 24) (l := zero64) (hZ.alloc _) rfl 24 _ _ rfl rfl zero64 rfl ?hl ?hj ?_))
  case hl => rfl
  case hj => kernel_rfl
  refine bodyPost_ret (results_row2 rfl _ _ w.heap.size (l := zero64) rfl ((hZ.alloc _).setRow _) Tryd.underlying24 rfl (by kernel_rfl)) rfl ?_
  exact ⟨by rw [HR.out, HE.out]; rfl, below_setRow (hB.alloc (by simp; omega) _) (Nat.le_refl _) _⟩
set_option maxRecDepth 100000 in
set_option maxHeartbeats 4000000 in
theorem ps_c8 (s : ByteArray) (hs : s.size ≤ 100000) (w : World) (hw : EnvB w) (hN : (parts 47 s.data.toList).length = 8) :
    Calls Tryd.prog 12 #[.string s] w fun e w' => e = .returned (.tuple #[.agg (ints (psV s)), .int .i64 (psE s)]) ∧ Below w.heap.size w w' := by
  obtain ⟨m, hm⟩ := hw.maxlen
  have hsz := hw.size
  obtain ⟨ws, e2, hwl, HSP⟩ := split_call s hs m
  have hm2 : ((w.alloc (.cells (intsK .i64 zero64) 24)).alloc (.cells (intsK .i64 zero64) 24)).cell? ⟨1, 0, none⟩ = some (.int .i64 m) := by
    rw [World.cell?_alloc_past _ _ _ (by simp; omega), World.cell?_alloc_past _ _ _ (by omega)]; exact hm
  have hZ : Holds ((w.alloc (.cells (intsK .i64 zero64) 24)).alloc (.cells (intsK .i64 zero64) 24)) w.heap.size .i64 24 zero64 := (Holds.new w .i64 24 zero64).alloc _
  have hZ2 : Holds ((w.alloc (.cells (intsK .i64 zero64) 24)).alloc (.cells (intsK .i64 zero64) 24)) (w.heap.size + 1) .i64 24 zero64 := Holds.newAt .i64 24 zero64 (by simp)
  have hB : Below w.heap.size w ((w.alloc (.cells (intsK .i64 zero64) 24)).alloc (.cells (intsK .i64 zero64) 24)) := ((Below.refl _ _).alloc (Nat.le_refl _) _).alloc (by simp) _
  have hW : Words (((w.alloc (.cells (intsK .i64 zero64) 24)).alloc (.cells (intsK .i64 zero64) 24)).alloc (.cells (ws.map Value.string).toArray 9)) (w.heap.size + 1 + 1) ws := by
    have := heap_alloc_new ((w.alloc (.cells (intsK .i64 zero64) 24)).alloc (.cells (intsK .i64 zero64) 24)) (.cells (ws.map Value.string).toArray 9)
    simpa [Words] using this
  have HZ := Lib.hid (hZ.alloc (.cells (ws.map Value.string).toArray 9))
  have HZ2 := Lib.hid (hZ2.alloc (.cells (ws.map Value.string).toArray 9))
  have HB := Lib.hid (hB.alloc (by simp; omega) (.cells (ws.map Value.string).toArray 9))
  have HW := Lib.hid hW
  have HEW := Lib.hid hw
  have HE2 := Lib.hid e2
  have HWL : Hid (8 = ws.length) := Lib.hid (hN.symm.trans hwl)
  rw [← HWL.out] at HSP
  have HG : Hid (prR (parts 47 s.data.toList) 0 zero64 = psB s) := Lib.hid (if_pos hN).symm
  have hZ2 := HZ2.out
  clear hZ hZ2 hB hW hw hm hN hwl e2
  go_enter Tryd.func12, Tryd.ntmps12
  go_wp2_with (go_at_call 16; refine (HSP.out _ hm2).mono ?_; rintro e w' ⟨rfl, rfl⟩)
  clear hm2
  go_loopg [24] 8 (fun m i wr => ∃ (k : Nat) (cur : List Int), m = 8 - k ∧ k ≤ 8 ∧ i = .int .i64 k ∧ cur.length = 64 ∧ Hid (prR ((parts 47 s.data.toList).drop k) k cur = psB s) ∧ Holds wr w.heap.size .i64 24 zero64 ∧ Holds wr (w.heap.size + 1) .i64 24 cur ∧ Words wr (w.heap.size + 1 + 1) ws ∧ Below w.heap.size w wr)
  case atStart => exact ⟨0, zero64, by omega, by omega, rfl, rfl, Lib.hid (by simpa using HG.out), HZ.out, HZ2.out, HW.out, HB.out⟩
  case round =>
    rename World => W0
    obtain ⟨k, cur, rfl, hk, rfl, hl, HI, hZ, hV, hW, hB⟩ := hrel
    clear HZ HZ2 HB HW
    by_cases hlt : k < 8
    · have hc : W0.cell? ⟨w.heap.size + 1 + 1, k, none⟩ = some (.string (ws.getD k ⟨#[]⟩)) := hW.cell k (by have := HWL.out; omega)
      obtain ⟨q, hq⟩ : ∃ q, q = ws.getD k ⟨#[]⟩ := ⟨_, rfl⟩
      rw [← hq] at hc
      have hd : (parts 47 s.data.toList).drop k = q.data.toList :: (parts 47 s.data.toList).drop (k + 1) := by
        have h1 : k < ws.length := by have := HWL.out; omega
        rw [← HE2.out, hq]
        have h2 : ws.drop k = ws.getD k ⟨#[]⟩ :: ws.drop (k + 1) := by rw [List.drop_eq_getElem_cons h1]; simp [h1]
        rw [← List.map_drop, h2, List.map_cons, List.map_drop]
      have hqs : q.size ≤ 100000 := by
        have h1 : q.data.toList ∈ parts 47 s.data.toList := List.mem_of_mem_drop (by rw [hd]; exact List.mem_cons_self)
        have h2 := parts_len 47 s.data.toList _ h1
        have h3 : q.size = q.data.toList.length := by simp
        have h4 : s.size = s.data.toList.length := by simp
        omega
      obtain ⟨G, hG⟩ : ∃ G, prL (8 * (7 - k) + 8) q.data.toList (8 * (7 - k)) cur = G := ⟨_, rfl⟩
      have HPS : Hid (psB s = prN ((parts 47 s.data.toList).drop (k + 1)) (k + 1) G) := by
        show psB s = _
        rw [← HI.out, hd, ← hG]; exact prR_cons _ _ _ _
      have HI0 := Lib.hid (PsI.mk (w := w) (ws := ws) (q := q) (en := 8 * (7 - k) + 8) (goal := G) (k := W0.heap.size) (pos := 0) (at_ := 8 * (7 - k)) (cur := cur) (wr := W0.iter q 0) (by simp [World.iter_heap]) ((hZ.alloc _)) (hV.alloc _) (by have := hW.below (Below.alloc (Below.refl _ _) (Nat.le_refl W0.heap.size) (.stringIter q 0)) hW.lt; exact this) (hB.alloc hB.size _) hl (by simpa using hG))
      have hsz2 : w.heap.size + 1 + 1 < W0.heap.size := hW.lt
      have hk7 : ((7 : Int) - k) = ((7 - k : Nat) : Int) := by omega
      obtain ⟨base, hbase⟩ : ∃ n : Nat, n = 8 * (7 - k) := ⟨_, rfl⟩
      rw [← hbase] at HI0
      have hb3 : base ≤ 56 := by omega
      have HBASE := Lib.hid hbase
      have hd8 : decide ((k : Int) < 8) = true := decide_eq_true (by omega)
      clear HI hd hG hZ hV hW hB hq hbase
      go_wp2
      rw [show (8 : Int) * ((7 - k : Nat) : Int) = base by have := HBASE.out; omega]
      go_loopg [8] q.size (fun m a wr' => ∃ (pos at_ : Nat) (cur' : List Int), m = q.size - pos ∧ pos ≤ q.size ∧ at_ ≤ base + 8 * pos ∧ a = .int .i64 at_ ∧ Hid (PsI w ws q (base + 8) G W0.heap.size pos at_ cur' wr'))
      case atStart => exact ⟨0, base, cur, by omega, by omega, by omega, rfl, HI0⟩
      case round =>
        obtain ⟨pos, at_, cur', rfl, hp, hat, rfl, HP⟩ := hrel
        clear HI0 hc
        have hit := HP.out.it
        have hbk : w.heap.size + 1 + 1 < W0.heap.size := hsz2
        by_cases hlp : pos < q.size
        · have hdr := drop_at q pos hlp
          obtain ⟨c, hc⟩ : ∃ c, c = q[pos]'hlp := ⟨_, rfl⟩
          have hres := HP.out.res
          rw [hdr, ← hc] at hres
          by_cases hdg : 49 ≤ c.toNat ∧ c.toNat ≤ 56
          · have hnx := fun ty => Lib.run_next_ascii_at (P := Tryd.prog) wr W0.heap.size q pos ty hit hlp (by rw [← hc]; omega)
            rw [← hc] at hnx
            obtain ⟨h1, h2⟩ := hdg
            have HM := Lib.hid (HP.out.move hbk (prL_dig hres ⟨h1, h2⟩))
            clear hres hdr hc HP
            go_wp2
            go_roundg (q.size - (pos + 1))
            case rel => exact ⟨pos + 1, at_ + (c.toNat - 48), cur', by omega, by omega, by omega, by go_num, HM⟩
            case measure => omega
          · by_cases hhi : 128 ≤ c.toNat
            · have hnx := fun ty => Lib.run_next_any_at (P := Tryd.prog) wr W0.heap.size q pos ty hit hlp
              have hdh := (decode_high q pos hlp (by rw [← hc]; exact hhi)).1
              have hdl := decode_le q pos
              obtain ⟨r, hr⟩ : ∃ r, r = (Utf8.decode q pos).1 := ⟨_, rfl⟩
              obtain ⟨n, hn⟩ : ∃ n, n = (Utf8.decode q pos).2 := ⟨_, rfl⟩
              rw [← hr, ← hn] at hnx
              rw [← hr] at hdh hdl
              have HM := Lib.hid (HP.out.move (pos' := pos + n) (at' := at_) hbk rfl)
              have HPA := Lib.hid (fun W => par_zero (encode_hi r hdh) W)
              have hN0 : psB s = none := by rw [HPS.out, prL_hi hres hhi]; rfl
              have HR := Lib.hid (ps_none hN0).1
              have HE := Lib.hid (ps_none hN0).2
              clear hres hdr hc HP hr hn hhi hdg HPS
              go_wp2_with (first
                | (go_at_call 18; refine (HPA.out _).mono ?_; rintro e w1 ⟨rfl, hb1⟩; have HN1 := HM.out.next (by simpa only [Lib.iterAt_size] using hb1); have hZ1 := HN1.zr; have hB1 := HN1.bel)
                | (with_reducible refine wpl_store (g := w.heap.size) (k := .i64) (t := 24) (l := zero64) hZ1 rfl 24 _ _ rfl rfl zero64 rfl ?hl ?hj ?_))
              case hl => rfl
              case hj => kernel_rfl
              refine bodyPost_ret (results_row2 rfl _ _ w.heap.size (l := zero64) rfl (hZ1.setRow _) Tryd.underlying24 rfl (by kernel_rfl)) rfl ?_
              exact ⟨by rw [HR.out, HE.out]; rfl, below_setRow hB1 (Nat.le_refl _) _⟩
            · have hnx := fun ty => Lib.run_next_ascii_at (P := Tryd.prog) wr W0.heap.size q pos ty hit hlp (by rw [← hc]; omega)
              rw [← hc] at hnx
              have hlo : c.toNat < 128 := by omega
              have HM := Lib.hid (HP.out.move (pos' := pos + 1) (at' := at_) hbk rfl)
              by_cases hz : letP c = 0
              · have HPA := Lib.hid (fun W => par_zero (z := Utf8.encode (c.toNat : Int)) (by rw [encode_lo c hlo, letP_eq]; exact hz) W)
                have hN0 : psB s = none := by rw [HPS.out, prL_no hres hdg (.inl hz)]; rfl
                have HR := Lib.hid (ps_none hN0).1
                have HE := Lib.hid (ps_none hN0).2
                have hor : c.toNat < 49 ∨ 56 < c.toNat := by omega
                clear hres hdr hc HP hhi hdg HPS hz
                rcases hor with h49 | h49
                · go_wp2_with (first
                    | (go_at_call 18; refine (HPA.out _).mono ?_; rintro e w1 ⟨rfl, hb1⟩; have HN1 := HM.out.next (by simpa only [Lib.iterAt_size] using hb1); have hZ1 := HN1.zr; have hB1 := HN1.bel)
                    | (with_reducible refine wpl_store (g := w.heap.size) (k := .i64) (t := 24) (l := zero64) hZ1 rfl 24 _ _ rfl rfl zero64 rfl ?hl ?hj ?_))
                  case hl => rfl
                  case hj => kernel_rfl
                  refine bodyPost_ret (results_row2 rfl _ _ w.heap.size (l := zero64) rfl (hZ1.setRow _) Tryd.underlying24 rfl (by kernel_rfl)) rfl ?_
                  exact ⟨by rw [HR.out, HE.out]; rfl, below_setRow hB1 (Nat.le_refl _) _⟩
                · go_wp2_with (first
                    | (go_at_call 18; refine (HPA.out _).mono ?_; rintro e w1 ⟨rfl, hb1⟩; have HN1 := HM.out.next (by simpa only [Lib.iterAt_size] using hb1); have hZ1 := HN1.zr; have hB1 := HN1.bel)
                    | (with_reducible refine wpl_store (g := w.heap.size) (k := .i64) (t := 24) (l := zero64) hZ1 rfl 24 _ _ rfl rfl zero64 rfl ?hl ?hj ?_))
                  case hl => rfl
                  case hj => kernel_rfl
                  refine bodyPost_ret (results_row2 rfl _ _ w.heap.size (l := zero64) rfl (hZ1.setRow _) Tryd.underlying24 rfl (by kernel_rfl)) rfl ?_
                  exact ⟨by rw [HR.out, HE.out]; rfl, below_setRow hB1 (Nat.le_refl _) _⟩
              · have HPA := Lib.hid (fun W => par_good (c := c) hlo hz W)
                by_cases hen : base + 8 ≤ at_
                · have hN0 : psB s = none := by rw [HPS.out, prL_no hres hdg (.inr hen)]; rfl
                  have HR := Lib.hid (ps_none hN0).1
                  have HE := Lib.hid (ps_none hN0).2
                  have hor : c.toNat < 49 ∨ 56 < c.toNat := by omega
                  clear hres hdr hc HP hhi hdg HPS hz
                  rcases hor with h49 | h49
                  · go_wp2_with (first
                      | (go_at_call 18; refine (HPA.out _).mono ?_; rintro e w1 ⟨rfl, hb1⟩; have HN1 := HM.out.next (by simpa only [Lib.iterAt_size] using hb1); have hZ1 := HN1.zr; have hB1 := HN1.bel)
                      | (with_reducible refine wpl_store (g := w.heap.size) (k := .i64) (t := 24) (l := zero64) hZ1 rfl 24 _ _ rfl rfl zero64 rfl ?hl ?hj ?_))
                    case hl => rfl
                    case hj => kernel_rfl
                    refine bodyPost_ret (results_row2 rfl _ _ w.heap.size (l := zero64) rfl (hZ1.setRow _) Tryd.underlying24 rfl (by kernel_rfl)) rfl ?_
                    exact ⟨by rw [HR.out, HE.out]; rfl, below_setRow hB1 (Nat.le_refl _) _⟩
                  · go_wp2_with (first
                      | (go_at_call 18; refine (HPA.out _).mono ?_; rintro e w1 ⟨rfl, hb1⟩; have HN1 := HM.out.next (by simpa only [Lib.iterAt_size] using hb1); have hZ1 := HN1.zr; have hB1 := HN1.bel)
                      | (with_reducible refine wpl_store (g := w.heap.size) (k := .i64) (t := 24) (l := zero64) hZ1 rfl 24 _ _ rfl rfl zero64 rfl ?hl ?hj ?_))
                    case hl => rfl
                    case hj => kernel_rfl
                    refine bodyPost_ret (results_row2 rfl _ _ w.heap.size (l := zero64) rfl (hZ1.setRow _) Tryd.underlying24 rfl (by kernel_rfl)) rfl ?_
                    exact ⟨by rw [HR.out, HE.out]; rfl, below_setRow hB1 (Nat.le_refl _) _⟩
                · have HPUT := Lib.hid (prL_put hres hdg hlo (by omega))
                  have hor : c.toNat < 49 ∨ 56 < c.toNat := by omega
                  have hlen := HP.out.len
                  obtain ⟨v, hv⟩ : ∃ v, v = letP c := ⟨_, rfl⟩
                  rw [← hv] at HPA HPUT
                  clear hres hdr hc HP hhi hdg HPS hz hv
                  rcases hor with h49 | h49
                  · go_wp2_with (go_at_call 18; refine (HPA.out _).mono ?_; rintro e w1 ⟨rfl, hb1⟩; have HN1 := HM.out.next (by simpa only [Lib.iterAt_size] using hb1); have c2 := HN1.brd.cell at_ (by omega); have c3 := HN1.brd.frozen at_; have HNN := Lib.hid HN1; clear HN1)
                    go_roundg (q.size - (pos + 1))
                    case rel => exact ⟨pos + 1, at_ + 1, cur'.set at_ v, by omega, by omega, by omega, by go_num, Lib.hid (HNN.out.put hbk HPUT.out)⟩
                    case measure => omega
                  · go_wp2_with (go_at_call 18; refine (HPA.out _).mono ?_; rintro e w1 ⟨rfl, hb1⟩; have HN1 := HM.out.next (by simpa only [Lib.iterAt_size] using hb1); have c2 := HN1.brd.cell at_ (by omega); have c3 := HN1.brd.frozen at_; have HNN := Lib.hid HN1; clear HN1)
                    go_roundg (q.size - (pos + 1))
                    case rel => exact ⟨pos + 1, at_ + 1, cur'.set at_ v, by omega, by omega, by omega, by go_num, Lib.hid (HNN.out.put hbk HPUT.out)⟩
                    case measure => omega
        · have hnx := fun ty => Lib.run_next_end_at (P := Tryd.prog) wr W0.heap.size q pos ty hit hlp
          have hG : G = some cur' := by
            rw [← HP.out.res, List.drop_eq_nil_of_le (by simp; omega), prL]
          have HI := HPS.out
          rw [hG] at HI
          have HI2 : Hid (prR ((parts 47 s.data.toList).drop (k + 1)) (k + 1) cur' = psB s) := Lib.hid HI.symm
          clear HI hG HPS
          go_wp2
          go_roundg (8 - (k + 1))
          case rel => exact ⟨k + 1, cur', by omega, by omega, by go_num, HP.out.len, HI2, HP.out.zr, HP.out.brd, HP.out.wds, HP.out.bel⟩
          case measure => omega
    · have hk8 : k = 8 := by omega
      subst hk8
      have hP : psB s = some cur := by
        rw [← HI.out, List.drop_eq_nil_of_le (by rw [← HE2.out, List.length_map]; have := HWL.out; omega), prR]
      have hZlt := hZ.lt
      have hVlt := hV.lt
      clear hW HI
      by_cases he : plV cur = s
      · have hq : ((plV cur).toList == s.toList) = true := by rw [he]; simp
        have HR := Lib.hid (ps_good hP he).1
        have HE := Lib.hid (ps_good hP he).2
        clear hP he
        go_wp2_with (first
          | (with_reducible refine wpl_load (g := w.heap.size + 1) (k := .i64) (t := 24) (l := cur) hV rfl 24 _ rfl rfl Tryd.underlying24 ?hia ?_)
          | (with_reducible refine wpl_load (g := w.heap.size + 1) (k := .i64) (t := 24) (l := cur) hV1 rfl 24 _ rfl rfl Tryd.underlying24 ?hib ?_)
          | (go_at_call 15; refine (place_any cur hl _).mono ?_; rintro e w1 ⟨rfl, hb1⟩; have hZ1 := hZ.below hb1 hZlt; have hV1 := hV.below hb1 hVlt; have hB1 := hB.trans (hb1.mono hB.size); clear hZ hV hB hb1)
          | (with_reducible refine wpl_store (g := w.heap.size) (k := .i64) (t := 24) (l := zero64) hZ1 rfl 24 _ _ rfl rfl cur rfl ?hl ?hj ?_))
        case hia => rw [hl]; kernel_rfl
        case hib => rw [hl]; kernel_rfl
        case hl => rw [hl]; rfl
        case hj => kernel_rfl
        refine bodyPost_ret (results_row2 rfl _ _ w.heap.size (l := cur) rfl (hZ1.setRow _) Tryd.underlying24 rfl (by rw [hl]; kernel_rfl)) rfl ?_
        exact ⟨by rw [HR.out, HE.out]; rfl, below_setRow hB1 (Nat.le_refl _) _⟩
      · have hq : ((plV cur).toList == s.toList) = false := by
          rw [beq_eq_false_iff_ne]
          intro e
          rw [ByteArray.toList_eq, ByteArray.toList_eq] at e
          exact he (ByteArray.ext (Array.ext' e))
        have HR := Lib.hid (ps_bad hP he).1
        have HE := Lib.hid (ps_bad hP he).2
        clear hP he
        go_wp2_with (first
          | (with_reducible refine wpl_load (g := w.heap.size + 1) (k := .i64) (t := 24) (l := cur) hV rfl 24 _ rfl rfl Tryd.underlying24 ?hia ?_)
          | (go_at_call 15; refine (place_any cur hl _).mono ?_; rintro e w1 ⟨rfl, hb1⟩; have hZ1 := hZ.below hb1 hZlt; have hB1 := hB.trans (hb1.mono hB.size); clear hZ hV hB hb1)
          | (with_reducible refine wpl_store (g := w.heap.size) (k := .i64) (t := 24) (l := zero64) hZ1 rfl 24 _ _ rfl rfl zero64 rfl ?hl ?hj ?_))
        case hia => rw [hl]; kernel_rfl
        case hl => rfl
        case hj => kernel_rfl
        refine bodyPost_ret (results_row2 rfl _ _ w.heap.size (l := zero64) rfl (hZ1.setRow _) Tryd.underlying24 rfl (by kernel_rfl)) rfl ?_
        exact ⟨by rw [HR.out, HE.out]; rfl, below_setRow hB1 (Nat.le_refl _) _⟩
theorem bparse_any (s : ByteArray) (hs : s.size ≤ 100000) (w : World) (hw : EnvB w) :
    Calls Tryd.prog 12 #[.string s] w fun e w' => e = .returned (.tuple #[.agg (ints (psV s)), .int .i64 (psE s)]) ∧ Below w.heap.size w w' := by
  by_cases hN : (parts 47 s.data.toList).length = 8
  · exact ps_c8 s hs w hw hN
  · exact ps_cn8 s hs w hw hN
end Go.Proofs.YthbbnhhofkadgaaDoor
