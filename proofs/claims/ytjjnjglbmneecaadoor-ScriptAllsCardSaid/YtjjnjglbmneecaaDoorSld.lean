/- The listed variables: what they say of the memory, and a world in which they lie so. -/
import Derived.Test.YtjjnjglbmneecaaDoorSev
import Derived.Test.YtjjnjglbmneecaaDoorRows
import Derived.Lay
import Derived.MakeChecks
import Derived.Shelf.Vars
import Derived.LaidHandle
import Derived.LaidMore
import Derived.LaidSub
import Derived.LaidLaws
import Derived.Lib.LaidTab
import Derived.Deep.Strs
namespace Go.Proofs.YtjjnjglbmneecaaDoor
open Go Go.RowKit Go.ChangeShapes Go.WideShapes Go.ChangeAt Go.WideMaps Go.WideElems

theorem own : ownKnob Tryd.prog.godebug = none := by kernel_rfl
abbrev laidP : List (String × DataW Unit) := [("math/bits.deBruijn32tab", Rows.laid_math_bits_deBruijn32tab), ("math/bits.deBruijn64tab", Rows.laid_math_bits_deBruijn64tab), ("internal/strconv.uint64pow10", Rows.laid_internal_strconv_uint64pow10), ("unicode/utf8.acceptRanges", Rows.laid_unicode_utf8_acceptRanges), ("strconv.ErrRange", Rows.laid_strconv_ErrRange), ("strconv.ErrSyntax", Rows.laid_strconv_ErrSyntax), ("unicode/utf8.first", Rows.laid_unicode_utf8_first)]
abbrev laidL : List (String × DataW Unit) := [("math/bits.deBruijn32tab", Rows.laid_math_bits_deBruijn32tab), ("math/bits.deBruijn64tab", Rows.laid_math_bits_deBruijn64tab), ("internal/strconv.uint64pow10", Rows.laid_internal_strconv_uint64pow10), ("unicode/utf8.acceptRanges", Rows.laid_unicode_utf8_acceptRanges), ("strconv.ErrRange", Rows.laid_strconv_ErrRange), ("strconv.ErrSyntax", Rows.laid_strconv_ErrSyntax), ("tempo/script.shapes", Rows.laid_tempo_script_shapes), ("unicode/utf8.first", Rows.laid_unicode_utf8_first)]
theorem iface_of_trod {H : Type} {enc : TypeId × Value → H} {P : Program} {w : World} {base : Nat} {sp : Nat → Bool} {held : Bool} {fuel : Nat} {t : TypeId} {ms : Array (String × TypeId)} {cs : List Value} {nm : String} {d : DataW H} {p : List MemPlace}
    (ht : P.underlying t = some (.interface ms)) (h : DataW.trod enc P w base sp held fuel t cs = some (.iface nm d, p)) : ∃ u v, cs = [.iface u v] := by
  cases fuel with
  | zero => simp [DataW.trod] at h
  | succ fuel =>
    simp only [DataW.trod, ht] at h
    split at h
    all_goals first | (cases h; done) | exact ⟨_, _, rfl⟩ | simp_all
theorem trod_struct4 {H : Type} {enc : TypeId × Value → H} {P : Program} {w : World} {base : Nat} {spare : Nat → Bool} {held : Bool} {t : TypeId} {f0 f1 f2 f3 : Field} {fuel : Nat} {cs : List Value} {x : DataW H × List MemPlace} (ht : P.underlying t = some (.struct #[f0, f1, f2, f3])) (h : DataW.trod enc P w base spare held fuel t cs = some x) :
    ∃ y0 y1 y2 y3 n, x.1 = .agg [y0.1, y1.1, y2.1, y3.1] ∧ cs.length = P.cellsOf t ∧ DataW.trod enc P w base spare held n f0.type ((cs.drop f0.offset).take (P.cellsOf f0.type)) = some y0 ∧
      DataW.trod enc P w base spare held n f1.type ((cs.drop f1.offset).take (P.cellsOf f1.type)) = some y1 ∧ DataW.trod enc P w base spare held n f2.type ((cs.drop f2.offset).take (P.cellsOf f2.type)) = some y2 ∧
      DataW.trod enc P w base spare held n f3.type ((cs.drop f3.offset).take (P.cellsOf f3.type)) = some y3 := by
  obtain ⟨xs, n, _, rfl, hl, hlen, hf⟩ := DataW.trod_struct ht h
  match xs, hlen with
  | [y0, y1, y2, y3], _ => exact ⟨y0, y1, y2, y3, n, by simp, hl, by simpa using hf 0 f0 rfl, by simpa using hf 1 f1 rfl, by simpa using hf 2 f2 rfl, by simpa using hf 3 f3 rfl⟩
/-- A row of the table, opened: the word, and three cells that read as these data. -/
theorem row_open {w : World} {fuel : Nat} {cs : List Value} {p : List MemPlace} {ws : List UInt8} {d1 d2 d3 : DataW (List UInt8)}
    (h : DataW.trod (funcToken Tryd.prog) Tryd.prog w 0 (fun _ => true) true fuel 71 cs = some (.agg [.lit (.string ws), d1, d2, d3], p)) :
    ∃ v1 v2 v3 n p1 p2 p3, cs = [.string ⟨ws.toArray⟩, v1, v2, v3] ∧ DataW.trod (funcToken Tryd.prog) Tryd.prog w 0 (fun _ => true) true n 67 [v1] = some (d1, p1) ∧ DataW.trod (funcToken Tryd.prog) Tryd.prog w 0 (fun _ => true) true n 68 [v2] = some (d2, p2) ∧ DataW.trod (funcToken Tryd.prog) Tryd.prog w 0 (fun _ => true) true n 69 [v3] = some (d3, p3) := by
  obtain ⟨y0, y1, y2, y3, n, hx, hl, h0, h1, h2, h3⟩ := trod_struct4 Tryd.underlying71 h
  rw [show Tryd.prog.cellsOf 71 = 4 by kernel_rfl] at hl
  obtain ⟨c0, c1, c2, c3, rfl⟩ : ∃ a b c d, cs = [a, b, c, d] := by
    rcases cs with _ | ⟨a, _ | ⟨b, _ | ⟨c, _ | ⟨d, _ | ⟨e, r⟩⟩⟩⟩⟩
    all_goals first | exact ⟨_, _, _, _, rfl⟩ | (simp at hl)
  have k9 : Tryd.prog.cellsOf 9 = 1 := by kernel_rfl
  have k67 : Tryd.prog.cellsOf 67 = 1 := by kernel_rfl
  have k68 : Tryd.prog.cellsOf 68 = 1 := by kernel_rfl
  have k69 : Tryd.prog.cellsOf 69 = 1 := by kernel_rfl
  dsimp only at h0 h1 h2 h3
  rw [k9] at h0
  rw [k67] at h1
  rw [k68] at h2
  rw [k69] at h3
  obtain ⟨s, e0, e1, _⟩ := DataW.trod_string Tryd.underlying9 h0
  simp only [DataW.agg.injEq, List.cons.injEq, and_true] at hx
  obtain ⟨hx0, hx1, hx2, hx3⟩ := hx
  rw [e1] at hx0
  have hs : s = ⟨ws.toArray⟩ := by
    have : ws = s.data.toList := by simpa using hx0
    rw [this]
  refine ⟨c1, c2, c3, n, y1.2, y2.2, y3.2, ?_, by rw [hx1]; exact h1, by rw [hx2]; exact h2, by rw [hx3]; exact h3⟩
  have : c0 = .string s := by simpa using e0
  rw [this, hs]
theorem nil_func {w : World} {fuel : Nat} {t : TypeId} {ps rs : Array TypeId} {va : Bool} {v : Value} {q : List MemPlace} (ht : Tryd.prog.underlying t = some (.func ps rs va))
    (h : DataW.trod (funcToken Tryd.prog) Tryd.prog w 0 (fun _ => true) true fuel t [v] = some (.nil, q)) : v = .nilFunc := by
  cases fuel with
  | zero => simp [DataW.trod] at h
  | succ n => cases v <;> simp [DataW.trod, ht] at h <;> rfl
def nm132 : List UInt8 := [116, 101, 109, 112, 111, 47, 115, 99, 114, 105, 112, 116, 46, 116, 101, 120, 116]
def nm133 : List UInt8 := [116, 101, 109, 112, 111, 47, 115, 99, 114, 105, 112, 116, 46, 113, 117, 111, 116, 101, 100]
def nm134 : List UInt8 := [116, 101, 109, 112, 111, 47, 115, 99, 114, 105, 112, 116, 46, 117, 110, 113, 117, 111, 116, 101, 100]
def nm135 : List UInt8 := [116, 101, 109, 112, 111, 47, 115, 99, 114, 105, 112, 116, 46, 110, 117, 109, 98, 101, 114]
def nm136 : List UInt8 := [116, 101, 109, 112, 111, 47, 115, 99, 114, 105, 112, 116, 46, 110, 117, 109, 98, 101, 114, 101, 100]
def nm137 : List UInt8 := [116, 101, 109, 112, 111, 47, 115, 99, 114, 105, 112, 116, 46, 99, 111, 117, 110, 116, 101, 100]
def nm138 : List UInt8 := [116, 101, 109, 112, 111, 47, 115, 99, 114, 105, 112, 116, 46, 113, 117, 101, 114, 121]
def nm139 : List UInt8 := [116, 101, 109, 112, 111, 47, 115, 99, 114, 105, 112, 116, 46, 98, 97, 114, 101]
def nm140 : List UInt8 := [116, 101, 109, 112, 111, 47, 115, 99, 114, 105, 112, 116, 46, 110, 111, 116, 104, 105, 110, 103]
def nm141 : List UInt8 := [116, 101, 109, 112, 111, 47, 115, 99, 114, 105, 112, 116, 46, 110, 111, 110, 101]
def nm142 : List UInt8 := [116, 101, 109, 112, 111, 47, 115, 99, 114, 105, 112, 116, 46, 99, 114, 97, 115, 104]
def nm143 : List UInt8 := [116, 101, 109, 112, 111, 47, 115, 99, 114, 105, 112, 116, 46, 112, 108, 97, 110, 110, 101, 100]
def nm144 : List UInt8 := [116, 101, 109, 112, 111, 47, 115, 99, 114, 105, 112, 116, 46, 112, 108, 97, 110, 115]
theorem fn_one (f0 : Nat) (r : List UInt8) (t : TypeId) (ps rs : Array TypeId) (va : Bool) (ht : Tryd.prog.underlying t = some (.func ps rs va)) (hone : ((List.range Tryd.prog.funcs.size).filter fun f => (Tryd.prog.funcs[f]?).any (·.name.toUTF8.data.toList == 116 :: r)) = [f0])
    {w : World} {fuel : Nat} {v : Value} {q : List MemPlace} (h : DataW.trod (funcToken Tryd.prog) Tryd.prog w 0 (fun _ => true) true fuel t [v] = some (.held (116 :: r), q)) : v = fnV f0 := func_of_trod ht hone h
theorem is132 {w : World} {fuel : Nat} {v : Value} {q : List MemPlace} (h : DataW.trod (funcToken Tryd.prog) Tryd.prog w 0 (fun _ => true) true fuel 67 [v] = some (.held nm132, q)) : v = fnV 132 := fn_one 132 _ 67 _ _ _ Tryd.underlying67 (by kernel_rfl) h
theorem is133 {w : World} {fuel : Nat} {v : Value} {q : List MemPlace} (h : DataW.trod (funcToken Tryd.prog) Tryd.prog w 0 (fun _ => true) true fuel 68 [v] = some (.held nm133, q)) : v = fnV 133 := fn_one 133 _ 68 _ _ _ Tryd.underlying68 (by kernel_rfl) h
theorem is134 {w : World} {fuel : Nat} {v : Value} {q : List MemPlace} (h : DataW.trod (funcToken Tryd.prog) Tryd.prog w 0 (fun _ => true) true fuel 69 [v] = some (.held nm134, q)) : v = fnV 134 := fn_one 134 _ 69 _ _ _ Tryd.underlying69 (by kernel_rfl) h
theorem is135 {w : World} {fuel : Nat} {v : Value} {q : List MemPlace} (h : DataW.trod (funcToken Tryd.prog) Tryd.prog w 0 (fun _ => true) true fuel 67 [v] = some (.held nm135, q)) : v = fnV 135 := fn_one 135 _ 67 _ _ _ Tryd.underlying67 (by kernel_rfl) h
theorem is136 {w : World} {fuel : Nat} {v : Value} {q : List MemPlace} (h : DataW.trod (funcToken Tryd.prog) Tryd.prog w 0 (fun _ => true) true fuel 68 [v] = some (.held nm136, q)) : v = fnV 136 := fn_one 136 _ 68 _ _ _ Tryd.underlying68 (by kernel_rfl) h
theorem is137 {w : World} {fuel : Nat} {v : Value} {q : List MemPlace} (h : DataW.trod (funcToken Tryd.prog) Tryd.prog w 0 (fun _ => true) true fuel 69 [v] = some (.held nm137, q)) : v = fnV 137 := fn_one 137 _ 69 _ _ _ Tryd.underlying69 (by kernel_rfl) h
theorem is138 {w : World} {fuel : Nat} {v : Value} {q : List MemPlace} (h : DataW.trod (funcToken Tryd.prog) Tryd.prog w 0 (fun _ => true) true fuel 67 [v] = some (.held nm138, q)) : v = fnV 138 := fn_one 138 _ 67 _ _ _ Tryd.underlying67 (by kernel_rfl) h
theorem is139 {w : World} {fuel : Nat} {v : Value} {q : List MemPlace} (h : DataW.trod (funcToken Tryd.prog) Tryd.prog w 0 (fun _ => true) true fuel 67 [v] = some (.held nm139, q)) : v = fnV 139 := fn_one 139 _ 67 _ _ _ Tryd.underlying67 (by kernel_rfl) h
theorem is140 {w : World} {fuel : Nat} {v : Value} {q : List MemPlace} (h : DataW.trod (funcToken Tryd.prog) Tryd.prog w 0 (fun _ => true) true fuel 68 [v] = some (.held nm140, q)) : v = fnV 140 := fn_one 140 _ 68 _ _ _ Tryd.underlying68 (by kernel_rfl) h
theorem is141 {w : World} {fuel : Nat} {v : Value} {q : List MemPlace} (h : DataW.trod (funcToken Tryd.prog) Tryd.prog w 0 (fun _ => true) true fuel 69 [v] = some (.held nm141, q)) : v = fnV 141 := fn_one 141 _ 69 _ _ _ Tryd.underlying69 (by kernel_rfl) h
theorem is142 {w : World} {fuel : Nat} {v : Value} {q : List MemPlace} (h : DataW.trod (funcToken Tryd.prog) Tryd.prog w 0 (fun _ => true) true fuel 67 [v] = some (.held nm142, q)) : v = fnV 142 := fn_one 142 _ 67 _ _ _ Tryd.underlying67 (by kernel_rfl) h
theorem is143 {w : World} {fuel : Nat} {v : Value} {q : List MemPlace} (h : DataW.trod (funcToken Tryd.prog) Tryd.prog w 0 (fun _ => true) true fuel 68 [v] = some (.held nm143, q)) : v = fnV 143 := fn_one 143 _ 68 _ _ _ Tryd.underlying68 (by kernel_rfl) h
theorem is144 {w : World} {fuel : Nat} {v : Value} {q : List MemPlace} (h : DataW.trod (funcToken Tryd.prog) Tryd.prog w 0 (fun _ => true) true fuel 69 [v] = some (.held nm144, q)) : v = fnV 144 := fn_one 144 _ 69 _ _ _ Tryd.underlying69 (by kernel_rfl) h
def rowsD : List (DataW (List UInt8)) := [.agg [.lit (.string []), .nil, .nil, .nil], .agg [.lit (.string [105, 110, 103, 101, 115, 116]), .held nm132, .held nm133, .held nm134], .agg [.lit (.string [103, 97, 109, 101]), .held nm135, .held nm136, .held nm137], .agg [.lit (.string [112, 111, 115, 105, 116, 105, 111, 110]), .held nm138, .held nm133, .held nm134], .agg [.lit (.string [109, 97, 116, 101, 114, 105, 97, 108]), .held nm138, .held nm133, .held nm134], .agg [.lit (.string [115, 116, 97, 116, 115]), .held nm138, .held nm133, .held nm134], .agg [.lit (.string [98, 111, 111, 107]), .held nm139, .held nm140, .held nm141], .agg [.lit (.string [99, 104, 101, 99, 107, 112, 111, 105, 110, 116]), .held nm139, .held nm140, .held nm141], .agg [.lit (.string [99, 114, 97, 115, 104]), .held nm142, .held nm143, .held nm144], .agg [.lit (.string [114, 101, 111, 112, 101, 110]), .held nm139, .held nm140, .held nm141]]
theorem get_of_map {α β : Type} {xs : List (α × β)} {ds : List α} (h : xs.map (·.1) = ds) {i : Nat} {d : α} (hd : ds[i]? = some d) : ∃ q, xs[i]? = some (d, q) := by
  rw [← h, List.getElem?_map] at hd
  obtain ⟨x, hx, rfl⟩ := Option.map_eq_some_iff.1 hd
  exact ⟨x.2, hx⟩
set_option maxRecDepth 100000 in
theorem cells_of_funcs {w : World} {fuel : Nat} {cs : List Value} {p : List MemPlace} (h : DataW.trod (funcToken Tryd.prog) Tryd.prog w 0 (fun _ => true) true fuel 72 cs = some (.agg rowsD, p)) : cs = shCells := by
  obtain ⟨xs, m, _, hx, hl, _, hel⟩ := DataW.trod_array Tryd.underlying72 h
  rw [show Tryd.prog.cellsOf 72 = 40 by kernel_rfl] at hl
  have k71 : Tryd.prog.cellsOf 71 = 4 := by kernel_rfl
  rw [k71] at hel
  have hm : xs.map (·.1) = rowsD := by
    have := congrArg (fun y => y.1) hx
    simpa using this.symm
  have r0 : (cs.drop (0 * 4)).take 4 = (shCells.drop (0 * 4)).take 4 := by
    obtain ⟨q, hq⟩ := get_of_map hm (i := 0) (d := .agg [.lit (.string []), .nil, .nil, .nil]) rfl
    have he := hel 0 (by decide)
    rw [hq] at he
    obtain ⟨v1, v2, v3, n, p1, p2, p3, e, t1, t2, t3⟩ := row_open he
    rw [e, nil_func Tryd.underlying67 t1, nil_func Tryd.underlying68 t2, nil_func Tryd.underlying69 t3]; rfl
  have r1 : (cs.drop (1 * 4)).take 4 = (shCells.drop (1 * 4)).take 4 := by
    obtain ⟨q, hq⟩ := get_of_map hm (i := 1) (d := .agg [.lit (.string [105, 110, 103, 101, 115, 116]), .held nm132, .held nm133, .held nm134]) rfl
    have he := hel 1 (by decide)
    rw [hq] at he
    obtain ⟨v1, v2, v3, n, p1, p2, p3, e, t1, t2, t3⟩ := row_open he
    rw [e, is132 t1, is133 t2, is134 t3]; rfl
  have r2 : (cs.drop (2 * 4)).take 4 = (shCells.drop (2 * 4)).take 4 := by
    obtain ⟨q, hq⟩ := get_of_map hm (i := 2) (d := .agg [.lit (.string [103, 97, 109, 101]), .held nm135, .held nm136, .held nm137]) rfl
    have he := hel 2 (by decide)
    rw [hq] at he
    obtain ⟨v1, v2, v3, n, p1, p2, p3, e, t1, t2, t3⟩ := row_open he
    rw [e, is135 t1, is136 t2, is137 t3]; rfl
  have r3 : (cs.drop (3 * 4)).take 4 = (shCells.drop (3 * 4)).take 4 := by
    obtain ⟨q, hq⟩ := get_of_map hm (i := 3) (d := .agg [.lit (.string [112, 111, 115, 105, 116, 105, 111, 110]), .held nm138, .held nm133, .held nm134]) rfl
    have he := hel 3 (by decide)
    rw [hq] at he
    obtain ⟨v1, v2, v3, n, p1, p2, p3, e, t1, t2, t3⟩ := row_open he
    rw [e, is138 t1, is133 t2, is134 t3]; rfl
  have r4 : (cs.drop (4 * 4)).take 4 = (shCells.drop (4 * 4)).take 4 := by
    obtain ⟨q, hq⟩ := get_of_map hm (i := 4) (d := .agg [.lit (.string [109, 97, 116, 101, 114, 105, 97, 108]), .held nm138, .held nm133, .held nm134]) rfl
    have he := hel 4 (by decide)
    rw [hq] at he
    obtain ⟨v1, v2, v3, n, p1, p2, p3, e, t1, t2, t3⟩ := row_open he
    rw [e, is138 t1, is133 t2, is134 t3]; rfl
  have r5 : (cs.drop (5 * 4)).take 4 = (shCells.drop (5 * 4)).take 4 := by
    obtain ⟨q, hq⟩ := get_of_map hm (i := 5) (d := .agg [.lit (.string [115, 116, 97, 116, 115]), .held nm138, .held nm133, .held nm134]) rfl
    have he := hel 5 (by decide)
    rw [hq] at he
    obtain ⟨v1, v2, v3, n, p1, p2, p3, e, t1, t2, t3⟩ := row_open he
    rw [e, is138 t1, is133 t2, is134 t3]; rfl
  have r6 : (cs.drop (6 * 4)).take 4 = (shCells.drop (6 * 4)).take 4 := by
    obtain ⟨q, hq⟩ := get_of_map hm (i := 6) (d := .agg [.lit (.string [98, 111, 111, 107]), .held nm139, .held nm140, .held nm141]) rfl
    have he := hel 6 (by decide)
    rw [hq] at he
    obtain ⟨v1, v2, v3, n, p1, p2, p3, e, t1, t2, t3⟩ := row_open he
    rw [e, is139 t1, is140 t2, is141 t3]; rfl
  have r7 : (cs.drop (7 * 4)).take 4 = (shCells.drop (7 * 4)).take 4 := by
    obtain ⟨q, hq⟩ := get_of_map hm (i := 7) (d := .agg [.lit (.string [99, 104, 101, 99, 107, 112, 111, 105, 110, 116]), .held nm139, .held nm140, .held nm141]) rfl
    have he := hel 7 (by decide)
    rw [hq] at he
    obtain ⟨v1, v2, v3, n, p1, p2, p3, e, t1, t2, t3⟩ := row_open he
    rw [e, is139 t1, is140 t2, is141 t3]; rfl
  have r8 : (cs.drop (8 * 4)).take 4 = (shCells.drop (8 * 4)).take 4 := by
    obtain ⟨q, hq⟩ := get_of_map hm (i := 8) (d := .agg [.lit (.string [99, 114, 97, 115, 104]), .held nm142, .held nm143, .held nm144]) rfl
    have he := hel 8 (by decide)
    rw [hq] at he
    obtain ⟨v1, v2, v3, n, p1, p2, p3, e, t1, t2, t3⟩ := row_open he
    rw [e, is142 t1, is143 t2, is144 t3]; rfl
  have r9 : (cs.drop (9 * 4)).take 4 = (shCells.drop (9 * 4)).take 4 := by
    obtain ⟨q, hq⟩ := get_of_map hm (i := 9) (d := .agg [.lit (.string [114, 101, 111, 112, 101, 110]), .held nm139, .held nm140, .held nm141]) rfl
    have he := hel 9 (by decide)
    rw [hq] at he
    obtain ⟨v1, v2, v3, n, p1, p2, p3, e, t1, t2, t3⟩ := row_open he
    rw [e, is139 t1, is140 t2, is141 t3]; rfl
  refine List.ext_getElem? fun i => ?_
  by_cases hi : i < 40
  · have key : ∀ q r, (cs.drop (q * 4)).take 4 = (shCells.drop (q * 4)).take 4 → r < 4 → cs[q * 4 + r]? = shCells[q * 4 + r]? := fun q r hq hr => by
      have := congrArg (fun l => l[r]?) hq
      simpa [List.getElem?_take, List.getElem?_drop, hr] using this
    obtain ⟨q, r, rfl, hr, hq⟩ : ∃ q r, i = q * 4 + r ∧ r < 4 ∧ q < 10 := ⟨i / 4, i % 4, by omega, by omega, by omega⟩
    refine key q r ?_ hr
    have hq' : q = 0 ∨ q = 1 ∨ q = 2 ∨ q = 3 ∨ q = 4 ∨ q = 5 ∨ q = 6 ∨ q = 7 ∨ q = 8 ∨ q = 9 := by omega
    rcases hq' with rfl | rfl | rfl | rfl | rfl | rfl | rfl | rfl | rfl | rfl
    · exact r0
    · exact r1
    · exact r2
    · exact r3
    · exact r4
    · exact r5
    · exact r6
    · exact r7
    · exact r8
    · exact r9
  · rw [List.getElem?_eq_none (by omega), List.getElem?_eq_none (by show 40 ≤ i; omega)]
theorem env_of_laid {W : World} (hL : laidMetH Tryd.prog laidL W) (hSh : W.ShapedOpen Tryd.prog) : EnvS W := by
  obtain ⟨g, t, cs, fuel, p, hg, ht, hv, hd⟩ := hL.funcs (n := "tempo/script.shapes") (List.Mem.tail _ (.tail _ (.tail _ (.tail _ (.tail _ (.tail _ (.head _)))))))
  obtain rfl := Option.some.inj ((show Tryd.prog.globalNamed "tempo/script.shapes" = some 0 by kernel_rfl).symm.trans hg)
  obtain rfl := Option.some.inj ((show (Tryd.prog.globals[0]?).map (·.type) = some 72 by kernel_rfl).symm.trans ht)
  have hd' : DataW.trod (funcToken Tryd.prog) Tryd.prog W 0 (fun _ => true) true fuel 72 cs.toList = some (.agg rowsD, p) := hd
  have hcs := cells_of_funcs hd'
  have hP := (laidMetH_iff.1 hL).1
  have hP2 : laidMet Tryd.prog laidP W := hP
  clear hP hL hd hd'
  obtain ⟨ps, ⟨g0, t0, cs0, f0, p0, q0, hg0, ht0, hv0, hd0, ⟨g1, t1, cs1, f1, p1, q1, hg1, ht1, hv1, hd1, ⟨g2, t2, cs2, f2, p2, q2, hg2, ht2, hv2, hd2, ⟨g3, t3, cs3, f3, p3, q3, hg3, ht3, hv3, hd3, ⟨g4, t4, cs4, f4, p4, q4, hg4, ht4, hv4, hd4, ⟨g5, t5, cs5, f5, p5, q5, hg5, ht5, hv5, hd5, _⟩, _⟩, _⟩, _⟩, _⟩, _⟩, _⟩ := hP2
  obtain rfl := Option.some.inj ((show Tryd.prog.globalNamed "math/bits.deBruijn64tab" = some 8 by kernel_rfl).symm.trans hg1)
  obtain rfl := Option.some.inj ((show Tryd.prog.globalNamed "internal/strconv.uint64pow10" = some 6 by kernel_rfl).symm.trans hg2)
  obtain rfl := Option.some.inj ((show Tryd.prog.globalNamed "strconv.ErrRange" = some 3 by kernel_rfl).symm.trans hg4)
  obtain rfl := Option.some.inj ((show Tryd.prog.globalNamed "strconv.ErrSyntax" = some 2 by kernel_rfl).symm.trans hg5)
  obtain ⟨u2, hu2⟩ : ∃ u, (Tryd.prog.globals[6]?).map (·.type) = some u := ⟨_, ht2⟩
  obtain rfl := Option.some.inj ((show (Tryd.prog.globals[6]?).map (·.type) = some 144 by kernel_rfl).symm.trans ht2)
  obtain rfl := Option.some.inj ((show (Tryd.prog.globals[3]?).map (·.type) = some 80 by kernel_rfl).symm.trans ht4)
  obtain rfl := Option.some.inj ((show (Tryd.prog.globals[2]?).map (·.type) = some 80 by kernel_rfl).symm.trans ht5)
  obtain ⟨m, hm⟩ := cell_of_shapedOpen_int (P := Tryd.prog) (g := 1) (t := 3) (zero := #[.int .i64 0]) hSh (of_decide_eq_true (by kernel_rfl)) (by kernel_rfl) rfl (by kernel_rfl) (by kernel_rfl) Tryd.underlying3
  obtain ⟨u4, x4, e4⟩ := iface_of_trod Tryd.underlying80 hd4
  obtain ⟨u5, x5, e5⟩ := iface_of_trod Tryd.underlying80 hd5
  have e2 := Lib.cells_of_tab (zs := Lib.pow10Tab) (k := .u64) Tryd.underlying144 Tryd.underlying124 (by kernel_rfl) (by kernel_rfl) hd2
  have hsz : 9 ≤ W.heap.size := by
    have hlt : ¬ W.heap.size ≤ 8 := fun hle => by
      have hn : W.heap[8]? = none := Array.getElem?_eq_none hle
      unfold World.var? at hv1
      rw [show Tryd.prog.globalNamed "math/bits.deBruijn64tab" = some 8 by kernel_rfl] at hv1
      simp [hn] at hv1
    omega
  refine ⟨fun i v hi => ?_, ⟨m, hm⟩, ⟨u5, x5, ?_⟩, ⟨u4, x4, ?_⟩, ?_, by omega⟩
  · rw [World.var?_cell hg hv i, ← Array.getElem?_toList, hcs, hi]
  · rw [World.var?_cell hg5 hv5 0]
    have : cs5 = [Value.iface u5 x5].toArray := by rw [← e5]
    rw [this]; rfl
  · rw [World.var?_cell hg4 hv4 0]
    have : cs4 = [Value.iface u4 x4].toArray := by rw [← e4]
    rw [this]; rfl
  · unfold Lib.TabIs
    rw [hv2]
    congr 1
    rw [← e2]
/-- A world in which the variables lie. -/
noncomputable def laidWorld (os : Os) : World := { World.laidAll Tryd.prog os laidP with heap := (World.laidAll Tryd.prog os laidP).heap.setIfInBounds 0 (.cells shCells.toArray 72 (0, 0)) }
theorem laidWorld_os (os : Os) : (laidWorld os).os = os := by
  have h := World.laidAll_os Tryd.prog os laidP
  unfold laidWorld
  generalize World.laidAll Tryd.prog os laidP = w at h ⊢
  exact h
theorem laid_met_all (os : Os) (args : Array Value) : laidMetH Tryd.prog laidL ((laidWorld os).forCall (fun _ _ => 0) ⟨#[], args, []⟩).memory :=
  laidMetH_of_parts3 (fuel := 8) (laidMet_of_run' 8 (by kernel_rfl) (by kernel_rfl)) (by kernel_rfl) (by kernel_rfl)
end Go.Proofs.YtjjnjglbmneecaaDoor
