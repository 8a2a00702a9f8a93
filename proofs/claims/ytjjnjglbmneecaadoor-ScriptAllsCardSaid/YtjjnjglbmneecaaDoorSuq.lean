/- The contract of script.Unquote, up to 250,000 bytes; and what Quote and Unquote have to do with each other. -/
import Derived.Test.YtjjnjglbmneecaaDoorSeq
import Derived.Lib.ConvBytes
import Derived.Laws.BytesString
import Derived.Lib.SlBytesRow
namespace Go.Proofs.YtjjnjglbmneecaaDoor
open Go Go.RowKit
/-- The bytes of a string with escapes, up to the first wrong one. -/
def uq : Nat → List UInt8 → Option (List UInt8)
  | 0, _ => some []
  | _ + 1, [] => some []
  | n + 1, c :: r => if c.toNat = 92 then (if (escP r).2 = 0 then none else (uq n (r.drop (escP r).2)).map ((escP r).1.toUInt8 :: ·)) else (uq n r).map (c :: ·)
/-- What a string is unquoted to. -/
def unq (l : List UInt8) : Option (List UInt8) := (uq l.length l).bind fun v => if qL v = l then some v else none
theorem unq_some {l v : List UInt8} (h : unq l = some v) : qL v = l := by
  unfold unq at h
  obtain ⟨u, hu, h2⟩ := Option.bind_eq_some_iff.1 h
  by_cases hq : qL u = l
  · rw [if_pos hq] at h2; rw [← Option.some.inj h2]; exact hq
  · rw [if_neg hq] at h2; exact absurd h2 (by simp)
theorem hx_V : ∀ n : Nat, n ≤ 15 → hxV (hx n) = some n := by
  intro n hn
  have : ∀ m : Fin 16, hxV (hx m.val) = some m.val := by decide
  exact this ⟨n, by omega⟩
theorem u8_of_div (c : UInt8) : (16 * (c.toNat / 16) + c.toNat % 16).toUInt8 = c := by
  rw [show 16 * (c.toNat / 16) + c.toNat % 16 = c.toNat by omega]; exact UInt8.ofNat_toNat
/-- A byte that is quoted is read off its quotation. -/
theorem uq_qB (n : Nat) (c : UInt8) (r : List UInt8) : uq (n + 1) (qB c ++ r) = (uq n r).map (c :: ·) := by
  have hc := c.toNat_lt
  unfold qB
  split
  · rename_i h; have : c = 10 := UInt8.toNat_inj.1 h; subst this; rfl
  · split
    · rename_i h; have : c = 13 := UInt8.toNat_inj.1 h; subst this; rfl
    · split
      · rename_i h; have : c = 9 := UInt8.toNat_inj.1 h; subst this; rfl
      · split
        · rename_i h; have : c = 92 := UInt8.toNat_inj.1 h; subst this; rfl
        · split
          · have e : escP (120 :: hx (c.toNat / 16) :: hx (c.toNat % 16) :: r) = (16 * (c.toNat / 16) + c.toNat % 16, 3) := by
              simp [escP, hx_V (c.toNat / 16) (by omega), hx_V (c.toNat % 16) (by omega)]
            show (if (92 : UInt8).toNat = 92 then _ else _) = _
            rw [if_pos (show UInt8.toNat 92 = 92 from rfl)]
            show (if (escP (120 :: hx (c.toNat / 16) :: hx (c.toNat % 16) :: r)).2 = 0 then none else (uq n ((120 :: hx (c.toNat / 16) :: hx (c.toNat % 16) :: r).drop (escP (120 :: hx (c.toNat / 16) :: hx (c.toNat % 16) :: r)).2)).map ((escP (120 :: hx (c.toNat / 16) :: hx (c.toNat % 16) :: r)).1.toUInt8 :: ·)) = _
            rw [e, if_neg (by simp)]
            show Option.map ((16 * (c.toNat / 16) + c.toNat % 16).toUInt8 :: ·) (uq n r) = _
            rw [u8_of_div]
          · rename_i h92 _
            show (if c.toNat = 92 then _ else _) = _
            rw [if_neg h92]; rfl
theorem uq_qL : ∀ (v : List UInt8) (n : Nat), v.length ≤ n → uq n (qL v) = some v
  | [], 0, _ => rfl
  | [], _ + 1, _ => rfl
  | c :: v, n + 1, h => by rw [qL, uq_qB, uq_qL v n (by simpa using h)]; rfl
theorem unq_qL (v : List UInt8) : unq (qL v) = some v := by
  unfold unq
  rw [uq_qL v _ (qL_len v).1]
  exact if_pos rfl
theorem qL_inj {a b : List UInt8} (h : qL a = qL b) : a = b := by
  have := unq_qL a; rw [h, unq_qL] at this; exact (Option.some.inj this).symm
theorem escP_le (l : List UInt8) : (escP l).2 ≤ l.length ∧ (escP l).1 ≤ 255 := by
  rcases l with _ | ⟨c, r⟩
  · exact ⟨Nat.le_refl _, by simp [escP]⟩
  · unfold escP
    repeat' split
    all_goals first
      | (simp; done)
      | (simp; omega)
      | (rename_i heq _ _ a b h1 h2; have := hxV_le h1; have := hxV_le h2; rw [heq]; simp; omega)
theorem bs_string {base : Nat} {w : World} {v : Value} {l : List UInt8} (h : w.ownsRow base 5 1 v l.length (Lib.byteCells l)) : (convert 33 9 v).run Tryd.prog w = .ok (.string ⟨l.toArray⟩) w := by
  rcases h.2 with ⟨rfl, h0⟩ | ⟨g, cap, cur, rfl, _⟩
  · obtain rfl : l = [] := List.eq_nil_of_length_eq_zero h0
    exact run_convert_bytes_nil w 33 5 Tryd.underlying33 Tryd.underlying5 0 0 9 Tryd.underlying9
  · rw [run_convert_bytes_arg w 33 5 Tryd.underlying33 Tryd.underlying5 g 0 l.length cap (l.map fun x => (x.toNat : Int)) (by simp) (fun i hi => by
      have hc := h.cells (g := g) rfl i (.int .u8 ((l.map fun x => (x.toNat : Int)).getD i 0)) (by unfold Lib.byteCells; simp [hi])
      have ha : (⟨g, 0, none⟩ : Addr).add i = ⟨g, 0 + i, none⟩ := by unfold Addr.add; split <;> simp_all
      rw [← ha]; exact hc) 9 Tryd.underlying9]
    congr 2
    apply ByteArray.ext
    apply Array.toList_inj.1
    rw [strOfNums_data, List.map_map]
    show _ = l
    conv => rhs; rw [← List.map_id l]
    apply List.map_congr_left
    intro x _
    simp
theorem owns_below {W W' : World} {base : Nat} {e : TypeId} {size : Nat} {v : Value} {n : Nat} {xs : List Value} (h : W.ownsRow base e size v n xs) (hb : Below W.heap.size W W') : W'.ownsRow base e size v n xs := by
  refine ⟨h.1, ?_⟩
  rcases h.2 with hn | ⟨g, cap, cur, rfl, hg, hgg, rest⟩
  · exact .inl hn
  · exact .inr ⟨g, cap, cur, rfl, hg, (hb.block g (Array.getElem?_eq_some_iff.1 hgg).1).trans hgg, rest⟩
theorem below_le {m n : Nat} {w w' : World} (h : Below n w w') (hm : m ≤ n) : Below m w w' := ⟨h.os, h.tape, h.output, h.size, fun k hk => h.block k (by omega)⟩
/-- A slice of bytes that is made here. -/
structure Bs (w0 : World) (w : World) (v : Value) (l : List UInt8) : Prop where
  own : w.ownsRow w0.heap.size 5 1 v l.length (Lib.byteCells l)
  bel : Below w0.heap.size w0 w
theorem Bs.app {w0 w w' : World} {v v' : Value} {l : List UInt8} {x : UInt8} (h : Bs w0 w v l) (ho : w'.ownsRow w0.heap.size 5 1 v' (l.length + 1) (Lib.byteCells l ++ [.int .u8 x.toNat])) (hg : (w.alloc (.cells #[.int .u8 x.toNat] 5)).grownBy w' v.ownBlock) : Bs w0 w' v' (l ++ [x]) := by
  refine ⟨by rw [List.length_append, bytes_app]; exact ho, ?_⟩
  exact (h.bel.alloc h.bel.size _).grown hg (by simp; have := h.bel.size; omega) (fun k hk => (h.own.lt k hk).1)
theorem Bs.drewN {w0 w : World} {v : Value} {l : List UInt8} (h : Bs w0 w v l) (n : Nat) : Bs w0 (w.drewN n) v l := ⟨h.own, h.bel.trans ⟨rfl, rfl, rfl, Nat.le_refl _, fun _ _ => rfl⟩⟩
theorem uq_step {l : List UInt8} {m : Nat} {c : UInt8} {acc : List UInt8} {r : List UInt8} (h : uq l.length l = (uq (m + 1) (c :: r)).map (acc ++ ·)) :
    (c.toNat ≠ 92 → uq l.length l = (uq m r).map ((acc ++ [c]) ++ ·)) ∧ (c.toNat = 92 → (escP r).2 = 0 → uq l.length l = none) ∧
    (c.toNat = 92 → (escP r).2 ≠ 0 → uq l.length l = (uq m (r.drop (escP r).2)).map ((acc ++ [(escP r).1.toUInt8]) ++ ·)) := by
  refine ⟨fun h1 => ?_, fun h1 h2 => ?_, fun h1 h2 => ?_⟩
  · rw [h, uq, if_neg h1, Option.map_map]; congr 1; funext x; simp
  · rw [h, uq, if_pos h1, if_pos h2]; rfl
  · rw [h, uq, if_pos h1, if_neg h2, Option.map_map]; congr 1; funext x; simp
def unqR (l : List UInt8) : List UInt8 × Int := match unq l with | some v => (v, 0) | none => ([], 8)
set_option maxRecDepth 100000 in
set_option linter.unusedSimpArgs false in
set_option maxHeartbeats 4000000 in
theorem unquote_any (s : ByteArray) (hs : s.size ≤ 250000) (w : World) :
    Calls Tryd.prog 15 #[.string s] w fun e w' => e = .returned (.tuple #[.string ⟨(unqR s.data.toList).1.toArray⟩, .int .i64 (unqR s.data.toList).2]) ∧ Below w.heap.size w w' := by
  obtain ⟨i0, hi0, hz0, hz1, hz2⟩ := info_parts infoByte
  obtain ⟨S, hS⟩ : ∃ S, s.data.toList = S := ⟨_, rfl⟩
  have hSl : S.length = s.size := by rw [← hS]; exact Array.length_toList
  have HS := Lib.hid hS
  rw [hS]
  clear hS
  go_enter Tryd.func15, Tryd.ntmps15
  go_wp2_with fail
  go_loopg [4, 5] s.size (fun mm o i wr => ∃ (k m : Nat) (acc : List UInt8), mm = s.size - k ∧ k ≤ s.size ∧ i = .int .i64 k ∧ s.size - k ≤ m ∧ acc.length ≤ k ∧ uq S.length S = (uq m (S.drop k)).map (acc ++ ·) ∧ Bs w wr o acc)
  case atStart =>
    refine ⟨0, S.length, [], rfl, by omega, rfl, by omega, Nat.le_refl _, ?_, ⟨World.ownsRow_nil _ _ _ _, Below.refl _ _⟩⟩
    rw [List.drop_zero]
    cases uq S.length S <;> simp
  case round =>
    obtain ⟨k, m, acc, hkm, hk, rfl, hm, hacc, hu, hr⟩ := hrel
    have HK := Lib.hid hkm
    clear hkm
    by_cases hlt : k < s.size
    · have hdi : decide ((k : Int) < (s.size : Int)) = true := by simp; omega
      obtain ⟨m', rfl⟩ : ∃ m', m = m' + 1 := ⟨m - 1, by omega⟩
      obtain ⟨c, hc⟩ : ∃ c, s[k] = c := ⟨_, rfl⟩
      have hd : S.drop k = c :: S.drop (k + 1) := by rw [List.drop_eq_getElem_cons (by omega), ← hc]; congr 1; simp only [← HS.out]; rfl
      rw [hd] at hu
      have hst := uq_step hu
      clear hu hd
      by_cases h92 : c.toNat = 92
      · obtain ⟨p, n, hpn⟩ : ∃ p n, escP (S.drop (k + 1)) = (p, n) := ⟨_, _, rfl⟩
        have hle := escP_le (S.drop (k + 1))
        rw [hpn] at hst hle
        rw [List.length_drop] at hle
        have he : (s.extract (k + 1) s.size).data.toList = S.drop (k + 1) := by rw [Lib.extract_data, HS.out]; exact List.take_of_length_le (by rw [List.length_drop]; omega)
        have HE := Lib.hid (fun W : World => escape_any (s.extract (k + 1) s.size) W)
        rw [he, hpn] at HE
        have Hr := Lib.hid hr
        by_cases hn : n = 0
        · subst hn
          have HN := Lib.hid (hst.2.1 h92 rfl)
          clear hst hr
          go_wp2_with (go_at_call 41; refine (HE.out _).mono ?_; rintro e w' ⟨rfl, q, rfl⟩)
          have hq : unqR S = ([], 8) := by unfold unqR unq; rw [HN.out]; rfl
          rw [hq]
          go_ret2
          exact ⟨rfl, (Hr.out.drewN _).bel⟩
        · have HN := Lib.hid (hst.2.2 h92 hn)
          have d0 : ((n : Int) == 0) = false := by simp; omega
          have hsz := hr.bel.size
          have HP : Hid (((p.toUInt8).toNat : Int) = (p : Int)) := Lib.hid (by have : p.toUInt8.toNat = p := by rw [show p.toUInt8.toNat = p % 256 from rfl]; omega
                                                                               rw [this])
          clear hst hr
          go_wp2_with (first
            | (go_at_call 41; refine (HE.out _).mono ?_; rintro e w' ⟨rfl, q, rfl⟩)
            | (at_builtin; refine wpList_append_own _ rfl _ _ 33 rfl w.heap.size 5 i0 (.int .u8 0) 1 1 Tryd.underlying33 hi0 hz0 hz1 hz2 rfl (by decide) _ _ _ rfl ((Hr.out.drewN _).own.alloc _) ⟨wr.heap.size, 0, none⟩ 1 1 [.int .u8 p] rfl rfl (cell_one_new _ _ _) (by simp [Value.oneCell']) (by unfold maxLen; omega) (by omega) (by simp; omega) ?_; intro v' w5 hown' hgrow _; have HO := Lib.hid hown'; have HG := Lib.hid hgrow; clear hown' hgrow))
          go_roundg (s.size - (k + n + 1))
          case measure => have := HK.out; omega
          case rel => exact ⟨k + n + 1, m', acc ++ [p.toUInt8], rfl, by omega, by go_num, by omega, by simp; omega, by rw [HN.out, List.drop_drop]; congr 2; congr 1; omega, (Hr.out.drewN _).app (by rw [HP.out]; exact HO.out) (by rw [HP.out]; exact HG.out)⟩
      · have HN := Lib.hid (hst.1 h92)
        have Hr := Lib.hid hr
        have hsz := hr.bel.size
        clear hst hr
        go_wp2_with (at_builtin; refine wpList_append_own _ rfl _ _ 33 rfl w.heap.size 5 i0 (.int .u8 0) 1 1 Tryd.underlying33 hi0 hz0 hz1 hz2 rfl (by decide) _ _ _ rfl (Hr.out.own.alloc _) ⟨wr.heap.size, 0, none⟩ 1 1 [.int .u8 c.toNat] rfl rfl (cell_one_new _ _ _) (by simp [Value.oneCell']) (by unfold maxLen; omega) (by omega) (by simp; omega) ?_; intro v' w5 hown' hgrow _; have HO := Lib.hid hown'; have HG := Lib.hid hgrow; clear hown' hgrow)
        go_roundg (s.size - (k + 1))
        case measure => have := HK.out; omega
        case rel => exact ⟨k + 1, m', acc ++ [c], rfl, by omega, by go_num, by omega, by simp; omega, HN.out, Hr.out.app HO.out HG.out⟩
    · have hks : k = s.size := by omega
      have hd : S.drop k = [] := List.drop_eq_nil_of_le (by omega)
      have hua : uq S.length S = some acc := by rw [hu, hd]; cases m <;> simp [uq]
      have hcv := bs_string hr.own
      have HB := Lib.hid hr.bel
      have hacc2 := (qL_len acc).2
      have HO := Lib.hid hr.own
      have hsl : s.toList = S := (Lib.toList_data s).trans HS.out
      have hle : w.heap.size ≤ wr.heap.size := hr.bel.size
      by_cases hq : qL acc = S
      · have HR : Hid (unqR S = (acc, 0)) := Lib.hid (by unfold unqR unq; rw [hua]; simp [hq])
        have hcmp : (qL acc == s.toList) = true := by rw [hsl, hq]; exact beq_self_eq_true _
        clear hq hsl hu hd hua hr
        go_wp2_with (go_at_call 17; refine (quote_any ⟨acc.toArray⟩ (by simp [ByteArray.size]; omega) _).mono ?_; rintro e w' ⟨rfl, hE⟩; have hcv2 := bs_string (owns_below HO.out hE))
        go_ret2
        exact ⟨by rw [HR.out]; rfl, HB.out.trans (below_le hE hle)⟩
      · have HR : Hid (unqR S = ([], 8)) := Lib.hid (by unfold unqR unq; rw [hua]; simp [hq])
        have hcmp : (qL acc == s.toList) = false := by rw [hsl]; exact beq_eq_false_iff_ne.2 hq
        clear hq hsl hu hd hua hr
        go_wp2_with (go_at_call 17; refine (quote_any ⟨acc.toArray⟩ (by simp [ByteArray.size]; omega) _).mono ?_; rintro e w' ⟨rfl, hE⟩)
        go_ret2
        exact ⟨by rw [HR.out]; rfl, HB.out.trans (below_le hE hle)⟩
end Go.Proofs.YtjjnjglbmneecaaDoor
