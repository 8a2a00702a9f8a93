/- The contract of the reference's function guess. -/
import Derived.Test.YtjjnjglbmneecaaDoorSyA
import Derived.Test.YtjjnjglbmneecaaDoorSyB
import Derived.Test.YtjjnjglbmneecaaDoorSx1
import Derived.Deep.CutBlock
namespace Go.Proofs.YtjjnjglbmneecaaDoor
open Go Go.RowKit
theorem spl_facts (s : ByteArray) {wd r : List UInt8} (h : spL s.data.toList = (wd, r)) : wd.length ≤ s.size ∧ (∀ j (hj : j < s.size), j < wd.length → s[j].toNat ≠ 32) ∧ (∀ hj : wd.length < s.size, s[wd.length].toNat = 32) ∧ s.extract 0 wd.length = ⟨wd.toArray⟩ ∧ (wd.length < s.size → s.extract (wd.length + 1) s.size = ⟨r.toArray⟩) ∧ (¬ wd.length < s.size → r = []) ∧ r.length ≤ s.size := by
  have hz := Lib.size_eq s
  have hat : ∀ k (h : k < s.size) (h2 : k < s.data.toList.length), s[k] = s.data.toList[k] := fun k h h2 => rfl
  have hx0 := ext_str s 0 wd.length
  have hx1 := ext_str s (wd.length + 1) s.size
  rw [hx0, hx1]
  obtain ⟨S, hS⟩ : ∃ S, s.data.toList = S := ⟨_, rfl⟩
  have hat2 : ∀ k (h : k < s.size) (h2 : k < S.length), s[k] = S[k] := by rw [← hS]; exact hat
  rw [hS] at hz h ⊢
  clear hx0 hx1 hat hS
  have hat := hat2
  have h32 : ∀ c : UInt8, c.toNat = 32 → c = 32 := fun c e => UInt8.toNat_inj.1 e
  rcases first_split (c := 32) S with h1 | ⟨a, b, rfl, h1⟩
  · rw [spL_free h1] at h
    obtain ⟨rfl, rfl⟩ := Prod.mk.inj h
    refine ⟨by omega, fun j hj hj2 e => h1 ?_, fun hj => by omega, by simp, fun hj => by omega, fun _ => rfl, Nat.zero_le _⟩
    rw [hat j hj hj2] at e
    rw [← h32 _ e]; exact List.getElem_mem _
  · rw [spL_hit h1] at h
    obtain ⟨rfl, rfl⟩ := Prod.mk.inj h
    simp only [List.length_append, List.length_cons] at hz
    refine ⟨by omega, fun j hj hj2 e => h1 ?_, fun hj => ?_, by simp, fun hj => ?_, fun hj => by omega, by omega⟩
    · rw [hat j hj (by simp; omega), List.getElem_append_left hj2] at e
      rw [← h32 _ e]; exact List.getElem_mem _
    · rw [hat _ hj (by simp)]
      simp
    · congr 2
      rw [show a ++ 32 :: b = (a ++ [32]) ++ b by simp, List.drop_left' (by simp)]
      exact List.take_of_length_le (by omega)
/-- The world while guess works: its result, its operation, and what was there before. -/
def Gs (w0 : World) (k a : Int) (v : ByteArray) (w : World) : Prop := Rw w w0.heap.size 24 (opC 0 0 ⟨#[]⟩) ∧ Rw w (w0.heap.size + 1) 24 (opC k a v) ∧ Below w0.heap.size w0 w
theorem Gs.below {w0 w : World} {k a : Int} {v : ByteArray} (h : Gs w0 k a v w) : Below w0.heap.size w0 w := h.2.2
theorem Gs.grow {w0 w w' : World} {k a : Int} {v : ByteArray} (h : Gs w0 k a v w) (hb : Below w.heap.size w w') : Gs w0 k a v w' := ⟨h.1.below hb h.1.lt, h.2.1.below hb h.2.1.lt, h.2.2.trans (below_le hb h.2.2.size)⟩
theorem rw_other {w : World} {g g' i : Nat} {t : TypeId} {cs : Array Value} {x : Value} (h : Rw w g t cs) (hn : g ≠ g') : Rw (w.setCell ⟨g', i, none⟩ x) g t cs := by
  unfold Rw; rw [heap_setCell_other _ _ _ _ (by simpa using hn)]; exact h
theorem Gs.k {w0 w : World} {k a : Int} {v : ByteArray} (h : Gs w0 k a v w) (k' : Int) : Gs w0 k' a v (w.setCell ⟨w0.heap.size + 1, 0, none⟩ (.int .i64 k')) := ⟨rw_other h.1 (by omega), h.2.1.cell 0 _, h.2.2.setCell (by simp) _⟩
theorem Gs.a {w0 w : World} {k a : Int} {v : ByteArray} (h : Gs w0 k a v w) (a' : Int) : Gs w0 k a' v (w.setCell ⟨w0.heap.size + 1, 1, none⟩ (.int .i64 a')) := ⟨rw_other h.1 (by omega), h.2.1.cell 1 _, h.2.2.setCell (by simp) _⟩
theorem Gs.v {w0 w : World} {k a : Int} {v : ByteArray} (h : Gs w0 k a v w) (v' : ByteArray) : Gs w0 k a v' (w.setCell ⟨w0.heap.size + 1, 2, none⟩ (.string v')) := ⟨rw_other h.1 (by omega), h.2.1.cell 2 _, h.2.2.setCell (by simp) _⟩
theorem Gs.drew {w0 w : World} {k a : Int} {v : ByteArray} (h : Gs w0 k a v w) : Gs w0 k a v w.drew := ⟨h.1, h.2.1, h.2.2.drew⟩
theorem Gs.res {w0 w : World} {k a k' a' : Int} {v v' : ByteArray} (h : Gs w0 k a v w) : Rw (((w.setCell ⟨w0.heap.size, 0, none⟩ (.int .i64 k')).setCell ⟨w0.heap.size, 1, none⟩ (.int .i64 a')).setCell ⟨w0.heap.size, 2, none⟩ (.string v')) w0.heap.size 24 (opC k' a' v') := h.1.set3
set_option linter.unusedSimpArgs false in
set_option maxRecDepth 100000 in
set_option maxHeartbeats 4000000 in
theorem guess_any (s : ByteArray) (hs : s.size ≤ 250000) (w : World) :
    Calls Tryd.prog 40 #[.string s] w fun e w' => e = .returned (opx (gsP s.data.toList)) ∧ Below w.heap.size w w' := by
  obtain ⟨wd, r, hsp⟩ : ∃ wd r, spL s.data.toList = (wd, r) := ⟨_, _, rfl⟩
  obtain ⟨f1, f2, f3, f4, f5, f6, f7⟩ := spl_facts s hsp
  have hgp : gsP s.data.toList = gsT (kixN wd) r := by unfold gsP; rw [hsp]
  rw [hgp]
  obtain ⟨k1, k2⟩ := kixN_rng wd
  obtain ⟨K, hK⟩ : ∃ K, kixN wd = K := ⟨_, rfl⟩
  rw [hK] at k1 k2 ⊢
  have HK2 := Lib.hid k2
  have HF2 := Lib.hid f2
  have HF3 := Lib.hid f3
  have HF4 := Lib.hid f4
  have HF5 := Lib.hid f5
  have HF6 := Lib.hid f6
  clear f2 f3 f4 f5 f6 hgp hK k2 hsp
  go_enter Tryd.func40, Tryd.ntmps40
  go_upto_block 0 with fail
  go_cut [3] (fun a wx => a = .int .i64 wd.length ∧ wx = w.alloc (.cells (opC 0 0 ⟨#[]⟩) 24))
  case first =>
    go_wp2_with fail
    go_loopg [3] s.size (fun mm a wx => ∃ k : Nat, mm = s.size - k ∧ k ≤ wd.length ∧ a = .int .i64 k ∧ wx = w.alloc (.cells (opC 0 0 ⟨#[]⟩) 24))
    case atStart => exact ⟨0, rfl, by omega, rfl, rfl⟩
    case round =>
      obtain ⟨k, hkm, hk, rfl, rfl⟩ := hrel
      have HK := Lib.hid hkm
      clear hkm
      by_cases hlt : k < s.size
      · have hdi : decide ((k : Int) < (s.size : Int)) = true := by simp; omega
        by_cases hka : k < wd.length
        · have hc := HF2.out k hlt hka
          go_wp2_with fail
          go_roundg (s.size - (k + 1))
          case measure => have := HK.out; omega
          case rel => exact ⟨k + 1, rfl, by omega, by go_num, rfl⟩
        · obtain rfl : k = wd.length := by omega
          have hc := HF3.out hlt
          go_wp2_with fail
          go_meet
          case rel => exact ⟨rfl, rfl⟩
      · have hkk : k = wd.length := by omega
        have hdi : decide ((k : Int) < (s.size : Int)) = false := by simp; omega
        go_wp2_with fail
        go_meet
        case rel => exact ⟨rfl, rfl⟩
  case rest =>
    obtain ⟨rfl, rfl⟩ := hcut
    go_upto_block 2 with fail
    have hG0 : Gs w 0 0 ⟨#[]⟩ ((w.alloc (.cells (opC 0 0 ⟨#[]⟩) 24)).alloc (.cells #[.int .i64 0, .int .i64 0, .string ⟨#[]⟩] 24)) := ⟨(Rw.new _ _ _).alloc _, by have := Rw.new (w.alloc (.cells (opC 0 0 ⟨#[]⟩) 24)) 24 (opC 0 0 ⟨#[]⟩); rwa [show (w.alloc (.cells (opC 0 0 ⟨#[]⟩) 24)).heap.size = w.heap.size + 1 by simp] at this, (below_al _ _).alloc (by simp) _⟩
    have HG0 := Lib.hid hG0
    clear hG0
    generalize (w.alloc (.cells (opC 0 0 ⟨#[]⟩) 24)).alloc _ = wg at *
    go_wp2_with fail
    go_loopg [5] 9 (fun mm i wr => ∃ k : Nat, mm = 10 - k ∧ 0 < k ∧ k ≤ 10 ∧ i = .int .i64 k ∧ Gs w ((if K < k then K else 0 : Nat) : Int) 0 ⟨#[]⟩ wr)
    case atStart => exact ⟨1, rfl, by decide, by decide, rfl, by rw [show (if K < 1 then K else 0) = 0 by split <;> omega]; exact HG0.out⟩
    case round =>
      clear HG0
      obtain ⟨k, hkm, hk0, hk, rfl, hG⟩ := hrel
      have HK := Lib.hid hkm
      clear hkm
      by_cases hlt : k < 10
      · have hdi : decide ((k : Int) ≤ 9) = true := by simp; omega
        have HW := Lib.hid (fun W : World => rword_any (k : Int) W)
        rw [wordK_nat k hlt] at HW
        have hkk := HK2.out k hk0 hlt
        generalize wordL k = wk at *
        by_cases he : wk = wd
        · have hKk : K = k := hkk.1 he
          have hGe : (if K < k then K else 0) = 0 := by rw [if_neg (by omega)]
          rw [hGe] at hG
          have hGn : Hid ((if K < k + 1 then K else 0) = k) := Lib.hid (by rw [if_pos (by omega)]; exact hKk)
          have HE := Lib.hid he
          clear hGe hkk he hKk
          generalize ((0 : Nat) : Int) = Q0 at hG
          go_wp2_with fail
          refine wp_region_noPanic ?_
          refine wp_region_held_drew (S := fun w' => Gs w Q0 0 ⟨#[]⟩ w') (by kernel_rfl) (hG.drew) (fun hH => ?_)
          refine takeD 0 (some 27) (v := ?_) rfl rfl (by kernel_rfl) (by kernel_rfl) (by kernel_rfl) (fun _ _ _ h => h) (Or.inl ⟨by rfl, ?_⟩) hH ?_
          rotate_left
          · intro w hSw; go_simp; try with_reducible rfl
          try simp only [Act.put, List.setIfInBounds_toArray, List.set_cons_zero, List.set_cons_succ]
          refine takeD 2 (some 29) (v := ?_) rfl rfl (by kernel_rfl) (by kernel_rfl) (by kernel_rfl) (fun _ _ _ h => h) (Or.inl ⟨by rfl, ?_⟩) hH ?_
          rotate_left
          · intro w hSw; go_simp; try with_reducible rfl
          try simp only [Act.put, List.setIfInBounds_toArray, List.set_cons_zero, List.set_cons_succ]
          refine takeD 3 (some 30) (v := ?_) rfl rfl (by kernel_rfl) (by kernel_rfl) (by kernel_rfl) (fun _ _ _ h => h) (Or.inl ⟨by rfl, ?_⟩) hH ?_
          rotate_left
          · intro w hSw; go_simp; try with_reducible rfl
          try simp only [Act.put, List.setIfInBounds_toArray, List.set_cons_zero, List.set_cons_succ]
          refine takeD 4 (some 31) (v := .string ⟨wd.toArray⟩) rfl rfl (by kernel_rfl) (by kernel_rfl) (by kernel_rfl) (fun _ _ _ h => h) (Or.inl ⟨by rfl, ?_⟩) hH ?_
          · intro w hSw; go_simp; rw [HF4.out]
          try simp only [Act.put, List.setIfInBounds_toArray, List.set_cons_zero, List.set_cons_succ]
          refine wpAnyH_ready (rs := [1]) (by kernel_rfl) (by simp) ?_
          refine AllReadyH.cons rfl (fun K hK => ?_) AllReadyH.nil
          go_simp
          go_at_call 32; refine (HW.out _).mono ?_; rintro e w' ⟨rfl, hE⟩; replace hH := Gs.grow hH hE
          go_wp2_with fail
          refine hK.out _ _ (hH) (fun hH => ?_)
          clear hK K
          try simp only [Act.put, List.setIfInBounds_toArray, List.set_cons_zero, List.set_cons_succ]
          refine takeD 5 (some 32) (v := .bool true) rfl rfl (by kernel_rfl) (by kernel_rfl) (by kernel_rfl) (fun _ _ _ h => h) (Or.inl ⟨by rfl, ?_⟩) hH ?_
          · intro w hSw; go_simp; simp [HE.out]
          try simp only [Act.put, List.setIfInBounds_toArray, List.set_cons_zero, List.set_cons_succ]
          refine wpAnyH_done (by kernel_rfl) ?_ _
          refine NoPanic.normal ?_
          obtain ⟨c0, c1, c2, z0, z1, z2⟩ := hH.2.1.facts
          have hH := Lib.hid hH
          go_wp2_with fail
          go_roundg (10 - (k + 1))
          case measure => have := HK.out; omega
          case rel => exact ⟨k + 1, rfl, by omega, by omega, by go_num, by rw [hGn.out]; exact hH.out.k _⟩
        · have hKk : K ≠ k := fun e => he (hkk.2 e)
          have hGn : Hid ((if K < k + 1 then K else 0) = (if K < k then K else 0)) := Lib.hid (by
            by_cases h : K < k
            · rw [if_pos h, if_pos (by omega)]
            · rw [if_neg h, if_neg (by omega)])
          generalize hq0 : (((if K < k then K else 0 : Nat)) : Int) = Q0 at hG
          have HQ0 := Lib.hid hq0
          have HE := Lib.hid he
          clear hkk he hKk hq0
          go_wp2_with fail
          refine wp_region_noPanic ?_
          refine wp_region_held_drew (S := fun w' => Gs w Q0 0 ⟨#[]⟩ w') (by kernel_rfl) (hG.drew) (fun hH => ?_)
          refine takeD 0 (some 27) (v := ?_) rfl rfl (by kernel_rfl) (by kernel_rfl) (by kernel_rfl) (fun _ _ _ h => h) (Or.inl ⟨by rfl, ?_⟩) hH ?_
          rotate_left
          · intro w hSw; go_simp; try with_reducible rfl
          try simp only [Act.put, List.setIfInBounds_toArray, List.set_cons_zero, List.set_cons_succ]
          refine takeD 2 (some 29) (v := ?_) rfl rfl (by kernel_rfl) (by kernel_rfl) (by kernel_rfl) (fun _ _ _ h => h) (Or.inl ⟨by rfl, ?_⟩) hH ?_
          rotate_left
          · intro w hSw; go_simp; try with_reducible rfl
          try simp only [Act.put, List.setIfInBounds_toArray, List.set_cons_zero, List.set_cons_succ]
          refine takeD 3 (some 30) (v := ?_) rfl rfl (by kernel_rfl) (by kernel_rfl) (by kernel_rfl) (fun _ _ _ h => h) (Or.inl ⟨by rfl, ?_⟩) hH ?_
          rotate_left
          · intro w hSw; go_simp; try with_reducible rfl
          try simp only [Act.put, List.setIfInBounds_toArray, List.set_cons_zero, List.set_cons_succ]
          refine takeD 4 (some 31) (v := .string ⟨wd.toArray⟩) rfl rfl (by kernel_rfl) (by kernel_rfl) (by kernel_rfl) (fun _ _ _ h => h) (Or.inl ⟨by rfl, ?_⟩) hH ?_
          · intro w hSw; go_simp; rw [HF4.out]
          try simp only [Act.put, List.setIfInBounds_toArray, List.set_cons_zero, List.set_cons_succ]
          refine wpAnyH_ready (rs := [1]) (by kernel_rfl) (by simp) ?_
          refine AllReadyH.cons rfl (fun K hK => ?_) AllReadyH.nil
          go_simp
          go_at_call 32; refine (HW.out _).mono ?_; rintro e w' ⟨rfl, hE⟩; replace hH := Gs.grow hH hE
          go_wp2_with fail
          refine hK.out _ _ (hH) (fun hH => ?_)
          clear hK K
          try simp only [Act.put, List.setIfInBounds_toArray, List.set_cons_zero, List.set_cons_succ]
          refine takeD 5 (some 32) (v := .bool false) rfl rfl (by kernel_rfl) (by kernel_rfl) (by kernel_rfl) (fun _ _ _ h => h) (Or.inl ⟨by rfl, ?_⟩) hH ?_
          · intro w hSw; go_simp; simp [HE.out]
          try simp only [Act.put, List.setIfInBounds_toArray, List.set_cons_zero, List.set_cons_succ]
          refine wpAnyH_done (by kernel_rfl) ?_ _
          refine NoPanic.normal ?_
          have hH := Lib.hid hH
          go_wp2_with fail
          go_roundg (10 - (k + 1))
          case measure => have := HK.out; omega
          case rel => exact ⟨k + 1, rfl, by omega, by omega, by go_num, by rw [hGn.out, HQ0.out]; exact hH.out⟩
      · have hdi : decide ((k : Int) ≤ 9) = false := by simp; omega
        have hKe : (if K < k then K else 0) = K := if_pos (by omega)
        rw [hKe] at hG
        have HG := Lib.hid hG
        clear hG hKe
        go_upto_if 38 with fail
        go_cut [6] (fun r' wx => r' = .string ⟨r.toArray⟩ ∧ wx = wr)
        case first =>
          by_cases hA : wd.length < s.size
          · have hda : decide (wd.length < s.size) = true := decide_eq_true hA
            have HX := Lib.hid (HF5.out hA)
            go_wp2_with fail
            go_meet
            case rel => exact ⟨by rw [HX.out], rfl⟩
          · have hda : decide (wd.length < s.size) = false := decide_eq_false hA
            have HX := Lib.hid (HF6.out hA)
            go_wp2_with fail
            go_meet
            case rel => exact ⟨by rw [HX.out], rfl⟩
        case rest =>
          obtain ⟨rfl, rfl⟩ := hcut
          clear HF2 HF3 HF4 HF5 HF6 HK2
          have hK' : K = 0 ∨ K = 1 ∨ K = 2 ∨ K = 3 ∨ K = 4 ∨ K = 5 ∨ K = 6 ∨ K = 7 ∨ K = 8 ∨ K = 9 := by omega
          rcases hK' with rfl | rfl | rfl | rfl | rfl | rfl | rfl | rfl | rfl | rfl
          · obtain ⟨c0, c1, c2, z0, z1, z2⟩ := HG.out.2.1.facts; obtain ⟨d0, d1, d2, y0, y1, y2⟩ := HG.out.1.facts
            go_wp2_with fail
            refine bodyPost_ret (ret_op (fn := Tryd.f40) rfl rfl (Gs.res HG.out)) rfl ?_
            exact ⟨rfl, below_set3 (Gs.below HG.out) (Nat.le_refl _) _ _ _⟩
          · have HU := Lib.hid (fun W : World => runquote_any ⟨r.toArray⟩ (by simp [ByteArray.size]; omega) W)
            rw [show (⟨r.toArray⟩ : ByteArray).data.toList = r from rfl] at HU
            rcases hu : unq r with _ | v
            · have hur : unqR r = ([], 8) := by unfold unqR; rw [hu]
              have HR : Hid (gsT 1 r = (0, 0, [])) := Lib.hid (by show unT 1 r = _; unfold unT; rw [hu])
              rw [hur] at HU
              clear hur hu
              obtain ⟨c0, c1, c2, z0, z1, z2⟩ := HG.out.2.1.facts; obtain ⟨d0, d1, d2, y0, y1, y2⟩ := HG.out.1.facts
              go_wp2_with (go_at_call 16; refine (HU.out _).mono ?_; rintro e w1 ⟨rfl, hE⟩; have HG1 := Lib.hid (HG.out.grow hE); clear c0 c1 c2 z0 z1 z2 d0 d1 d2 y0 y1 y2 hE; obtain ⟨c0, c1, c2, z0, z1, z2⟩ := HG1.out.2.1.facts; obtain ⟨d0, d1, d2, y0, y1, y2⟩ := HG1.out.1.facts)
              refine bodyPost_ret (ret_op (fn := Tryd.f40) rfl rfl (Gs.res HG1.out)) rfl ?_
              exact ⟨by rw [HR.out]; rfl, below_set3 (Gs.below HG1.out) (Nat.le_refl _) _ _ _⟩
            · have hur : unqR r = (v, 0) := by unfold unqR; rw [hu]
              have HR : Hid (gsT 1 r = (1, 0, v)) := Lib.hid (by show unT 1 r = _; unfold unT; rw [hu])
              rw [hur] at HU
              clear hur hu
              obtain ⟨c0, c1, c2, z0, z1, z2⟩ := HG.out.2.1.facts; obtain ⟨d0, d1, d2, y0, y1, y2⟩ := HG.out.1.facts
              go_wp2_with (go_at_call 16; refine (HU.out _).mono ?_; rintro e w1 ⟨rfl, hE⟩; have HG1 := Lib.hid (HG.out.grow hE); clear c0 c1 c2 z0 z1 z2 d0 d1 d2 y0 y1 y2 hE; obtain ⟨c0, c1, c2, z0, z1, z2⟩ := HG1.out.2.1.facts; obtain ⟨d0, d1, d2, y0, y1, y2⟩ := HG1.out.1.facts)
              have HG2 := Lib.hid (HG1.out.v ⟨v.toArray⟩)
              refine bodyPost_ret (ret_op (fn := Tryd.f40) rfl rfl (Gs.res HG2.out)) rfl ?_
              exact ⟨by rw [HR.out]; rfl, below_set3 (Gs.below HG2.out) (Nat.le_refl _) _ _ _⟩
          · have HN := Lib.hid (fun W : World => number_any2 ⟨r.toArray⟩ (by simp [ByteArray.size]; omega) 1000000 W)
            rw [show (⟨r.toArray⟩ : ByteArray).data.toList = r from rfl] at HN
            have HR : Hid (gsT 2 r = (2, numR r 1000000, [])) := Lib.hid rfl
            generalize numR r 1000000 = z at *
            obtain ⟨c0, c1, c2, z0, z1, z2⟩ := HG.out.2.1.facts; obtain ⟨d0, d1, d2, y0, y1, y2⟩ := HG.out.1.facts
            go_wp2_with (go_at_call 59; refine (HN.out _).mono ?_; rintro e w1 ⟨rfl, rfl⟩)
            have HG2 := Lib.hid (HG.out.a z)
            refine bodyPost_ret (ret_op (fn := Tryd.f40) rfl rfl (Gs.res HG2.out)) rfl ?_
            exact ⟨by rw [HR.out]; rfl, below_set3 (Gs.below HG2.out) (Nat.le_refl _) _ _ _⟩
          · have HU := Lib.hid (fun W : World => runquote_any ⟨r.toArray⟩ (by simp [ByteArray.size]; omega) W)
            rw [show (⟨r.toArray⟩ : ByteArray).data.toList = r from rfl] at HU
            rcases hu : unq r with _ | v
            · have hur : unqR r = ([], 8) := by unfold unqR; rw [hu]
              have HR : Hid (gsT 3 r = (0, 0, [])) := Lib.hid (by show unT 3 r = _; unfold unT; rw [hu])
              rw [hur] at HU
              clear hur hu
              obtain ⟨c0, c1, c2, z0, z1, z2⟩ := HG.out.2.1.facts; obtain ⟨d0, d1, d2, y0, y1, y2⟩ := HG.out.1.facts
              go_wp2_with (go_at_call 16; refine (HU.out _).mono ?_; rintro e w1 ⟨rfl, hE⟩; have HG1 := Lib.hid (HG.out.grow hE); clear c0 c1 c2 z0 z1 z2 d0 d1 d2 y0 y1 y2 hE; obtain ⟨c0, c1, c2, z0, z1, z2⟩ := HG1.out.2.1.facts; obtain ⟨d0, d1, d2, y0, y1, y2⟩ := HG1.out.1.facts)
              refine bodyPost_ret (ret_op (fn := Tryd.f40) rfl rfl (Gs.res HG1.out)) rfl ?_
              exact ⟨by rw [HR.out]; rfl, below_set3 (Gs.below HG1.out) (Nat.le_refl _) _ _ _⟩
            · have hur : unqR r = (v, 0) := by unfold unqR; rw [hu]
              have HR : Hid (gsT 3 r = (3, 0, v)) := Lib.hid (by show unT 3 r = _; unfold unT; rw [hu])
              rw [hur] at HU
              clear hur hu
              obtain ⟨c0, c1, c2, z0, z1, z2⟩ := HG.out.2.1.facts; obtain ⟨d0, d1, d2, y0, y1, y2⟩ := HG.out.1.facts
              go_wp2_with (go_at_call 16; refine (HU.out _).mono ?_; rintro e w1 ⟨rfl, hE⟩; have HG1 := Lib.hid (HG.out.grow hE); clear c0 c1 c2 z0 z1 z2 d0 d1 d2 y0 y1 y2 hE; obtain ⟨c0, c1, c2, z0, z1, z2⟩ := HG1.out.2.1.facts; obtain ⟨d0, d1, d2, y0, y1, y2⟩ := HG1.out.1.facts)
              have HG2 := Lib.hid (HG1.out.v ⟨v.toArray⟩)
              refine bodyPost_ret (ret_op (fn := Tryd.f40) rfl rfl (Gs.res HG2.out)) rfl ?_
              exact ⟨by rw [HR.out]; rfl, below_set3 (Gs.below HG2.out) (Nat.le_refl _) _ _ _⟩
          · have HU := Lib.hid (fun W : World => runquote_any ⟨r.toArray⟩ (by simp [ByteArray.size]; omega) W)
            rw [show (⟨r.toArray⟩ : ByteArray).data.toList = r from rfl] at HU
            rcases hu : unq r with _ | v
            · have hur : unqR r = ([], 8) := by unfold unqR; rw [hu]
              have HR : Hid (gsT 4 r = (0, 0, [])) := Lib.hid (by show unT 4 r = _; unfold unT; rw [hu])
              rw [hur] at HU
              clear hur hu
              obtain ⟨c0, c1, c2, z0, z1, z2⟩ := HG.out.2.1.facts; obtain ⟨d0, d1, d2, y0, y1, y2⟩ := HG.out.1.facts
              go_wp2_with (go_at_call 16; refine (HU.out _).mono ?_; rintro e w1 ⟨rfl, hE⟩; have HG1 := Lib.hid (HG.out.grow hE); clear c0 c1 c2 z0 z1 z2 d0 d1 d2 y0 y1 y2 hE; obtain ⟨c0, c1, c2, z0, z1, z2⟩ := HG1.out.2.1.facts; obtain ⟨d0, d1, d2, y0, y1, y2⟩ := HG1.out.1.facts)
              refine bodyPost_ret (ret_op (fn := Tryd.f40) rfl rfl (Gs.res HG1.out)) rfl ?_
              exact ⟨by rw [HR.out]; rfl, below_set3 (Gs.below HG1.out) (Nat.le_refl _) _ _ _⟩
            · have hur : unqR r = (v, 0) := by unfold unqR; rw [hu]
              have HR : Hid (gsT 4 r = (4, 0, v)) := Lib.hid (by show unT 4 r = _; unfold unT; rw [hu])
              rw [hur] at HU
              clear hur hu
              obtain ⟨c0, c1, c2, z0, z1, z2⟩ := HG.out.2.1.facts; obtain ⟨d0, d1, d2, y0, y1, y2⟩ := HG.out.1.facts
              go_wp2_with (go_at_call 16; refine (HU.out _).mono ?_; rintro e w1 ⟨rfl, hE⟩; have HG1 := Lib.hid (HG.out.grow hE); clear c0 c1 c2 z0 z1 z2 d0 d1 d2 y0 y1 y2 hE; obtain ⟨c0, c1, c2, z0, z1, z2⟩ := HG1.out.2.1.facts; obtain ⟨d0, d1, d2, y0, y1, y2⟩ := HG1.out.1.facts)
              have HG2 := Lib.hid (HG1.out.v ⟨v.toArray⟩)
              refine bodyPost_ret (ret_op (fn := Tryd.f40) rfl rfl (Gs.res HG2.out)) rfl ?_
              exact ⟨by rw [HR.out]; rfl, below_set3 (Gs.below HG2.out) (Nat.le_refl _) _ _ _⟩
          · have HU := Lib.hid (fun W : World => runquote_any ⟨r.toArray⟩ (by simp [ByteArray.size]; omega) W)
            rw [show (⟨r.toArray⟩ : ByteArray).data.toList = r from rfl] at HU
            rcases hu : unq r with _ | v
            · have hur : unqR r = ([], 8) := by unfold unqR; rw [hu]
              have HR : Hid (gsT 5 r = (0, 0, [])) := Lib.hid (by show unT 5 r = _; unfold unT; rw [hu])
              rw [hur] at HU
              clear hur hu
              obtain ⟨c0, c1, c2, z0, z1, z2⟩ := HG.out.2.1.facts; obtain ⟨d0, d1, d2, y0, y1, y2⟩ := HG.out.1.facts
              go_wp2_with (go_at_call 16; refine (HU.out _).mono ?_; rintro e w1 ⟨rfl, hE⟩; have HG1 := Lib.hid (HG.out.grow hE); clear c0 c1 c2 z0 z1 z2 d0 d1 d2 y0 y1 y2 hE; obtain ⟨c0, c1, c2, z0, z1, z2⟩ := HG1.out.2.1.facts; obtain ⟨d0, d1, d2, y0, y1, y2⟩ := HG1.out.1.facts)
              refine bodyPost_ret (ret_op (fn := Tryd.f40) rfl rfl (Gs.res HG1.out)) rfl ?_
              exact ⟨by rw [HR.out]; rfl, below_set3 (Gs.below HG1.out) (Nat.le_refl _) _ _ _⟩
            · have hur : unqR r = (v, 0) := by unfold unqR; rw [hu]
              have HR : Hid (gsT 5 r = (5, 0, v)) := Lib.hid (by show unT 5 r = _; unfold unT; rw [hu])
              rw [hur] at HU
              clear hur hu
              obtain ⟨c0, c1, c2, z0, z1, z2⟩ := HG.out.2.1.facts; obtain ⟨d0, d1, d2, y0, y1, y2⟩ := HG.out.1.facts
              go_wp2_with (go_at_call 16; refine (HU.out _).mono ?_; rintro e w1 ⟨rfl, hE⟩; have HG1 := Lib.hid (HG.out.grow hE); clear c0 c1 c2 z0 z1 z2 d0 d1 d2 y0 y1 y2 hE; obtain ⟨c0, c1, c2, z0, z1, z2⟩ := HG1.out.2.1.facts; obtain ⟨d0, d1, d2, y0, y1, y2⟩ := HG1.out.1.facts)
              have HG2 := Lib.hid (HG1.out.v ⟨v.toArray⟩)
              refine bodyPost_ret (ret_op (fn := Tryd.f40) rfl rfl (Gs.res HG2.out)) rfl ?_
              exact ⟨by rw [HR.out]; rfl, below_set3 (Gs.below HG2.out) (Nat.le_refl _) _ _ _⟩
          · obtain ⟨c0, c1, c2, z0, z1, z2⟩ := HG.out.2.1.facts; obtain ⟨d0, d1, d2, y0, y1, y2⟩ := HG.out.1.facts
            go_wp2_with fail
            refine bodyPost_ret (ret_op (fn := Tryd.f40) rfl rfl (Gs.res HG.out)) rfl ?_
            exact ⟨rfl, below_set3 (Gs.below HG.out) (Nat.le_refl _) _ _ _⟩
          · obtain ⟨c0, c1, c2, z0, z1, z2⟩ := HG.out.2.1.facts; obtain ⟨d0, d1, d2, y0, y1, y2⟩ := HG.out.1.facts
            go_wp2_with fail
            refine bodyPost_ret (ret_op (fn := Tryd.f40) rfl rfl (Gs.res HG.out)) rfl ?_
            exact ⟨rfl, below_set3 (Gs.below HG.out) (Nat.le_refl _) _ _ _⟩
          · have HSp := Lib.hid (fun W : World => split_any ⟨r.toArray⟩ (by simp [ByteArray.size]; omega) 32 W)
            rw [show (⟨r.toArray⟩ : ByteArray).data.toList = r from rfl] at HSp
            have hps := parts_len 32 r
            have hpn := partsA_count 32 r []
            have hpne : parts 32 r ≠ [] := partsA_ne
            have HR : Hid (gsT 8 r = (8, numR ((parts 32 r).getD 0 []) 1000000, if (parts 32 r).length = 2 then (parts 32 r).getD 1 [] else [])) := Lib.hid rfl
            change (parts 32 r).length ≤ r.length + 1 at hpn
            generalize parts 32 r = ps at *
            rcases ps with _ | ⟨p0, ps⟩
            · exact absurd rfl hpne
            have hp0 := hps p0 (by simp)
            have HN := Lib.hid (fun W : World => number_any2 ⟨p0.toArray⟩ (by simp [ByteArray.size]; omega) 1000000 W)
            rw [show (⟨p0.toArray⟩ : ByteArray).data.toList = p0 from rfl] at HN
            rw [show (p0 :: ps).getD 0 [] = p0 from rfl] at HR
            generalize numR p0 1000000 = z at *
            by_cases h2 : (p0 :: ps).length = 2
            · have hl2 : (((p0 :: ps).length : Int) == 2) = true := by rw [h2]; rfl
              rw [if_pos h2] at HR
              obtain ⟨p1, hp1⟩ : ∃ p1, (p0 :: ps).getD 1 [] = p1 := ⟨_, rfl⟩
              have hg1 : (p0 :: ps)[1]'(by omega) = p1 := by rw [← hp1, List.getD_eq_getElem?_getD, List.getElem?_eq_getElem (by omega)]; rfl
              rw [hp1] at HR
              clear hp1 hps hpne hp0
              obtain ⟨c0, c1, c2, z0, z1, z2⟩ := HG.out.2.1.facts; obtain ⟨d0, d1, d2, y0, y1, y2⟩ := HG.out.1.facts
              go_wp2_with (first
                | (go_at_call 57; refine (HSp.out _).mono ?_; rintro e w1 ⟨v1, rfl, hS⟩; have HG1 := Lib.hid (HG.out.grow hS.bel); obtain ⟨gs, cs, hvs, hgs0, _, _, hat⟩ := hS.row (by simp); subst hvs; have r0 := hat 0 (by simp); have r1 := hat 1 (by omega); rw [List.getElem_cons_zero] at r0; rw [hg1] at r1; clear c0 c1 c2 z0 z1 z2 d0 d1 d2 y0 y1 y2 hS hat; obtain ⟨c0, c1, c2, z0, z1, z2⟩ := HG1.out.2.1.facts; obtain ⟨d0, d1, d2, y0, y1, y2⟩ := HG1.out.1.facts; have hgne : gs ≠ w.heap.size + 1 := by have := HG.out.2.1.lt; omega)
                | (go_at_call 59; refine (HN.out _).mono ?_; rintro e w1 ⟨rfl, rfl⟩))
              have HG2 := Lib.hid ((HG1.out.a z).v ⟨p1.toArray⟩)
              refine bodyPost_ret (ret_op (fn := Tryd.f40) rfl rfl (Gs.res HG2.out)) rfl ?_
              exact ⟨by rw [HR.out]; rfl, below_set3 (Gs.below HG2.out) (Nat.le_refl _) _ _ _⟩
            · have hl2 : ((ps.length : Int) + 1 == 2) = false := by simp only [beq_eq_false_iff_ne, ne_eq]; simp only [List.length_cons] at h2; omega
              rw [if_neg h2] at HR
              clear hps hpne hp0
              obtain ⟨c0, c1, c2, z0, z1, z2⟩ := HG.out.2.1.facts; obtain ⟨d0, d1, d2, y0, y1, y2⟩ := HG.out.1.facts
              go_wp2_with (first
                | (go_at_call 57; refine (HSp.out _).mono ?_; rintro e w1 ⟨v1, rfl, hS⟩; have HG1 := Lib.hid (HG.out.grow hS.bel); obtain ⟨gs, cs, hvs, hgs0, _, _, hat⟩ := hS.row (by simp); subst hvs; have r0 := hat 0 (by simp); rw [List.getElem_cons_zero] at r0; clear c0 c1 c2 z0 z1 z2 d0 d1 d2 y0 y1 y2 hS hat; obtain ⟨c0, c1, c2, z0, z1, z2⟩ := HG1.out.2.1.facts; obtain ⟨d0, d1, d2, y0, y1, y2⟩ := HG1.out.1.facts; have hgne : gs ≠ w.heap.size + 1 := by have := HG.out.2.1.lt; omega)
                | (go_at_call 59; refine (HN.out _).mono ?_; rintro e w1 ⟨rfl, rfl⟩))
              have HG2 := Lib.hid (HG1.out.a z)
              refine bodyPost_ret (ret_op (fn := Tryd.f40) rfl rfl (Gs.res HG2.out)) rfl ?_
              exact ⟨by rw [HR.out]; rfl, below_set3 (Gs.below HG2.out) (Nat.le_refl _) _ _ _⟩
          · obtain ⟨c0, c1, c2, z0, z1, z2⟩ := HG.out.2.1.facts; obtain ⟨d0, d1, d2, y0, y1, y2⟩ := HG.out.1.facts
            go_wp2_with fail
            refine bodyPost_ret (ret_op (fn := Tryd.f40) rfl rfl (Gs.res HG.out)) rfl ?_
            exact ⟨rfl, below_set3 (Gs.below HG.out) (Nat.le_refl _) _ _ _⟩
end Go.Proofs.YtjjnjglbmneecaaDoor
