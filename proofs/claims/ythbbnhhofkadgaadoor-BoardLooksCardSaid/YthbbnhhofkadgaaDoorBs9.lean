/- The law BoardRefuses. Conditions: as in EnvB. -/
import Derived.Test.YthbbnhhofkadgaaDoorBs10
import Derived.Test.YthbbnhhofkadgaaDoorBs5
namespace Go.Proofs.YthbbnhhofkadgaaDoor
open Go Go.RowKit
theorem bsum_congr {f g : Int → Bool} {b c : List Int} (k : Nat) (h : ∀ i, i < k → ((inP (b.getD i 0) ∧ f (b.getD i 0) = true) ↔ (inP (c.getD i 0) ∧ g (c.getD i 0) = true))) : bsum f b k = bsum g c k := by
  induction k with
  | zero => rfl
  | succ k ih =>
    simp only [bsum]
    rw [ih (fun i hi => h i (by omega))]
    have := h k (by omega)
    by_cases hc : inP (c.getD k 0) ∧ g (c.getD k 0) = true
    · rw [if_pos hc, if_pos (this.2 hc)]
    · rw [if_neg hc, if_neg (fun q => hc (this.1 q))]
theorem bsum_zero {f : Int → Bool} {b : List Int} (k : Nat) (h : ∀ i, i < k → ¬ (inP (b.getD i 0) ∧ f (b.getD i 0) = true)) : bsum f b k = 0 := by
  induction k with
  | zero => rfl
  | succ k ih => simp only [bsum]; rw [ih (fun i hi => h i (by omega)), if_neg (h k (by omega))]
theorem cnB_congr {b c : List Int} (k : Nat) (h : ∀ i, i < k → pieceAt (b.getD i 0) = pieceAt (c.getD i 0)) : cnB b k = cnB c k := by
  induction k with
  | zero => rfl
  | succ k ih => simp only [cnB, cn1]; rw [ih (fun i hi => h i (by omega)), h k (by omega)]
theorem bad_nok {b : List Int} (lb : b.length = 64) {k : Nat} (hk : k < 64) {x : Int} (hx : x < 0 ∨ 12 < x) : ¬ okB (b.set k x) :=
  nok_of (k := k) (by rw [List.length_set]; omega) (by rw [getD_set_self (by omega)]; exact hx)
theorem bad_of {b : List Int} {x : Int} (hx : x < 0 ∨ 12 < x) : bsum (fun q => q == x) b 64 = 0 :=
  bsum_zero 64 (fun i _ => by rintro ⟨h1, h2⟩; have : b.getD i 0 = x := by simpa using h2
                              rw [this] at h1; unfold inP at h1; omega)
theorem bad_col {b : List Int} (lb : b.length = 64) {k : Nat} (hk : k < 64) {x : Int} (hx : x < 0 ∨ 12 < x) (c : Int) : bsum (fun q => isB q c) (b.set k x) 64 = bsum (fun q => isB q c) (b.set k 0) 64 :=
  bsum_congr 64 (fun i _ => by
    by_cases h : k = i
    · subst h
      rw [getD_set_self (by omega), getD_set_self (by omega)]
      constructor
      · rintro ⟨h1, _⟩; unfold inP at h1; omega
      · rintro ⟨h1, _⟩; unfold inP at h1; omega
    · rw [getD_set_ne h, getD_set_ne h])
theorem bad_cn {b : List Int} (lb : b.length = 64) {k : Nat} (hk : k < 64) {x : Int} (hx : x < 0 ∨ 12 < x) : cnB (b.set k x) 64 = cnB (b.set k 0) 64 :=
  cnB_congr 64 (fun i _ => by
    by_cases h : k = i
    · subst h
      rw [getD_set_self (by omega), getD_set_self (by omega)]
      unfold pieceAt
      rw [if_neg (by omega), if_neg (by omega)]
    · rw [getD_set_ne h, getD_set_ne h])
theorem bad_color {b : List Int} {x : Int} (hx : x < 0 ∨ 12 < x) : bsum (fun q => isB q x) b 64 = 0 :=
  bsum_zero 64 (fun i _ => by
    rintro ⟨_, h2⟩
    have h3 : colV (b.getD i 0) = x := by
      have : ((1 ≤ b.getD i 0 ∧ b.getD i 0 ≤ 12) ∧ colV (b.getD i 0) = x) := of_decide_eq_true h2
      exact this.2
    unfold colV at h3
    split at h3 <;> omega)
theorem Rch.keep {w0 w : World} {hs hs' : List (Nat × TypeId × List Int)} (h : Rch w0 hs w) (hsub : ∀ x ∈ hs', x ∈ hs) : Rch w0 hs' w := ⟨h.env, h.bel, fun x hx => h.held x (hsub x hx)⟩
theorem of0 {b : List Int} : bsum (fun q => q == 0) b 64 = 0 :=
  bsum_zero 64 (fun i _ => by rintro ⟨h1, h2⟩; have : b.getD i 0 = 0 := by simpa using h2
                              rw [this] at h1; unfold inP at h1; omega)
theorem z64m : (Tryd.prog.info? 24).map (·.size) = some (zero64.map (Value.int .i64)).length := i24m rfl
theorem eqZZ (w : World) : (Op.equalIn 10000 24 (.agg (ints zero64)) (.agg (ints zero64))).run Tryd.prog w = .ok true w := by
  have := run_eq_ints (P := Tryd.prog) (w := w) 9998 (t := 24) (e := 3) zero64 zero64 Tryd.underlying24 Tryd.underlying3 (by kernel_rfl) (by kernel_rfl) rfl rfl
  simpa using this
theorem eqCC {w : World} (l : List Int) (h : l.length = 13) : (Op.equalIn 10000 48 (.agg (ints l)) (.agg (ints l))).run Tryd.prog w = .ok true w := by
  have := run_eq_ints (P := Tryd.prog) (w := w) 9998 (t := 48) (e := 3) l l Tryd.underlying48 Tryd.underlying3 (by kernel_rfl) (by kernel_rfl) h h
  simpa using this
def badL (m : Int) : List Int := [-1 - m, 13 + m, -9223372036854775808, 9223372036854775807]
def outL (m : Int) : List Int := [-1 - m, 64 + m, 9223372036854775807]
theorem badL_bad {m : Int} (h0 : 0 ≤ m) (h1 : m ≤ 65535) : ∀ j, j < 4 → (badL m).getD j 0 < 0 ∨ 12 < (badL m).getD j 0 := by
  intro j hj
  have hc : j = 0 ∨ j = 1 ∨ j = 2 ∨ j = 3 := by omega
  rcases hc with rfl | rfl | rfl | rfl <;> simp [badL] <;> omega
theorem outL_out {m : Int} (h0 : 0 ≤ m) (h1 : m ≤ 65535) : ∀ j, j < 3 → ¬ inS ((outL m).getD j 0) := by
  intro j hj
  have hc : j = 0 ∨ j = 1 ∨ j = 2 := by omega
  rcases hc with rfl | rfl | rfl <;> simp [outL, inS] <;> omega
set_option maxRecDepth 100000 in
set_option linter.unusedSimpArgs false in
set_option maxHeartbeats 40000000 in
theorem refuses_any (n : List Int) (hn : n.length = 64) (h8 : u8s n) (at_ far : Int) (a0 : 0 ≤ at_) (a1 : at_ ≤ 255) (m0 : 0 ≤ far) (m1 : far ≤ 65535) (w : World) (hw : EnvB w) :
    Calls Tryd.prog 9 #[.agg (intsK .u8 n), .int .u8 at_, .int .u16 far] w fun e w' => e = .returned (.bool true) ∧ Below w.heap.size w w' := by
  have hok := mdV_ok h8
  obtain ⟨b, hb⟩ : ∃ b, mdV n = b := ⟨_, rfl⟩
  rw [hb] at hok
  have lb : b.length = 64 := by rw [← hb]; exact mdV_len n
  have HB := Lib.hid hb
  have HN := Lib.hid hn
  have Hok := Lib.hid hok
  have zb : b.length = zero64.length := lb
  have ib := i24 lb
  have i1 := i29 hn
  have H8 := Lib.hid h8
  have He := Lib.hid hw
  obtain ⟨k, hk⟩ : ∃ k : Nat, at_ % 64 = (k : Int) := ⟨(at_ % 64).toNat, by omega⟩
  have k1 : k < 64 := by omega
  obtain ⟨emp, hemp⟩ : ∃ e, b.set k 0 = e := ⟨_, rfl⟩
  have lemp : emp.length = 64 := by rw [← hemp]; simpa using lb
  have zemp : emp.length = zero64.length := lemp
  have Hemp := Lib.hid hemp
  obtain ⟨c0, hc0⟩ : ∃ c, bsum (fun q => isB q 0) emp 64 = c := ⟨_, rfl⟩
  obtain ⟨c1, hc1⟩ : ∃ c, bsum (fun q => isB q 1) emp 64 = c := ⟨_, rfl⟩
  obtain ⟨cn, hcn⟩ : ∃ c, cnB emp 64 = c := ⟨_, rfl⟩
  have lcn : cn.length = 13 := by rw [← hcn]; exact cnB_len emp 64
  have Hec0 := Lib.hid hc0
  have Hec1 := Lib.hid hc1
  have Hen := Lib.hid hcn
  have Hbl := Lib.hid (badL_bad m0 m1)
  have Hol := Lib.hid (outL_out m0 m1)
  have hR := (Rch.start hw).alloc (.cells (intsK .u8 n) 29)
  have hP : Holds (w.alloc (.cells (intsK .u8 n) 29)) w.heap.size .u8 29 n := Holds.new w .u8 29 n
  clear hb hw h8 hn hok hemp hc0 hc1 hcn
  have t1 := trivial
  go_enter Tryd.func9, Tryd.ntmps9
  go_upto_region 3 with (first
    | (with_reducible refine wpl_load (g := w.heap.size) (k := .u8) (t := 29) (l := n) hP rfl 29 _ rfl rfl Tryd.underlying29 i1 ?_)
    | (go_at_call 14; refine (made_R hR HN.out H8.out).mono ?_; clear hR; rintro e wa ⟨rfl, hR⟩; rw [HB.out])
    | (have _t := t1; with_reducible refine wpl_storeAt' hR 24 zero64 b (by with_unfolding_all rfl) (by simp) rfl 24 _ _ rfl rfl rfl zb z64_info ?_; clear hR t1 _t; intro wb z4 y4 hR)
    | (with_reducible refine wpl_storeAt' hR 24 zero64 b (by with_unfolding_all rfl) (by simp) rfl 24 _ _ rfl rfl rfl zb z64_info ?_; clear hR; intro wd z5 y5 hR)
    | (with_reducible refine wpl_loadG hR.hd (by with_unfolding_all rfl) 24 _ rfl rfl Tryd.underlying24 ib ?_))
  have f1 := hR.hd.cell k (by omega)
  have f2 := hR.hd.frozen k
  go_upto_region 4 with fail
  have hR2 := hR.setc He.out z5 y5 k 0
  rw [Hemp.out] at hR2
  clear f1 f2 hR
  generalize World.setCell _ _ _ = w5 at *
  obtain ⟨xs, hxs⟩ : ∃ xs, badL far = xs := ⟨_, rfl⟩
  have lxs : xs.length = 4 := by rw [← hxs]; rfl
  have Hxs := Lib.hid hxs
  rw [hxs] at Hbl
  clear hxs
  go_wp2_with fail
  generalize hW : World.alloc _ _ = w6
  have hR3 : Rch w [(w5.heap.size, 3, badL far), (wb.heap.size, 24, emp), (wa.heap.size, 24, b)] w6 := by rw [← hW]; exact hR2.held_new 3 (badL far)
  rw [Hxs.out] at hR3
  clear hW hR2 z4 y4 z5 y5
  generalize wa.heap.size = gb at *
  generalize w5.heap.size = gs at *
  generalize wb.heap.size = ge at *
  go_loopg [44] 4 (fun mm i wr => ∃ j : Nat, mm = 4 - j ∧ j ≤ 4 ∧ i = .int .i64 j ∧ Rch w [(gs, 3, xs), (ge, 24, emp), (gb, 24, b)] wr)
  case atStart => exact ⟨0, rfl, by omega, rfl, hR3⟩
  case round =>
    clear hR3
    obtain ⟨j, hkm, hj, rfl, hR⟩ := hrel
    have HK := Lib.hid hkm
    clear hkm
    by_cases hlt : j < 4
    · have hdi : decide ((j : Int) < 4) = true := by simp; omega
      have f1 := hR.hd.cell j (by omega)
      have hxb := Hbl.out j hlt
      generalize xs.getD j 0 = x at f1 hxb
      obtain ⟨bad, hbad⟩ : ∃ e, b.set k x = e := ⟨_, rfl⟩
      have lbad : bad.length = 64 := by rw [← hbad]; simpa using lb
      have h1 := bad_nok lb k1 hxb
      have h2 := bad_of (b := bad) hxb
      have h3 := bad_col lb k1 hxb 0
      have h4 := bad_col lb k1 hxb 1
      have h5 := bad_cn lb k1 hxb
      have h6 := bad_color (b := b) hxb
      rw [hbad] at h1 h3 h4 h5
      rw [Hemp.out] at h3 h4 h5
      rw [Hec0.out] at h3
      rw [Hec1.out] at h4
      rw [Hen.out] at h5
      have Hchk := Lib.hid (chkB_f h1)
      have Hpl := Lib.hid (plV_f h1)
      have Hme : Hid (mvE bad 0 1 = 2) := Lib.hid (mv2 (.inl h1))
      have Hmv := Lib.hid (mvV_f Hme.out (by decide))
      have Hfl := Lib.hid (flV_f h1)
      have Hof := Lib.hid h2
      have Hbc0 := Lib.hid h3
      have Hbc1 := Lib.hid h4
      have Hbn := Lib.hid h5
      have Hcx := Lib.hid h6
      have Hbad := Lib.hid hbad
      have ibad := i24 lbad
      have jbad := i24m lbad
      have jemp := i24m lemp
      clear h1 h2 h3 h4 h5 h6 hbad hxb
      have t2 := trivial
      go_upto_region 9 with (first
        | (with_reducible refine wpl_loadG hR.tl.tl.hd (by with_unfolding_all rfl) 24 _ rfl rfl Tryd.underlying24 ib ?_)
        | (with_reducible refine wpl_storeAt' hR 24 zero64 b (by with_unfolding_all rfl) (by simp) rfl 24 _ _ rfl rfl rfl zb z64_info ?_; clear hR; intro we z4 y4 hR; have f2 := hR.hd.cell k (by omega); have f3 := hR.hd.frozen k))
      have hR2 := hR.setc He.out z4 y4 k x
      rw [Hbad.out] at hR2
      clear f1 f2 f3 hR z4 y4
      generalize World.setCell _ _ _ = w7 at *
      generalize wr.heap.size = gd at *
      go_upto_region 12 with (first
        | (with_reducible refine wpl_loadG hR2.hd (by with_unfolding_all rfl) 24 _ rfl rfl Tryd.underlying24 ibad ?_)
        | (with_reducible refine wpl_loadG hR2.tl.hd (by with_unfolding_all rfl) 24 _ rfl rfl Tryd.underlying24 ibad ?_)
        | (go_at_call 15; refine (place_R hR2 bad lbad).mono ?_; clear hR2; rintro e w1 ⟨rfl, hR2⟩; rw [Hpl.out, Hchk.out])
        | (go_at_call 19; refine (move_R hR2 bad lbad 0 1).mono ?_; clear hR2; rintro e w1 ⟨rfl, hR2⟩; rw [Hmv.out, Hme.out])
        | (go_at_call 33; refine (flip_R hR2 bad lbad).mono ?_; clear hR2; rintro e w1 ⟨rfl, hR2⟩; rw [Hfl.out, Hchk.out])
        | (with_reducible refine wpl_storeNew hR2 24 zero64 zero64 (by with_unfolding_all rfl) rfl 24 _ _ rfl rfl rfl rfl z64_info ?_; clear hR2; intro w2 hR2))
      have hR := hR2
      clear hR2
      have hEZ : ∀ w : World, (Op.equalIn 10000 24 (.agg (List.map (Value.int .i64) zero64).toArray) (.agg #[.int .i64 0, .int .i64 0, .int .i64 0, .int .i64 0, .int .i64 0, .int .i64 0, .int .i64 0, .int .i64 0, .int .i64 0, .int .i64 0, .int .i64 0, .int .i64 0, .int .i64 0, .int .i64 0, .int .i64 0, .int .i64 0, .int .i64 0, .int .i64 0, .int .i64 0, .int .i64 0, .int .i64 0, .int .i64 0, .int .i64 0, .int .i64 0, .int .i64 0, .int .i64 0, .int .i64 0, .int .i64 0, .int .i64 0, .int .i64 0, .int .i64 0, .int .i64 0, .int .i64 0, .int .i64 0, .int .i64 0, .int .i64 0, .int .i64 0, .int .i64 0, .int .i64 0, .int .i64 0, .int .i64 0, .int .i64 0, .int .i64 0, .int .i64 0, .int .i64 0, .int .i64 0, .int .i64 0, .int .i64 0, .int .i64 0, .int .i64 0, .int .i64 0, .int .i64 0, .int .i64 0, .int .i64 0, .int .i64 0, .int .i64 0, .int .i64 0, .int .i64 0, .int .i64 0, .int .i64 0, .int .i64 0, .int .i64 0, .int .i64 0, .int .i64 0])).run Tryd.prog w = .ok true w := eqZZ
      have hEC := fun w : World => eqCC (w := w) cn lcn
      refine wp_region_noPanic ?_
      refine wp_region_held_drew (S := fun w' => Rch w _ w') (by kernel_rfl) (hR.drew) (fun hH => ?_)
      refine takeD 0 (some 67) rfl rfl (by kernel_rfl) (by kernel_rfl) (by kernel_rfl) (fun _ _ _ h => h) (yieldsIf_load_mid (by rfl) _ _ rfl _ _ rfl _ _ (fun w h => h.tl.tl.hd.range) Tryd.underlying24 rfl jbad) hH ?_
      try simp only [Act.put, List.setIfInBounds_toArray, List.set_cons_zero, List.set_cons_succ]
      refine wpAnyH_ready (rs := [1]) (by kernel_rfl) (by simp) ?_
      refine AllReadyH.cons rfl (fun K hK => ?_) AllReadyH.nil
      go_simp
      go_at_call 17; refine (check_R hH bad lbad).mono ?_; clear hH; rintro e w' ⟨rfl, hH⟩; rw [Hchk.out]
      go_wp2_with fail
      refine hK.out _ _ (hH) (fun hH => ?_)
      clear hK K
      try simp only [Act.put, List.setIfInBounds_toArray, List.set_cons_zero, List.set_cons_succ]
      refine takeD 2 (some 69) (v := ?_) rfl rfl (by kernel_rfl) (by kernel_rfl) (by kernel_rfl) (fun _ _ _ h => h) (Or.inl ⟨by rfl, ?_⟩) hH ?_
      rotate_left
      · intro w hSw; go_simp; try with_reducible rfl
      try simp only [Act.put, List.setIfInBounds_toArray, List.set_cons_zero, List.set_cons_succ]
      refine takeD 3 (some 70) (v := ?_) rfl rfl (by kernel_rfl) (by kernel_rfl) (by kernel_rfl) (fun _ _ _ h => h) (Or.inl ⟨by rfl, ?_⟩) hH ?_
      rotate_left
      · intro w hSw; go_simp; try with_reducible rfl
      try simp only [Act.put, List.setIfInBounds_toArray, List.set_cons_zero, List.set_cons_succ]
      refine takeD 4 (some 71) (v := ?_) rfl rfl (by kernel_rfl) (by kernel_rfl) (by kernel_rfl) (fun _ _ _ h => h) (Or.inl ⟨by rfl, ?_⟩) hH ?_
      rotate_left
      · intro w hSw; go_simp; try with_reducible rfl
      try simp only [Act.put, List.setIfInBounds_toArray, List.set_cons_zero, List.set_cons_succ]
      refine takeD 5 (some 72) (v := ?_) rfl rfl (by kernel_rfl) (by kernel_rfl) (by kernel_rfl) (fun _ _ _ h => h) (Or.inl ⟨by rfl, ?_⟩) hH ?_
      rotate_left
      · intro w hSw; go_simp; try with_reducible rfl
      try simp only [Act.put, List.setIfInBounds_toArray, List.set_cons_zero, List.set_cons_succ]
      refine takeD 6 (some 73) (v := ?_) rfl rfl (by kernel_rfl) (by kernel_rfl) (by kernel_rfl) (fun _ _ _ h => h) (Or.inl ⟨by rfl, ?_⟩) hH ?_
      rotate_left
      · intro w hSw; go_simp; try with_reducible rfl
      try simp only [Act.put, List.setIfInBounds_toArray, List.set_cons_zero, List.set_cons_succ]
      refine takeD 7 (some 74) (v := ?_) rfl rfl (by kernel_rfl) (by kernel_rfl) (by kernel_rfl) (fun _ _ _ h => h) (Or.inl ⟨by rfl, ?_⟩) hH ?_
      rotate_left
      · intro w hSw; go_simp; try with_reducible rfl
      try simp only [Act.put, List.setIfInBounds_toArray, List.set_cons_zero, List.set_cons_succ]
      refine takeD 8 (some 75) (v := ?_) rfl rfl (by kernel_rfl) (by kernel_rfl) (by kernel_rfl) (fun _ _ _ h => h) (Or.inl ⟨by rfl, ?_⟩) hH ?_
      rotate_left
      · intro w hSw; go_simp; try with_reducible rfl
      try simp only [Act.put, List.setIfInBounds_toArray, List.set_cons_zero, List.set_cons_succ]
      refine takeD 9 (some 76) (v := ?_) rfl rfl (by kernel_rfl) (by kernel_rfl) (by kernel_rfl) (fun _ _ _ h => h) (Or.inl ⟨by rfl, ?_⟩) hH ?_
      rotate_left
      · intro w hSw; go_simp; try with_reducible rfl
      try simp only [Act.put, List.setIfInBounds_toArray, List.set_cons_zero, List.set_cons_succ]
      refine takeD 10 (some 77) (v := ?_) rfl rfl (by kernel_rfl) (by kernel_rfl) (by kernel_rfl) (fun _ _ _ h => h) (Or.inl ⟨by rfl, ?_⟩) hH ?_
      rotate_left
      · intro w hSw; go_simp; try with_reducible rfl
      try simp only [Act.put, List.setIfInBounds_toArray, List.set_cons_zero, List.set_cons_succ]
      refine takeD 11 (some 78) (v := ?_) rfl rfl (by kernel_rfl) (by kernel_rfl) (by kernel_rfl) (fun _ _ _ h => h) (Or.inl ⟨by rfl, ?_⟩) hH ?_
      rotate_left
      · intro w hSw; go_simp; try with_reducible rfl
      try simp only [Act.put, List.setIfInBounds_toArray, List.set_cons_zero, List.set_cons_succ]
      refine takeD 12 (some 79) rfl rfl (by kernel_rfl) (by kernel_rfl) (by kernel_rfl) (fun _ _ _ h => h) (yieldsIf_load_mid (by rfl) _ _ rfl _ _ rfl _ _ (fun w h => h.tl.hd.range) Tryd.underlying24 rfl z64m) hH ?_
      try simp only [Act.put, List.setIfInBounds_toArray, List.set_cons_zero, List.set_cons_succ]
      refine takeD 13 (some 80) (v := ?_) rfl rfl (by kernel_rfl) (by kernel_rfl) (by kernel_rfl) (fun _ _ _ h => h) (Or.inl ⟨by rfl, ?_⟩) hH ?_
      rotate_left
      · intro w hSw; go_simp; try with_reducible rfl
      try simp only [Act.put, List.setIfInBounds_toArray, List.set_cons_zero, List.set_cons_succ]
      refine takeD 14 (some 81) (v := ?_) rfl rfl (by kernel_rfl) (by kernel_rfl) (by kernel_rfl) (fun _ _ _ h => h) (Or.inl ⟨by rfl, ?_⟩) hH ?_
      rotate_left
      · intro w hSw; go_simp; try with_reducible rfl
      try simp only [Act.put, List.setIfInBounds_toArray, List.set_cons_zero, List.set_cons_succ]
      refine takeD 15 (some 82) (v := ?_) rfl rfl (by kernel_rfl) (by kernel_rfl) (by kernel_rfl) (fun _ _ _ h => h) (Or.inl ⟨by rfl, ?_⟩) hH ?_
      rotate_left
      · intro w hSw; go_simp; try with_reducible rfl
      try simp only [Act.put, List.setIfInBounds_toArray, List.set_cons_zero, List.set_cons_succ]
      refine takeD 16 (some 83) (v := ?_) rfl rfl (by kernel_rfl) (by kernel_rfl) (by kernel_rfl) (fun _ _ _ h => h) (Or.inl ⟨by rfl, ?_⟩) hH ?_
      rotate_left
      · intro w hSw; go_simp; try with_reducible rfl
      try simp only [Act.put, List.setIfInBounds_toArray, List.set_cons_zero, List.set_cons_succ]
      refine takeD 17 (some 84) (v := ?_) rfl rfl (by kernel_rfl) (by kernel_rfl) (by kernel_rfl) (fun _ _ _ h => h) (Or.inl ⟨by rfl, ?_⟩) hH ?_
      rotate_left
      · intro w hSw; go_simp; try with_reducible rfl
      try simp only [Act.put, List.setIfInBounds_toArray, List.set_cons_zero, List.set_cons_succ]
      refine takeD 18 (some 85) (v := ?_) rfl rfl (by kernel_rfl) (by kernel_rfl) (by kernel_rfl) (fun _ _ _ h => h) (Or.inl ⟨by rfl, ?_⟩) hH ?_
      rotate_left
      · intro w hSw; go_simp; try with_reducible rfl
      try simp only [Act.put, List.setIfInBounds_toArray, List.set_cons_zero, List.set_cons_succ]
      refine takeD 19 (some 86) (v := ?_) rfl rfl (by kernel_rfl) (by kernel_rfl) (by kernel_rfl) (fun _ _ _ h => h) (Or.inl ⟨by rfl, ?_⟩) hH ?_
      rotate_left
      · intro w hSw; go_simp; try with_reducible rfl
      try simp only [Act.put, List.setIfInBounds_toArray, List.set_cons_zero, List.set_cons_succ]
      refine takeD 20 (some 87) (v := ?_) rfl rfl (by kernel_rfl) (by kernel_rfl) (by kernel_rfl) (fun _ _ _ h => h) (Or.inl ⟨by rfl, ?_⟩) hH ?_
      rotate_left
      · intro w hSw; go_simp; try with_reducible rfl
      try simp only [Act.put, List.setIfInBounds_toArray, List.set_cons_zero, List.set_cons_succ]
      refine takeD 21 (some 88) rfl rfl (by kernel_rfl) (by kernel_rfl) (by kernel_rfl) (fun _ _ _ h => h) (yieldsIf_load_mid (by rfl) _ _ rfl _ _ rfl _ _ (fun w h => h.hd.range) Tryd.underlying24 rfl z64m) hH ?_
      try simp only [Act.put, List.setIfInBounds_toArray, List.set_cons_zero, List.set_cons_succ]
      refine takeD 22 (some 89) (v := ?_) rfl rfl (by kernel_rfl) (by kernel_rfl) (by kernel_rfl) (fun _ _ _ h => h) (Or.inl ⟨by rfl, ?_⟩) hH ?_
      rotate_left
      · intro w hSw; go_simp; try with_reducible rfl
      try simp only [Act.put, List.setIfInBounds_toArray, List.set_cons_zero, List.set_cons_succ]
      refine takeD 23 (some 90) (v := ?_) rfl rfl (by kernel_rfl) (by kernel_rfl) (by kernel_rfl) (fun _ _ _ h => h) (Or.inl ⟨by rfl, ?_⟩) hH ?_
      rotate_left
      · intro w hSw; go_simp; try with_reducible rfl
      try simp only [Act.put, List.setIfInBounds_toArray, List.set_cons_zero, List.set_cons_succ]
      refine takeD 24 (some 91) (v := ?_) rfl rfl (by kernel_rfl) (by kernel_rfl) (by kernel_rfl) (fun _ _ _ h => h) (Or.inl ⟨by rfl, ?_⟩) hH ?_
      rotate_left
      · intro w hSw; go_simp; try with_reducible rfl
      try simp only [Act.put, List.setIfInBounds_toArray, List.set_cons_zero, List.set_cons_succ]
      refine takeD 25 (some 92) (v := ?_) rfl rfl (by kernel_rfl) (by kernel_rfl) (by kernel_rfl) (fun _ _ _ h => h) (Or.inl ⟨by rfl, ?_⟩) hH ?_
      rotate_left
      · intro w hSw; go_simp; try with_reducible rfl
      try simp only [Act.put, List.setIfInBounds_toArray, List.set_cons_zero, List.set_cons_succ]
      refine takeD 26 (some 93) (v := ?_) rfl rfl (by kernel_rfl) (by kernel_rfl) (by kernel_rfl) (fun _ _ _ h => h) (Or.inl ⟨by rfl, ?_⟩) hH ?_
      rotate_left
      · intro w hSw; go_simp; try with_reducible rfl
      try simp only [Act.put, List.setIfInBounds_toArray, List.set_cons_zero, List.set_cons_succ]
      refine takeD 27 (some 94) (v := ?_) rfl rfl (by kernel_rfl) (by kernel_rfl) (by kernel_rfl) (fun _ _ _ h => h) (Or.inl ⟨by rfl, ?_⟩) hH ?_
      rotate_left
      · intro w hSw; go_simp; try with_reducible rfl
      try simp only [Act.put, List.setIfInBounds_toArray, List.set_cons_zero, List.set_cons_succ]
      refine takeD 28 (some 95) (v := ?_) rfl rfl (by kernel_rfl) (by kernel_rfl) (by kernel_rfl) (fun _ _ _ h => h) (Or.inl ⟨by rfl, ?_⟩) hH ?_
      rotate_left
      · intro w hSw; go_simp; try with_reducible rfl
      try simp only [Act.put, List.setIfInBounds_toArray, List.set_cons_zero, List.set_cons_succ]
      refine takeD 29 (some 96) (v := ?_) rfl rfl (by kernel_rfl) (by kernel_rfl) (by kernel_rfl) (fun _ _ _ h => h) (Or.inl ⟨by rfl, ?_⟩) hH ?_
      rotate_left
      · intro w hSw; go_simp; try with_reducible rfl
      try simp only [Act.put, List.setIfInBounds_toArray, List.set_cons_zero, List.set_cons_succ]
      refine takeD 30 (some 97) rfl rfl (by kernel_rfl) (by kernel_rfl) (by kernel_rfl) (fun _ _ _ h => h) (yieldsIf_load_mid (by rfl) _ _ rfl _ _ rfl _ _ (fun w h => h.tl.tl.hd.range) Tryd.underlying24 rfl jbad) hH ?_
      try simp only [Act.put, List.setIfInBounds_toArray, List.set_cons_zero, List.set_cons_succ]
      refine takeD 31 (some 98) (v := ?_) rfl rfl (by kernel_rfl) (by kernel_rfl) (by kernel_rfl) (fun _ _ _ h => h) (Or.inl ⟨by rfl, ?_⟩) hH ?_
      rotate_left
      · intro w hSw; go_simp; try with_reducible rfl
      try simp only [Act.put, List.setIfInBounds_toArray, List.set_cons_zero, List.set_cons_succ]
      refine wpAnyH_ready (rs := [32]) (by kernel_rfl) (by simp) ?_
      refine AllReadyH.cons rfl (fun K hK => ?_) AllReadyH.nil
      go_simp
      go_at_call 24; refine (of_R hH bad lbad x).mono ?_; clear hH; rintro e w' ⟨rfl, hH⟩; rw [Hof.out]
      go_wp2_with fail
      refine hK.out _ _ (hH) (fun hH => ?_)
      clear hK K
      try simp only [Act.put, List.setIfInBounds_toArray, List.set_cons_zero, List.set_cons_succ]
      refine takeD 33 (some 100) (v := ?_) rfl rfl (by kernel_rfl) (by kernel_rfl) (by kernel_rfl) (fun _ _ _ h => h) (Or.inl ⟨by rfl, ?_⟩) hH ?_
      rotate_left
      · intro w hSw; go_simp; try with_reducible rfl
      try simp only [Act.put, List.setIfInBounds_toArray, List.set_cons_zero, List.set_cons_succ]
      refine takeD 34 (some 101) (v := ?_) rfl rfl (by kernel_rfl) (by kernel_rfl) (by kernel_rfl) (fun _ _ _ h => h) (Or.inl ⟨by rfl, ?_⟩) hH ?_
      rotate_left
      · intro w hSw; go_simp; try with_reducible rfl
      try simp only [Act.put, List.setIfInBounds_toArray, List.set_cons_zero, List.set_cons_succ]
      refine takeD 35 (some 102) (v := ?_) rfl rfl (by kernel_rfl) (by kernel_rfl) (by kernel_rfl) (fun _ _ _ h => h) (Or.inl ⟨by rfl, ?_⟩) hH ?_
      rotate_left
      · intro w hSw; go_simp; try with_reducible rfl
      try simp only [Act.put, List.setIfInBounds_toArray, List.set_cons_zero, List.set_cons_succ]
      refine takeD 36 (some 103) rfl rfl (by kernel_rfl) (by kernel_rfl) (by kernel_rfl) (fun _ _ _ h => h) (yieldsIf_load_mid (by rfl) _ _ rfl _ _ rfl _ _ (fun w h => h.tl.tl.hd.range) Tryd.underlying24 rfl jbad) hH ?_
      try simp only [Act.put, List.setIfInBounds_toArray, List.set_cons_zero, List.set_cons_succ]
      refine takeD 38 (some 105) rfl rfl (by kernel_rfl) (by kernel_rfl) (by kernel_rfl) (fun _ _ _ h => h) (yieldsIf_load_mid (by rfl) _ _ rfl _ _ rfl _ _ (fun w h => h.tl.tl.tl.tl.hd.range) Tryd.underlying24 rfl jemp) hH ?_
      try simp only [Act.put, List.setIfInBounds_toArray, List.set_cons_zero, List.set_cons_succ]
      refine wpAnyH_ready (rs := [37]) (by kernel_rfl) (by simp) ?_
      refine AllReadyH.cons rfl (fun K hK => ?_) AllReadyH.nil
      go_simp
      go_at_call 26; refine (color_R hH bad lbad 0).mono ?_; clear hH; rintro e w' ⟨rfl, hH⟩; rw [Hbc0.out]
      go_wp2_with fail
      refine hK.out _ _ (hH) (fun hH => ?_)
      clear hK K
      try simp only [Act.put, List.setIfInBounds_toArray, List.set_cons_zero, List.set_cons_succ]
      refine wpAnyH_ready (rs := [39]) (by kernel_rfl) (by simp) ?_
      refine AllReadyH.cons rfl (fun K hK => ?_) AllReadyH.nil
      go_simp
      go_at_call 26; refine (color_R hH emp lemp 0).mono ?_; clear hH; rintro e w' ⟨rfl, hH⟩; rw [Hec0.out]
      go_wp2_with fail
      refine hK.out _ _ (hH) (fun hH => ?_)
      clear hK K
      try simp only [Act.put, List.setIfInBounds_toArray, List.set_cons_zero, List.set_cons_succ]
      refine takeD 40 (some 107) (v := ?_) rfl rfl (by kernel_rfl) (by kernel_rfl) (by kernel_rfl) (fun _ _ _ h => h) (Or.inl ⟨by rfl, ?_⟩) hH ?_
      rotate_left
      · intro w hSw; go_simp; try with_reducible rfl
      try simp only [Act.put, List.setIfInBounds_toArray, List.set_cons_zero, List.set_cons_succ]
      refine takeD 41 (some 108) (v := ?_) rfl rfl (by kernel_rfl) (by kernel_rfl) (by kernel_rfl) (fun _ _ _ h => h) (Or.inl ⟨by rfl, ?_⟩) hH ?_
      rotate_left
      · intro w hSw; go_simp; try with_reducible rfl
      try simp only [Act.put, List.setIfInBounds_toArray, List.set_cons_zero, List.set_cons_succ]
      refine takeD 42 (some 109) (v := ?_) rfl rfl (by kernel_rfl) (by kernel_rfl) (by kernel_rfl) (fun _ _ _ h => h) (Or.inl ⟨by rfl, ?_⟩) hH ?_
      rotate_left
      · intro w hSw; go_simp; try with_reducible rfl
      try simp only [Act.put, List.setIfInBounds_toArray, List.set_cons_zero, List.set_cons_succ]
      refine takeD 43 (some 110) rfl rfl (by kernel_rfl) (by kernel_rfl) (by kernel_rfl) (fun _ _ _ h => h) (yieldsIf_load_mid (by rfl) _ _ rfl _ _ rfl _ _ (fun w h => h.tl.tl.hd.range) Tryd.underlying24 rfl jbad) hH ?_
      try simp only [Act.put, List.setIfInBounds_toArray, List.set_cons_zero, List.set_cons_succ]
      refine takeD 45 (some 112) rfl rfl (by kernel_rfl) (by kernel_rfl) (by kernel_rfl) (fun _ _ _ h => h) (yieldsIf_load_mid (by rfl) _ _ rfl _ _ rfl _ _ (fun w h => h.tl.tl.tl.tl.hd.range) Tryd.underlying24 rfl jemp) hH ?_
      try simp only [Act.put, List.setIfInBounds_toArray, List.set_cons_zero, List.set_cons_succ]
      refine wpAnyH_ready (rs := [44]) (by kernel_rfl) (by simp) ?_
      refine AllReadyH.cons rfl (fun K hK => ?_) AllReadyH.nil
      go_simp
      go_at_call 26; refine (color_R hH bad lbad 1).mono ?_; clear hH; rintro e w' ⟨rfl, hH⟩; rw [Hbc1.out]
      go_wp2_with fail
      refine hK.out _ _ (hH) (fun hH => ?_)
      clear hK K
      try simp only [Act.put, List.setIfInBounds_toArray, List.set_cons_zero, List.set_cons_succ]
      refine wpAnyH_ready (rs := [46]) (by kernel_rfl) (by simp) ?_
      refine AllReadyH.cons rfl (fun K hK => ?_) AllReadyH.nil
      go_simp
      go_at_call 26; refine (color_R hH emp lemp 1).mono ?_; clear hH; rintro e w' ⟨rfl, hH⟩; rw [Hec1.out]
      go_wp2_with fail
      refine hK.out _ _ (hH) (fun hH => ?_)
      clear hK K
      try simp only [Act.put, List.setIfInBounds_toArray, List.set_cons_zero, List.set_cons_succ]
      refine takeD 47 (some 114) (v := ?_) rfl rfl (by kernel_rfl) (by kernel_rfl) (by kernel_rfl) (fun _ _ _ h => h) (Or.inl ⟨by rfl, ?_⟩) hH ?_
      rotate_left
      · intro w hSw; go_simp; try with_reducible rfl
      try simp only [Act.put, List.setIfInBounds_toArray, List.set_cons_zero, List.set_cons_succ]
      refine takeD 48 (some 115) (v := ?_) rfl rfl (by kernel_rfl) (by kernel_rfl) (by kernel_rfl) (fun _ _ _ h => h) (Or.inl ⟨by rfl, ?_⟩) hH ?_
      rotate_left
      · intro w hSw; go_simp; try with_reducible rfl
      try simp only [Act.put, List.setIfInBounds_toArray, List.set_cons_zero, List.set_cons_succ]
      refine takeD 49 (some 116) (v := ?_) rfl rfl (by kernel_rfl) (by kernel_rfl) (by kernel_rfl) (fun _ _ _ h => h) (Or.inl ⟨by rfl, ?_⟩) hH ?_
      rotate_left
      · intro w hSw; go_simp; try with_reducible rfl
      try simp only [Act.put, List.setIfInBounds_toArray, List.set_cons_zero, List.set_cons_succ]
      refine takeD 50 (some 117) rfl rfl (by kernel_rfl) (by kernel_rfl) (by kernel_rfl) (fun _ _ _ h => h) (yieldsIf_load_mid (by rfl) _ _ rfl _ _ rfl _ _ (fun w h => h.tl.tl.hd.range) Tryd.underlying24 rfl jbad) hH ?_
      try simp only [Act.put, List.setIfInBounds_toArray, List.set_cons_zero, List.set_cons_succ]
      refine takeD 52 (some 119) rfl rfl (by kernel_rfl) (by kernel_rfl) (by kernel_rfl) (fun _ _ _ h => h) (yieldsIf_load_mid (by rfl) _ _ rfl _ _ rfl _ _ (fun w h => h.tl.tl.tl.tl.hd.range) Tryd.underlying24 rfl jemp) hH ?_
      try simp only [Act.put, List.setIfInBounds_toArray, List.set_cons_zero, List.set_cons_succ]
      refine wpAnyH_ready (rs := [51]) (by kernel_rfl) (by simp) ?_
      refine AllReadyH.cons rfl (fun K hK => ?_) AllReadyH.nil
      go_simp
      go_at_call 28; refine (count_R hH bad lbad).mono ?_; clear hH; rintro e w' ⟨rfl, hH⟩; rw [Hbn.out]
      go_wp2_with fail
      refine hK.out _ _ (hH) (fun hH => ?_)
      clear hK K
      try simp only [Act.put, List.setIfInBounds_toArray, List.set_cons_zero, List.set_cons_succ]
      refine wpAnyH_ready (rs := [53]) (by kernel_rfl) (by simp) ?_
      refine AllReadyH.cons rfl (fun K hK => ?_) AllReadyH.nil
      go_simp
      go_at_call 28; refine (count_R hH emp lemp).mono ?_; clear hH; rintro e w' ⟨rfl, hH⟩; rw [Hen.out]
      go_wp2_with fail
      refine hK.out _ _ (hH) (fun hH => ?_)
      clear hK K
      try simp only [Act.put, List.setIfInBounds_toArray, List.set_cons_zero, List.set_cons_succ]
      refine takeD 54 (some 121) (v := ?_) rfl rfl (by kernel_rfl) (by kernel_rfl) (by kernel_rfl) (fun _ _ _ h => h) (Or.inl ⟨by rfl, ?_⟩) hH ?_
      rotate_left
      · intro w hSw; go_simp; try with_reducible rfl
      try simp only [Act.put, List.setIfInBounds_toArray, List.set_cons_zero, List.set_cons_succ]
      refine takeD 55 (some 122) (v := ?_) rfl rfl (by kernel_rfl) (by kernel_rfl) (by kernel_rfl) (fun _ _ _ h => h) (Or.inl ⟨by rfl, ?_⟩) hH ?_
      rotate_left
      · intro w hSw; go_simp; try with_reducible rfl
      try simp only [Act.put, List.setIfInBounds_toArray, List.set_cons_zero, List.set_cons_succ]
      refine wpAnyH_done (by kernel_rfl) ?_ _
      refine NoPanic.normal ?_
      clear hEZ hEC
      have hR := hH.tl.tl.tl
      clear hH
      go_wp2_with (first
        | (with_reducible refine wpl_loadG hR.tl.tl.hd (by with_unfolding_all rfl) 24 _ rfl rfl Tryd.underlying24 ib ?_)
        | (go_at_call 26; refine (color_R hR b lb x).mono ?_; clear hR; rintro e w1 ⟨rfl, hR⟩; rw [Hcx.out]))
      go_roundg (4 - (j + 1))
      case measure => have := HK.out; omega
      case rel => exact ⟨j + 1, rfl, by omega, by go_num, hR⟩
    · have h4 : j = 4 := by omega
      subst h4
      obtain ⟨ys, hys⟩ : ∃ xs, outL far = xs := ⟨_, rfl⟩
      have lys : ys.length = 3 := by rw [← hys]; rfl
      have Hys := Lib.hid hys
      rw [hys] at Hol
      clear hys
      go_wp2_with fail
      generalize hW : World.alloc _ _ = w6
      have hR3 : Rch w [(wr.heap.size, 3, outL far), (gs, 3, xs), (ge, 24, emp), (gb, 24, b)] w6 := by rw [← hW]; exact hR.held_new 3 (outL far)
      rw [Hys.out] at hR3
      clear hW hR
      generalize wr.heap.size = gt at *
      go_loopg [142] 3 (fun mm i wr => ∃ j : Nat, mm = 3 - j ∧ j ≤ 3 ∧ i = .int .i64 j ∧ Rch w [(gt, 3, ys), (gs, 3, xs), (ge, 24, emp), (gb, 24, b)] wr)
      case atStart => exact ⟨0, rfl, by omega, rfl, hR3⟩
      case round =>
        clear hR3
        obtain ⟨j, hkm, hj, rfl, hR⟩ := hrel
        have HK := Lib.hid hkm
        clear hkm
        by_cases hlt : j < 3
        · have hdi : decide ((j : Int) < 3) = true := by simp; omega
          have f1 := hR.hd.cell j (by omega)
          have hxb := Hol.out j hlt
          generalize ys.getD j 0 = x at f1 hxb
          have hx3 : x ≠ 3 := fun e => hxb (by rw [e]; decide)
          have Hme1 : Hid (mvE b x 3 = 3) := Lib.hid (mv3 Hok.out hx3 (.inl hxb))
          have Hmv1 := Lib.hid (mvV_f Hme1.out (by decide))
          have Hme2 : Hid (mvE b 3 x = 3) := Lib.hid (mv3 Hok.out (fun e => hx3 e.symm) (.inr hxb))
          have Hmv2 := Lib.hid (mvV_f Hme2.out (by decide))
          clear hxb hx3
          have t2 := trivial
          go_wp2_with (first
            | (with_reducible refine wpl_loadG hR.tl.tl.tl.hd (by with_unfolding_all rfl) 24 _ rfl rfl Tryd.underlying24 ib ?_)
            | (with_reducible refine wpl_loadG hR.tl.tl.tl.tl.hd (by with_unfolding_all rfl) 24 _ rfl rfl Tryd.underlying24 ib ?_)
            | (with_reducible refine wpl_loadG hR.hd (by with_unfolding_all rfl) 24 _ rfl rfl Tryd.underlying24 z64_info ?_)
            | (with_reducible refine wpl_loadG hR.tl.hd (by with_unfolding_all rfl) 24 _ rfl rfl Tryd.underlying24 z64_info ?_)
            | (have _t := t2; go_at_call 19; refine (move_R hR b lb x 3).mono ?_; clear hR t2 _t; rintro e w1 ⟨rfl, hR⟩; rw [Hmv1.out, Hme1.out])
            | (go_at_call 19; refine (move_R hR b lb 3 x).mono ?_; clear hR; rintro e w1 ⟨rfl, hR⟩; rw [Hmv2.out, Hme2.out])
            | (with_reducible refine wpl_storeNew hR 24 zero64 zero64 (by with_unfolding_all rfl) rfl 24 _ _ rfl rfl rfl rfl z64_info ?_; clear hR; intro w2 hR)
            | (with_reducible refine wpl_neB z64_ln z64_ln rfl (by with_unfolding_all rfl) _ _ _ rfl rfl (by with_unfolding_all rfl) ?_))
          go_roundg (3 - (j + 1))
          case measure => have := HK.out; omega
          case rel => exact ⟨j + 1, rfl, by omega, by go_num, hR.tl.tl⟩
        · have h3 : j = 3 := by omega
          subst h3
          have hkn : ¬ ((2 + far = 0 ∨ 2 + far = 1) ∧ ocN (kgS b (2 + far)) = 1) := fun h => by have := h.1; omega
          have Hk1 := Lib.hid (kg_f hkn).1
          have Hk2 := Lib.hid (kg_f hkn).2
          have Hof0 := Lib.hid (of0 (b := b))
          have Hof1 := Lib.hid (bad_of (b := b) (x := 13 + far) (by omega))
          have Hof2 := Lib.hid (bad_of (b := b) (x := -1 - far) (by omega))
          clear hkn
          have t3 := trivial
          have t4 := trivial
          go_wp2_with (first
            | (with_reducible refine wpl_loadG hR.tl.tl.tl.hd (by with_unfolding_all rfl) 24 _ rfl rfl Tryd.underlying24 ib ?_)
            | (go_at_call 21; refine (king_R hR b lb (2 + far)).mono ?_; clear hR; rintro e w1 ⟨rfl, hR⟩; rw [Hk1.out, Hk2.out])
            | (have _t := t3; go_at_call 24; refine (of_R hR b lb 0).mono ?_; clear hR t3 _t; rintro e w1 ⟨rfl, hR⟩; rw [Hof0.out])
            | (have _t := t4; go_at_call 24; refine (of_R hR b lb (13 + far)).mono ?_; clear hR t4 _t; rintro e w1 ⟨rfl, hR⟩; rw [Hof1.out])
            | (go_at_call 24; refine (of_R hR b lb (-1 - far)).mono ?_; clear hR; rintro e w1 ⟨rfl, hR⟩; rw [Hof2.out])
            | (go_at_call 11; refine (works_R hR).mono ?_; clear hR; rintro e w1 ⟨rfl, hR⟩))
          go_ret
          exact ⟨rfl, hR.bel⟩
end Go.Proofs.YthbbnhhofkadgaaDoor
