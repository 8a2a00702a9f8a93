/- The contracts of script.Word and script.Plan. -/
import Derived.Test.YtjjnjglbmneecaaDoorSda
namespace Go.Proofs.YtjjnjglbmneecaaDoor
open Go Go.RowKit
def wordK (k : Int) : List UInt8 := if 0 < k ∧ k < 10 then wordL k.toNat else []
set_option maxHeartbeats 1000000 in
theorem word_any {w : World} (hw : EnvS w) (k : Int) : Calls Tryd.prog 31 #[.int .i64 k] w fun e w' => e = .returned (.string ⟨(wordK k).toArray⟩) ∧ w = w' := by
  have HK := Lib.hid (fun W : World => known_any k W)
  by_cases hk : 0 < k ∧ k < 10
  · rw [decide_eq_true hk] at HK
    have e : wordK k = wordL k.toNat := if_pos hk
    rw [e]
    obtain ⟨n, rfl⟩ : ∃ n : Nat, k = n := ⟨k.toNat, by omega⟩
    obtain ⟨a, b, c, q0, q1, q2, q3⟩ := hw.cells n (by omega)
    rw [Int.toNat_natCast]
    have hn : n < 10 := by omega
    clear e q1 q2 q3 hk
    go_enter Tryd.func31, Tryd.ntmps31
    go_wp2_with (go_at_call 47; refine (HK.out _).mono ?_; rintro e w' ⟨rfl, rfl⟩)
    go_ret
    exact ⟨rfl, rfl⟩
  · rw [decide_eq_false hk] at HK
    have e : wordK k = [] := if_neg hk
    rw [e]
    clear e hk
    go_enter Tryd.func31, Tryd.ntmps31
    go_wp2_with (go_at_call 47; refine (HK.out _).mono ?_; rintro e w' ⟨rfl, rfl⟩)
    go_ret
    exact ⟨rfl, rfl⟩
theorem plan_res {tmps : Array Value} {W : World} {g : Nat} {x sl : Value} {e : Int} {fn : Func} {p q : Tmp} (h : fn.results = #[.cell p 50, .tmp q]) (hp : tmps.getD p undef = .pointer (some ⟨g, 0, none⟩)) (hq : tmps.getD q undef = .int .i64 e) (hg : Rw W g 50 #[x, sl]) :
    (results fn tmps).run Tryd.prog W = .ok (.tuple #[.agg #[x, sl], .int .i64 e]) W := by
  have hp' : tmps[p]?.getD undef = .pointer (some ⟨g, 0, none⟩) := by simpa using hp
  have hq' : tmps[q]?.getD undef = .int .i64 e := by simpa using hq
  obtain ⟨c0, c1, _⟩ := hg.facts2
  simp [results, h, hp', hq', asAddr, go_sem, c0, c1]
theorem below_set2 {B : Nat} {w0 w : World} {g : Nat} (h : Below B w0 w) (hg : B ≤ g) (a b : Value) : Below B w0 ((w.setCell ⟨g, 0, none⟩ a).setCell ⟨g, 1, none⟩ b) := (h.setCell (p := ⟨g, 0, none⟩) hg a).setCell (p := ⟨g, 1, none⟩) hg b
theorem Rw.set2 {w : World} {g : Nat} {t : TypeId} {a b a' b' : Value} (h : Rw w g t #[a, b]) : Rw ((w.setCell ⟨g, 0, none⟩ a').setCell ⟨g, 1, none⟩ b') g t #[a', b'] := (h.cell 0 a').cell 1 b'
set_option maxHeartbeats 4000000 in
theorem splan_no {w : World} (hw : EnvS w) (k a : Int) (v : ByteArray) (hv : v.size ≤ 900000) (hc : ¬ (chkZ k a v.data.toList = 0 ∧ k = 8)) :
    Calls Tryd.prog 25 #[opV k a v] w fun e w' => e = .returned (.tuple #[.agg #[.int .i64 0, .slice none 0 0], .int .i64 2]) ∧ Below w.heap.size w w' := by
  have hO := Lib.hid (Rw.new w 24 (opC k a v))
  have hB := Lib.hid (below_al w (.cells (opC k a v) 24))
  have hR := Lib.hid (Rw.new (w.alloc (.cells (opC k a v) 24)) 50 #[.int .i64 0, .slice none 0 0])
  have hO1 := Lib.hid (hO.out.alloc (.cells #[.int .i64 0, .slice none 0 0] 50))
  have hB1 := Lib.hid (hB.out.alloc hB.out.size (.cells #[.int .i64 0, .slice none 0 0] 50))
  have hW1 := Lib.hid ((hw.below hB.out).below (below_al _ (.cells #[.int .i64 0, .slice none 0 0] 50)))
  have HC := Lib.hid (check_any hW1.out k a v hv)
  obtain ⟨z, hz⟩ : ∃ z, chkZ k a v.data.toList = z := ⟨_, rfl⟩
  rw [hz] at HC hc
  clear hz
  unfold opV at HC ⊢
  by_cases hz : z = 0
  · have hk : ¬ k = 8 := fun h => hc ⟨hz, h⟩
    subst hz
    clear hc
    go_enter Tryd.func25, Tryd.ntmps25
    go_wp2_with (go_at_call 21; refine HC.out.mono ?_; rintro e w1 ⟨rfl, hE⟩; have hO2 := Lib.hid (hO1.out.below hE (by simp; omega)); have hR2 := Lib.hid (hR.out.below hE (by simp)); have hB2 := Lib.hid (hB1.out.trans (below_le hE (by simp; omega))); obtain ⟨c0, c1, c2, f0, f1, f2⟩ := hO2.out.facts; obtain ⟨d0, d1, g0, g1⟩ := hR2.out.facts2; rw [show (w.alloc (.cells (opC k a v) 24)).heap.size = w.heap.size + 1 by simp] at d0 d1 g0 g1; clear hE)
    refine bodyPost_ret (plan_res (fn := Tryd.f25) (g := w.heap.size + 1) rfl rfl rfl (by have := hR2.out.set2 (a' := .int .i64 0) (b' := .slice none 0 0); rwa [show (w.alloc (.cells (opC k a v) 24)).heap.size = w.heap.size + 1 by simp] at this)) rfl ?_
    exact ⟨rfl, below_set2 hB2.out (by omega) _ _⟩
  · clear hc
    go_enter Tryd.func25, Tryd.ntmps25
    go_wp2_with (go_at_call 21; refine HC.out.mono ?_; rintro e w1 ⟨rfl, hE⟩; have hR2 := Lib.hid (hR.out.below hE (by simp)); have hB2 := Lib.hid (hB1.out.trans (below_le hE (by simp; omega))); obtain ⟨d0, d1, g0, g1⟩ := hR2.out.facts2; rw [show (w.alloc (.cells (opC k a v) 24)).heap.size = w.heap.size + 1 by simp] at d0 d1 g0 g1; clear hE)
    refine bodyPost_ret (plan_res (fn := Tryd.f25) (g := w.heap.size + 1) rfl rfl rfl (by have := hR2.out.set2 (a' := .int .i64 0) (b' := .slice none 0 0); rwa [show (w.alloc (.cells (opC k a v) 24)).heap.size = w.heap.size + 1 by simp] at this)) rfl ?_
    exact ⟨rfl, below_set2 hB2.out (by omega) _ _⟩
theorem Nums.of_block {w w' : World} {g : Nat} {l : List Int} (h : Nums w g l) (hb : w'.heap[g]? = w.heap[g]?) : Nums w' g l := fun i hi => (World.cell?_of_block (a := ⟨g, i, none⟩) hb).trans (h i hi)
theorem chk8 {a : Int} {v : List UInt8} (h : chkZ 8 a v = 0) : ∃ l, planP v = some l ∧ drvOk a l := by
  unfold chkZ at h
  split at h
  · rename_i hh
    have hb : crashB a v = true := hh.2.2
    unfold crashB at hb
    split at hb
    · rename_i l hl; exact ⟨l, hl, by simpa using hb⟩
    · cases hb
  · exact absurd h (by decide)
set_option maxHeartbeats 4000000 in
theorem splan_ok {w : World} (hw : EnvS w) (a : Int) (v : ByteArray) (hv : v.size ≤ 900000) (hc : chkZ 8 a v.data.toList = 0) {l : List Int} (hl : planP v.data.toList = some l) :
    Calls Tryd.prog 25 #[opV 8 a v] w fun e w' => (∃ g cap, e = .returned (.tuple #[.agg #[.int .i64 a, .slice (some ⟨g, 0, none⟩) l.length cap], .int .i64 0]) ∧ w.heap.size ≤ g ∧ g < w'.heap.size ∧ l.length ≤ cap ∧ Nums w' g l) ∧ Below w.heap.size w w' := by
  have hpl := planP_len hl
  have hO := Lib.hid (Rw.new w 24 (opC 8 a v))
  have hB := Lib.hid (below_al w (.cells (opC 8 a v) 24))
  have hR := Lib.hid (Rw.new (w.alloc (.cells (opC 8 a v) 24)) 50 #[.int .i64 0, .slice none 0 0])
  have hO1 := Lib.hid (hO.out.alloc (.cells #[.int .i64 0, .slice none 0 0] 50))
  have hB1 := Lib.hid (hB.out.alloc hB.out.size (.cells #[.int .i64 0, .slice none 0 0] 50))
  have hW1 := Lib.hid ((hw.below hB.out).below (below_al _ (.cells #[.int .i64 0, .slice none 0 0] 50)))
  have HC := Lib.hid (check_any hW1.out 8 a v hv)
  rw [hc] at HC
  have HP : Hid (∀ W : World, EnvS W → Calls Tryd.prog 49 #[.agg #[.int .i64 8, .int .i64 a, .string v]] W fun e W' => Below W.heap.size W W' ∧ ∃ g cap, e = .returned (.tuple #[.agg #[.int .i64 a, .slice (some ⟨g, 0, none⟩) l.length cap], .bool true]) ∧ W.heap.size ≤ g ∧ g < W'.heap.size ∧ l.length ≤ cap ∧ Nums W' g l) := Lib.hid (fun W hW =>
    (plan_any hW 8 a v (by omega)).mono fun e W' ⟨h1, h2⟩ => ⟨h1, by
      rcases h2 with ⟨l', sl, h3, h4, h5⟩ | ⟨h3, _⟩
      · rw [hl] at h3
        obtain rfl := Option.some.inj h3
        obtain ⟨g, cap, rfl, hgb, hg, hc, hN⟩ := nums_row h5 hpl.1
        exact ⟨g, cap, h4, by omega, hg, hc, hN⟩
      · rw [hl] at h3; exact absurd h3 (by simp)⟩)
  clear hpl hc
  unfold opV at HC ⊢
  go_enter Tryd.func25, Tryd.ntmps25
  go_wp2_with (first
    | (go_at_call 21; refine HC.out.mono ?_; rintro e w1 ⟨rfl, hE⟩; have hW2 := Lib.hid (hW1.out.below hE); have hO2 := Lib.hid (hO1.out.below hE (by simp; omega)); have hR2 := Lib.hid (hR.out.below hE (by simp)); have hB2 := Lib.hid (hB1.out.trans (below_le hE (by simp; omega))); obtain ⟨c0, c1, c2, f0, f1, f2⟩ := hO2.out.facts; have hlt1 : w.heap.size + 1 < w1.heap.size := Nat.lt_of_lt_of_le (by simp) hE.size; clear hE)
    | (go_at_call 49; refine (HP.out _ hW2.out).mono ?_; rintro e w2 ⟨hE, g, cap, rfl, hg0, hg, hcp, hN⟩; have hR3 := Lib.hid (hR2.out.below hE (by simpa using hlt1)); have hB3 := Lib.hid (hB2.out.trans (below_le hE (by omega))); have hlt2 : w.heap.size + 1 < w2.heap.size := Nat.lt_of_lt_of_le hlt1 hE.size
       have hne : w.heap.size + 1 ≠ w2.heap.size := Nat.ne_of_lt hlt2
       have hN2 := Lib.hid hN
       obtain ⟨d0, d1, g0, g1⟩ := hR3.out.facts2; rw [show (w.alloc (.cells (opC 8 a v) 24)).heap.size = w.heap.size + 1 by simp] at d0 d1 g0 g1
       clear hE hN c0 c1 c2 f0 f1 f2))
  have hn1 : w.heap.size + 1 = (w.alloc (.cells (opC 8 a v) 24)).heap.size := by simp
  have hR5 := hR3.out.set2 (a' := .int .i64 a) (b' := .slice (some ⟨g, 0, none⟩) l.length cap)
  rw [← hn1] at hR5
  refine bodyPost_ret (plan_res (fn := Tryd.f25) (g := w.heap.size + 1) rfl rfl rfl (hR5.alloc _)) rfl ?_
  refine ⟨⟨g, cap, rfl, by omega, by simp; omega, hcp, ?_⟩, (below_set2 hB3.out (by omega) _ _).alloc (by simp; omega) _⟩
  refine hN2.out.of_block ?_
  rw [Lib.alloc_old _ _ _ (by simp; omega), heap_setCell_other _ _ _ _ (by simp; omega), heap_setCell_other _ _ _ _ (by simp; omega)]
end Go.Proofs.YtjjnjglbmneecaaDoor
