/- The law ScriptQuotes, walked. -/
import Derived.Test.YtjjnjglbmneecaaDoorSln
import Derived.Deep.RegionWith
namespace Go.Proofs.YtjjnjglbmneecaaDoor
open Go Go.RowKit
theorem hx_plain : ∀ n : Nat, n ≤ 15 → plainB (hx n) = true := by
  intro n hn
  have : ∀ m : Fin 16, plainB (hx m.val) = true := by decide
  exact this ⟨n, by omega⟩
theorem qB_plain (c : UInt8) : (qB c).all plainB = true := by
  have hc := c.toNat_lt
  unfold qB
  split
  · decide
  · split
    · decide
    · split
      · decide
      · split
        · decide
        · split
          · simp only [List.all_cons, List.all_nil, hx_plain (c.toNat / 16) (by omega), hx_plain (c.toNat % 16) (by omega)]; decide
          · rename_i h; simp only [List.all_cons, List.all_nil, Bool.and_true]; exact decide_eq_true (by omega)
theorem qL_plain (l : List UInt8) : (qL l).all plainB = true := by
  induction l with
  | nil => rfl
  | cons c r ih => simp only [qL, List.all_append, qB_plain, ih, Bool.and_self]
theorem bs_eta (s : ByteArray) : (⟨s.data.toList.toArray⟩ : ByteArray) = s := ByteArray.ext (by simp)
theorem bs_app (a b : List UInt8) : (⟨(a ++ b).toArray⟩ : ByteArray) = ⟨a.toArray⟩ ++ ⟨b.toArray⟩ := ByteArray.ext (Array.toList_inj.1 (by simp))
set_option maxRecDepth 100000 in
set_option maxHeartbeats 8000000 in
theorem quotes_any (s t : ByteArray) {w : World} (hw : EnvS w) : Calls Tryd.prog 5 #[.string s, .string t] w fun e w' => e = .returned (.bool true) ∧ Below w.heap.size w w' := by
  have HWk := Lib.hid (fun (W : World) (h : EnvS W) => works_any h)
  by_cases h1 : 300 < s.size
  · have d1 : decide ((300 : Int) < (s.size : Int)) = true := by simp; omega
    go_enter Tryd.func5, Tryd.ntmps5
    go_wp2_with (go_at_call 12; refine (HWk.out _ hw).mono ?_; rintro e w' ⟨rfl, hE⟩)
    go_ret
    exact ⟨rfl, hE⟩
  have d1 : decide ((300 : Int) < (s.size : Int)) = false := by simp; omega
  by_cases h2 : 300 < t.size
  · have d2 : decide ((300 : Int) < (t.size : Int)) = true := by simp; omega
    go_enter Tryd.func5, Tryd.ntmps5
    go_wp2_with (go_at_call 12; refine (HWk.out _ hw).mono ?_; rintro e w' ⟨rfl, hE⟩)
    go_ret
    exact ⟨rfl, hE⟩
  have d2 : decide ((300 : Int) < (t.size : Int)) = false := by simp; omega
  have hlen := qL_len s.data.toList
  have hss := Lib.size_eq s
  have hsz : ∀ l : List UInt8, (⟨l.toArray⟩ : ByteArray).size = l.length := fun l => by simp [ByteArray.size]
  have HQs : Hid (∀ W : World, Calls Tryd.prog 17 #[.string s] W fun e w' => e = .returned (.string ⟨(qL s.data.toList).toArray⟩) ∧ Below W.heap.size W w') := Lib.hid (fun W => quote_any s (by omega) W)
  have HQt : Hid (∀ W : World, Calls Tryd.prog 17 #[.string t] W fun e w' => e = .returned (.string ⟨(qL t.data.toList).toArray⟩) ∧ Below W.heap.size W w') := Lib.hid (fun W => quote_any t (by omega) W)
  have HQj : Hid (∀ W : World, Calls Tryd.prog 17 #[.string (s ++ t)] W fun e w' => e = .returned (.string (⟨(qL s.data.toList).toArray⟩ ++ ⟨(qL t.data.toList).toArray⟩)) ∧ Below W.heap.size W w') := Lib.hid (fun W => by
    have := quote_any (s ++ t) (by simp; omega) W
    rw [show (s ++ t).data.toList = s.data.toList ++ t.data.toList by simp, qL_app, bs_app] at this
    exact this)
  have HU : Hid (∀ W : World, Calls Tryd.prog 15 #[.string ⟨(qL s.data.toList).toArray⟩] W fun e w' => e = .returned (.tuple #[.string s, .int .i64 0]) ∧ Below W.heap.size W w') := Lib.hid (fun W => by
    have := unquote_any ⟨(qL s.data.toList).toArray⟩ (by rw [hsz]; omega) W
    unfold unqR at this
    rw [show (⟨(qL s.data.toList).toArray⟩ : ByteArray).data.toList = qL s.data.toList from rfl, unq_qL] at this
    dsimp only at this
    rw [bs_eta] at this
    exact this)
  have HP : Hid (∀ W : World, Calls Tryd.prog 22 #[.string ⟨(qL s.data.toList).toArray⟩] W fun e w' => e = .returned (.bool true) ∧ W = w') := Lib.hid (fun W => by
    have := plain_any ⟨(qL s.data.toList).toArray⟩ (by rw [hsz]; omega) W
    rw [show (⟨(qL s.data.toList).toArray⟩ : ByteArray).data.toList = qL s.data.toList from rfl, qL_plain] at this
    exact this)
  have HUs := Lib.hid (fun W : World => unquote_any s (by omega) W)
  have HEQ : Hid ((qL s.data.toList == qL t.data.toList) = (s.toList == t.toList)) := Lib.hid (by
    rw [Lib.toList_data, Lib.toList_data]
    by_cases h : s.data.toList = t.data.toList
    · rw [h]; simp
    · have h2 : qL s.data.toList ≠ qL t.data.toList := fun e => h (qL_inj e)
      rw [beq_eq_false_iff_ne.2 h2, beq_eq_false_iff_ne.2 h])
  have dl1 : s.size ≤ (qL s.data.toList).length := by omega
  have dl2 : (qL s.data.toList).length ≤ 4 * s.size := by omega
  have hl4 : (qL s.data.toList).length ≤ 1200 := by omega
  have hl5 : (qL t.data.toList).length ≤ 1200 := by have := qL_len t.data.toList; have := Lib.size_eq t; omega
  have hs300 : s.size ≤ 300 := by omega
  have ht300 : t.size ≤ 300 := by omega
  unfold unqR at HUs
  have HB := Lib.hid (Below.refl w.heap.size w)
  have HSQ : Hid (∀ v, unq s.data.toList = some v → ∀ W : World, Calls Tryd.prog 17 #[.string ⟨v.toArray⟩] W fun e w' => e = .returned (.string s) ∧ Below W.heap.size W w') := Lib.hid (fun v hv W => by
    have hq := unq_some hv
    have hl := (qL_len v).1
    have := quote_any ⟨v.toArray⟩ (by rw [hsz]; rw [hq] at hl; omega) W
    rw [show (⟨v.toArray⟩ : ByteArray).data.toList = v from rfl, hq, bs_eta] at this
    exact this)
  clear hss hsz h1 h2 hlen HB
  have HQV := Lib.hid (HSQ.out)
  obtain ⟨eq, heq⟩ : ∃ b, (s.toList == t.toList) = b := ⟨_, rfl⟩
  have heq2 := HEQ.out
  rw [heq] at heq2
  clear HEQ HSQ
  have m1 := trivial
  have m2 := trivial
  have m3 := trivial
  generalize qL s.data.toList = qs at *
  generalize qL t.data.toList = qt at *
  rcases hu : unq s.data.toList with _ | v
  · rw [hu] at HUs
    dsimp only at HUs
    clear hu HQV
    cases eq
    all_goals
      go_enter Tryd.func5, Tryd.ntmps5
      go_wp2_with (first
        | (go_at_call_of 17 (s ++ t); refine (HQj.out _).mono ?_; rintro e w' ⟨rfl, hE⟩; have HB5 := Lib.hid (HB4.out.trans (below_le hE HB4.out.size)); clear hE)
        | (have _t := m1; go_at_call_of 17 s; refine (HQs.out _).mono ?_; clear m1 _t; rintro e w' ⟨rfl, hE⟩; have HB1 := Lib.hid hE; clear hE)
        | (have _t := m2; go_at_call_of 17 t; refine (HQt.out _).mono ?_; clear m2 _t; rintro e w' ⟨rfl, hE⟩; have HB2 := Lib.hid (HB1.out.trans (below_le hE HB1.out.size)); clear hE)
        | (have _t := m3; go_at_call_of 15 qs; refine (HU.out _).mono ?_; clear m3 _t; rintro e w' ⟨rfl, hE⟩; have HB3 := Lib.hid (HB2.out.trans (below_le hE HB2.out.size)); clear hE)
        | (go_at_call_of 15 s; refine (HUs.out _).mono ?_; rintro e w' ⟨rfl, hE⟩; have HB4 := Lib.hid (HB3.out.trans (below_le hE HB3.out.size)); clear hE)
        | (go_at_call_of 22 qs; refine (HP.out _).mono ?_; rintro e w' ⟨rfl, rfl⟩)
        | (go_at_call 12; refine (HWk.out _ (hw.below HB5.out)).mono ?_; rintro e w' ⟨rfl, hE⟩; have HB6 := Lib.hid (HB5.out.trans (below_le hE HB5.out.size)); clear hE))
      go_ret
      exact ⟨rfl, HB6.out⟩
  · rw [hu] at HUs
    have HQ6 := Lib.hid (HQV.out v hu)
    dsimp only at HUs
    clear hu HQV
    cases eq
    all_goals
      go_enter Tryd.func5, Tryd.ntmps5
      go_wp2_with (first
        | (go_at_call_of 17 (s ++ t); refine (HQj.out _).mono ?_; rintro e w' ⟨rfl, hE⟩; have HB5 := Lib.hid (HB4.out.trans (below_le hE HB4.out.size)); clear hE)
        | (have _t := m1; go_at_call_of 17 s; refine (HQs.out _).mono ?_; clear m1 _t; rintro e w' ⟨rfl, hE⟩; have HB1 := Lib.hid hE; clear hE)
        | (have _t := m2; go_at_call_of 17 t; refine (HQt.out _).mono ?_; clear m2 _t; rintro e w' ⟨rfl, hE⟩; have HB2 := Lib.hid (HB1.out.trans (below_le hE HB1.out.size)); clear hE)
        | (have _t := m3; go_at_call_of 15 qs; refine (HU.out _).mono ?_; clear m3 _t; rintro e w' ⟨rfl, hE⟩; have HB3 := Lib.hid (HB2.out.trans (below_le hE HB2.out.size)); clear hE)
        | (go_at_call_of 15 s; refine (HUs.out _).mono ?_; rintro e w' ⟨rfl, hE⟩; have HB4 := Lib.hid (HB3.out.trans (below_le hE HB3.out.size)); clear hE)
        | (go_at_call_of 22 qs; refine (HP.out _).mono ?_; rintro e w' ⟨rfl, rfl⟩)
        | (go_at_call_of 17 v; refine (HQ6.out _).mono ?_; rintro e w' ⟨rfl, hE⟩; have HB6 := Lib.hid (HB5.out.trans (below_le hE HB5.out.size)); clear hE)
        | (go_at_call 12; refine (HWk.out _ (hw.below HB6.out)).mono ?_; rintro e w' ⟨rfl, hE⟩; have HB7 := Lib.hid (HB6.out.trans (below_le hE HB6.out.size)); clear hE))
      go_ret
      exact ⟨rfl, HB7.out⟩
end Go.Proofs.YtjjnjglbmneecaaDoor
