/- The law ScriptReads, walked. -/
import Derived.Test.YtjjnjglbmneecaaDoorSyC
namespace Go.Proofs.YtjjnjglbmneecaaDoor
open Go Go.RowKit
theorem parV_op (s : List UInt8) : ∃ k a v, parV s = opV k a v := by
  unfold parV
  split
  · exact ⟨_, _, _, rfl⟩
  · exact ⟨_, _, _, rfl⟩
set_option maxRecDepth 100000 in
set_option maxHeartbeats 8000000 in
theorem reads_any (s : ByteArray) {w : World} (hw : EnvS w) : Calls Tryd.prog 3 #[.string s] w fun e w' => e = .returned (.bool true) ∧ Below w.heap.size w w' := by
  have HWk := Lib.hid (fun (W : World) (h : EnvS W) => works_any h)
  by_cases h1 : 1000 < s.size
  · have d1 : decide ((1000 : Int) < (s.size : Int)) = true := by simp; omega
    go_enter Tryd.func3, Tryd.ntmps3
    go_wp2_with (go_at_call 12; refine (HWk.out _ hw).mono ?_; rintro e w' ⟨rfl, hE⟩)
    go_ret
    exact ⟨rfl, hE⟩
  have d1 : decide ((1000 : Int) < (s.size : Int)) = false := by simp; omega
  have hs : s.size ≤ 1000 := by omega
  clear h1
  obtain ⟨k, a, v, hp⟩ := parV_op s.data.toList
  have HP1 := Lib.hid (fun (W : World) (h : EnvS W) => parse_any h s (by omega))
  have HP2 := Lib.hid (fun (W : World) => rparse_any s (by omega) W)
  have HU1 := Lib.hid (fun (W : World) => unquote_any s (by omega) W)
  have HU2 := Lib.hid (fun (W : World) => runquote_any s (by omega) W)
  have HQ1 := Lib.hid (fun (W : World) => quote_any s (by omega) W)
  have HQ2 := Lib.hid (fun (W : World) => rquote_any s (by omega) W)
  rw [hp] at HP1 HP2
  unfold opV at HP1 HP2
  generalize parE s.data.toList = pe at *
  generalize unqR s.data.toList = ur at *
  generalize qL s.data.toList = q at *
  obtain ⟨u, ue⟩ := ur
  dsimp only at HU1 HU2
  clear hp
  have hEV := Lib.hid hw
  have hB0 := Lib.hid (Below.refl w.heap.size w)
  go_enter Tryd.func3, Tryd.ntmps3
  go_wp2_with (first
    | (go_at_call 13; refine (HP1.out _ hEV.out).mono ?_; rintro e w1 ⟨rfl, hE⟩; have hB1 := Lib.hid (hE.alloc hE.size (.cells #[.int .i64 k, .int .i64 a, .string v] 24)); have hO1 := Lib.hid (Rw.new w1 24 #[.int .i64 k, .int .i64 a, .string v]); clear hE)
    | (go_at_call 14; refine (HP2.out _).mono ?_; rintro e w2 ⟨rfl, hE⟩; have hB2 := Lib.hid ((hB1.out.trans (below_le hE hB1.out.size)).alloc (Nat.le_trans hB1.out.size hE.size) (.cells #[.int .i64 k, .int .i64 a, .string v] 24)); have hO2 := Lib.hid ((hO1.out.below hE hO1.out.lt).alloc (.cells #[.int .i64 k, .int .i64 a, .string v] 24)); have hN2 := Lib.hid (Rw.new w2 24 #[.int .i64 k, .int .i64 a, .string v]); clear hE)
    | (go_at_call 15; refine (HU1.out _).mono ?_; rintro e w3 ⟨rfl, hE⟩; have hB3 := Lib.hid (hB2.out.trans (below_le hE hB2.out.size)); have hO3 := Lib.hid (hO2.out.below hE hO2.out.lt); have hN3 := Lib.hid (hN2.out.below hE hN2.out.lt); clear hE)
    | (go_at_call 16; refine (HU2.out _).mono ?_; rintro e w4 ⟨rfl, hE⟩; have hB4 := Lib.hid (hB3.out.trans (below_le hE hB3.out.size)); have hO4 := hO3.out.below hE hO3.out.lt; have hN4 := hN3.out.below hE hN3.out.lt; clear hE; obtain ⟨c0, c1, c2, _, _, _⟩ := hO4.facts; obtain ⟨e0, e1, e2, _, _, _⟩ := hN4.facts; clear hO4 hN4)
    | (go_at_call 17; refine (HQ1.out _).mono ?_; rintro e w5 ⟨rfl, hE⟩; have hB5 := Lib.hid (hB4.out.trans (below_le hE hB4.out.size)); clear hE c0 c1 c2 e0 e1 e2)
    | (go_at_call 18; refine (HQ2.out _).mono ?_; rintro e w6 ⟨rfl, hE⟩; have hB6 := Lib.hid (hB5.out.trans (below_le hE hB5.out.size)); clear hE)
    | (go_at_call 12; refine (HWk.out _ (hEV.out.below hB6.out)).mono ?_; rintro e w7 ⟨rfl, hE⟩; have hB7 := Lib.hid (hB6.out.trans (below_le hE hB6.out.size)); clear hE))
  go_ret
  exact ⟨rfl, hB7.out⟩
end Go.Proofs.YtjjnjglbmneecaaDoor
