/- The contract of script.Parse. -/
import Derived.Test.YtjjnjglbmneecaaDoorSda
namespace Go.Proofs.YtjjnjglbmneecaaDoor
open Go Go.RowKit
set_option maxRecDepth 100000 in
set_option maxHeartbeats 4000000 in
theorem parse_6 {w : World} (hw : EnvS w) (s : ByteArray) (hs : s.size ≤ 250000) (hk : kixF (spL s.data.toList).1 10 0 = 6) {a : Int} {v : List UInt8} (hd : decP 6 (spL s.data.toList).2 = (a, v)) {t : List UInt8} {z : Int} (ht : prS 6 a v = t) (hz : chkZ 6 a v = z) :
    Calls Tryd.prog 13 #[.string s] w fun e w' => e = .returned (.tuple #[if z = 0 ∧ t = s.data.toList then opV 6 a ⟨v.toArray⟩ else opV 0 0 ⟨#[]⟩, .int .i64 (if z = 0 ∧ t = s.data.toList then 0 else 8)]) ∧ Below w.heap.size w w' := by
  have hbd := decP_bd 6 (spL s.data.toList).2
  rw [hd] at hbd
  have hle := (spL_le s.data.toList).2
  have hsl := Lib.size_eq s
  have hvl : v.length ≤ 250000 := by have := hbd.2; dsimp only at this; omega
  have h0 := hbd.1.1
  have h1 := hbd.1.2
  dsimp only at h0 h1
  have hrl : (spL s.data.toList).2.length ≤ 250000 := by omega
  clear hbd hle hsl
  have hR := Lib.hid (Rw.new w 24 (opC 0 0 ⟨#[]⟩))
  have hW := Lib.hid (hw.below (below_al w (.cells (opC 0 0 ⟨#[]⟩) 24)))
  have hB := Lib.hid (below_al w (.cells (opC 0 0 ⟨#[]⟩) 24))
  have hlt : w.heap.size < (w.alloc (.cells (opC 0 0 ⟨#[]⟩) 24)).heap.size := by simp
  have HC := Lib.hid (cut_any hW.out s (by omega))
  have HP : Hid (∀ W : World, EnvS W → Calls Tryd.prog 20 #[.agg #[.int .i64 6, .int .i64 a, .string ⟨v.toArray⟩]] W fun e w' => e = .returned (.tuple #[.string ⟨t.toArray⟩, .int .i64 z]) ∧ Below W.heap.size W w') := Lib.hid (fun W hW => by have := print_any hW 6 a ⟨v.toArray⟩ (by simp [ByteArray.size]; omega) h0 h1; rw [show (⟨v.toArray⟩ : ByteArray).data.toList = v from rfl, ht, hz] at this; exact this)
  clear ht hz
  generalize spL s.data.toList = pr at *
  obtain ⟨l1, l2⟩ := pr
  dsimp only at hk hd hrl
  have HD : Hid (∀ W : World, EnvS W → Calls Tryd.prog 141 #[.string ⟨l2.toArray⟩] W fun e w' => e = .returned (.agg #[.int .i64 0, .int .i64 a, .string ⟨v.toArray⟩]) ∧ Below W.heap.size W w') := Lib.hid (fun W hW => by have := dec_any hW 6 (by decide) ⟨l2.toArray⟩ (by simpa [ByteArray.size] using hrl); rw [show (⟨l2.toArray⟩ : ByteArray).data.toList = l2 from rfl, hd] at this; exact this)
  have HK := Lib.hid (fun (W : World) (hW : EnvS W) (B : Nat) (hB : Boxed W B 9 (.string ⟨l1.toArray⟩)) => kind_any hW l1 B hB)
  rw [hk] at HK
  clear hk hd h0 h1 hvl hrl
  have hcs : (z = 0 ∧ t = s.data.toList) ∨ (z = 0 ∧ t ≠ s.data.toList) ∨ z ≠ 0 := by
    by_cases h1 : z = 0 <;> by_cases h2 : t = s.data.toList <;> simp [h1, h2]
  rcases hcs with ⟨rfl, ht⟩ | ⟨rfl, ht⟩ | hz
  · rw [if_pos ⟨rfl, ht⟩, if_pos ⟨rfl, ht⟩]
    have hcmp : (t == s.toList) = true := by rw [Lib.toList_data]; simpa using ht
    clear ht
    go_enter Tryd.func13, Tryd.ntmps13
    go_wp2_with (first
      | (go_at_call 37; refine HC.out.mono ?_; rintro e w1 ⟨⟨b, rfl⟩, hE1, hz1⟩; have hR1 := Lib.hid (hR.out.below hE1 hlt); have hW1 := Lib.hid (hW.out.below hE1); have hB1 := Lib.hid (hB.out.trans (below_le hE1 (Nat.le_of_lt hlt))); have hlt1 : w.heap.size < w1.heap.size := by rw [hz1]; exact hlt
         have HX := Lib.hid (Boxed.new w1 9 (.string ⟨l1.toArray⟩))
         have hW1b := Lib.hid (hW1.out.below (below_al w1 (.cells #[.string ⟨l1.toArray⟩] 9)))
         clear hE1 hz1)
      | (go_at_call 38; refine (HK.out _ hW1b.out _ HX.out).mono ?_; rintro e w2 ⟨rfl, hE2⟩; have hR2 := Lib.hid ((hR1.out.alloc (.cells #[.string ⟨l1.toArray⟩] 9)).below hE2 (by simp; omega)); have hB2 := Lib.hid ((hB1.out.alloc hB1.out.size (.cells #[.string ⟨l1.toArray⟩] 9)).trans (below_le hE2 (by simp; omega))); have hW2 := Lib.hid (hW1b.out.below hE2); have hlt2 : w.heap.size < w2.heap.size := Nat.lt_of_lt_of_le (by simp; omega) hE2.size
         have hfn : w2.cell? ⟨0, 27, none⟩ = some (.func (.func 141) #[] #[]) := hW2.out.dec 6 (by decide)
         clear hE2 hlt1)
      | (go_at_call 141; refine (HD.out _ hW2.out).mono ?_; rintro e w3 ⟨rfl, hE3⟩; have hR3 := Lib.hid (hR2.out.below hE3 hlt2); have hB3 := Lib.hid (hB2.out.trans (below_le hE3 (Nat.le_of_lt hlt2))); have hW3 := Lib.hid (hW2.out.below hE3); have hlt3 : w.heap.size < w3.heap.size := Nat.lt_of_lt_of_le hlt2 hE3.size
         have hW3b := Lib.hid (hW3.out.below (below_al w3 (.cells #[.int .i64 6, .int .i64 a, .string ⟨v.toArray⟩] 24)))
         clear hE3 hlt2 hfn)
      | (go_at_call 20; refine (HP.out _ hW3b.out).mono ?_; rintro e w4 ⟨rfl, hE4⟩; have hR4 := Lib.hid ((hR3.out.alloc (.cells #[.int .i64 6, .int .i64 a, .string ⟨v.toArray⟩] 24)).below hE4 (by simp; omega)); have hX4 := Lib.hid ((Rw.new w3 24 #[.int .i64 6, .int .i64 a, .string ⟨v.toArray⟩]).below hE4 (by simp)); have hB4 := Lib.hid ((hB3.out.alloc hB3.out.size (.cells #[.int .i64 6, .int .i64 a, .string ⟨v.toArray⟩] 24)).trans (below_le hE4 (by simp; omega)))
         obtain ⟨c0, c1, c2, f0, f1, f2⟩ := hR4.out.facts
         obtain ⟨d0, d1, d2, g0, g1, g2⟩ := hX4.out.facts
         clear hE4))
    refine bodyPost_ret (op_res (fn := Tryd.f13) rfl rfl rfl hR4.out.set3) rfl ?_
    exact ⟨rfl, below_set3 hB4.out (Nat.le_refl _) _ _ _⟩
  · rw [if_neg (fun h => ht h.2), if_neg (fun h => ht h.2)]
    have hcmp : (t == s.toList) = false := by rw [Lib.toList_data]; simpa using ht
    clear ht
    go_enter Tryd.func13, Tryd.ntmps13
    go_wp2_with (first
      | (go_at_call 37; refine HC.out.mono ?_; rintro e w1 ⟨⟨b, rfl⟩, hE1, hz1⟩; have hR1 := Lib.hid (hR.out.below hE1 hlt); have hW1 := Lib.hid (hW.out.below hE1); have hB1 := Lib.hid (hB.out.trans (below_le hE1 (Nat.le_of_lt hlt))); have hlt1 : w.heap.size < w1.heap.size := by rw [hz1]; exact hlt
         have HX := Lib.hid (Boxed.new w1 9 (.string ⟨l1.toArray⟩))
         have hW1b := Lib.hid (hW1.out.below (below_al w1 (.cells #[.string ⟨l1.toArray⟩] 9)))
         clear hE1 hz1)
      | (go_at_call 38; refine (HK.out _ hW1b.out _ HX.out).mono ?_; rintro e w2 ⟨rfl, hE2⟩; have hR2 := Lib.hid ((hR1.out.alloc (.cells #[.string ⟨l1.toArray⟩] 9)).below hE2 (by simp; omega)); have hB2 := Lib.hid ((hB1.out.alloc hB1.out.size (.cells #[.string ⟨l1.toArray⟩] 9)).trans (below_le hE2 (by simp; omega))); have hW2 := Lib.hid (hW1b.out.below hE2); have hlt2 : w.heap.size < w2.heap.size := Nat.lt_of_lt_of_le (by simp; omega) hE2.size
         have hfn : w2.cell? ⟨0, 27, none⟩ = some (.func (.func 141) #[] #[]) := hW2.out.dec 6 (by decide)
         clear hE2 hlt1)
      | (go_at_call 141; refine (HD.out _ hW2.out).mono ?_; rintro e w3 ⟨rfl, hE3⟩; have hR3 := Lib.hid (hR2.out.below hE3 hlt2); have hB3 := Lib.hid (hB2.out.trans (below_le hE3 (Nat.le_of_lt hlt2))); have hW3 := Lib.hid (hW2.out.below hE3); have hlt3 : w.heap.size < w3.heap.size := Nat.lt_of_lt_of_le hlt2 hE3.size
         have hW3b := Lib.hid (hW3.out.below (below_al w3 (.cells #[.int .i64 6, .int .i64 a, .string ⟨v.toArray⟩] 24)))
         clear hE3 hlt2 hfn)
      | (go_at_call 20; refine (HP.out _ hW3b.out).mono ?_; rintro e w4 ⟨rfl, hE4⟩; have hR4 := Lib.hid ((hR3.out.alloc (.cells #[.int .i64 6, .int .i64 a, .string ⟨v.toArray⟩] 24)).below hE4 (by simp; omega)); have hX4 := Lib.hid ((Rw.new w3 24 #[.int .i64 6, .int .i64 a, .string ⟨v.toArray⟩]).below hE4 (by simp)); have hB4 := Lib.hid ((hB3.out.alloc hB3.out.size (.cells #[.int .i64 6, .int .i64 a, .string ⟨v.toArray⟩] 24)).trans (below_le hE4 (by simp; omega)))
         obtain ⟨c0, c1, c2, f0, f1, f2⟩ := hR4.out.facts
         obtain ⟨d0, d1, d2, g0, g1, g2⟩ := hX4.out.facts
         clear hE4))
    refine bodyPost_ret (op_res (fn := Tryd.f13) rfl rfl rfl hR4.out.set3) rfl ?_
    exact ⟨rfl, below_set3 hB4.out (Nat.le_refl _) _ _ _⟩
  · rw [if_neg (fun h => hz h.1), if_neg (fun h => hz h.1)]
    go_enter Tryd.func13, Tryd.ntmps13
    go_wp2_with (first
      | (go_at_call 37; refine HC.out.mono ?_; rintro e w1 ⟨⟨b, rfl⟩, hE1, hz1⟩; have hR1 := Lib.hid (hR.out.below hE1 hlt); have hW1 := Lib.hid (hW.out.below hE1); have hB1 := Lib.hid (hB.out.trans (below_le hE1 (Nat.le_of_lt hlt))); have hlt1 : w.heap.size < w1.heap.size := by rw [hz1]; exact hlt
         have HX := Lib.hid (Boxed.new w1 9 (.string ⟨l1.toArray⟩))
         have hW1b := Lib.hid (hW1.out.below (below_al w1 (.cells #[.string ⟨l1.toArray⟩] 9)))
         clear hE1 hz1)
      | (go_at_call 38; refine (HK.out _ hW1b.out _ HX.out).mono ?_; rintro e w2 ⟨rfl, hE2⟩; have hR2 := Lib.hid ((hR1.out.alloc (.cells #[.string ⟨l1.toArray⟩] 9)).below hE2 (by simp; omega)); have hB2 := Lib.hid ((hB1.out.alloc hB1.out.size (.cells #[.string ⟨l1.toArray⟩] 9)).trans (below_le hE2 (by simp; omega))); have hW2 := Lib.hid (hW1b.out.below hE2); have hlt2 : w.heap.size < w2.heap.size := Nat.lt_of_lt_of_le (by simp; omega) hE2.size
         have hfn : w2.cell? ⟨0, 27, none⟩ = some (.func (.func 141) #[] #[]) := hW2.out.dec 6 (by decide)
         clear hE2 hlt1)
      | (go_at_call 141; refine (HD.out _ hW2.out).mono ?_; rintro e w3 ⟨rfl, hE3⟩; have hR3 := Lib.hid (hR2.out.below hE3 hlt2); have hB3 := Lib.hid (hB2.out.trans (below_le hE3 (Nat.le_of_lt hlt2))); have hW3 := Lib.hid (hW2.out.below hE3); have hlt3 : w.heap.size < w3.heap.size := Nat.lt_of_lt_of_le hlt2 hE3.size
         have hW3b := Lib.hid (hW3.out.below (below_al w3 (.cells #[.int .i64 6, .int .i64 a, .string ⟨v.toArray⟩] 24)))
         clear hE3 hlt2 hfn)
      | (go_at_call 20; refine (HP.out _ hW3b.out).mono ?_; rintro e w4 ⟨rfl, hE4⟩; have hR4 := Lib.hid ((hR3.out.alloc (.cells #[.int .i64 6, .int .i64 a, .string ⟨v.toArray⟩] 24)).below hE4 (by simp; omega)); have hX4 := Lib.hid ((Rw.new w3 24 #[.int .i64 6, .int .i64 a, .string ⟨v.toArray⟩]).below hE4 (by simp)); have hB4 := Lib.hid ((hB3.out.alloc hB3.out.size (.cells #[.int .i64 6, .int .i64 a, .string ⟨v.toArray⟩] 24)).trans (below_le hE4 (by simp; omega)))
         obtain ⟨c0, c1, c2, f0, f1, f2⟩ := hR4.out.facts
         obtain ⟨d0, d1, d2, g0, g1, g2⟩ := hX4.out.facts
         clear hE4))
    refine bodyPost_ret (op_res (fn := Tryd.f13) rfl rfl rfl hR4.out.set3) rfl ?_
    exact ⟨rfl, below_set3 hB4.out (Nat.le_refl _) _ _ _⟩
set_option maxRecDepth 100000 in
set_option maxHeartbeats 4000000 in
theorem parse_7 {w : World} (hw : EnvS w) (s : ByteArray) (hs : s.size ≤ 250000) (hk : kixF (spL s.data.toList).1 10 0 = 7) {a : Int} {v : List UInt8} (hd : decP 7 (spL s.data.toList).2 = (a, v)) {t : List UInt8} {z : Int} (ht : prS 7 a v = t) (hz : chkZ 7 a v = z) :
    Calls Tryd.prog 13 #[.string s] w fun e w' => e = .returned (.tuple #[if z = 0 ∧ t = s.data.toList then opV 7 a ⟨v.toArray⟩ else opV 0 0 ⟨#[]⟩, .int .i64 (if z = 0 ∧ t = s.data.toList then 0 else 8)]) ∧ Below w.heap.size w w' := by
  have hbd := decP_bd 7 (spL s.data.toList).2
  rw [hd] at hbd
  have hle := (spL_le s.data.toList).2
  have hsl := Lib.size_eq s
  have hvl : v.length ≤ 250000 := by have := hbd.2; dsimp only at this; omega
  have h0 := hbd.1.1
  have h1 := hbd.1.2
  dsimp only at h0 h1
  have hrl : (spL s.data.toList).2.length ≤ 250000 := by omega
  clear hbd hle hsl
  have hR := Lib.hid (Rw.new w 24 (opC 0 0 ⟨#[]⟩))
  have hW := Lib.hid (hw.below (below_al w (.cells (opC 0 0 ⟨#[]⟩) 24)))
  have hB := Lib.hid (below_al w (.cells (opC 0 0 ⟨#[]⟩) 24))
  have hlt : w.heap.size < (w.alloc (.cells (opC 0 0 ⟨#[]⟩) 24)).heap.size := by simp
  have HC := Lib.hid (cut_any hW.out s (by omega))
  have HP : Hid (∀ W : World, EnvS W → Calls Tryd.prog 20 #[.agg #[.int .i64 7, .int .i64 a, .string ⟨v.toArray⟩]] W fun e w' => e = .returned (.tuple #[.string ⟨t.toArray⟩, .int .i64 z]) ∧ Below W.heap.size W w') := Lib.hid (fun W hW => by have := print_any hW 7 a ⟨v.toArray⟩ (by simp [ByteArray.size]; omega) h0 h1; rw [show (⟨v.toArray⟩ : ByteArray).data.toList = v from rfl, ht, hz] at this; exact this)
  clear ht hz
  generalize spL s.data.toList = pr at *
  obtain ⟨l1, l2⟩ := pr
  dsimp only at hk hd hrl
  have HD : Hid (∀ W : World, EnvS W → Calls Tryd.prog 141 #[.string ⟨l2.toArray⟩] W fun e w' => e = .returned (.agg #[.int .i64 0, .int .i64 a, .string ⟨v.toArray⟩]) ∧ Below W.heap.size W w') := Lib.hid (fun W hW => by have := dec_any hW 7 (by decide) ⟨l2.toArray⟩ (by simpa [ByteArray.size] using hrl); rw [show (⟨l2.toArray⟩ : ByteArray).data.toList = l2 from rfl, hd] at this; exact this)
  have HK := Lib.hid (fun (W : World) (hW : EnvS W) (B : Nat) (hB : Boxed W B 9 (.string ⟨l1.toArray⟩)) => kind_any hW l1 B hB)
  rw [hk] at HK
  clear hk hd h0 h1 hvl hrl
  have hcs : (z = 0 ∧ t = s.data.toList) ∨ (z = 0 ∧ t ≠ s.data.toList) ∨ z ≠ 0 := by
    by_cases h1 : z = 0 <;> by_cases h2 : t = s.data.toList <;> simp [h1, h2]
  rcases hcs with ⟨rfl, ht⟩ | ⟨rfl, ht⟩ | hz
  · rw [if_pos ⟨rfl, ht⟩, if_pos ⟨rfl, ht⟩]
    have hcmp : (t == s.toList) = true := by rw [Lib.toList_data]; simpa using ht
    clear ht
    go_enter Tryd.func13, Tryd.ntmps13
    go_wp2_with (first
      | (go_at_call 37; refine HC.out.mono ?_; rintro e w1 ⟨⟨b, rfl⟩, hE1, hz1⟩; have hR1 := Lib.hid (hR.out.below hE1 hlt); have hW1 := Lib.hid (hW.out.below hE1); have hB1 := Lib.hid (hB.out.trans (below_le hE1 (Nat.le_of_lt hlt))); have hlt1 : w.heap.size < w1.heap.size := by rw [hz1]; exact hlt
         have HX := Lib.hid (Boxed.new w1 9 (.string ⟨l1.toArray⟩))
         have hW1b := Lib.hid (hW1.out.below (below_al w1 (.cells #[.string ⟨l1.toArray⟩] 9)))
         clear hE1 hz1)
      | (go_at_call 38; refine (HK.out _ hW1b.out _ HX.out).mono ?_; rintro e w2 ⟨rfl, hE2⟩; have hR2 := Lib.hid ((hR1.out.alloc (.cells #[.string ⟨l1.toArray⟩] 9)).below hE2 (by simp; omega)); have hB2 := Lib.hid ((hB1.out.alloc hB1.out.size (.cells #[.string ⟨l1.toArray⟩] 9)).trans (below_le hE2 (by simp; omega))); have hW2 := Lib.hid (hW1b.out.below hE2); have hlt2 : w.heap.size < w2.heap.size := Nat.lt_of_lt_of_le (by simp; omega) hE2.size
         have hfn : w2.cell? ⟨0, 31, none⟩ = some (.func (.func 141) #[] #[]) := hW2.out.dec 7 (by decide)
         clear hE2 hlt1)
      | (go_at_call 141; refine (HD.out _ hW2.out).mono ?_; rintro e w3 ⟨rfl, hE3⟩; have hR3 := Lib.hid (hR2.out.below hE3 hlt2); have hB3 := Lib.hid (hB2.out.trans (below_le hE3 (Nat.le_of_lt hlt2))); have hW3 := Lib.hid (hW2.out.below hE3); have hlt3 : w.heap.size < w3.heap.size := Nat.lt_of_lt_of_le hlt2 hE3.size
         have hW3b := Lib.hid (hW3.out.below (below_al w3 (.cells #[.int .i64 7, .int .i64 a, .string ⟨v.toArray⟩] 24)))
         clear hE3 hlt2 hfn)
      | (go_at_call 20; refine (HP.out _ hW3b.out).mono ?_; rintro e w4 ⟨rfl, hE4⟩; have hR4 := Lib.hid ((hR3.out.alloc (.cells #[.int .i64 7, .int .i64 a, .string ⟨v.toArray⟩] 24)).below hE4 (by simp; omega)); have hX4 := Lib.hid ((Rw.new w3 24 #[.int .i64 7, .int .i64 a, .string ⟨v.toArray⟩]).below hE4 (by simp)); have hB4 := Lib.hid ((hB3.out.alloc hB3.out.size (.cells #[.int .i64 7, .int .i64 a, .string ⟨v.toArray⟩] 24)).trans (below_le hE4 (by simp; omega)))
         obtain ⟨c0, c1, c2, f0, f1, f2⟩ := hR4.out.facts
         obtain ⟨d0, d1, d2, g0, g1, g2⟩ := hX4.out.facts
         clear hE4))
    refine bodyPost_ret (op_res (fn := Tryd.f13) rfl rfl rfl hR4.out.set3) rfl ?_
    exact ⟨rfl, below_set3 hB4.out (Nat.le_refl _) _ _ _⟩
  · rw [if_neg (fun h => ht h.2), if_neg (fun h => ht h.2)]
    have hcmp : (t == s.toList) = false := by rw [Lib.toList_data]; simpa using ht
    clear ht
    go_enter Tryd.func13, Tryd.ntmps13
    go_wp2_with (first
      | (go_at_call 37; refine HC.out.mono ?_; rintro e w1 ⟨⟨b, rfl⟩, hE1, hz1⟩; have hR1 := Lib.hid (hR.out.below hE1 hlt); have hW1 := Lib.hid (hW.out.below hE1); have hB1 := Lib.hid (hB.out.trans (below_le hE1 (Nat.le_of_lt hlt))); have hlt1 : w.heap.size < w1.heap.size := by rw [hz1]; exact hlt
         have HX := Lib.hid (Boxed.new w1 9 (.string ⟨l1.toArray⟩))
         have hW1b := Lib.hid (hW1.out.below (below_al w1 (.cells #[.string ⟨l1.toArray⟩] 9)))
         clear hE1 hz1)
      | (go_at_call 38; refine (HK.out _ hW1b.out _ HX.out).mono ?_; rintro e w2 ⟨rfl, hE2⟩; have hR2 := Lib.hid ((hR1.out.alloc (.cells #[.string ⟨l1.toArray⟩] 9)).below hE2 (by simp; omega)); have hB2 := Lib.hid ((hB1.out.alloc hB1.out.size (.cells #[.string ⟨l1.toArray⟩] 9)).trans (below_le hE2 (by simp; omega))); have hW2 := Lib.hid (hW1b.out.below hE2); have hlt2 : w.heap.size < w2.heap.size := Nat.lt_of_lt_of_le (by simp; omega) hE2.size
         have hfn : w2.cell? ⟨0, 31, none⟩ = some (.func (.func 141) #[] #[]) := hW2.out.dec 7 (by decide)
         clear hE2 hlt1)
      | (go_at_call 141; refine (HD.out _ hW2.out).mono ?_; rintro e w3 ⟨rfl, hE3⟩; have hR3 := Lib.hid (hR2.out.below hE3 hlt2); have hB3 := Lib.hid (hB2.out.trans (below_le hE3 (Nat.le_of_lt hlt2))); have hW3 := Lib.hid (hW2.out.below hE3); have hlt3 : w.heap.size < w3.heap.size := Nat.lt_of_lt_of_le hlt2 hE3.size
         have hW3b := Lib.hid (hW3.out.below (below_al w3 (.cells #[.int .i64 7, .int .i64 a, .string ⟨v.toArray⟩] 24)))
         clear hE3 hlt2 hfn)
      | (go_at_call 20; refine (HP.out _ hW3b.out).mono ?_; rintro e w4 ⟨rfl, hE4⟩; have hR4 := Lib.hid ((hR3.out.alloc (.cells #[.int .i64 7, .int .i64 a, .string ⟨v.toArray⟩] 24)).below hE4 (by simp; omega)); have hX4 := Lib.hid ((Rw.new w3 24 #[.int .i64 7, .int .i64 a, .string ⟨v.toArray⟩]).below hE4 (by simp)); have hB4 := Lib.hid ((hB3.out.alloc hB3.out.size (.cells #[.int .i64 7, .int .i64 a, .string ⟨v.toArray⟩] 24)).trans (below_le hE4 (by simp; omega)))
         obtain ⟨c0, c1, c2, f0, f1, f2⟩ := hR4.out.facts
         obtain ⟨d0, d1, d2, g0, g1, g2⟩ := hX4.out.facts
         clear hE4))
    refine bodyPost_ret (op_res (fn := Tryd.f13) rfl rfl rfl hR4.out.set3) rfl ?_
    exact ⟨rfl, below_set3 hB4.out (Nat.le_refl _) _ _ _⟩
  · rw [if_neg (fun h => hz h.1), if_neg (fun h => hz h.1)]
    go_enter Tryd.func13, Tryd.ntmps13
    go_wp2_with (first
      | (go_at_call 37; refine HC.out.mono ?_; rintro e w1 ⟨⟨b, rfl⟩, hE1, hz1⟩; have hR1 := Lib.hid (hR.out.below hE1 hlt); have hW1 := Lib.hid (hW.out.below hE1); have hB1 := Lib.hid (hB.out.trans (below_le hE1 (Nat.le_of_lt hlt))); have hlt1 : w.heap.size < w1.heap.size := by rw [hz1]; exact hlt
         have HX := Lib.hid (Boxed.new w1 9 (.string ⟨l1.toArray⟩))
         have hW1b := Lib.hid (hW1.out.below (below_al w1 (.cells #[.string ⟨l1.toArray⟩] 9)))
         clear hE1 hz1)
      | (go_at_call 38; refine (HK.out _ hW1b.out _ HX.out).mono ?_; rintro e w2 ⟨rfl, hE2⟩; have hR2 := Lib.hid ((hR1.out.alloc (.cells #[.string ⟨l1.toArray⟩] 9)).below hE2 (by simp; omega)); have hB2 := Lib.hid ((hB1.out.alloc hB1.out.size (.cells #[.string ⟨l1.toArray⟩] 9)).trans (below_le hE2 (by simp; omega))); have hW2 := Lib.hid (hW1b.out.below hE2); have hlt2 : w.heap.size < w2.heap.size := Nat.lt_of_lt_of_le (by simp; omega) hE2.size
         have hfn : w2.cell? ⟨0, 31, none⟩ = some (.func (.func 141) #[] #[]) := hW2.out.dec 7 (by decide)
         clear hE2 hlt1)
      | (go_at_call 141; refine (HD.out _ hW2.out).mono ?_; rintro e w3 ⟨rfl, hE3⟩; have hR3 := Lib.hid (hR2.out.below hE3 hlt2); have hB3 := Lib.hid (hB2.out.trans (below_le hE3 (Nat.le_of_lt hlt2))); have hW3 := Lib.hid (hW2.out.below hE3); have hlt3 : w.heap.size < w3.heap.size := Nat.lt_of_lt_of_le hlt2 hE3.size
         have hW3b := Lib.hid (hW3.out.below (below_al w3 (.cells #[.int .i64 7, .int .i64 a, .string ⟨v.toArray⟩] 24)))
         clear hE3 hlt2 hfn)
      | (go_at_call 20; refine (HP.out _ hW3b.out).mono ?_; rintro e w4 ⟨rfl, hE4⟩; have hR4 := Lib.hid ((hR3.out.alloc (.cells #[.int .i64 7, .int .i64 a, .string ⟨v.toArray⟩] 24)).below hE4 (by simp; omega)); have hX4 := Lib.hid ((Rw.new w3 24 #[.int .i64 7, .int .i64 a, .string ⟨v.toArray⟩]).below hE4 (by simp)); have hB4 := Lib.hid ((hB3.out.alloc hB3.out.size (.cells #[.int .i64 7, .int .i64 a, .string ⟨v.toArray⟩] 24)).trans (below_le hE4 (by simp; omega)))
         obtain ⟨c0, c1, c2, f0, f1, f2⟩ := hR4.out.facts
         obtain ⟨d0, d1, d2, g0, g1, g2⟩ := hX4.out.facts
         clear hE4))
    refine bodyPost_ret (op_res (fn := Tryd.f13) rfl rfl rfl hR4.out.set3) rfl ?_
    exact ⟨rfl, below_set3 hB4.out (Nat.le_refl _) _ _ _⟩
set_option maxRecDepth 100000 in
set_option maxHeartbeats 4000000 in
theorem parse_8 {w : World} (hw : EnvS w) (s : ByteArray) (hs : s.size ≤ 250000) (hk : kixF (spL s.data.toList).1 10 0 = 8) {a : Int} {v : List UInt8} (hd : decP 8 (spL s.data.toList).2 = (a, v)) {t : List UInt8} {z : Int} (ht : prS 8 a v = t) (hz : chkZ 8 a v = z) :
    Calls Tryd.prog 13 #[.string s] w fun e w' => e = .returned (.tuple #[if z = 0 ∧ t = s.data.toList then opV 8 a ⟨v.toArray⟩ else opV 0 0 ⟨#[]⟩, .int .i64 (if z = 0 ∧ t = s.data.toList then 0 else 8)]) ∧ Below w.heap.size w w' := by
  have hbd := decP_bd 8 (spL s.data.toList).2
  rw [hd] at hbd
  have hle := (spL_le s.data.toList).2
  have hsl := Lib.size_eq s
  have hvl : v.length ≤ 250000 := by have := hbd.2; dsimp only at this; omega
  have h0 := hbd.1.1
  have h1 := hbd.1.2
  dsimp only at h0 h1
  have hrl : (spL s.data.toList).2.length ≤ 250000 := by omega
  clear hbd hle hsl
  have hR := Lib.hid (Rw.new w 24 (opC 0 0 ⟨#[]⟩))
  have hW := Lib.hid (hw.below (below_al w (.cells (opC 0 0 ⟨#[]⟩) 24)))
  have hB := Lib.hid (below_al w (.cells (opC 0 0 ⟨#[]⟩) 24))
  have hlt : w.heap.size < (w.alloc (.cells (opC 0 0 ⟨#[]⟩) 24)).heap.size := by simp
  have HC := Lib.hid (cut_any hW.out s (by omega))
  have HP : Hid (∀ W : World, EnvS W → Calls Tryd.prog 20 #[.agg #[.int .i64 8, .int .i64 a, .string ⟨v.toArray⟩]] W fun e w' => e = .returned (.tuple #[.string ⟨t.toArray⟩, .int .i64 z]) ∧ Below W.heap.size W w') := Lib.hid (fun W hW => by have := print_any hW 8 a ⟨v.toArray⟩ (by simp [ByteArray.size]; omega) h0 h1; rw [show (⟨v.toArray⟩ : ByteArray).data.toList = v from rfl, ht, hz] at this; exact this)
  clear ht hz
  generalize spL s.data.toList = pr at *
  obtain ⟨l1, l2⟩ := pr
  dsimp only at hk hd hrl
  have HD : Hid (∀ W : World, EnvS W → Calls Tryd.prog 144 #[.string ⟨l2.toArray⟩] W fun e w' => e = .returned (.agg #[.int .i64 0, .int .i64 a, .string ⟨v.toArray⟩]) ∧ Below W.heap.size W w') := Lib.hid (fun W hW => by have := dec_any hW 8 (by decide) ⟨l2.toArray⟩ (by simpa [ByteArray.size] using hrl); rw [show (⟨l2.toArray⟩ : ByteArray).data.toList = l2 from rfl, hd] at this; exact this)
  have HK := Lib.hid (fun (W : World) (hW : EnvS W) (B : Nat) (hB : Boxed W B 9 (.string ⟨l1.toArray⟩)) => kind_any hW l1 B hB)
  rw [hk] at HK
  clear hk hd h0 h1 hvl hrl
  have hcs : (z = 0 ∧ t = s.data.toList) ∨ (z = 0 ∧ t ≠ s.data.toList) ∨ z ≠ 0 := by
    by_cases h1 : z = 0 <;> by_cases h2 : t = s.data.toList <;> simp [h1, h2]
  rcases hcs with ⟨rfl, ht⟩ | ⟨rfl, ht⟩ | hz
  · rw [if_pos ⟨rfl, ht⟩, if_pos ⟨rfl, ht⟩]
    have hcmp : (t == s.toList) = true := by rw [Lib.toList_data]; simpa using ht
    clear ht
    go_enter Tryd.func13, Tryd.ntmps13
    go_wp2_with (first
      | (go_at_call 37; refine HC.out.mono ?_; rintro e w1 ⟨⟨b, rfl⟩, hE1, hz1⟩; have hR1 := Lib.hid (hR.out.below hE1 hlt); have hW1 := Lib.hid (hW.out.below hE1); have hB1 := Lib.hid (hB.out.trans (below_le hE1 (Nat.le_of_lt hlt))); have hlt1 : w.heap.size < w1.heap.size := by rw [hz1]; exact hlt
         have HX := Lib.hid (Boxed.new w1 9 (.string ⟨l1.toArray⟩))
         have hW1b := Lib.hid (hW1.out.below (below_al w1 (.cells #[.string ⟨l1.toArray⟩] 9)))
         clear hE1 hz1)
      | (go_at_call 38; refine (HK.out _ hW1b.out _ HX.out).mono ?_; rintro e w2 ⟨rfl, hE2⟩; have hR2 := Lib.hid ((hR1.out.alloc (.cells #[.string ⟨l1.toArray⟩] 9)).below hE2 (by simp; omega)); have hB2 := Lib.hid ((hB1.out.alloc hB1.out.size (.cells #[.string ⟨l1.toArray⟩] 9)).trans (below_le hE2 (by simp; omega))); have hW2 := Lib.hid (hW1b.out.below hE2); have hlt2 : w.heap.size < w2.heap.size := Nat.lt_of_lt_of_le (by simp; omega) hE2.size
         have hfn : w2.cell? ⟨0, 35, none⟩ = some (.func (.func 144) #[] #[]) := hW2.out.dec 8 (by decide)
         clear hE2 hlt1)
      | (go_at_call 144; refine (HD.out _ hW2.out).mono ?_; rintro e w3 ⟨rfl, hE3⟩; have hR3 := Lib.hid (hR2.out.below hE3 hlt2); have hB3 := Lib.hid (hB2.out.trans (below_le hE3 (Nat.le_of_lt hlt2))); have hW3 := Lib.hid (hW2.out.below hE3); have hlt3 : w.heap.size < w3.heap.size := Nat.lt_of_lt_of_le hlt2 hE3.size
         have hW3b := Lib.hid (hW3.out.below (below_al w3 (.cells #[.int .i64 8, .int .i64 a, .string ⟨v.toArray⟩] 24)))
         clear hE3 hlt2 hfn)
      | (go_at_call 20; refine (HP.out _ hW3b.out).mono ?_; rintro e w4 ⟨rfl, hE4⟩; have hR4 := Lib.hid ((hR3.out.alloc (.cells #[.int .i64 8, .int .i64 a, .string ⟨v.toArray⟩] 24)).below hE4 (by simp; omega)); have hX4 := Lib.hid ((Rw.new w3 24 #[.int .i64 8, .int .i64 a, .string ⟨v.toArray⟩]).below hE4 (by simp)); have hB4 := Lib.hid ((hB3.out.alloc hB3.out.size (.cells #[.int .i64 8, .int .i64 a, .string ⟨v.toArray⟩] 24)).trans (below_le hE4 (by simp; omega)))
         obtain ⟨c0, c1, c2, f0, f1, f2⟩ := hR4.out.facts
         obtain ⟨d0, d1, d2, g0, g1, g2⟩ := hX4.out.facts
         clear hE4))
    refine bodyPost_ret (op_res (fn := Tryd.f13) rfl rfl rfl hR4.out.set3) rfl ?_
    exact ⟨rfl, below_set3 hB4.out (Nat.le_refl _) _ _ _⟩
  · rw [if_neg (fun h => ht h.2), if_neg (fun h => ht h.2)]
    have hcmp : (t == s.toList) = false := by rw [Lib.toList_data]; simpa using ht
    clear ht
    go_enter Tryd.func13, Tryd.ntmps13
    go_wp2_with (first
      | (go_at_call 37; refine HC.out.mono ?_; rintro e w1 ⟨⟨b, rfl⟩, hE1, hz1⟩; have hR1 := Lib.hid (hR.out.below hE1 hlt); have hW1 := Lib.hid (hW.out.below hE1); have hB1 := Lib.hid (hB.out.trans (below_le hE1 (Nat.le_of_lt hlt))); have hlt1 : w.heap.size < w1.heap.size := by rw [hz1]; exact hlt
         have HX := Lib.hid (Boxed.new w1 9 (.string ⟨l1.toArray⟩))
         have hW1b := Lib.hid (hW1.out.below (below_al w1 (.cells #[.string ⟨l1.toArray⟩] 9)))
         clear hE1 hz1)
      | (go_at_call 38; refine (HK.out _ hW1b.out _ HX.out).mono ?_; rintro e w2 ⟨rfl, hE2⟩; have hR2 := Lib.hid ((hR1.out.alloc (.cells #[.string ⟨l1.toArray⟩] 9)).below hE2 (by simp; omega)); have hB2 := Lib.hid ((hB1.out.alloc hB1.out.size (.cells #[.string ⟨l1.toArray⟩] 9)).trans (below_le hE2 (by simp; omega))); have hW2 := Lib.hid (hW1b.out.below hE2); have hlt2 : w.heap.size < w2.heap.size := Nat.lt_of_lt_of_le (by simp; omega) hE2.size
         have hfn : w2.cell? ⟨0, 35, none⟩ = some (.func (.func 144) #[] #[]) := hW2.out.dec 8 (by decide)
         clear hE2 hlt1)
      | (go_at_call 144; refine (HD.out _ hW2.out).mono ?_; rintro e w3 ⟨rfl, hE3⟩; have hR3 := Lib.hid (hR2.out.below hE3 hlt2); have hB3 := Lib.hid (hB2.out.trans (below_le hE3 (Nat.le_of_lt hlt2))); have hW3 := Lib.hid (hW2.out.below hE3); have hlt3 : w.heap.size < w3.heap.size := Nat.lt_of_lt_of_le hlt2 hE3.size
         have hW3b := Lib.hid (hW3.out.below (below_al w3 (.cells #[.int .i64 8, .int .i64 a, .string ⟨v.toArray⟩] 24)))
         clear hE3 hlt2 hfn)
      | (go_at_call 20; refine (HP.out _ hW3b.out).mono ?_; rintro e w4 ⟨rfl, hE4⟩; have hR4 := Lib.hid ((hR3.out.alloc (.cells #[.int .i64 8, .int .i64 a, .string ⟨v.toArray⟩] 24)).below hE4 (by simp; omega)); have hX4 := Lib.hid ((Rw.new w3 24 #[.int .i64 8, .int .i64 a, .string ⟨v.toArray⟩]).below hE4 (by simp)); have hB4 := Lib.hid ((hB3.out.alloc hB3.out.size (.cells #[.int .i64 8, .int .i64 a, .string ⟨v.toArray⟩] 24)).trans (below_le hE4 (by simp; omega)))
         obtain ⟨c0, c1, c2, f0, f1, f2⟩ := hR4.out.facts
         obtain ⟨d0, d1, d2, g0, g1, g2⟩ := hX4.out.facts
         clear hE4))
    refine bodyPost_ret (op_res (fn := Tryd.f13) rfl rfl rfl hR4.out.set3) rfl ?_
    exact ⟨rfl, below_set3 hB4.out (Nat.le_refl _) _ _ _⟩
  · rw [if_neg (fun h => hz h.1), if_neg (fun h => hz h.1)]
    go_enter Tryd.func13, Tryd.ntmps13
    go_wp2_with (first
      | (go_at_call 37; refine HC.out.mono ?_; rintro e w1 ⟨⟨b, rfl⟩, hE1, hz1⟩; have hR1 := Lib.hid (hR.out.below hE1 hlt); have hW1 := Lib.hid (hW.out.below hE1); have hB1 := Lib.hid (hB.out.trans (below_le hE1 (Nat.le_of_lt hlt))); have hlt1 : w.heap.size < w1.heap.size := by rw [hz1]; exact hlt
         have HX := Lib.hid (Boxed.new w1 9 (.string ⟨l1.toArray⟩))
         have hW1b := Lib.hid (hW1.out.below (below_al w1 (.cells #[.string ⟨l1.toArray⟩] 9)))
         clear hE1 hz1)
      | (go_at_call 38; refine (HK.out _ hW1b.out _ HX.out).mono ?_; rintro e w2 ⟨rfl, hE2⟩; have hR2 := Lib.hid ((hR1.out.alloc (.cells #[.string ⟨l1.toArray⟩] 9)).below hE2 (by simp; omega)); have hB2 := Lib.hid ((hB1.out.alloc hB1.out.size (.cells #[.string ⟨l1.toArray⟩] 9)).trans (below_le hE2 (by simp; omega))); have hW2 := Lib.hid (hW1b.out.below hE2); have hlt2 : w.heap.size < w2.heap.size := Nat.lt_of_lt_of_le (by simp; omega) hE2.size
         have hfn : w2.cell? ⟨0, 35, none⟩ = some (.func (.func 144) #[] #[]) := hW2.out.dec 8 (by decide)
         clear hE2 hlt1)
      | (go_at_call 144; refine (HD.out _ hW2.out).mono ?_; rintro e w3 ⟨rfl, hE3⟩; have hR3 := Lib.hid (hR2.out.below hE3 hlt2); have hB3 := Lib.hid (hB2.out.trans (below_le hE3 (Nat.le_of_lt hlt2))); have hW3 := Lib.hid (hW2.out.below hE3); have hlt3 : w.heap.size < w3.heap.size := Nat.lt_of_lt_of_le hlt2 hE3.size
         have hW3b := Lib.hid (hW3.out.below (below_al w3 (.cells #[.int .i64 8, .int .i64 a, .string ⟨v.toArray⟩] 24)))
         clear hE3 hlt2 hfn)
      | (go_at_call 20; refine (HP.out _ hW3b.out).mono ?_; rintro e w4 ⟨rfl, hE4⟩; have hR4 := Lib.hid ((hR3.out.alloc (.cells #[.int .i64 8, .int .i64 a, .string ⟨v.toArray⟩] 24)).below hE4 (by simp; omega)); have hX4 := Lib.hid ((Rw.new w3 24 #[.int .i64 8, .int .i64 a, .string ⟨v.toArray⟩]).below hE4 (by simp)); have hB4 := Lib.hid ((hB3.out.alloc hB3.out.size (.cells #[.int .i64 8, .int .i64 a, .string ⟨v.toArray⟩] 24)).trans (below_le hE4 (by simp; omega)))
         obtain ⟨c0, c1, c2, f0, f1, f2⟩ := hR4.out.facts
         obtain ⟨d0, d1, d2, g0, g1, g2⟩ := hX4.out.facts
         clear hE4))
    refine bodyPost_ret (op_res (fn := Tryd.f13) rfl rfl rfl hR4.out.set3) rfl ?_
    exact ⟨rfl, below_set3 hB4.out (Nat.le_refl _) _ _ _⟩
set_option maxRecDepth 100000 in
set_option maxHeartbeats 4000000 in
theorem parse_9 {w : World} (hw : EnvS w) (s : ByteArray) (hs : s.size ≤ 250000) (hk : kixF (spL s.data.toList).1 10 0 = 9) {a : Int} {v : List UInt8} (hd : decP 9 (spL s.data.toList).2 = (a, v)) {t : List UInt8} {z : Int} (ht : prS 9 a v = t) (hz : chkZ 9 a v = z) :
    Calls Tryd.prog 13 #[.string s] w fun e w' => e = .returned (.tuple #[if z = 0 ∧ t = s.data.toList then opV 9 a ⟨v.toArray⟩ else opV 0 0 ⟨#[]⟩, .int .i64 (if z = 0 ∧ t = s.data.toList then 0 else 8)]) ∧ Below w.heap.size w w' := by
  have hbd := decP_bd 9 (spL s.data.toList).2
  rw [hd] at hbd
  have hle := (spL_le s.data.toList).2
  have hsl := Lib.size_eq s
  have hvl : v.length ≤ 250000 := by have := hbd.2; dsimp only at this; omega
  have h0 := hbd.1.1
  have h1 := hbd.1.2
  dsimp only at h0 h1
  have hrl : (spL s.data.toList).2.length ≤ 250000 := by omega
  clear hbd hle hsl
  have hR := Lib.hid (Rw.new w 24 (opC 0 0 ⟨#[]⟩))
  have hW := Lib.hid (hw.below (below_al w (.cells (opC 0 0 ⟨#[]⟩) 24)))
  have hB := Lib.hid (below_al w (.cells (opC 0 0 ⟨#[]⟩) 24))
  have hlt : w.heap.size < (w.alloc (.cells (opC 0 0 ⟨#[]⟩) 24)).heap.size := by simp
  have HC := Lib.hid (cut_any hW.out s (by omega))
  have HP : Hid (∀ W : World, EnvS W → Calls Tryd.prog 20 #[.agg #[.int .i64 9, .int .i64 a, .string ⟨v.toArray⟩]] W fun e w' => e = .returned (.tuple #[.string ⟨t.toArray⟩, .int .i64 z]) ∧ Below W.heap.size W w') := Lib.hid (fun W hW => by have := print_any hW 9 a ⟨v.toArray⟩ (by simp [ByteArray.size]; omega) h0 h1; rw [show (⟨v.toArray⟩ : ByteArray).data.toList = v from rfl, ht, hz] at this; exact this)
  clear ht hz
  generalize spL s.data.toList = pr at *
  obtain ⟨l1, l2⟩ := pr
  dsimp only at hk hd hrl
  have HD : Hid (∀ W : World, EnvS W → Calls Tryd.prog 141 #[.string ⟨l2.toArray⟩] W fun e w' => e = .returned (.agg #[.int .i64 0, .int .i64 a, .string ⟨v.toArray⟩]) ∧ Below W.heap.size W w') := Lib.hid (fun W hW => by have := dec_any hW 9 (by decide) ⟨l2.toArray⟩ (by simpa [ByteArray.size] using hrl); rw [show (⟨l2.toArray⟩ : ByteArray).data.toList = l2 from rfl, hd] at this; exact this)
  have HK := Lib.hid (fun (W : World) (hW : EnvS W) (B : Nat) (hB : Boxed W B 9 (.string ⟨l1.toArray⟩)) => kind_any hW l1 B hB)
  rw [hk] at HK
  clear hk hd h0 h1 hvl hrl
  have hcs : (z = 0 ∧ t = s.data.toList) ∨ (z = 0 ∧ t ≠ s.data.toList) ∨ z ≠ 0 := by
    by_cases h1 : z = 0 <;> by_cases h2 : t = s.data.toList <;> simp [h1, h2]
  rcases hcs with ⟨rfl, ht⟩ | ⟨rfl, ht⟩ | hz
  · rw [if_pos ⟨rfl, ht⟩, if_pos ⟨rfl, ht⟩]
    have hcmp : (t == s.toList) = true := by rw [Lib.toList_data]; simpa using ht
    clear ht
    go_enter Tryd.func13, Tryd.ntmps13
    go_wp2_with (first
      | (go_at_call 37; refine HC.out.mono ?_; rintro e w1 ⟨⟨b, rfl⟩, hE1, hz1⟩; have hR1 := Lib.hid (hR.out.below hE1 hlt); have hW1 := Lib.hid (hW.out.below hE1); have hB1 := Lib.hid (hB.out.trans (below_le hE1 (Nat.le_of_lt hlt))); have hlt1 : w.heap.size < w1.heap.size := by rw [hz1]; exact hlt
         have HX := Lib.hid (Boxed.new w1 9 (.string ⟨l1.toArray⟩))
         have hW1b := Lib.hid (hW1.out.below (below_al w1 (.cells #[.string ⟨l1.toArray⟩] 9)))
         clear hE1 hz1)
      | (go_at_call 38; refine (HK.out _ hW1b.out _ HX.out).mono ?_; rintro e w2 ⟨rfl, hE2⟩; have hR2 := Lib.hid ((hR1.out.alloc (.cells #[.string ⟨l1.toArray⟩] 9)).below hE2 (by simp; omega)); have hB2 := Lib.hid ((hB1.out.alloc hB1.out.size (.cells #[.string ⟨l1.toArray⟩] 9)).trans (below_le hE2 (by simp; omega))); have hW2 := Lib.hid (hW1b.out.below hE2); have hlt2 : w.heap.size < w2.heap.size := Nat.lt_of_lt_of_le (by simp; omega) hE2.size
         have hfn : w2.cell? ⟨0, 39, none⟩ = some (.func (.func 141) #[] #[]) := hW2.out.dec 9 (by decide)
         clear hE2 hlt1)
      | (go_at_call 141; refine (HD.out _ hW2.out).mono ?_; rintro e w3 ⟨rfl, hE3⟩; have hR3 := Lib.hid (hR2.out.below hE3 hlt2); have hB3 := Lib.hid (hB2.out.trans (below_le hE3 (Nat.le_of_lt hlt2))); have hW3 := Lib.hid (hW2.out.below hE3); have hlt3 : w.heap.size < w3.heap.size := Nat.lt_of_lt_of_le hlt2 hE3.size
         have hW3b := Lib.hid (hW3.out.below (below_al w3 (.cells #[.int .i64 9, .int .i64 a, .string ⟨v.toArray⟩] 24)))
         clear hE3 hlt2 hfn)
      | (go_at_call 20; refine (HP.out _ hW3b.out).mono ?_; rintro e w4 ⟨rfl, hE4⟩; have hR4 := Lib.hid ((hR3.out.alloc (.cells #[.int .i64 9, .int .i64 a, .string ⟨v.toArray⟩] 24)).below hE4 (by simp; omega)); have hX4 := Lib.hid ((Rw.new w3 24 #[.int .i64 9, .int .i64 a, .string ⟨v.toArray⟩]).below hE4 (by simp)); have hB4 := Lib.hid ((hB3.out.alloc hB3.out.size (.cells #[.int .i64 9, .int .i64 a, .string ⟨v.toArray⟩] 24)).trans (below_le hE4 (by simp; omega)))
         obtain ⟨c0, c1, c2, f0, f1, f2⟩ := hR4.out.facts
         obtain ⟨d0, d1, d2, g0, g1, g2⟩ := hX4.out.facts
         clear hE4))
    refine bodyPost_ret (op_res (fn := Tryd.f13) rfl rfl rfl hR4.out.set3) rfl ?_
    exact ⟨rfl, below_set3 hB4.out (Nat.le_refl _) _ _ _⟩
  · rw [if_neg (fun h => ht h.2), if_neg (fun h => ht h.2)]
    have hcmp : (t == s.toList) = false := by rw [Lib.toList_data]; simpa using ht
    clear ht
    go_enter Tryd.func13, Tryd.ntmps13
    go_wp2_with (first
      | (go_at_call 37; refine HC.out.mono ?_; rintro e w1 ⟨⟨b, rfl⟩, hE1, hz1⟩; have hR1 := Lib.hid (hR.out.below hE1 hlt); have hW1 := Lib.hid (hW.out.below hE1); have hB1 := Lib.hid (hB.out.trans (below_le hE1 (Nat.le_of_lt hlt))); have hlt1 : w.heap.size < w1.heap.size := by rw [hz1]; exact hlt
         have HX := Lib.hid (Boxed.new w1 9 (.string ⟨l1.toArray⟩))
         have hW1b := Lib.hid (hW1.out.below (below_al w1 (.cells #[.string ⟨l1.toArray⟩] 9)))
         clear hE1 hz1)
      | (go_at_call 38; refine (HK.out _ hW1b.out _ HX.out).mono ?_; rintro e w2 ⟨rfl, hE2⟩; have hR2 := Lib.hid ((hR1.out.alloc (.cells #[.string ⟨l1.toArray⟩] 9)).below hE2 (by simp; omega)); have hB2 := Lib.hid ((hB1.out.alloc hB1.out.size (.cells #[.string ⟨l1.toArray⟩] 9)).trans (below_le hE2 (by simp; omega))); have hW2 := Lib.hid (hW1b.out.below hE2); have hlt2 : w.heap.size < w2.heap.size := Nat.lt_of_lt_of_le (by simp; omega) hE2.size
         have hfn : w2.cell? ⟨0, 39, none⟩ = some (.func (.func 141) #[] #[]) := hW2.out.dec 9 (by decide)
         clear hE2 hlt1)
      | (go_at_call 141; refine (HD.out _ hW2.out).mono ?_; rintro e w3 ⟨rfl, hE3⟩; have hR3 := Lib.hid (hR2.out.below hE3 hlt2); have hB3 := Lib.hid (hB2.out.trans (below_le hE3 (Nat.le_of_lt hlt2))); have hW3 := Lib.hid (hW2.out.below hE3); have hlt3 : w.heap.size < w3.heap.size := Nat.lt_of_lt_of_le hlt2 hE3.size
         have hW3b := Lib.hid (hW3.out.below (below_al w3 (.cells #[.int .i64 9, .int .i64 a, .string ⟨v.toArray⟩] 24)))
         clear hE3 hlt2 hfn)
      | (go_at_call 20; refine (HP.out _ hW3b.out).mono ?_; rintro e w4 ⟨rfl, hE4⟩; have hR4 := Lib.hid ((hR3.out.alloc (.cells #[.int .i64 9, .int .i64 a, .string ⟨v.toArray⟩] 24)).below hE4 (by simp; omega)); have hX4 := Lib.hid ((Rw.new w3 24 #[.int .i64 9, .int .i64 a, .string ⟨v.toArray⟩]).below hE4 (by simp)); have hB4 := Lib.hid ((hB3.out.alloc hB3.out.size (.cells #[.int .i64 9, .int .i64 a, .string ⟨v.toArray⟩] 24)).trans (below_le hE4 (by simp; omega)))
         obtain ⟨c0, c1, c2, f0, f1, f2⟩ := hR4.out.facts
         obtain ⟨d0, d1, d2, g0, g1, g2⟩ := hX4.out.facts
         clear hE4))
    refine bodyPost_ret (op_res (fn := Tryd.f13) rfl rfl rfl hR4.out.set3) rfl ?_
    exact ⟨rfl, below_set3 hB4.out (Nat.le_refl _) _ _ _⟩
  · rw [if_neg (fun h => hz h.1), if_neg (fun h => hz h.1)]
    go_enter Tryd.func13, Tryd.ntmps13
    go_wp2_with (first
      | (go_at_call 37; refine HC.out.mono ?_; rintro e w1 ⟨⟨b, rfl⟩, hE1, hz1⟩; have hR1 := Lib.hid (hR.out.below hE1 hlt); have hW1 := Lib.hid (hW.out.below hE1); have hB1 := Lib.hid (hB.out.trans (below_le hE1 (Nat.le_of_lt hlt))); have hlt1 : w.heap.size < w1.heap.size := by rw [hz1]; exact hlt
         have HX := Lib.hid (Boxed.new w1 9 (.string ⟨l1.toArray⟩))
         have hW1b := Lib.hid (hW1.out.below (below_al w1 (.cells #[.string ⟨l1.toArray⟩] 9)))
         clear hE1 hz1)
      | (go_at_call 38; refine (HK.out _ hW1b.out _ HX.out).mono ?_; rintro e w2 ⟨rfl, hE2⟩; have hR2 := Lib.hid ((hR1.out.alloc (.cells #[.string ⟨l1.toArray⟩] 9)).below hE2 (by simp; omega)); have hB2 := Lib.hid ((hB1.out.alloc hB1.out.size (.cells #[.string ⟨l1.toArray⟩] 9)).trans (below_le hE2 (by simp; omega))); have hW2 := Lib.hid (hW1b.out.below hE2); have hlt2 : w.heap.size < w2.heap.size := Nat.lt_of_lt_of_le (by simp; omega) hE2.size
         have hfn : w2.cell? ⟨0, 39, none⟩ = some (.func (.func 141) #[] #[]) := hW2.out.dec 9 (by decide)
         clear hE2 hlt1)
      | (go_at_call 141; refine (HD.out _ hW2.out).mono ?_; rintro e w3 ⟨rfl, hE3⟩; have hR3 := Lib.hid (hR2.out.below hE3 hlt2); have hB3 := Lib.hid (hB2.out.trans (below_le hE3 (Nat.le_of_lt hlt2))); have hW3 := Lib.hid (hW2.out.below hE3); have hlt3 : w.heap.size < w3.heap.size := Nat.lt_of_lt_of_le hlt2 hE3.size
         have hW3b := Lib.hid (hW3.out.below (below_al w3 (.cells #[.int .i64 9, .int .i64 a, .string ⟨v.toArray⟩] 24)))
         clear hE3 hlt2 hfn)
      | (go_at_call 20; refine (HP.out _ hW3b.out).mono ?_; rintro e w4 ⟨rfl, hE4⟩; have hR4 := Lib.hid ((hR3.out.alloc (.cells #[.int .i64 9, .int .i64 a, .string ⟨v.toArray⟩] 24)).below hE4 (by simp; omega)); have hX4 := Lib.hid ((Rw.new w3 24 #[.int .i64 9, .int .i64 a, .string ⟨v.toArray⟩]).below hE4 (by simp)); have hB4 := Lib.hid ((hB3.out.alloc hB3.out.size (.cells #[.int .i64 9, .int .i64 a, .string ⟨v.toArray⟩] 24)).trans (below_le hE4 (by simp; omega)))
         obtain ⟨c0, c1, c2, f0, f1, f2⟩ := hR4.out.facts
         obtain ⟨d0, d1, d2, g0, g1, g2⟩ := hX4.out.facts
         clear hE4))
    refine bodyPost_ret (op_res (fn := Tryd.f13) rfl rfl rfl hR4.out.set3) rfl ?_
    exact ⟨rfl, below_set3 hB4.out (Nat.le_refl _) _ _ _⟩
end Go.Proofs.YtjjnjglbmneecaaDoor
