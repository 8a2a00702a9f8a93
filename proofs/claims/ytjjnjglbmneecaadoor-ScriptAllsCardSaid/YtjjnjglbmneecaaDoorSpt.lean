/- The contract of script.PrintAll. -/
import Derived.Test.YtjjnjglbmneecaaDoorSop
namespace Go.Proofs.YtjjnjglbmneecaaDoor
open Go Go.RowKit
theorem builder_grow {T e : TypeId} {B b : Nat} {p : Value} {bs : List Value} {w w' : World} (h : Lib.BuilderAt T e B b p bs w) (hb : Below w.heap.size w w') : Lib.BuilderAt T e B b p bs w' := by
  have hlt := h.lt
  obtain ⟨h1, v, h2, h3, h4⟩ := h
  exact ⟨h1, v, (hb.block b hlt).trans h2, owns_below h3 hb, h4⟩
theorem Bld.grow {w0 w w' : World} {b : Nat} {l : List UInt8} (h : Bld w0 b l w) (hb : Below w.heap.size w w') : Bld w0 b l w' :=
  ⟨h.is.elim (fun h => .inl (builder_grow h hb)) (fun h => .inr (builder_grow h hb)), h.bel.trans (below_le hb h.bel.size)⟩
def prx (x : Opx) : List UInt8 := prS x.1 x.2.1 x.2.2
/-- The loop of PrintAll. -/
def paL : List Opx → List UInt8 → List UInt8 × Int
  | [], acc => (acc, 0)
  | x :: r, acc => if 262144 < acc.length + (prx x).length + 1 then ([], 9) else paL r (acc ++ (prx x ++ [10]))
/-- What PrintAll returns. -/
def paP (l : List Opx) : List UInt8 × Int := if 1000 < l.length then ([], 10) else if ∃ x ∈ l, zx x ≠ 0 then ([], 2) else paL l []
theorem prx_len {x : Opx} (hx : Fine x) : (prx x).length ≤ 6000000 := by
  unfold prx prS
  split
  · have := encP_len x.1.toNat x.2.1 x.2.2 hx.1 hx.2.1 hx.2.2
    have h2 : (wordL x.1.toNat).length ≤ 10 := by
      unfold wordL
      rcases h : x.1.toNat with _ | _ | _ | _ | _ | _ | _ | _ | _ | _ | n <;> simp
    simp; omega
  · simp
set_option maxHeartbeats 4000000 in
theorem pall_any {w : World} (hw : EnvS w) (l : List Opx) (g cap : Nat) (hl : l.length ≤ 1000000) (hc : OpsAt w g l) (hg : g < w.heap.size) (hf : ∀ x ∈ l, Fine x) :
    Calls Tryd.prog 33 #[.slice (some ⟨g, 0, none⟩) l.length cap] w fun e w' => e = .returned (.tuple #[.string ⟨(paP l).1.toArray⟩, .int .i64 (paP l).2]) ∧ Below w.heap.size w w' := by
  by_cases h1 : 1000 < l.length
  · have hp : paP l = ([], 10) := if_pos h1
    rw [hp]
    have d1 : decide (1000 < (l.length : Int)) = true := by simp; omega
    clear hc hf hp
    go_enter Tryd.func33, Tryd.ntmps33
    go_wp2_with fail
    go_ret2
    exact ⟨rfl, Below.refl _ _⟩
  have d1 : decide (1000 < (l.length : Int)) = false := by simp; omega
  have HX := Lib.hid (ocontains_any hw l g cap hl hc hg hf)
  have HC := Lib.hid hc
  have HF := Lib.hid hf
  clear hc hf
  by_cases h2 : ∃ x ∈ l, zx x ≠ 0
  · have hp : paP l = ([], 2) := by unfold paP; rw [if_neg h1, if_pos h2]
    rw [hp]
    rw [decide_eq_true h2] at HX
    clear hp h2 h1
    go_enter Tryd.func33, Tryd.ntmps33
    go_wp2_with (go_at_call 54; refine HX.out.mono ?_; rintro e w' ⟨rfl, hE⟩)
    go_ret2
    exact ⟨rfl, hE⟩
  have HZ : Hid (∀ x ∈ l, zx x = 0) := Lib.hid (fun x hx => Classical.byContradiction fun h => h2 ⟨x, hx, h⟩)
  have hp : paP l = paL l [] := by unfold paP; rw [if_neg h1, if_neg h2]
  rw [hp]
  rw [decide_eq_false h2] at HX
  clear hp h2
  obtain ⟨rs, hrs⟩ : ∃ rs, paL l [] = rs := ⟨_, rfl⟩
  rw [hrs]
  have HRS := Lib.hid hrs
  clear hrs
  go_enter Tryd.func33, Tryd.ntmps33
  go_wp2_with (go_at_call 54; refine HX.out.mono ?_; rintro e w1 ⟨rfl, hE⟩; have HB := Lib.hid (Bld.fresh w1); have HE := Lib.hid hE; have HW1 := Lib.hid (hw.below hE); have HC1 := Lib.hid (HC.out.below hE hg); have hg1 : g < w1.heap.size := Nat.lt_of_lt_of_le hg hE.size; clear hE)
  go_loopg [16] l.length (fun mm i wr => ∃ (k : Nat) (acc : List UInt8), mm = l.length - k ∧ k ≤ l.length ∧ i = .int .i64 k ∧ rs = paL (l.drop k) acc ∧ acc.length ≤ 262144 ∧ Bld w1 w1.heap.size acc wr)
  case atStart => exact ⟨0, [], rfl, by omega, rfl, HRS.out.symm, by simp, HB.out⟩
  case round =>
    obtain ⟨k, acc, hkm, hk, rfl, hix, hacc, hb⟩ := hrel
    have HK := Lib.hid hkm
    clear hkm
    by_cases hlt : k < l.length
    · have hdi : decide ((k : Int) < (l.length : Int)) = true := by simp; omega
      obtain ⟨q0, q1, q2⟩ := (HC1.out.below hb.bel hg1) k hlt
      have hd : l.drop k = l[k] :: l.drop (k + 1) := List.drop_eq_getElem_cons hlt
      have hfx := HF.out _ (List.getElem_mem hlt)
      have hzx := HZ.out _ (List.getElem_mem hlt)
      rw [hd] at hix
      generalize l[k] = x at q0 q1 q2 hix hfx hzx
      rw [show paL (x :: l.drop (k + 1)) acc = if 262144 < acc.length + (prx x).length + 1 then ([], 9) else paL (l.drop (k + 1)) (acc ++ (prx x ++ [10])) from rfl] at hix
      have HI := Lib.hid hix
      have hpl := prx_len hfx
      have HP := Lib.hid (fun (W : World) (hW : EnvS W) => print_any hW x.1 x.2.1 ⟨x.2.2.toArray⟩ (by simpa [ByteArray.size] using hfx.1) hfx.2.1 hfx.2.2)
      rw [show chkZ x.1 x.2.1 (⟨x.2.2.toArray⟩ : ByteArray).data.toList = 0 from hzx, show prS x.1 x.2.1 (⟨x.2.2.toArray⟩ : ByteArray).data.toList = prx x from rfl] at HP
      have HWr := Lib.hid (HW1.out.below hb.bel)
      have hb0 := Lib.hid hb
      have hle := hb.bel.size
      clear hix hd hb hfx hzx
      obtain ⟨xk, xa, xv⟩ := x
      unfold opV at HP
      dsimp only at *
      generalize prx (xk, xa, xv) = p at *
      by_cases hx : 262144 < acc.length + p.length + 1
      · have hdx : decide ((262144 : Int) < (acc.length : Int) + (p.length : Int) + 1) = true := by simp; omega
        have HZ2 : Hid (rs = ([], 9)) := Lib.hid (by rw [HI.out, if_pos hx])
        clear hx
        go_wp2_with (first
          | (go_at_call 20; refine (HP.out _ (HWr.out.below (below_al _ _))).mono ?_; rintro e w2 ⟨rfl, hE⟩; have hb2 := Lib.hid (hb0.out.grow ((below_al wr (.cells #[.int .i64 xk, .int .i64 xa, .string ⟨xv.toArray⟩] 24)).trans (below_le hE (by simp)))))
          | (go_at_call 56; refine (blen_any hb2.out).mono ?_; rintro e w3 ⟨rfl, rfl⟩))
        go_ret2
        exact ⟨by rw [HZ2.out]; rfl, HE.out.trans (below_le hb2.out.bel HE.out.size)⟩
      · have hdx : decide ((262144 : Int) < (acc.length : Int) + (p.length : Int) + 1) = false := by simp; omega
        have HZ2 : Hid (rs = paL (l.drop (k + 1)) (acc ++ (p ++ [10]))) := Lib.hid (by rw [HI.out, if_neg hx])
        have hacc2 : acc.length + p.length + 1 ≤ 262144 := by omega
        clear hx
        obtain ⟨pb, hpb⟩ : ∃ pb : ByteArray, ⟨p.toArray⟩ ++ ⟨#[10]⟩ = pb := ⟨_, rfl⟩
        have hpl2 : pb.data.toList = p ++ [10] := by rw [← hpb]; simp
        have hps : pb.size = p.length + 1 := by rw [Lib.size_eq, hpl2]; simp
        have HPL := Lib.hid hpl2
        have HW := Lib.hid (fun (W : World) (h : Bld w1 w1.heap.size acc W) => wstr_any h pb (by rw [hps]; omega))
        clear hpl2 hps
        go_wp2_with (first
          | (go_at_call 20; refine (HP.out _ (HWr.out.below (below_al _ _))).mono ?_; rintro e w2 ⟨rfl, hE⟩; have hb2 := Lib.hid (hb0.out.grow ((below_al wr (.cells #[.int .i64 xk, .int .i64 xa, .string ⟨xv.toArray⟩] 24)).trans (below_le hE (by simp)))))
          | (go_at_call 56; refine (blen_any hb2.out).mono ?_; rintro e w3 ⟨rfl, rfl⟩)
          | (go_at_call 44; (try rw [hpb]); refine (HW.out _ hb2.out).mono ?_; rintro e w3 ⟨rfl, hb3⟩; have hb4 := Lib.hid hb3; clear hb3))
        have hb5 := hb4.out
        rw [HPL.out] at hb5
        go_roundg (l.length - (k + 1))
        case measure => have := HK.out; omega
        case rel => exact ⟨k + 1, _, rfl, by omega, by go_num, HZ2.out, by simp; omega, hb5⟩
    · have hkl : k = l.length := by omega
      subst hkl
      rw [List.drop_length] at hix
      have HI := Lib.hid hix
      clear hix
      go_wp2_with (go_at_call 46; refine (bstr_any hb).mono ?_; rintro e w2 ⟨rfl, hE⟩)
      go_ret2
      refine ⟨by rw [HI.out]; rfl, HE.out.trans (below_le hE HE.out.size)⟩
theorem pall_nil (w : World) : Calls Tryd.prog 33 #[.slice none 0 0] w fun e w' => e = .returned (.tuple #[.string ⟨#[]⟩, .int .i64 0]) ∧ Below w.heap.size w w' := by
  go_enter Tryd.func33, Tryd.ntmps33
  go_wp2_with (go_at_call 54; refine (ocontains_nil _).mono ?_; rintro e w1 ⟨rfl, hE⟩; have HB := Lib.hid (Bld.fresh w1); have HE := Lib.hid hE; clear hE)
  go_loopg [16] 1 (fun mm i wr => mm = 1 ∧ i = .int .i64 0 ∧ Bld w1 w1.heap.size [] wr)
  case atStart => exact ⟨rfl, rfl, HB.out⟩
  case round =>
    obtain ⟨rfl, rfl, hb⟩ := hrel
    go_wp2_with (go_at_call 46; refine (bstr_any hb).mono ?_; rintro e w2 ⟨rfl, hE⟩)
    go_ret2
    exact ⟨rfl, HE.out.trans (below_le hE HE.out.size)⟩
end Go.Proofs.YtjjnjglbmneecaaDoor
