/- The contract of script.Parse. -/
import Derived.Test.YtjjnjglbmneecaaDoorSdb
import Derived.Test.YtjjnjglbmneecaaDoorSdf
namespace Go.Proofs.YtjjnjglbmneecaaDoor
open Go Go.RowKit
theorem parse_if (k a z : Int) (v t s : List UInt8) (hk : kixF (spL s).1 10 0 = k) (h0 : 0 < k) (hd : decP k.toNat (spL s).2 = (a, v)) (ht : prS k a v = t) (hz : chkZ k a v = z) :
    parV s = (if z = 0 ∧ t = s then opV k a ⟨v.toArray⟩ else opV 0 0 ⟨#[]⟩) ∧ parE s = (if z = 0 ∧ t = s then 0 else 8) := by
  have hp : parO s = if z = 0 ∧ t = s then some (k, a, v) else none := by
    unfold parO
    simp only [hk]
    rw [if_neg (by omega), hd, ht, hz]
  unfold parV parE
  rw [hp]
  by_cases h : z = 0 ∧ t = s
  · rw [if_pos h, if_pos h, if_pos h]; exact ⟨rfl, rfl⟩
  · rw [if_neg h, if_neg h, if_neg h]; exact ⟨rfl, rfl⟩
theorem parse_any {w : World} (hw : EnvS w) (s : ByteArray) (hs : s.size ≤ 250000) :
    Calls Tryd.prog 13 #[.string s] w fun e w' => e = .returned (.tuple #[parV s.data.toList, .int .i64 (parE s.data.toList)]) ∧ Below w.heap.size w w' := by
  rcases kixF_rng (spL s.data.toList).1 with h | ⟨k, hk0, hk1, hk, _⟩
  · have hp : parO s.data.toList = none := by unfold parO; simp only [h]; rw [if_pos (by decide)]
    have e1 : parV s.data.toList = opV 0 0 ⟨#[]⟩ := by unfold parV; rw [hp]
    have e2 : parE s.data.toList = 8 := by unfold parE; rw [hp]
    rw [e1, e2]
    exact parse_no hw s hs h
  · obtain ⟨a, v, hd⟩ : ∃ a v, decP k (spL s.data.toList).2 = (a, v) := ⟨_, _, rfl⟩
    have hif := parse_if k a (chkZ k a v) v (prS k a v) s.data.toList hk (by omega) (by simpa using hd) rfl rfl
    rw [hif.1, hif.2]
    have hk' : k = 1 ∨ k = 2 ∨ k = 3 ∨ k = 4 ∨ k = 5 ∨ k = 6 ∨ k = 7 ∨ k = 8 ∨ k = 9 := by omega
    rcases hk' with rfl | rfl | rfl | rfl | rfl | rfl | rfl | rfl | rfl
    · exact parse_1 hw s hs hk hd rfl rfl
    · exact parse_2 hw s hs hk hd rfl rfl
    · exact parse_3 hw s hs hk hd rfl rfl
    · exact parse_4 hw s hs hk hd rfl rfl
    · exact parse_5 hw s hs hk hd rfl rfl
    · exact parse_6 hw s hs hk hd rfl rfl
    · exact parse_7 hw s hs hk hd rfl rfl
    · exact parse_8 hw s hs hk hd rfl rfl
    · exact parse_9 hw s hs hk hd rfl rfl
end Go.Proofs.YtjjnjglbmneecaaDoor
