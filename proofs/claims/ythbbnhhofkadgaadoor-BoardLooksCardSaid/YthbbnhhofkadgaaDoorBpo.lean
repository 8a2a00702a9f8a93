/- The number of the bits that are set, as math/bits.OnesCount64 reckons it, is the number of the squares. No condition. -/
import Derived.Test.YthbbnhhofkadgaaDoorBrv
namespace Go.Proofs.YthbbnhhofkadgaaDoor
open Go Go.RowKit
def mk (c : Nat) : Nat → Nat
  | 0 => 0
  | k + 1 => c + 256 * mk c k
theorem and_split (a b : Nat) : a &&& b = ((a % 256) &&& (b % 256)) + 256 * ((a / 256) &&& (b / 256)) := by
  have h1 : (a &&& b) % 256 = (a % 256) &&& (b % 256) := Nat.and_mod_two_pow (n := 8)
  have h2 : (a &&& b) / 256 = (a / 256) &&& (b / 256) := Nat.and_div_two_pow (n := 8)
  omega
theorem and_mk {c : Nat} (hc : c < 256) (a k : Nat) : a &&& mk c (k + 1) = ((a % 256) &&& c) + 256 * ((a / 256) &&& mk c k) := by
  rw [and_split a (mk c (k + 1))]
  have e1 : mk c (k + 1) % 256 = c := by simp only [mk]; omega
  have e2 : mk c (k + 1) / 256 = mk c k := by simp only [mk]; omega
  rw [e1, e2]
def f1 (k x : Nat) : Nat := ((x / 2) &&& mk 85 k) + (x &&& mk 85 k)
def f2 (k x : Nat) : Nat := ((x / 4) &&& mk 51 k) + (x &&& mk 51 k)
def f3 (k x : Nat) : Nat := (x / 16 + x) &&& mk 15 k
def b1 (c : Nat) : Nat := ((c / 2) &&& 85) + (c &&& 85)
def b2 (c : Nat) : Nat := ((c / 4) &&& 51) + (c &&& 51)
def b3 (c : Nat) : Nat := (c / 16 + c) &&& 15
theorem b1_ok : ∀ c : Fin 256, ∀ y : Fin 2, ((c.val / 2 + 128 * y.val) &&& 85) = (c.val / 2) &&& 85 := by decide +kernel
theorem b2_ok : ∀ c : Fin 256, ∀ y : Fin 4, ((c.val / 4 + 64 * y.val) &&& 51) = (c.val / 4) &&& 51 := by decide +kernel
theorem b1_lt : ∀ c : Fin 256, b1 c.val < 256 := by decide +kernel
theorem b21_lt : ∀ c : Fin 256, b2 (b1 c.val) < 80 ∧ b2 (b1 c.val) % 16 ≤ 4 ∧ b2 (b1 c.val) / 16 ≤ 4 := by decide +kernel
theorem b3_ok : ∀ c : Fin 69, ∀ y : Fin 5, c.val % 16 ≤ 4 → ((c.val / 16 + 16 * y.val + c.val) &&& 15) = b3 c.val := by decide +kernel
theorem f1_step (k c y : Nat) (hc : c < 256) : f1 (k + 1) (c + 256 * y) = b1 c + 256 * f1 k y := by
  unfold f1
  rw [and_mk (by decide), and_mk (by decide)]
  have e1 : (c + 256 * y) % 256 = c := by omega
  have e2 : (c + 256 * y) / 256 = y := by omega
  have e3 : (c + 256 * y) / 2 % 256 = c / 2 + 128 * (y % 2) := by omega
  have e4 : (c + 256 * y) / 2 / 256 = y / 2 := by omega
  have := b1_ok ⟨c, hc⟩ ⟨y % 2, by omega⟩
  simp only at this
  rw [e1, e2, e3, e4, this]
  unfold b1
  generalize y / 2 &&& mk 85 k = p
  generalize y &&& mk 85 k = q
  omega
theorem f2_step (k c y : Nat) (hc : c < 256) : f2 (k + 1) (c + 256 * y) = b2 c + 256 * f2 k y := by
  unfold f2
  rw [and_mk (by decide), and_mk (by decide)]
  have e1 : (c + 256 * y) % 256 = c := by omega
  have e2 : (c + 256 * y) / 256 = y := by omega
  have e3 : (c + 256 * y) / 4 % 256 = c / 4 + 64 * (y % 4) := by omega
  have e4 : (c + 256 * y) / 4 / 256 = y / 4 := by omega
  have := b2_ok ⟨c, hc⟩ ⟨y % 4, by omega⟩
  simp only at this
  rw [e1, e2, e3, e4, this]
  unfold b2
  generalize y / 4 &&& mk 51 k = p
  generalize y &&& mk 51 k = q
  omega
theorem f3_step (k c y : Nat) (hc : c < 69) (hc4 : c % 16 ≤ 4) (hy : y % 16 ≤ 4) : f3 (k + 1) (c + 256 * y) = b3 c + 256 * f3 k y := by
  unfold f3
  rw [and_mk (by decide)]
  have e3 : ((c + 256 * y) / 16 + (c + 256 * y)) % 256 = c / 16 + 16 * (y % 16) + c := by omega
  have e4 : ((c + 256 * y) / 16 + (c + 256 * y)) / 256 = y / 16 + y := by omega
  have := b3_ok ⟨c, hc⟩ ⟨y % 16, by omega⟩ hc4
  simp only at this
  rw [e3, e4, this]
/-- The bits of a byte. -/
def pB (c : Nat) : Nat := b3 (b2 (b1 c))
theorem pB_le : ∀ c : Fin 256, pB c.val ≤ 8 := by decide +kernel
/-- Bytes, the lowest first. -/
def ofBytes : List Nat → Nat
  | [] => 0
  | c :: r => c + 256 * ofBytes r
theorem f12_bytes : ∀ l : List Nat, (∀ c ∈ l, c < 256) → f2 l.length (f1 l.length (ofBytes l)) = ofBytes (l.map fun c => b2 (b1 c))
  | [], _ => by simp [ofBytes, f1, f2, mk]
  | c :: r, h => by
    have hc := h c (by simp)
    have ih := f12_bytes r (fun x hx => h x (by simp [hx]))
    simp only [ofBytes, List.length_cons, List.map_cons]
    rw [f1_step _ _ _ hc, f2_step _ _ _ (b1_lt ⟨c, hc⟩), ih]
theorem low_bytes (l : List Nat) (h : ∀ c ∈ l, c < 256) : ofBytes (l.map fun c => b2 (b1 c)) % 16 ≤ 4 := by
  cases l with
  | nil => simp [ofBytes]
  | cons c r =>
    have := (b21_lt ⟨c, h c (by simp)⟩).2.1
    simp only at this
    simp only [List.map_cons, ofBytes]
    omega
theorem f3_bytes : ∀ l : List Nat, (∀ c ∈ l, c < 256) → f3 l.length (ofBytes (l.map fun c => b2 (b1 c))) = ofBytes (l.map pB)
  | [], _ => by simp [ofBytes, f3, mk]
  | c :: r, h => by
    have hc := b21_lt ⟨c, h c (by simp)⟩
    simp only at hc
    have ih := f3_bytes r (fun x hx => h x (by simp [hx]))
    have hl := low_bytes r (fun x hx => h x (by simp [hx]))
    simp only [ofBytes, List.length_cons, List.map_cons]
    rw [f3_step _ _ _ (by omega) hc.2.1 hl, ih]; rfl
theorem m55 : mk 85 8 = 6148914691236517205 := by decide
theorem m33 : mk 51 8 = 3689348814741910323 := by decide
theorem m0f : mk 15 8 = 1085102592571150095 := by decide
theorem n1_eq (x : Nat) : n1 x = f1 8 x := by unfold n1 f1; rw [m55]
theorem n2_eq (x : Nat) : n2 x = f2 8 x := by unfold n2 f2; rw [m33]
theorem n3_eq (x : Nat) (h : x / 16 + x < 18446744073709551616) : n3 x = f3 8 x := by unfold n3 f3; rw [m0f, Nat.mod_eq_of_lt h]
theorem ofB_lt : ∀ l : List Nat, (∀ c ∈ l, c < 80) → 3 * ofBytes l < 256 ^ l.length
  | [], _ => by simp [ofBytes]
  | c :: r, h => by
    have ih := ofB_lt r (fun x hx => h x (by simp [hx]))
    have hc := h c (by simp)
    simp only [ofBytes, List.length_cons, Nat.pow_succ]
    omega
theorem sA {p0 p1 p2 y1 y2 y3 : Nat} (h0 : p0 ≤ 8) (h1 : p1 ≤ 8) (h2 : p2 ≤ 8) (e2 : y2 = p2 + 256 * y3) (e1 : y1 = p1 + 256 * y2) : (p0 + 256 * y1 + y1) / 65536 = y2 + y3 := by omega
theorem sB {p0 p1 p2 p3 p4 y1 y2 y3 y4 y5 : Nat} (e4 : y4 = p4 + 256 * y5) (e3 : y3 = p3 + 256 * y4) (e2 : y2 = p2 + 256 * y3) (e1 : y1 = p1 + 256 * y2) : p0 + 256 * y1 + y1 + (y2 + y3) = (p0 + p1 + p2 + p3) + 256 * (p1 + p2 + p3 + p4) + 65536 * (y2 + y3 + y4 + y5) := by omega
theorem sC {p2 p3 p4 p5 p6 p7 y2 y3 y4 y5 y6 : Nat} (e6 : y6 = p6 + 256 * p7) (e5 : y5 = p5 + 256 * y6) (e4 : y4 = p4 + 256 * y5) (e3 : y3 = p3 + 256 * y4) (e2 : y2 = p2 + 256 * y3) : y2 + y3 + y4 + y5 = (p2 + p3 + p4 + p5) + 256 * (p3 + p4 + p5 + p6) + 65536 * (y4 + y5 + y6 + p7) := by omega
theorem sD {p4 p5 p6 p7 y4 y5 y6 : Nat} (e6 : y6 = p6 + 256 * p7) (e5 : y5 = p5 + 256 * y6) (e4 : y4 = p4 + 256 * y5) : y4 + y5 + y6 + p7 = (p4 + p5 + p6 + p7) + 256 * (y5 + y6 + p7) := by omega
theorem sE {A B C D z : Nat} (h0 : A ≤ 32) (h1 : B ≤ 32) (h2 : C ≤ 32) (h3 : D ≤ 32) : (A + 256 * B + 65536 * (C + 256 * D + 65536 * z)) / 4294967296 = z := by omega
theorem sF {A B C D E F z : Nat} (h : z = E + 256 * F) (ha : A + E ≤ 127) : (A + 256 * B + 65536 * (C + 256 * D + 65536 * z) + z) % 128 = A + E := by omega
theorem sG {p0 p1 p2 p3 p4 p5 p6 p7 : Nat} (h0 : p0 ≤ 8) (h1 : p1 ≤ 8) (h2 : p2 ≤ 8) (h3 : p3 ≤ 8) (h4 : p4 ≤ 8) (h5 : p5 ≤ 8) (h6 : p6 ≤ 8) (h7 : p7 ≤ 8) : p0 + p1 + p2 + p3 + (p4 + p5 + p6 + p7) ≤ 127 := by omega
theorem sH {a b c d : Nat} (h0 : a ≤ 8) (h1 : b ≤ 8) (h2 : c ≤ 8) (h3 : d ≤ 8) : a + b + c + d ≤ 32 := by omega
theorem sum_bytesY {p0 p1 p2 p3 p4 p5 p6 p7 y1 y2 y3 y4 y5 y6 : Nat} (h0 : p0 ≤ 8) (h1 : p1 ≤ 8) (h2 : p2 ≤ 8) (h3 : p3 ≤ 8) (h4 : p4 ≤ 8) (h5 : p5 ≤ 8) (h6 : p6 ≤ 8) (h7 : p7 ≤ 8)
    (e6 : y6 = p6 + 256 * p7) (e5 : y5 = p5 + 256 * y6) (e4 : y4 = p4 + 256 * y5) (e3 : y3 = p3 + 256 * y4) (e2 : y2 = p2 + 256 * y3) (e1 : y1 = p1 + 256 * y2) :
    n6 (n5 (n4 (p0 + 256 * y1))) % 128 = p0 + p1 + p2 + p3 + (p4 + p5 + p6 + p7) := by
  have a0 : (p0 + 256 * y1) / 256 = y1 := by clear e1 e2 e3 e4 e5 e6; omega
  have a4 : n4 (p0 + 256 * y1) = p0 + 256 * y1 + y1 := by unfold n4; rw [a0]
  have a5 : n5 (p0 + 256 * y1 + y1) = p0 + 256 * y1 + y1 + (y2 + y3) := by unfold n5; rw [sA h0 h1 h2 e2 e1]
  rw [a4, a5, sB e4 e3 e2 e1, sC e6 e5 e4 e3 e2]
  unfold n6
  rw [sE (sH h0 h1 h2 h3) (sH h1 h2 h3 h4) (sH h2 h3 h4 h5) (sH h3 h4 h5 h6)]
  exact sF (sD e6 e5 e4) (sG h0 h1 h2 h3 h4 h5 h6 h7)
theorem sum_bytes {p0 p1 p2 p3 p4 p5 p6 p7 : Nat} (h0 : p0 ≤ 8) (h1 : p1 ≤ 8) (h2 : p2 ≤ 8) (h3 : p3 ≤ 8) (h4 : p4 ≤ 8) (h5 : p5 ≤ 8) (h6 : p6 ≤ 8) (h7 : p7 ≤ 8) :
    n6 (n5 (n4 (p0 + 256 * (p1 + 256 * (p2 + 256 * (p3 + 256 * (p4 + 256 * (p5 + 256 * (p6 + 256 * (p7 + 256 * 0)))))))))) % 128 = p0 + p1 + p2 + p3 + (p4 + p5 + p6 + p7) := by
  rw [Nat.mul_zero, Nat.add_zero]
  exact sum_bytesY h0 h1 h2 h3 h4 h5 h6 h7 rfl rfl rfl rfl rfl rfl
theorem oc_bytes (c0 c1 c2 c3 c4 c5 c6 c7 : Nat) (h0 : c0 < 256) (h1 : c1 < 256) (h2 : c2 < 256) (h3 : c3 < 256) (h4 : c4 < 256) (h5 : c5 < 256) (h6 : c6 < 256) (h7 : c7 < 256) :
    ocN (ofBytes [c0, c1, c2, c3, c4, c5, c6, c7]) = pB c0 + pB c1 + pB c2 + pB c3 + (pB c4 + pB c5 + pB c6 + pB c7) := by
  have hb : ∀ c ∈ [c0, c1, c2, c3, c4, c5, c6, c7], c < 256 := by
    intro c hc; simp at hc; rcases hc with rfl | rfl | rfl | rfl | rfl | rfl | rfl | rfl <;> assumption
  have e12 := f12_bytes [c0, c1, c2, c3, c4, c5, c6, c7] hb
  have e3 := f3_bytes [c0, c1, c2, c3, c4, c5, c6, c7] hb
  simp only [List.length_cons, List.length_nil, Nat.zero_add, Nat.reduceAdd] at e12 e3
  have p0 := pB_le ⟨c0, h0⟩
  have p1 := pB_le ⟨c1, h1⟩
  have p2 := pB_le ⟨c2, h2⟩
  have p3 := pB_le ⟨c3, h3⟩
  have p4 := pB_le ⟨c4, h4⟩
  have p5 := pB_le ⟨c5, h5⟩
  have p6 := pB_le ⟨c6, h6⟩
  have p7 := pB_le ⟨c7, h7⟩
  have q0 := b21_lt ⟨c0, h0⟩
  have q1 := b21_lt ⟨c1, h1⟩
  have q2 := b21_lt ⟨c2, h2⟩
  have q3 := b21_lt ⟨c3, h3⟩
  have q4 := b21_lt ⟨c4, h4⟩
  have q5 := b21_lt ⟨c5, h5⟩
  have q6 := b21_lt ⟨c6, h6⟩
  have q7 := b21_lt ⟨c7, h7⟩
  simp only at p0 p1 p2 p3 p4 p5 p6 p7 q0 q1 q2 q3 q4 q5 q6 q7
  unfold ocN
  rw [n1_eq, n2_eq, e12]
  have hlt := ofB_lt ([c0, c1, c2, c3, c4, c5, c6, c7].map fun c => b2 (b1 c)) (by
    intro c hc
    simp only [List.map_cons, List.map_nil, List.mem_cons, List.not_mem_nil, or_false] at hc
    rcases hc with rfl | rfl | rfl | rfl | rfl | rfl | rfl | rfl <;> omega)
  have e8 : (256 : Nat) ^ ([c0, c1, c2, c3, c4, c5, c6, c7].map fun c => b2 (b1 c)).length = 18446744073709551616 := by simp
  rw [e8] at hlt
  rw [n3_eq _ (by omega), e3]
  clear q0 q1 q2 q3 q4 q5 q6 q7 e12 e3 hlt hb e8
  simp only [List.map_cons, List.map_nil, ofBytes]
  exact sum_bytes p0 p1 p2 p3 p4 p5 p6 p7
/-- The set of the squares at which t holds, of the first k. -/
def bsT (t : Nat → Bool) : Nat → Nat
  | 0 => 0
  | k + 1 => bsT t k + if t k = true then 2 ^ k else 0
/-- How many these are. -/
def cnT (t : Nat → Bool) : Nat → Nat
  | 0 => 0
  | k + 1 => cnT t k + if t k = true then 1 else 0
theorem bsT_lt (t : Nat → Bool) (k : Nat) : bsT t k < 2 ^ k := by
  induction k with
  | zero => simp [bsT]
  | succ k ih =>
    have : 2 ^ (k + 1) = 2 ^ k + 2 ^ k := by rw [Nat.pow_succ]; omega
    simp only [bsT]
    split <;> omega
theorem bsT_lt64 (t : Nat → Bool) : bsT t 64 < 18446744073709551616 := by have := bsT_lt t 64; rw [p64v] at this; exact this
theorem bsT_split (t : Nat → Bool) (n k : Nat) : bsT t (n + k) = bsT t n + 2 ^ n * bsT (fun i => t (n + i)) k := by
  induction k with
  | zero => simp [bsT]
  | succ k ih =>
    rw [← Nat.add_assoc]
    simp only [bsT]
    rw [ih, Nat.pow_add, Nat.mul_add]
    split
    · omega
    · simp
theorem cnT_split (t : Nat → Bool) (n k : Nat) : cnT t (n + k) = cnT t n + cnT (fun i => t (n + i)) k := by
  induction k with
  | zero => simp [cnT]
  | succ k ih => rw [← Nat.add_assoc]; simp only [cnT]; rw [ih]; omega
theorem pB_bits : ∀ a b c d e f g h : Bool, pB ((((((((0 + if a = true then 2 ^ 0 else 0) + if b = true then 2 ^ 1 else 0) + if c = true then 2 ^ 2 else 0) + if d = true then 2 ^ 3 else 0) + if e = true then 2 ^ 4 else 0) + if f = true then 2 ^ 5 else 0) + if g = true then 2 ^ 6 else 0) + if h = true then 2 ^ 7 else 0) =
    ((((((((0 + if a = true then 1 else 0) + if b = true then 1 else 0) + if c = true then 1 else 0) + if d = true then 1 else 0) + if e = true then 1 else 0) + if f = true then 1 else 0) + if g = true then 1 else 0) + if h = true then 1 else 0) := by decide +kernel
theorem pB_bsT (t : Nat → Bool) : pB (bsT t 8) = cnT t 8 := by
  simp only [bsT, cnT]
  exact pB_bits (t 0) (t 1) (t 2) (t 3) (t 4) (t 5) (t 6) (t 7)
theorem bsT8 (t : Nat → Bool) : bsT t 8 < 256 := bsT_lt t 8
theorem bsT_bytes (t : Nat → Bool) : bsT t 64 = ofBytes [bsT t 8, bsT (fun i => t (8 + i)) 8, bsT (fun i => t (16 + i)) 8, bsT (fun i => t (24 + i)) 8, bsT (fun i => t (32 + i)) 8, bsT (fun i => t (40 + i)) 8, bsT (fun i => t (48 + i)) 8, bsT (fun i => t (56 + i)) 8] := by
  rw [show (64 : Nat) = 56 + 8 from rfl, bsT_split t 56 8, show (56 : Nat) = 48 + 8 from rfl, bsT_split t 48 8, show (48 : Nat) = 40 + 8 from rfl, bsT_split t 40 8, show (40 : Nat) = 32 + 8 from rfl, bsT_split t 32 8,
    show (32 : Nat) = 24 + 8 from rfl, bsT_split t 24 8, show (24 : Nat) = 16 + 8 from rfl, bsT_split t 16 8, show (16 : Nat) = 8 + 8 from rfl, bsT_split t 8 8]
  simp only [ofBytes]
  generalize bsT t 8 = c0
  generalize bsT (fun i => t (8 + i)) 8 = c1
  generalize bsT (fun i => t (8 + 8 + i)) 8 = c2
  generalize bsT (fun i => t (8 + 8 + 8 + i)) 8 = c3
  generalize bsT (fun i => t (8 + 8 + 8 + 8 + i)) 8 = c4
  generalize bsT (fun i => t (8 + 8 + 8 + 8 + 8 + i)) 8 = c5
  generalize bsT (fun i => t (8 + 8 + 8 + 8 + 8 + 8 + i)) 8 = c6
  generalize bsT (fun i => t (8 + 8 + 8 + 8 + 8 + 8 + 8 + i)) 8 = c7
  simp only [Nat.mul_add, ← Nat.mul_assoc, Nat.mul_zero, Nat.add_zero, ← Nat.add_assoc]
/-- OnesCount64 counts the squares. -/
theorem oc_bsT (t : Nat → Bool) : ocN (bsT t 64) = cnT t 64 := by
  rw [bsT_bytes, oc_bytes _ _ _ _ _ _ _ _ (bsT8 _) (bsT8 _) (bsT8 _) (bsT8 _) (bsT8 _) (bsT8 _) (bsT8 _) (bsT8 _)]
  simp only [pB_bsT]
  rw [show (64 : Nat) = 56 + 8 from rfl, cnT_split t 56 8, show (56 : Nat) = 48 + 8 from rfl, cnT_split t 48 8, show (48 : Nat) = 40 + 8 from rfl, cnT_split t 40 8, show (40 : Nat) = 32 + 8 from rfl, cnT_split t 32 8,
    show (32 : Nat) = 24 + 8 from rfl, cnT_split t 24 8, show (24 : Nat) = 16 + 8 from rfl, cnT_split t 16 8, show (16 : Nat) = 8 + 8 from rfl, cnT_split t 8 8]
  omega
theorem bsT_bit (t : Nat → Bool) (k i : Nat) : (bsT t k).testBit i = (decide (i < k) && t i) := by
  induction k with
  | zero => simp [bsT]
  | succ k ih =>
    have hlt := bsT_lt t k
    simp only [bsT]
    by_cases hc : t k = true
    · rw [if_pos hc]
      have e : bsT t k + 2 ^ k = 2 ^ k ||| bsT t k := by
        have := Nat.two_pow_add_eq_or_of_lt hlt 1
        rw [Nat.mul_one] at this
        omega
      rw [e, Nat.testBit_or, Nat.testBit_two_pow, ih]
      by_cases h : i = k
      · subst h; simp [hc]
      · by_cases h2 : i < k
        · have h3 : i < k + 1 := by omega
          have h4 : ¬ k = i := by omega
          simp [h2, h3, h4]
        · have h3 : ¬ i < k + 1 := by omega
          have h4 : ¬ k = i := by omega
          simp [h2, h3, h4]
    · have hc' : t k = false := by simpa using hc
      rw [if_neg hc, Nat.add_zero, ih]
      by_cases h : i = k
      · subst h; simp [hc']
      · by_cases h2 : i < k
        · have h3 : i < k + 1 := by omega
          simp [h2, h3]
        · have h3 : ¬ i < k + 1 := by omega
          simp [h2, h3]
theorem bsum_bsT (f : Int → Bool) (b : List Int) (k : Nat) : bsum f b k = bsT (fun i => decide (inP (b.getD i 0)) && f (b.getD i 0)) k := by
  induction k with
  | zero => rfl
  | succ k ih =>
    simp only [bsum, bsT]
    rw [ih]
    by_cases h1 : inP (b.getD k 0)
    · by_cases h2 : f (b.getD k 0) = true
      · rw [if_pos ⟨h1, h2⟩, if_pos (by rw [h2, decide_eq_true h1]; rfl)]
      · rw [if_neg (fun h => h2 h.2), if_neg (by rw [decide_eq_true h1, Bool.true_and]; exact h2)]
    · rw [if_neg (fun h => h1 h.1), if_neg (by rw [decide_eq_false h1]; simp)]
theorem bsT_congr {t u : Nat → Bool} (k : Nat) (h : ∀ i, i < k → t i = u i) : bsT t k = bsT u k := by
  induction k with
  | zero => rfl
  | succ k ih => simp only [bsT]; rw [ih (fun i hi => h i (by omega)), h k (by omega)]
theorem cnT_congr {t u : Nat → Bool} (k : Nat) (h : ∀ i, i < k → t i = u i) : cnT t k = cnT u k := by
  induction k with
  | zero => rfl
  | succ k ih => simp only [cnT]; rw [ih (fun i hi => h i (by omega)), h k (by omega)]
theorem big_bit {x i : Nat} (hx : x < 18446744073709551616) (hi : 64 ≤ i) : x.testBit i = false :=
  Nat.testBit_lt_two_pow (Nat.lt_of_lt_of_le (by rw [← p64v] at hx; exact hx) (Nat.pow_le_pow_right (by decide) hi))
theorem bsT_or (t u : Nat → Bool) : bsT t 64 ||| bsT u 64 = bsT (fun i => t i || u i) 64 := by
  apply Nat.eq_of_testBit_eq
  intro i
  rw [Nat.testBit_or, bsT_bit, bsT_bit, bsT_bit]
  cases decide (i < 64) <;> simp
theorem bsT_and0 {t u : Nat → Bool} (h : ∀ i, i < 64 → ¬ (t i = true ∧ u i = true)) : bsT t 64 &&& bsT u 64 = 0 := by
  apply Nat.eq_of_testBit_eq
  intro i
  rw [Nat.testBit_and, bsT_bit, bsT_bit, Nat.zero_testBit]
  by_cases hi : i < 64
  · have := h i hi
    cases h1 : t i <;> cases h2 : u i <;> simp_all
  · simp [hi]
theorem cnB_get (b : List Int) (k q : Nat) (hq : q < 13) : (cnB b k).getD q 0 = (cnT (fun i => pieceAt (b.getD i 0) == q) k : Nat) := by
  induction k with
  | zero =>
    have : ∀ i : Fin 13, zero13.getD i.val 0 = 0 := by decide
    exact this ⟨q, hq⟩
  | succ k ih =>
    simp only [cnB, cn1, cnT]
    have hl := cnB_len b k
    have hp := pieceAt_lt (b.getD k 0)
    by_cases h : pieceAt (b.getD k 0) = q
    · subst h
      rw [List.getD_eq_getElem?_getD, List.getElem?_set_self (by omega)]
      simp only [Option.getD_some, beq_self_eq_true, if_true]
      rw [ih]; omega
    · have h2 : (pieceAt (b.getD k 0) == q) = false := by simpa using h
      rw [List.getD_eq_getElem?_getD, List.getElem?_set_ne h, ← List.getD_eq_getElem?_getD, ih, if_neg (by rw [h2]; exact Bool.false_ne_true)]
      rfl
theorem cnT_add {t u : Nat → Bool} (k : Nat) (h : ∀ i, i < k → (t i = true ↔ ¬ u i = true)) : cnT t k + cnT u k = k := by
  induction k with
  | zero => rfl
  | succ k ih =>
    have := ih (fun i hi => h i (by omega))
    have hk := h k (by omega)
    simp only [cnT]
    by_cases h1 : t k = true
    · rw [if_pos h1, if_neg (hk.1 h1)]; omega
    · rw [if_neg h1, if_pos (by cases hu : u k with | true => rfl | false => exact absurd (hk.2 (by rw [hu]; simp)) h1)]; omega
end Go.Proofs.YthbbnhhofkadgaaDoor
