/-
  Counting bits: plain.
-/
import Derived.Test.YtkmfbddiebigfaaDoorSets
namespace Go.Shoal
open Go

/-- The bits of a number, n of them. -/
def bitsFrom (s : Nat) : Nat → Nat → List Nat
  | _, 0 => []
  | i, n + 1 => if s.testBit i then i :: bitsFrom s (i + 1) n else bitsFrom s (i + 1) n
def bitsOf (s : Nat) : List Nat := bitsFrom s 0 64
theorem bitsFrom_mem (s : Nat) : ∀ (n i : Nat) (x : Nat), x ∈ bitsFrom s i n ↔ (i ≤ x ∧ x < i + n ∧ s.testBit x = true)
  | 0, i, x => by
    constructor
    · intro h; cases h
    · rintro ⟨h1, h2, _⟩; omega
  | n + 1, i, x => by
    have ih := bitsFrom_mem s n (i + 1) x
    unfold bitsFrom
    by_cases hb : s.testBit i = true
    · rw [if_pos hb, List.mem_cons, ih]
      constructor
      · rintro (rfl | ⟨h1, h2, h3⟩)
        · exact ⟨Nat.le_refl _, by omega, hb⟩
        · exact ⟨by omega, by omega, h3⟩
      · rintro ⟨h1, h2, h3⟩
        by_cases e : x = i
        · exact .inl e
        · exact .inr ⟨by omega, by omega, h3⟩
    · rw [if_neg hb, ih]
      constructor
      · rintro ⟨h1, h2, h3⟩; exact ⟨by omega, by omega, h3⟩
      · rintro ⟨h1, h2, h3⟩
        by_cases e : x = i
        · rw [e] at h3; exact absurd h3 hb
        · exact ⟨by omega, by omega, h3⟩
theorem bitsFrom_rise (s : Nat) : ∀ (n i : Nat), (bitsFrom s i n).Pairwise (· < ·)
  | 0, _ => List.Pairwise.nil
  | n + 1, i => by
    unfold bitsFrom
    split
    · refine List.pairwise_cons.2 ⟨fun x hx => ?_, bitsFrom_rise s n (i + 1)⟩
      have := ((bitsFrom_mem s n (i + 1) x).1 hx).1
      omega
    · exact bitsFrom_rise s n (i + 1)
theorem bitsFrom_len (s : Nat) : ∀ (n i : Nat), (bitsFrom s i n).length ≤ n
  | 0, _ => Nat.le_refl _
  | n + 1, i => by
    have := bitsFrom_len s n (i + 1)
    unfold bitsFrom
    split
    · rw [List.length_cons]; omega
    · omega
theorem bitsOf_mem (s x : Nat) : x ∈ bitsOf s ↔ (x < 64 ∧ s.testBit x = true) := by
  unfold bitsOf
  rw [bitsFrom_mem]
  exact ⟨fun h => ⟨by omega, h.2.2⟩, fun h => ⟨Nat.zero_le _, by omega, h.2⟩⟩
theorem bitsOf_len (s : Nat) : (bitsOf s).length ≤ 64 := bitsFrom_len s 64 0
theorem bitsFrom_none (s : Nat) : ∀ (n i : Nat), (∀ x, i ≤ x → x < i + n → s.testBit x = false) → bitsFrom s i n = []
  | 0, _, _ => rfl
  | n + 1, i, h => by
    unfold bitsFrom
    rw [if_neg (by rw [h i (Nat.le_refl _) (by omega)]; decide)]
    exact bitsFrom_none s n (i + 1) (fun x h1 h2 => h x (by omega) (by omega))
theorem bitsFrom_same (s t : Nat) : ∀ (n i : Nat), (∀ x, i ≤ x → x < i + n → s.testBit x = t.testBit x) → bitsFrom s i n = bitsFrom t i n
  | 0, _, _ => rfl
  | n + 1, i, h => by
    unfold bitsFrom
    rw [h i (Nat.le_refl _) (by omega), bitsFrom_same s t n (i + 1) (fun x h1 h2 => h x (by omega) (by omega))]
theorem bitsFrom_first (s t k : Nat) : ∀ (n i : Nat), i ≤ k → k < i + n → (∀ x, x < k → s.testBit x = false) → s.testBit k = true → (∀ x, t.testBit x = (s.testBit x && decide (x ≠ k))) → bitsFrom s i n = k :: bitsFrom t i n
  | 0, i, h1, h2, _, _, _ => by omega
  | n + 1, i, h1, h2, h3, h4, h5 => by
    unfold bitsFrom
    by_cases e : i = k
    · subst e
      rw [if_pos h4, if_neg (by rw [h5]; simp)]
      congr 1
      refine bitsFrom_same s t n (i + 1) (fun x g1 g2 => ?_)
      rw [h5, decide_eq_true (show x ≠ i by omega), Bool.and_true]
    · have h6 := h3 i (by omega)
      rw [if_neg (by rw [h6]; decide), if_neg (by rw [h5, h6]; simp)]
      exact bitsFrom_first s t k n (i + 1) (by omega) (by omega) h3 h4 h5
/-! Counting by parts. -/
def rep (m : Nat) : Nat → Nat
  | 0 => 0
  | n + 1 => rep m n * 256 + m
theorem and_part (a c A m : Nat) (hc : c < 256) (hm : m < 256) : (a * 256 + c) &&& (A * 256 + m) = (a &&& A) * 256 + (c &&& m) := by
  have hcm : c &&& m < 2 ^ 8 := Nat.lt_of_le_of_lt Nat.and_le_left hc
  apply Nat.eq_of_testBit_eq
  intro i
  rw [Nat.testBit_and, Nat.mul_comm a, Nat.mul_comm A, Nat.mul_comm (a &&& A), show (256 : Nat) = 2 ^ 8 from rfl, Nat.testBit_two_pow_mul_add _ hc, Nat.testBit_two_pow_mul_add _ hm, Nat.testBit_two_pow_mul_add _ hcm]
  split
  · rw [Nat.testBit_and]
  · rw [Nat.testBit_and]
def f1 (n x : Nat) : Nat := (x / 2 &&& rep 85 n) + (x &&& rep 85 n)
def f2 (n x : Nat) : Nat := (x / 4 &&& rep 51 n) + (x &&& rep 51 n)
def f3 (n x : Nat) : Nat := (x / 16 + x) &&& rep 15 n
def g1 (b : Nat) : Nat := (b / 2 &&& 85) + (b &&& 85)
def g2 (b : Nat) : Nat := (b / 4 &&& 51) + (b &&& 51)
def g3 (b : Nat) : Nat := (b / 16 + b) &&& 15
theorem tab1 : ∀ (h : Fin 2) (b : Fin 256), ((h.val * 128 + b.val / 2) &&& 85) = (b.val / 2 &&& 85) ∧ g1 b.val < 256 := by decide +kernel
theorem tab2 : ∀ (h : Fin 4) (b : Fin 256), ((h.val * 64 + b.val / 4) &&& 51) = (b.val / 4 &&& 51) ∧ g2 (g1 b.val) ≤ 68 ∧ g2 (g1 b.val) % 16 ≤ 4 := by decide +kernel
theorem tab2' : ∀ b : Fin 256, g2 b.val < 256 := by decide +kernel
theorem tab3 : ∀ (h : Fin 5) (b : Fin 69), ((h.val * 16 + (b.val / 16 + b.val)) &&& 15) = g3 b.val := by decide +kernel
def popB (b : Nat) : Nat := g3 (g2 (g1 b))
theorem f1_step (n h b : Nat) (hb : b < 256) : f1 (n + 1) (h * 256 + b) = f1 n h * 256 + g1 b := by
  have t := tab1 ⟨h % 2, Nat.mod_lt _ (by decide)⟩ ⟨b, hb⟩
  simp only at t
  unfold f1 g1
  show ((h * 256 + b) / 2 &&& (rep 85 n * 256 + 85)) + ((h * 256 + b) &&& (rep 85 n * 256 + 85)) = _
  rw [show (h * 256 + b) / 2 = h / 2 * 256 + (h % 2 * 128 + b / 2) by omega, and_part _ _ _ _ (by omega) (by decide), and_part _ _ _ _ hb (by decide), t.1]
  omega
theorem f2_step (n h b : Nat) (hb : b < 256) : f2 (n + 1) (h * 256 + b) = f2 n h * 256 + g2 b := by
  have t := tab2 ⟨h % 4, Nat.mod_lt _ (by decide)⟩ ⟨b, hb⟩
  simp only at t
  unfold f2 g2
  show ((h * 256 + b) / 4 &&& (rep 51 n * 256 + 51)) + ((h * 256 + b) &&& (rep 51 n * 256 + 51)) = _
  rw [show (h * 256 + b) / 4 = h / 4 * 256 + (h % 4 * 64 + b / 4) by omega, and_part _ _ _ _ (by omega) (by decide), and_part _ _ _ _ hb (by decide), t.1]
  omega
theorem f3_step (n h b : Nat) (hh : h % 16 ≤ 4) (hb : b ≤ 68) : f3 (n + 1) (h * 256 + b) = f3 n h * 256 + g3 b := by
  have t := tab3 ⟨h % 16, by omega⟩ ⟨b, by omega⟩
  simp only at t
  unfold f3
  show ((h * 256 + b) / 16 + (h * 256 + b)) &&& (rep 15 n * 256 + 15) = _
  rw [show (h * 256 + b) / 16 + (h * 256 + b) = (h / 16 + h) * 256 + (h % 16 * 16 + (b / 16 + b)) by omega, and_part _ _ _ _ (by omega) (by decide), t]
theorem f_zero (x : Nat) : f1 0 x = 0 ∧ f2 0 x = 0 ∧ f3 0 x = 0 := by
  unfold f1 f2 f3 rep
  simp
theorem f21_low : ∀ (n x : Nat), f2 n (f1 n x) % 16 ≤ 4
  | 0, x => by rw [(f_zero _).2.1]; decide
  | n + 1, x => by
    have t1 := (tab1 ⟨0, by decide⟩ ⟨x % 256, Nat.mod_lt _ (by decide)⟩).2
    have t2 := (tab2 ⟨0, by decide⟩ ⟨x % 256, Nat.mod_lt _ (by decide)⟩).2.2
    simp only at t1 t2
    rw [show x = x / 256 * 256 + x % 256 by omega, f1_step _ _ _ (Nat.mod_lt _ (by decide)), f2_step _ _ _ t1]
    omega
def cnt : Nat → Nat → Nat
  | 0, _ => 0
  | n + 1, x => cnt n (x / 256) * 256 + popB (x % 256)
theorem f_cnt : ∀ (n x : Nat), f3 n (f2 n (f1 n x)) = cnt n x
  | 0, x => (f_zero _).2.2
  | n + 1, x => by
    have hb : x % 256 < 256 := Nat.mod_lt _ (by decide)
    have t1 := (tab1 ⟨0, by decide⟩ ⟨x % 256, hb⟩).2
    have t2 := (tab2 ⟨0, by decide⟩ ⟨x % 256, hb⟩).2.1
    simp only at t1 t2
    rw [show x = x / 256 * 256 + x % 256 by omega, f1_step _ _ _ hb, f2_step _ _ _ t1, f3_step _ _ _ (f21_low _ _) t2, f_cnt n]
    show _ = cnt n ((x / 256 * 256 + x % 256) / 256) * 256 + popB ((x / 256 * 256 + x % 256) % 256)
    rw [show (x / 256 * 256 + x % 256) / 256 = x / 256 by omega, show (x / 256 * 256 + x % 256) % 256 = x % 256 by omega]
    rfl
def popN : Nat → Nat → Nat
  | 0, _ => 0
  | n + 1, x => x % 2 + popN n (x / 2)
theorem pop_tab : ∀ b : Fin 256, popB b.val = popN 8 b.val ∧ popB b.val ≤ 8 := by decide +kernel
theorem popN_split : ∀ (k m x : Nat), popN (k + m) x = popN k (x % 2 ^ k) + popN m (x / 2 ^ k)
  | 0, m, x => by
    rw [Nat.pow_zero, Nat.div_one, Nat.zero_add]
    show _ = 0 + _
    rw [Nat.zero_add]
  | k + 1, m, x => by
    have ih := popN_split k m (x / 2)
    rw [show k + 1 + m = (k + m) + 1 by omega]
    show x % 2 + popN (k + m) (x / 2) = (x % 2 ^ (k + 1) % 2 + popN k (x % 2 ^ (k + 1) / 2)) + popN m (x / 2 ^ (k + 1))
    have e1 : x % 2 ^ (k + 1) % 2 = x % 2 := by rw [Nat.pow_succ, Nat.mul_comm]; exact Nat.mod_mul_right_mod _ _ _
    have e2 : x % 2 ^ (k + 1) / 2 = x / 2 % 2 ^ k := by rw [Nat.pow_succ, Nat.mul_comm]; exact Nat.mod_mul_right_div_self _ _ _
    have e3 : x / 2 / 2 ^ k = x / 2 ^ (k + 1) := by rw [Nat.div_div_eq_div_mul, Nat.pow_succ, Nat.mul_comm]
    rw [ih, e1, e2, e3]
    omega
theorem popN_byte (m x : Nat) : popN (m + 8) x = popN 8 (x % 256) + popN m (x / 256) := by
  rw [Nat.add_comm]
  exact popN_split 8 m x
theorem bitsFrom_succ (s i n : Nat) : bitsFrom s i (n + 1) = if s.testBit i then i :: bitsFrom s (i + 1) n else bitsFrom s (i + 1) n := rfl
theorem popN_bits : ∀ (n x i : Nat), popN n (x / 2 ^ i) = (bitsFrom x i n).length
  | 0, _, _ => rfl
  | n + 1, x, i => by
    have ih := popN_bits n x (i + 1)
    have e : x / 2 ^ i / 2 = x / 2 ^ (i + 1) := by rw [Nat.div_div_eq_div_mul, Nat.pow_succ]
    have hb : x.testBit i = decide (x / 2 ^ i % 2 = 1) := by rw [Nat.testBit_eq_decide_div_mod_eq]
    show x / 2 ^ i % 2 + popN n (x / 2 ^ i / 2) = (bitsFrom x i (n + 1)).length
    rw [e, ih, bitsFrom_succ]
    have hm := Nat.mod_lt (x / 2 ^ i) (show 0 < 2 by decide)
    by_cases h : x / 2 ^ i % 2 = 1
    · rw [if_pos (by rw [hb]; exact decide_eq_true h), List.length_cons, h]; omega
    · rw [if_neg (by rw [hb]; simpa using h)]; omega
theorem div_low {c c0 k : Nat} (h : c = c0 + 256 * k) (h0 : c0 < 256) : c / 256 = k := by omega
theorem div_low2 {d a b k : Nat} (h : d = a + 256 * (b + 256 * k)) (ha : a < 256) (hb : b < 256) : d / 65536 = k := by omega
theorem div_low4 {e a b c d k : Nat} (h : e = a + 256 * (b + 256 * (c + 256 * (d + 256 * k)))) (ha : a < 256) (hb : b < 256) (hc : c < 256) (hd : d < 256) : e / 4294967296 = k := by omega
theorem mod_low {f a k : Nat} (h : f = a + 256 * k) (ha : a < 128) : f % 128 = a := by omega
/-- All together. -/
theorem fold_count (c0 c1 c2 c3 c4 c5 c6 c7 k1 k2 k3 k4 k5 k6 k7 : Nat) (h0 : c0 ≤ 8) (h1 : c1 ≤ 8) (h2 : c2 ≤ 8) (h3 : c3 ≤ 8) (h4 : c4 ≤ 8) (h5 : c5 ≤ 8) (h6 : c6 ≤ 8) (h7 : c7 ≤ 8) (c d e f : Nat)
    (hc : c = c0 + 256 * k1) (g1 : k1 = c1 + 256 * k2) (g2 : k2 = c2 + 256 * k3) (g3 : k3 = c3 + 256 * k4) (g4 : k4 = c4 + 256 * k5) (g5 : k5 = c5 + 256 * k6) (g6 : k6 = c6 + 256 * k7) (g7 : k7 = c7) (hd : d = c + c / 256) (he : e = d + d / 65536) (hf : f = e + e / 4294967296) :
    f % 128 = c0 + c1 + c2 + c3 + c4 + c5 + c6 + c7 := by
  rw [div_low hc (by omega)] at hd
  have e2 : d = (c0 + c1) + 256 * ((c1 + c2) + 256 * (k2 + k3)) := by rw [hd, hc, g1, g2]; omega
  rw [div_low2 e2 (by omega) (by omega)] at he
  have e3 : e = (c0 + c1 + c2 + c3) + 256 * ((c1 + c2 + c3 + c4) + 256 * ((c2 + c3 + c4 + c5) + 256 * ((c3 + c4 + c5 + c6) + 256 * (k4 + k5 + k6 + k7)))) := by rw [he, e2, g2, g3, g4, g5, g6]; omega
  rw [div_low4 e3 (by omega) (by omega) (by omega) (by omega)] at hf
  have e4 : f = (c0 + c1 + c2 + c3 + c4 + c5 + c6 + c7) + 256 * ((c1 + c2 + c3 + c4) + 256 * ((c2 + c3 + c4 + c5) + 256 * ((c3 + c4 + c5 + c6) + 256 * (k4 + k5 + k6 + k7))) + (k5 + k6 + k7)) := by rw [hf, e3, g4, g5, g6, g7]; omega
  exact mod_low e4 (by omega)
/-- What the steps of counting give. -/
theorem count_steps (x a b c d e f : Nat) (ha : a = f1 8 x) (hb : b = f2 8 a) (hc : c = f3 8 b) (hd : d = c + c / 256) (he : e = d + d / 65536) (hf : f = e + e / 4294967296) : f % 128 = (bitsOf x).length := by
  have h := f_cnt 8 x
  rw [← ha, ← hb, ← hc] at h
  have hp : ∀ y, popB (y % 256) = popN 8 (y % 256) ∧ popB (y % 256) ≤ 8 := fun y => pop_tab ⟨y % 256, Nat.mod_lt _ (by decide)⟩
  have hl : (bitsOf x).length = popN 64 x := by
    have := popN_bits 64 x 0
    rw [Nat.pow_zero, Nat.div_one] at this
    exact this.symm
  rw [hl, popN_byte 56, popN_byte 48, popN_byte 40, popN_byte 32, popN_byte 24, popN_byte 16, popN_byte 8, popN_byte 0 (x / 256 / 256 / 256 / 256 / 256 / 256 / 256)]
  have p0 := hp x
  have p1 := hp (x / 256)
  have p2 := hp (x / 256 / 256)
  have p3 := hp (x / 256 / 256 / 256)
  have p4 := hp (x / 256 / 256 / 256 / 256)
  have p5 := hp (x / 256 / 256 / 256 / 256 / 256)
  have p6 := hp (x / 256 / 256 / 256 / 256 / 256 / 256)
  have p7 := hp (x / 256 / 256 / 256 / 256 / 256 / 256 / 256)
  rw [← p0.1, ← p1.1, ← p2.1, ← p3.1, ← p4.1, ← p5.1, ← p6.1, ← p7.1]
  have hcc : c = cnt 7 (x / 256) * 256 + popB (x % 256) := h
  have := fold_count _ _ _ _ _ _ _ _ (cnt 7 (x / 256)) (cnt 6 (x / 256 / 256)) (cnt 5 (x / 256 / 256 / 256)) (cnt 4 (x / 256 / 256 / 256 / 256)) (cnt 3 (x / 256 / 256 / 256 / 256 / 256)) (cnt 2 (x / 256 / 256 / 256 / 256 / 256 / 256)) (cnt 1 (x / 256 / 256 / 256 / 256 / 256 / 256 / 256)) p0.2 p1.2 p2.2 p3.2 p4.2 p5.2 p6.2 p7.2 c d e f
    (by rw [hcc, Nat.mul_comm, Nat.add_comm]) (by rw [Nat.mul_comm, Nat.add_comm]; rfl) (by rw [Nat.mul_comm, Nat.add_comm]; rfl) (by rw [Nat.mul_comm, Nat.add_comm]; rfl) (by rw [Nat.mul_comm, Nat.add_comm]; rfl) (by rw [Nat.mul_comm, Nat.add_comm]; rfl) (by rw [Nat.mul_comm, Nat.add_comm]; rfl) (by show 0 * 256 + _ = _; rw [Nat.zero_mul, Nat.zero_add]) hd he hf
  rw [this]
  have z : popN 0 (x / 256 / 256 / 256 / 256 / 256 / 256 / 256 / 256) = 0 := rfl
  omega
end Go.Shoal
