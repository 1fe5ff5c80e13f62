/-
  Sets of processes as numbers below 2^64: plain facts, no program.
-/
import Derived.Laws.BitsAllLaws
namespace Go.Shoal

theorem two64 : (2 : Nat) ^ 64 = 18446744073709551616 := by decide

/-- Is p in s? -/
def inSet (s : Nat) (p : Int) : Bool := decide (0 ≤ p) && decide (p < 64) && s.testBit p.toNat
/-- The set of the first n. -/
def allOf (n : Int) : Nat := 2 ^ (min (max n 0) 64).toNat - 1
/-- The set of one. -/
def oneOf (p : Int) : Nat := if 0 ≤ p ∧ p < 64 then 2 ^ p.toNat else 0
/-- The set of a list. -/
def setOf (l : List Int) : Nat := l.foldl (fun s p => s ||| oneOf p) 0
/-- What is in s and not in t. -/
def lessOf (s t : Nat) : Nat := s &&& (18446744073709551615 - t)

theorem testBit_less (s t i : Nat) (ht : t < 18446744073709551616) (hs : s < 18446744073709551616) : (lessOf s t).testBit i = (s.testBit i && !t.testBit i) := by
  unfold lessOf
  rw [Nat.testBit_and]
  have h := Nat.testBit_two_pow_sub_succ (x := t) (n := 64) (by rw [two64]; exact ht) i
  rw [two64, show 18446744073709551616 - (t + 1) = 18446744073709551615 - t by omega] at h
  rw [h]
  by_cases hi : i < 64
  · simp [hi]
  · have : s.testBit i = false := Nat.testBit_lt_two_pow (Nat.lt_of_lt_of_le hs (by rw [← two64]; exact Nat.pow_le_pow_right (by decide) (by omega)))
    simp [this]
theorem testBit_high {s i : Nat} (hs : s < 18446744073709551616) (hi : 64 ≤ i) : s.testBit i = false :=
  Nat.testBit_lt_two_pow (Nat.lt_of_lt_of_le hs (by rw [← two64]; exact Nat.pow_le_pow_right (by decide) hi))
theorem less_lt (s t : Nat) (hs : s < 18446744073709551616) : lessOf s t < 18446744073709551616 := Nat.lt_of_le_of_lt Nat.and_le_left hs
theorem set_ext {s t : Nat} (hs : s < 18446744073709551616) (ht : t < 18446744073709551616) (h : ∀ i, i < 64 → s.testBit i = t.testBit i) : s = t := by
  apply Nat.eq_of_testBit_eq
  intro i
  by_cases hi : i < 64
  · exact h i hi
  · rw [testBit_high hs (by omega), testBit_high ht (by omega)]
theorem less_zero {s t : Nat} (hs : s < 18446744073709551616) (ht : t < 18446744073709551616) : lessOf s t = 0 ↔ ∀ i, i < 64 → s.testBit i = true → t.testBit i = true := by
  constructor
  · intro h i hi hb
    have := testBit_less s t i ht hs
    rw [h, hb, Nat.zero_testBit] at this
    simpa using this.symm
  · intro h
    refine set_ext (less_lt s t hs) (by decide) (fun i hi => ?_)
    rw [testBit_less s t i ht hs, Nat.zero_testBit]
    cases hb : s.testBit i
    · rfl
    · rw [h i hi hb]; rfl
theorem allOf_lt (n : Int) : allOf n < 18446744073709551616 := by
  unfold allOf
  have h : 2 ^ (min (max n 0) 64).toNat ≤ 2 ^ 64 := Nat.pow_le_pow_right (by decide) (by omega)
  rw [two64] at h
  have : 0 < 2 ^ (min (max n 0) 64).toNat := Nat.two_pow_pos _
  omega
theorem testBit_allOf (n : Int) (i : Nat) : (allOf n).testBit i = decide ((i : Int) < n ∧ i < 64) := by
  unfold allOf
  rw [Nat.testBit_two_pow_sub_one]
  congr 1
  apply propext
  omega
theorem oneOf_lt (p : Int) : oneOf p < 18446744073709551616 := by
  unfold oneOf
  split
  · have h : 2 ^ p.toNat < 2 ^ 64 := Nat.pow_lt_pow_right (by decide) (by omega)
    rw [two64] at h
    exact h
  · decide
theorem testBit_oneOf (p : Int) (i : Nat) : (oneOf p).testBit i = decide ((i : Int) = p ∧ i < 64) := by
  unfold oneOf
  split
  · rw [Nat.testBit_two_pow]
    congr 1
    apply propext
    omega
  · rw [Nat.zero_testBit]
    symm
    apply decide_eq_false
    omega
theorem or_lt {s t : Nat} (hs : s < 18446744073709551616) (ht : t < 18446744073709551616) : s ||| t < 18446744073709551616 := by
  rw [← two64] at *
  exact Nat.or_lt_two_pow hs ht
theorem and_lt {s t : Nat} (hs : s < 18446744073709551616) : s &&& t < 18446744073709551616 := Nat.lt_of_le_of_lt Nat.and_le_left hs
theorem foldl_or_lt (l : List Int) (s : Nat) (hs : s < 18446744073709551616) : l.foldl (fun s p => s ||| oneOf p) s < 18446744073709551616 := by
  induction l generalizing s with
  | nil => exact hs
  | cons p l ih => exact ih _ (or_lt hs (oneOf_lt p))
theorem setOf_lt (l : List Int) : setOf l < 18446744073709551616 := foldl_or_lt l 0 (by decide)
theorem testBit_foldl (l : List Int) (s i : Nat) : (l.foldl (fun s p => s ||| oneOf p) s).testBit i = (s.testBit i || (decide (i < 64) && l.contains (i : Int))) := by
  induction l generalizing s with
  | nil => simp
  | cons p l ih =>
    have e : decide ((i : Int) = p ∧ i < 64) = (decide (i < 64) && ((i : Int) == p)) := by
      by_cases h1 : (i : Int) = p <;> by_cases h2 : i < 64 <;> simp [h1, h2]
    rw [List.foldl_cons, ih, Nat.testBit_or, testBit_oneOf, List.contains_cons, e]
    generalize s.testBit i = x
    generalize decide (i < 64) = y
    generalize ((i : Int) == p) = z
    generalize l.contains (i : Int) = u
    cases x <;> cases y <;> cases z <;> cases u <;> rfl
theorem testBit_setOf (l : List Int) (i : Nat) : (setOf l).testBit i = (decide (i < 64) && l.contains (i : Int)) := by
  unfold setOf
  rw [testBit_foldl, Nat.zero_testBit, Bool.false_or]
theorem inSet_nat (s i : Nat) (hs : s < 18446744073709551616) : inSet s (i : Int) = s.testBit i := by
  unfold inSet
  by_cases hi : i < 64
  · have h1 : decide ((0 : Int) ≤ (i : Int)) = true := decide_eq_true (by omega)
    have h2 : decide ((i : Int) < 64) = true := decide_eq_true (by omega)
    rw [h1, h2]; simp
  · have h2 : decide ((i : Int) < 64) = false := decide_eq_false (by omega)
    rw [h2, Bool.and_false, Bool.false_and, testBit_high hs (by omega)]

/-! As the walks spell them. -/
theorem has_bits (s : Nat) (p : Int) (hs : s < 18446744073709551616) (h1 : 0 ≤ p) (h2 : p < 64) : (bits .and .u64 ((s : Int) / 2 ^ p.toNat) 1 == 1) = inSet s p := by
  have e : (s : Int) / 2 ^ p.toNat = ((s / 2 ^ p.toNat : Nat) : Int) := by rw [Int.natCast_ediv, Int.natCast_pow]; rfl
  have hd : s / 2 ^ p.toNat < 18446744073709551616 := Nat.lt_of_le_of_lt (Nat.div_le_self _ _) hs
  have hb := u64_and_nat (s / 2 ^ p.toNat) 1 hd (by decide)
  rw [nat_mask1] at hb
  rw [e, show (1 : Int) = ((1 : Nat) : Int) from rfl, hb]
  unfold inSet
  rw [decide_eq_true h1, decide_eq_true h2, Nat.testBit_eq_decide_div_mod_eq, Bool.and_true, Bool.true_and, Bool.eq_iff_iff, beq_iff_eq, decide_eq_true_iff]
  omega
theorem within_bits (s t : Nat) (hs : s < 18446744073709551616) (ht : t < 18446744073709551616) : (bits .andNot .u64 (s : Int) (t : Int) == 0) = decide (lessOf s t = 0) := by
  rw [u64_andNot_nat s t hs ht]
  unfold lessOf
  rw [Bool.eq_iff_iff, beq_iff_eq, decide_eq_true_iff]
  omega
theorem allOf_neg {n : Int} (h : n < 0) : allOf n = 0 := by
  unfold allOf
  rw [show (min (max n 0) 64).toNat = 0 by omega]
theorem allOf_mid {n : Int} (h0 : 0 ≤ n) (h : n ≤ 64) : IntKind.u64.wrap (IntKind.u64.wrap (2 ^ n.toNat) - 1) = ((allOf n : Nat) : Int) := by
  unfold allOf
  rw [show (min (max n 0) 64).toNat = n.toNat by omega]
  have hb : 2 ^ n.toNat ≤ 2 ^ 64 := Nat.pow_le_pow_right (by decide) (by omega)
  rw [two64] at hb
  have hp : 0 < 2 ^ n.toNat := Nat.two_pow_pos _
  have e : (2 : Int) ^ n.toNat = ((2 ^ n.toNat : Nat) : Int) := by rw [Int.natCast_pow]; rfl
  rw [e]
  generalize 2 ^ n.toNat = x at hb hp
  simp only [IntKind.wrap, IntKind.bits, IntKind.signed]
  simp
  omega
theorem allOf_high {n : Int} (h : 64 < n) : allOf n = 18446744073709551615 := by
  unfold allOf
  rw [show (min (max n 0) 64).toNat = 64 by omega, two64]
theorem oneOf_bits {p : Int} (h0 : 0 ≤ p) (h : p < 64) : IntKind.u64.wrap (2 ^ p.toNat) = ((oneOf p : Nat) : Int) := by
  unfold oneOf
  rw [if_pos ⟨h0, h⟩]
  have hb : 2 ^ p.toNat < 2 ^ 64 := Nat.pow_lt_pow_right (by decide) (by omega)
  rw [two64] at hb
  have e : (2 : Int) ^ p.toNat = ((2 ^ p.toNat : Nat) : Int) := by rw [Int.natCast_pow]; rfl
  rw [e]
  generalize 2 ^ p.toNat = x at hb
  simp only [IntKind.wrap, IntKind.bits, IntKind.signed]
  simp
  omega
theorem or_bits (s t : Nat) (hs : s < 18446744073709551616) (ht : t < 18446744073709551616) : bits .or .u64 (s : Int) (t : Int) = ((s ||| t : Nat) : Int) := u64_or_nat s t hs ht
theorem setOf_snoc (l : List Int) (p : Int) : setOf (l ++ [p]) = setOf l ||| oneOf p := by simp [setOf, List.foldl_append]
end Go.Shoal
