/-
  Floats of 64 bits as words: which are numbers, their order, their keys.
-/
import Derived.Laws.FloatArith
import Derived.Laws.Entries
import Derived.Laws.Cover2
namespace Go.Shoal
open Go
@[go_sem] theorem run_store_float (P : Program) (w : World) (a : Addr) (m : Mode) (k : FloatKind) (b : Nat) : (store a (.float k b) m).run P w = stored P w a (.float k b) m := run_store P w a _ m rfl

def B52 : Nat := 2 ^ 52
def B63 : Nat := 2 ^ 63
def B64 : Nat := 2 ^ 64
def INF : Nat := 2047 * 2 ^ 52
theorem b52_pos : 0 < B52 := by decide
theorem inf_lt : INF < B63 := by decide
theorem b63_two : B64 = 2 * B63 := by decide
/-- No number. -/
def isN (b : Nat) : Bool := decide (INF < b % B63)
def isNeg (b : Nat) : Bool := b / B63 % 2 == 1
/-- A rung's number, in units of the least one. -/
def mag (r : Nat) : Nat := if r < B52 then r else (B52 + r % B52) * 2 ^ (r / B52 - 1)
def sgn (s : Bool) (m : Nat) : Int := if s then -(m : Int) else m
def valI (b : Nat) : Int := sgn (isNeg b) (mag (b % B63))

theorem mag_lt {r s : Nat} (h : r < s) : mag r < mag s := by
  have hp := b52_pos
  unfold mag
  by_cases hr : r < B52
  · rw [if_pos hr]
    by_cases hs : s < B52
    · rw [if_pos hs]; exact h
    · rw [if_neg hs]
      have h1 : 1 ≤ 2 ^ (s / B52 - 1) := Nat.one_le_two_pow
      calc r < B52 * 1 := by omega
        _ ≤ (B52 + s % B52) * 2 ^ (s / B52 - 1) := Nat.mul_le_mul (Nat.le_add_right _ _) h1
  · have hs : ¬ s < B52 := by omega
    rw [if_neg hr, if_neg hs]
    have e1 := Nat.div_add_mod r B52
    have e2 := Nat.div_add_mod s B52
    have m1 := Nat.mod_lt r hp
    have m2 := Nat.mod_lt s hp
    have d1 : 1 ≤ r / B52 := (Nat.le_div_iff_mul_le hp).2 (by omega)
    have d2 : r / B52 ≤ s / B52 := Nat.div_le_div_right (Nat.le_of_lt h)
    generalize r / B52 = i at *
    generalize s / B52 = j at *
    by_cases hij : i = j
    · subst hij
      exact Nat.mul_lt_mul_of_pos_right (by omega) (Nat.two_pow_pos _)
    · have h2 : 2 ^ (i - 1) * 2 = 2 ^ i := by rw [← Nat.pow_succ]; congr 1; omega
      have h3 : 2 ^ i ≤ 2 ^ (j - 1) := Nat.pow_le_pow_right (by decide) (by omega)
      have hq := Nat.two_pow_pos (i - 1)
      calc (B52 + r % B52) * 2 ^ (i - 1) < (B52 * 2) * 2 ^ (i - 1) := Nat.mul_lt_mul_of_pos_right (by omega) hq
        _ = B52 * 2 ^ i := by rw [Nat.mul_assoc, Nat.mul_comm 2, h2]
        _ ≤ B52 * 2 ^ (j - 1) := Nat.mul_le_mul_left _ h3
        _ ≤ (B52 + s % B52) * 2 ^ (j - 1) := Nat.mul_le_mul_right _ (Nat.le_add_right _ _)
theorem mag_le {r s : Nat} (h : r ≤ s) : mag r ≤ mag s := by
  rcases Nat.lt_or_eq_of_le h with h | h
  · exact Nat.le_of_lt (mag_lt h)
  · rw [h]; exact Nat.le_refl _
theorem mag_lt_iff {r s : Nat} : mag r < mag s ↔ r < s :=
  ⟨fun h => Nat.lt_of_not_le fun k => Nat.lt_irrefl _ (Nat.lt_of_lt_of_le h (mag_le k)), mag_lt⟩
theorem mag_zero : mag 0 = 0 := rfl
theorem mag_pos {r : Nat} (h : 0 < r) : 0 < mag r := mag_lt h

/-- What a word stands for. -/
theorem read_small {b : Nat} (h : b % B63 < B52) : Ieee.double.read b = .number (isNeg b) (b % B63) (-1074) := by
  show (if b % B63 < B52 then _ else _) = _
  rw [if_pos h]; rfl
theorem read_norm {b : Nat} (h : B52 ≤ b % B63) (h' : b % B63 < INF) : Ieee.double.read b = .number (isNeg b) (B52 + b % B63 % B52) (-1074 + ((b % B63 / B52 - 1 : Nat) : Int)) := by
  show (if b % B63 < B52 then _ else if b % B63 < INF then _ else _) = _
  rw [if_neg (by omega), if_pos h']; rfl
theorem read_inf {b : Nat} (h : b % B63 = INF) : Ieee.double.read b = .infinity (isNeg b) := by
  show (if b % B63 < B52 then _ else if b % B63 < INF then _ else if b % B63 = INF then _ else _) = _
  rw [if_neg (by rw [h]; decide), if_neg (by omega), if_pos h]; rfl
theorem read_nan {b : Nat} (h : isN b = true) : ∃ s t, Ieee.double.read b = .nan s t := by
  have h := of_decide_eq_true h
  have hi : B52 < INF := by decide
  refine ⟨isNeg b, b % B63 - INF, ?_⟩
  show (if b % B63 < B52 then _ else if b % B63 < INF then _ else if b % B63 = INF then _ else _) = _
  rw [if_neg (by omega), if_neg (by omega), if_neg (by omega)]; rfl
/-- A number that has an end: its digits and their place. -/
theorem read_fin {b : Nat} (h : b % B63 < INF) : ∃ (m : Nat) (e : Nat), Ieee.double.read b = .number (isNeg b) m (-1074 + (e : Int)) ∧ m * 2 ^ e = mag (b % B63) ∧ m < 2 * B52 := by
  have hp := b52_pos
  by_cases hs : b % B63 < B52
  · refine ⟨b % B63, 0, by rw [read_small hs]; rfl, ?_, by omega⟩
    unfold mag
    rw [if_pos hs, Nat.pow_zero, Nat.mul_one]
  · have hm := Nat.mod_lt (b % B63) hp
    refine ⟨_, _, read_norm (by omega) h, ?_, by omega⟩
    unfold mag
    rw [if_neg hs]
theorem compare_mul (a b c : Int) (h : 0 < c) : compare (a * c) (b * c) = compare a b := by
  simp only [compare, compareOfLessAndEq]
  have h1 : a * c < b * c ↔ a < b := ⟨fun k => Int.lt_of_mul_lt_mul_right k (Int.le_of_lt h), fun k => Int.mul_lt_mul_of_pos_right k h⟩
  have h2 : a * c = b * c ↔ a = b := ⟨fun k => Int.eq_of_mul_eq_mul_right (by omega) k, fun k => by rw [k]⟩
  simp only [h1, h2]
theorem signed_eq (s : Bool) (m k : Nat) : Ieee.signed s m k = sgn s (m * 2 ^ k) := by
  unfold Ieee.signed sgn
  rw [Nat.shiftLeft_eq]
theorem sgn_mul (s : Bool) (m c : Nat) : sgn s m * (c : Int) = sgn s (m * c) := by
  unfold sgn
  cases s
  · simp
  · simp [Int.neg_mul]
theorem sgn_bd (s : Bool) (m : Nat) : -(m : Int) ≤ sgn s m ∧ sgn s m ≤ m := by
  cases s
  · exact ⟨by show -(m : Int) ≤ (m : Int); omega, Int.le_refl _⟩
  · exact ⟨Int.le_refl _, by show -(m : Int) ≤ (m : Int); omega⟩
theorem sgn_f (m : Nat) : sgn false m = m := rfl
theorem sgn_t (m : Nat) : sgn true m = -(m : Int) := rfl
theorem order_none {x y : Nat} (h : isN x = true ∨ isN y = true) : Ieee.double.order x y = none := by
  unfold Ieee.Format.order
  rcases h with h | h
  · obtain ⟨s, t, e⟩ := read_nan h
    rw [e]
    cases Ieee.double.read y <;> rfl
  · obtain ⟨s, t, e⟩ := read_nan h
    rw [e]
    cases Ieee.double.read x <;> rfl
theorem not_nan {b : Nat} (h : isN b = false) : b % B63 < INF ∨ b % B63 = INF := by
  have := of_decide_eq_false h
  omega
theorem order_some {x y : Nat} (hx : isN x = false) (hy : isN y = false) : Ieee.double.order x y = some (compare (valI x) (valI y)) := by
  unfold Ieee.Format.order valI
  rcases not_nan hx with hx | hx <;> rcases not_nan hy with hy | hy
  · obtain ⟨m, e, h1, h2, _⟩ := read_fin hx
    obtain ⟨n, f, k1, k2, _⟩ := read_fin hy
    rw [h1, k1, ← h2, ← k2]
    show some (compare (Ieee.signed _ m _) (Ieee.signed _ n _)) = _
    rw [signed_eq, signed_eq]
    have hb : ((min (-1074 + (e : Int)) (-1074 + (f : Int)) : Int)) = -1074 + ((min e f : Nat) : Int) := by omega
    rw [hb]
    have e1 : (-1074 + (e : Int) - (-1074 + ((min e f : Nat) : Int))).toNat = e - min e f := by omega
    have e2 : (-1074 + (f : Int) - (-1074 + ((min e f : Nat) : Int))).toNat = f - min e f := by omega
    rw [e1, e2]
    have p1 : m * 2 ^ e = m * 2 ^ (e - min e f) * 2 ^ (min e f) := by rw [Nat.mul_assoc, ← Nat.pow_add]; congr 2; omega
    have p2 : n * 2 ^ f = n * 2 ^ (f - min e f) * 2 ^ (min e f) := by rw [Nat.mul_assoc, ← Nat.pow_add]; congr 2; omega
    rw [p1, p2, ← sgn_mul _ _ (2 ^ min e f), ← sgn_mul _ _ (2 ^ min e f), compare_mul]
    exact Int.ofNat_lt.2 (Nat.two_pow_pos _)
  · obtain ⟨m, e, h1, h2, _⟩ := read_fin hx
    have hm := mag_lt (show x % B63 < y % B63 by omega)
    rw [h1, read_inf hy]
    show some (if isNeg y then Ordering.gt else .lt) = _
    generalize mag (x % B63) = a at *
    generalize mag (y % B63) = c at *
    congr 1
    cases isNeg y
    · exact (Int.compare_eq_lt.2 (by have := sgn_bd (isNeg x) a; rw [sgn_f]; omega)).symm
    · exact (Int.compare_eq_gt.2 (by have := sgn_bd (isNeg x) a; rw [sgn_t]; omega)).symm
  · obtain ⟨m, e, h1, h2, _⟩ := read_fin hy
    have hm := mag_lt (show y % B63 < x % B63 by omega)
    rw [h1, read_inf hx]
    show some (if isNeg x then Ordering.lt else .gt) = _
    generalize mag (x % B63) = a at *
    generalize mag (y % B63) = c at *
    congr 1
    cases isNeg x
    · exact (Int.compare_eq_gt.2 (by have := sgn_bd (isNeg y) c; rw [sgn_f]; omega)).symm
    · exact (Int.compare_eq_lt.2 (by have := sgn_bd (isNeg y) c; rw [sgn_t]; omega)).symm
  · rw [read_inf hx, read_inf hy, hx, hy]
    have hm := mag_pos (show 0 < INF by decide)
    show some (compare (isNeg y).toNat (isNeg x).toNat) = _
    generalize mag INF = a at *
    congr 1
    cases isNeg x <;> cases isNeg y
    · exact (Int.compare_eq_eq.2 rfl).symm
    · exact (Int.compare_eq_gt.2 (by rw [sgn_f, sgn_t]; omega)).symm
    · exact (Int.compare_eq_lt.2 (by rw [sgn_f, sgn_t]; omega)).symm
    · exact (Int.compare_eq_eq.2 rfl).symm
/-- The key that the document gives. -/
def fkey (b : Nat) : Nat := if isN b then B64 - 1 else if b < B63 then b + B63 else B64 - 1 - b
theorem isNeg_low {b : Nat} (h : b < B63) : isNeg b = false := by
  unfold isNeg
  rw [Nat.div_eq_of_lt h]; rfl
theorem isNeg_high {b : Nat} (h : B63 ≤ b) (h' : b < B64) : isNeg b = true := by
  have h2 := b63_two
  unfold isNeg
  have : b / B63 = 1 := Nat.div_eq_of_lt_le (by omega) (by omega)
  rw [this]; rfl
theorem mod_low {b : Nat} (h : b < B63) : b % B63 = b := Nat.mod_eq_of_lt h
theorem mod_high {b : Nat} (h : B63 ≤ b) (h' : b < B64) : b % B63 = b - B63 := by
  have h2 := b63_two
  rw [Nat.mod_eq_sub_mod h, Nat.mod_eq_of_lt (by omega)]
/-- The order of two numbers that are no noughts both is that of their keys. -/
theorem val_key {x y : Nat} (bx : x < B64) (bY : y < B64) (hx : isN x = false) (hy : isN y = false) (h0 : ¬ (x % B63 = 0 ∧ y % B63 = 0)) : valI x < valI y ↔ fkey x < fkey y := by
  have h2 := b63_two
  unfold valI fkey
  rw [hx, hy]
  simp only [Bool.false_eq_true, if_false]
  by_cases hx3 : x < B63 <;> by_cases hy3 : y < B63
  · rw [isNeg_low hx3, isNeg_low hy3, mod_low hx3, mod_low hy3, if_pos hx3, if_pos hy3]
    have := @mag_lt_iff x y
    simp only [sgn, Bool.false_eq_true, if_false]
    omega
  · rw [isNeg_low hx3, isNeg_high (by omega) bY, mod_low hx3, mod_high (by omega) bY, if_pos hx3, if_neg hy3]
    simp only [sgn, Bool.false_eq_true, if_false, if_true]
    omega
  · rw [isNeg_low hy3, isNeg_high (by omega) bx, mod_low hy3, mod_high (by omega) bx, if_pos hy3, if_neg hx3]
    rw [mod_low hy3, mod_high (by omega) bx] at h0
    have e1 : 0 < mag (x - B63) ∨ 0 < mag y := by
      by_cases h : x - B63 = 0
      · right; exact mag_pos (by omega)
      · left; exact mag_pos (by omega)
    simp only [sgn, Bool.false_eq_true, if_false, if_true]
    omega
  · rw [isNeg_high (by omega) bx, isNeg_high (by omega) bY, mod_high (by omega) bx, mod_high (by omega) bY, if_neg hx3, if_neg hy3]
    have := @mag_lt_iff (y - B63) (x - B63)
    simp only [sgn, if_true]
    omega
end Go.Shoal
