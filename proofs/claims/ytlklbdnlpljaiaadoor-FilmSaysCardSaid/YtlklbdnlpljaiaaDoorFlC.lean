/-
  flo's plain functions: what each answers.
-/
import Derived.Test.YtlklbdnlpljaiaaDoorFlA
import Derived.Laws.Cover2
namespace Go.Proofs.YtlklbdnlpljaiaaDoor
open Go.RowKit Go.Shoal

theorem b63_is : B63 = 9223372036854775808 := by decide
theorem b64_is : B64 = 18446744073709551616 := by decide
theorem inf_is : INF = 9218868437227405312 := by decide
@[go_sem] theorem unary_float_neg (k : FloatKind) (b : Nat) : Op.unary .neg (.float k b) = pure (.float k (Op.negFloat k b)) := rfl
def negW (b : Nat) : Nat := if b < B63 then b + B63 else b - B63
theorem negW_is (b : Nat) (hb : b < B64) : Op.negFloat .f64 b = negW b := by
  show b ^^^ 9223372036854775808 = negW b
  have h64 := b64_is
  have h63 := b63_is
  unfold negW
  apply Nat.eq_of_testBit_eq
  intro i
  rw [Nat.testBit_xor, show (9223372036854775808 : Nat) = 2 ^ 63 from rfl, Nat.testBit_two_pow]
  split
  · rename_i hl
    rw [h63] at hl ⊢
    rw [show b + 9223372036854775808 = 2 ^ 63 + b by omega]
    by_cases hi : i = 63
    · subst hi
      rw [Nat.testBit_two_pow_add_eq]
      simp
    · rw [show decide (63 = i) = false from decide_eq_false (fun h => hi h.symm), Bool.xor_false]
      by_cases h2 : i < 63
      · rw [Nat.testBit_two_pow_add_gt h2]
      · rw [Nat.testBit_lt_two_pow (Nat.lt_of_lt_of_le hl (Nat.pow_le_pow_right (show 2 > 0 by decide) (by omega : 63 ≤ i))), Nat.testBit_lt_two_pow (Nat.lt_of_lt_of_le (show 2 ^ 63 + b < 2 ^ 64 by omega) (Nat.pow_le_pow_right (show 2 > 0 by decide) (by omega : 64 ≤ i)))]
  · rename_i hl
    rw [h63] at hl ⊢
    rw [h64] at hb
    obtain ⟨c, rfl⟩ : ∃ c, b = 2 ^ 63 + c := ⟨b - 2 ^ 63, by omega⟩
    rw [show 2 ^ 63 + c - 9223372036854775808 = c by omega]
    by_cases hi : i = 63
    · subst hi
      rw [Nat.testBit_two_pow_add_eq, Nat.testBit_lt_two_pow (by omega)]
      simp
    · rw [show decide (63 = i) = false from decide_eq_false (fun h => hi h.symm), Bool.xor_false]
      by_cases h2 : i < 63
      · rw [Nat.testBit_two_pow_add_gt h2]
      · rw [Nat.testBit_lt_two_pow (Nat.lt_of_lt_of_le (show 2 ^ 63 + c < 2 ^ 64 by omega) (Nat.pow_le_pow_right (show 2 > 0 by decide) (by omega : 64 ≤ i))), Nat.testBit_lt_two_pow (Nat.lt_of_lt_of_le (show c < 2 ^ 63 by omega) (Nat.pow_le_pow_right (show 2 > 0 by decide) (by omega : 63 ≤ i)))]
/-- The order against a number that is not below nought. -/
theorem gt_low (x m : Nat) (hm : m < INF) : (FloatKind.f64.format.order x m == some Ordering.gt) = (!isN x && !isNeg x && decide (m < x % B63)) := by
  show (Ieee.double.order x m == some Ordering.gt) = _
  have hm2 : m < B63 := Nat.lt_trans hm inf_lt
  have hN : isN m = false := by
    unfold isN
    rw [mod_low hm2]
    exact decide_eq_false (by omega)
  cases hx : isN x
  · rw [order_some hx hN]
    have e : valI m = (mag m : Int) := by
      unfold valI
      rw [isNeg_low hm2, mod_low hm2]
      rfl
    rw [e]
    have e2 : ((some (compare (valI x) (mag m : Int)) == some Ordering.gt) : Bool) = decide ((mag m : Int) < valI x) := by
      rw [Bool.eq_iff_iff, beq_iff_eq, decide_eq_true_eq, Option.some.injEq, Int.compare_eq_gt]
    rw [e2]
    unfold valI
    cases hg : isNeg x
    · rw [sgn_f, Bool.eq_iff_iff, decide_eq_true_eq, Int.ofNat_lt, mag_lt_iff]
      simp
    · rw [sgn_t, Bool.eq_iff_iff, decide_eq_true_eq]
      simp
      try omega
  · rw [order_none (.inl hx)]
    simp
theorem lt_zero (x : Nat) : (FloatKind.f64.format.order x 0 == some Ordering.lt) = (!isN x && isNeg x && decide (0 < x % B63)) := by
  show (Ieee.double.order x 0 == some Ordering.lt) = _
  have hN : isN 0 = false := by decide
  cases hx : isN x
  · rw [order_some hx hN]
    have e : valI 0 = 0 := by decide
    rw [e]
    have e2 : ((some (compare (valI x) 0) == some Ordering.lt) : Bool) = decide (valI x < 0) := by
      rw [Bool.eq_iff_iff, beq_iff_eq, decide_eq_true_eq, Option.some.injEq, Int.compare_eq_lt]
    rw [e2]
    unfold valI
    cases hg : isNeg x
    · rw [sgn_f, Bool.eq_iff_iff, decide_eq_true_eq]
      simp
      try omega
    · rw [sgn_t, Bool.eq_iff_iff, decide_eq_true_eq]
      have : (0 < mag (x % B63)) ↔ 0 < x % B63 := mag_lt_iff (r := 0)
      simp
      omega
  · rw [order_none (.inl hx)]
    simp
theorem inf_pos (x : Nat) (hx : x < B64) : (FloatKind.f64.format.order x 9218868437227405311 == some Ordering.gt) = (x == INF) := by
  rw [gt_low x _ (by decide)]
  have h64 := b64_is
  have h63 := b63_is
  have hI := inf_is
  unfold isN isNeg
  rw [h63, hI, Bool.eq_iff_iff]
  simp only [Bool.and_eq_true, Bool.not_eq_true', decide_eq_true_eq, decide_eq_false_iff_not, beq_iff_eq, beq_eq_false_iff_ne]
  omega
theorem inf_neg (x : Nat) (hx : x < B64) : (FloatKind.f64.format.order (negW x) 9218868437227405311 == some Ordering.gt) = (x == INF + B63) := by
  have h64 := b64_is
  have h63 := b63_is
  rw [inf_pos _ (by unfold negW; split <;> omega), Bool.eq_iff_iff, beq_iff_eq, beq_iff_eq]
  have hI := inf_is
  unfold negW
  split <;> omega
set_option maxRecDepth 100000 in
theorem isinf_plus (x : Nat) (hx : x < B64) (w : World) : Calls Tryd.prog 51 #[.float .f64 x, .int .i64 1] w fun e w' => e = .returned (.bool (x == INF)) ∧ w = w' := by
  have HE := Lib.hid (inf_pos x hx)
  go_enter Tryd.func51, Tryd.ntmps51
  go_wp2
  go_ret
  exact ⟨ret_bool HE.out, rfl⟩
set_option maxRecDepth 100000 in
theorem isinf_minus (x : Nat) (hx : x < B64) (w : World) : Calls Tryd.prog 51 #[.float .f64 x, .int .i64 (-1)] w fun e w' => e = .returned (.bool (x == INF + B63)) ∧ w = w' := by
  have HE := Lib.hid (inf_neg x hx)
  have hn := negW_is x hx
  go_enter Tryd.func51, Tryd.ntmps51
  go_wp2
  go_ret
  exact ⟨ret_bool HE.out, rfl⟩
end Go.Proofs.YtlklbdnlpljaiaaDoor
