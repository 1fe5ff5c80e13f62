/-
  flo's plain functions, on: Signbit, Copysign, Class, Key, Of, Cmp, Same, Inf.
-/
import Derived.Test.YtgpjipgbighplaaDoorFlC
namespace Go.Proofs.YtgpjipgbighplaaDoor
open Go.RowKit Go.Shoal

theorem sign_i64 (b : Nat) : decide (wrap64 (b : Int) < 0) = isNeg b := by
  have h64 := b64_is
  have h63 := b63_is
  unfold isNeg
  unfold wrap64
  rw [h63, Bool.eq_iff_iff, beq_iff_eq, decide_eq_true_eq]
  omega
theorem signbit_any (b : Nat) (w : World) : Calls Tryd.prog 15 #[.float .f64 b] w fun e w' => e = .returned (.bool (isNeg b)) ∧ w = w' := by
  have HE := Lib.hid (sign_i64 b)
  go_enter Tryd.func15, Tryd.ntmps15
  go_wp2
  go_ret
  exact ⟨ret_bool HE.out, rfl⟩
theorem inf_any (w : World) : Calls Tryd.prog 23 #[.int .i64 1] w fun e w' => e = .returned (.float .f64 INF) ∧ w = w' := by
  go_enter Tryd.func23, Tryd.ntmps23
  go_wp2
  go_ret
  exact ⟨rfl, rfl⟩
theorem minf_any (w : World) : Calls Tryd.prog 23 #[.int .i64 (-1)] w fun e w' => e = .returned (.float .f64 (INF + B63)) ∧ w = w' := by
  go_enter Tryd.func23, Tryd.ntmps23
  go_wp2
  go_ret
  exact ⟨rfl, rfl⟩
theorem andnot_top (b : Nat) (hb : b < B64) : bits .andNot .u64 (b : Int) 9223372036854775808 = ((b % B63 : Nat) : Int) := by
  have h := u64_andNot_nat b 9223372036854775808 hb (by decide)
  have e : b &&& (18446744073709551615 - 9223372036854775808) = b % B63 := Nat.and_two_pow_sub_one_eq_mod b 63
  rw [e] at h
  exact h
def topW (b : Nat) : Nat := if isNeg b then B63 else 0
theorem and_top (b : Nat) (hb : b < B64) : bits .and .u64 (b : Int) 9223372036854775808 = ((topW b : Nat) : Int) := by
  have h := bits_and_u64_nat b 9223372036854775808 hb (by decide)
  have e : b &&& 9223372036854775808 = topW b := by
    unfold topW
    apply Nat.eq_of_testBit_eq
    intro i
    rw [Nat.testBit_and, show (9223372036854775808 : Nat) = 2 ^ 63 from rfl, Nat.testBit_two_pow]
    by_cases hi : 63 = i
    · subst hi
      rw [decide_eq_true rfl, Bool.and_true]
      have e1 : b.testBit 63 = isNeg b := by
        rw [Nat.testBit_eq_decide_div_mod_eq]
        unfold isNeg
        rw [Bool.eq_iff_iff, decide_eq_true_eq, beq_iff_eq]
        exact Iff.rfl
      rw [e1]
      cases isNeg b <;> rfl
    · rw [decide_eq_false hi, Bool.and_false]
      cases isNeg b
      · rw [if_neg (by decide)]
        exact (Nat.zero_testBit i).symm
      · rw [if_pos rfl]
        show false = (2 ^ 63).testBit i
        rw [Nat.testBit_two_pow, decide_eq_false hi]
  rw [e] at h
  exact h
theorem topW_lt (b : Nat) : topW b ≤ B63 := by
  unfold topW
  split
  · exact Nat.le_refl _
  · exact Nat.zero_le _
theorem low_or_top (a b : Nat) : bits .or .u64 ((a % B63 : Nat) : Int) ((topW b : Nat) : Int) = ((a % B63 + topW b : Nat) : Int) := by
  have hl : a % B63 < B63 := Nat.mod_lt _ (by decide)
  unfold topW
  cases isNeg b
  · have h := u64_or_nat (a % B63) 0 (Nat.lt_trans hl (by decide)) (by decide)
    rw [Nat.or_zero] at h
    exact h
  · exact top_or _ hl
/-- A number with another's sign. -/
def signW (a b : Nat) : Nat := a % B63 + topW b
set_option maxHeartbeats 400000 in
theorem copysign_any (a b : Nat) (ha : a < B64) (hb : b < B64) (w : World) : Calls Tryd.prog 14 #[.float .f64 a, .float .f64 b] w fun e w' => e = .returned (.float .f64 (signW a b)) ∧ w = w' := by
  have t1 := andnot_top a ha
  have t2 := and_top b hb
  have t3 := low_or_top a b
  have HS : Hid (signW a b = a % B63 + topW b) := rfl
  clear ha hb
  generalize signW a b = s at *
  generalize topW b = q at *
  generalize a % B63 = r at *
  go_enter Tryd.func14, Tryd.ntmps14
  go_wp2
  go_ret
  exact ⟨by rw [HS.out]; rfl, rfl⟩
theorem low_zero (b : Nat) (hb : b < B64) : (bits .and .u64 (b : Int) 9223372036854775808 == 0) = decide (b < B63) := by
  rw [and_top b hb]
  have h64 := b64_is
  have h63 := b63_is
  unfold topW isNeg
  rw [h63, Bool.eq_iff_iff, beq_iff_eq, decide_eq_true_eq]
  by_cases h : (b / 9223372036854775808 % 2 == 1) = true
  · rw [if_pos h]
    rw [beq_iff_eq] at h
    omega
  · rw [if_neg h]
    rw [beq_iff_eq] at h
    omega
set_option maxHeartbeats 1000000 in
theorem key_any (b : Nat) (w : World) (hb : b < B64) : Calls Tryd.prog 19 #[.float .f64 b] w fun e w' => e = .returned (.int .u64 (fkey b)) ∧ w = w' := by
  have HC := Lib.hid (isnan_any b w)
  have e1 := low_zero b hb
  by_cases hn : isN b = true
  · rw [hn] at HC
    have HE : Hid (fkey b = 18446744073709551615) := by show _ = _; unfold fkey; rw [if_pos hn]; rfl
    clear hn hb e1
    go_enter Tryd.func19, Tryd.ntmps19
    go_wp2_with fail
    refine HC.out.mono ?_
    rintro e w1 ⟨rfl, rfl⟩
    go_wp2
    go_ret
    exact ⟨by rw [HE.out]; rfl, rfl⟩
  · have hn' : isN b = false := by simpa using hn
    rw [hn'] at HC
    by_cases hl : b < B63
    · have e2 := top_or b hl
      have HE : Hid (fkey b = b + B63) := by show _ = _; unfold fkey; rw [if_neg hn, if_pos hl]
      rw [decide_eq_true hl] at e1
      clear hn hb hn' hl
      go_enter Tryd.func19, Tryd.ntmps19
      go_wp2_with fail
      refine HC.out.mono ?_
      rintro e w1 ⟨rfl, rfl⟩
      go_wp2
      go_ret
      exact ⟨by rw [HE.out]; rfl, rfl⟩
    · have HX := Lib.hid (not_bits b hb)
      have HE : Hid (fkey b = B64 - 1 - b) := by show _ = _; unfold fkey; rw [if_neg hn, if_neg hl]
      rw [decide_eq_false hl] at e1
      clear hn hb hn' hl
      go_enter Tryd.func19, Tryd.ntmps19
      go_wp2_with fail
      refine HC.out.mono ?_
      rintro e w1 ⟨rfl, rfl⟩
      go_wp2
      go_ret
      exact ⟨by rw [HE.out, ← HX.out]; rfl, rfl⟩
end Go.Proofs.YtgpjipgbighplaaDoor
