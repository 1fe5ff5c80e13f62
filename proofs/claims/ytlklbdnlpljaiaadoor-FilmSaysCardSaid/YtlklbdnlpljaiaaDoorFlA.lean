/-
  Floats' words, no number, and the reference's Class, Key, Cmp, Same.
-/
import Derived.Test.YtlklbdnlpljaiaaDoorBase
import Derived.Test.YtlklbdnlpljaiaaDoorFloat
import Derived.Test.YtlklbdnlpljaiaaDoorChecked
import Derived.Laws.Externs
import Derived.Laws.Bits64b
import Derived.Laws.BitsAllLaws
namespace Go.Proofs.YtlklbdnlpljaiaaDoor
open Go.RowKit Go.Shoal

@[go_sem] theorem run_bits (b : Nat) (w : World) : (callFunc 46 #[.float .f64 b]).run Tryd.prog w = .ok (.value (.int .u64 (b : Int))) w := by
  rw [run_callFunc_extern Tryd.func46 (by kernel_rfl) (by kernel_rfl) (by kernel_rfl) (e := Extern.MathFloatBits.float64bits) (by kernel_rfl)]
  rfl
@[go_sem] theorem run_frombits (b : Int) (w : World) : (callFunc 16 #[.int .u64 b]).run Tryd.prog w = .ok (.value (.float .f64 b.toNat)) w := by
  rw [run_callFunc_extern Tryd.func16 (by kernel_rfl) (by kernel_rfl) (by kernel_rfl) (e := Extern.MathFloatBits.float64frombits) (by kernel_rfl)]
  rfl
theorem order_self (b : Nat) : (FloatKind.f64.format.order b b != some Ordering.eq) = isN b := by
  show (Ieee.double.order b b != some Ordering.eq) = isN b
  cases h : isN b
  · rw [order_some h h, Int.compare_eq_eq.2 rfl]; rfl
  · rw [order_none (.inl h)]; rfl
theorem isnan_any (b : Nat) (w : World) : Calls Tryd.prog 50 #[.float .f64 b] w fun e w' => e = .returned (.bool (isN b)) ∧ w = w' := by
  have HO := Lib.hid (order_self b)
  go_enter Tryd.func50, Tryd.ntmps50
  go_wp2
  go_ret
  exact ⟨ret_bool HO.out, rfl⟩
def nanW : Nat := 9221120237041090561
theorem nan_any (w : World) : Calls Tryd.prog 15 #[] w fun e w' => e = .returned (.float .f64 nanW) ∧ w = w' := by
  go_enter Tryd.func15, Tryd.ntmps15
  go_wp2
  go_ret
  exact ⟨rfl, rfl⟩
/-- Which kind of number. -/
def classW (b : Nat) : Int :=
  if isN b then 0 else if b % B63 = INF then (if isNeg b then 1 else 6) else if b % B63 = 0 then (if isNeg b then 3 else 4) else if isNeg b then 2 else 5
theorem low_bits (b : Nat) (hb : b < B64) : bits .and .u64 (b : Int) 9223372036854775807 = ((b % B63 : Nat) : Int) := by
  have h := bits_and_u64_nat b 9223372036854775807 hb (by omega)
  have e : b &&& 9223372036854775807 = b % 9223372036854775808 := Nat.and_two_pow_sub_one_eq_mod b 63
  rw [e] at h
  exact h
theorem top_bit (b : Nat) (hb : b < B64) : ((b : Int) / 9223372036854775808 == 1) = isNeg b := by
  have e : B63 = 9223372036854775808 := by decide
  have e2 : B64 = 18446744073709551616 := by decide
  unfold isNeg
  rw [e]
  rw [Bool.eq_iff_iff, beq_iff_eq, beq_iff_eq]
  omega
set_option maxHeartbeats 1000000 in
theorem rclass_any (b : Nat) (w : World) (hb : b < B64) : Calls Tryd.prog 45 #[.float .f64 b] w fun e w' => e = .returned (.int .i64 (classW b)) ∧ w = w' := by
  have e2 := low_bits b hb
  have e1 := top_bit b hb
  obtain ⟨r, hr⟩ : ∃ r, r = b % B63 := ⟨_, rfl⟩
  obtain ⟨g, hg⟩ : ∃ g, g = isNeg b := ⟨_, rfl⟩
  have hC : classW b = if INF < r then 0 else if r = INF then (if g then 1 else 6) else if r = 0 then (if g then 3 else 4) else if g then 2 else 5 := by
    unfold classW isN
    rw [← hr, ← hg]
    simp only [decide_eq_true_eq]
  rw [← hr] at e2
  rw [← hg] at e1
  clear hr hg hb
  have ei : INF = 9218868437227405312 := by decide
  rw [ei] at hC
  have HC := Lib.hid hC
  clear hC ei
  by_cases h1 : 9218868437227405312 < r
  · have t1 : decide ((9218868437227405312 : Int) < (r : Int)) = true := decide_eq_true (by omega)
    have HR : Hid (classW b = 0) := by show _ = _; rw [HC.out, if_pos h1]
    clear h1
    go_enter Tryd.func45, Tryd.ntmps45
    go_wp2
    go_ret
    exact ⟨by rw [HR.out]; rfl, rfl⟩
  have t1 : decide ((9218868437227405312 : Int) < (r : Int)) = false := decide_eq_false (by omega)
  by_cases h2 : r = 9218868437227405312
  · have t2 : ((r : Int) == 9218868437227405312) = true := by rw [beq_iff_eq]; omega
    cases g
    all_goals
      have HR := Lib.hid (HC.out.trans ((if_neg h1).trans (if_pos h2)))
      clear h1 h2
      go_enter Tryd.func45, Tryd.ntmps45
      go_wp2
      go_ret
      exact ⟨by rw [HR.out]; rfl, rfl⟩
  have t2 : ((r : Int) == 9218868437227405312) = false := by rw [beq_eq_false_iff_ne]; omega
  by_cases h3 : r = 0
  · have t3 : ((r : Int) == 0) = true := by rw [beq_iff_eq]; omega
    cases g
    all_goals
      have HR := Lib.hid (HC.out.trans ((if_neg h1).trans ((if_neg h2).trans (if_pos h3))))
      clear h1 h2 h3
      go_enter Tryd.func45, Tryd.ntmps45
      go_wp2
      go_ret
      exact ⟨by rw [HR.out]; rfl, rfl⟩
  have t3 : ((r : Int) == 0) = false := by rw [beq_eq_false_iff_ne]; omega
  cases g
  all_goals
    have HR := Lib.hid (HC.out.trans ((if_neg h1).trans ((if_neg h2).trans (if_neg h3))))
    clear h1 h2 h3
    go_enter Tryd.func45, Tryd.ntmps45
    go_wp2
    go_ret
    exact ⟨by rw [HR.out]; rfl, rfl⟩
theorem not_bits (b : Nat) (hb : b < B64) : bits .xor .u64 18446744073709551615 (b : Int) = ((B64 - 1 - b : Nat) : Int) := by
  have h := u64_xor_nat 18446744073709551615 b (by decide) hb
  have e : 18446744073709551615 ^^^ b = B64 - 1 - b := by
    have h1 : B64 - 1 - b = 2 ^ 64 - (b + 1) := by show 2 ^ 64 - 1 - b = _; omega
    rw [h1]
    apply Nat.eq_of_testBit_eq
    intro i
    rw [Nat.testBit_xor, Nat.testBit_two_pow_sub_succ hb, show (18446744073709551615 : Nat) = 2 ^ 64 - 1 from rfl, Nat.testBit_two_pow_sub_one]
    by_cases hi : i < 64
    · simp [hi]
    · have : b.testBit i = false := Nat.testBit_lt_two_pow (Nat.lt_of_lt_of_le hb (Nat.pow_le_pow_right (by decide) (by omega)))
      simp [hi, this]
  rw [e] at h
  exact h
theorem top_or (b : Nat) (hb : b < B63) : bits .or .u64 (b : Int) 9223372036854775808 = ((b + B63 : Nat) : Int) := by
  have h := u64_or_nat b 9223372036854775808 (by have : B63 < 18446744073709551616 := by decide
                                                 omega) (by decide)
  have e : b ||| 9223372036854775808 = b + B63 := by
    rw [Nat.or_comm, Nat.add_comm]
    exact nat_join 63 _ b (by decide) hb
  rw [e] at h
  exact h
theorem low_neg (b : Nat) (hb : b < B64) : ((b : Int) / 9223372036854775808 == 0) = decide (b < B63) := by
  have e : B63 = 9223372036854775808 := by decide
  have e2 : B64 = 18446744073709551616 := by decide
  rw [e, Bool.eq_iff_iff, beq_iff_eq, decide_eq_true_eq]
  omega
theorem classW_zero (b : Nat) : (classW b == 0) = isN b := by
  unfold classW
  cases isN b
  · rw [if_neg (by decide), Bool.eq_iff_iff, beq_iff_eq]
    constructor
    · intro h
      split at h
      · split at h <;> omega
      · split at h
        · split at h <;> omega
        · split at h <;> omega
    · intro h; cases h
  · rw [if_pos rfl]; rfl
set_option maxHeartbeats 1000000 in
theorem rkey_any (b : Nat) (w : World) (hb : b < B64) : Calls Tryd.prog 59 #[.float .f64 b] w fun e w' => e = .returned (.int .u64 (fkey b)) ∧ w = w' := by
  have HC := Lib.hid (rclass_any b w hb)
  have t0 := classW_zero b
  have e1 := low_neg b hb
  by_cases hn : isN b = true
  · rw [hn] at t0
    have HE : Hid (fkey b = 18446744073709551615) := by show _ = _; unfold fkey; rw [if_pos hn]; rfl
    clear hn hb e1
    generalize classW b = c at *
    go_enter Tryd.func59, Tryd.ntmps59
    go_wp2_with fail
    refine HC.out.mono ?_
    rintro e w1 ⟨rfl, rfl⟩
    go_wp2
    go_ret
    exact ⟨by rw [HE.out]; rfl, rfl⟩
  · have hn' : isN b = false := by simpa using hn
    rw [hn'] at t0
    by_cases hl : b < B63
    · have e2 := top_or b hl
      have HE : Hid (fkey b = b + B63) := by show _ = _; unfold fkey; rw [if_neg hn, if_pos hl]
      rw [decide_eq_true hl] at e1
      clear hn hb hn' hl
      generalize classW b = c at *
      go_enter Tryd.func59, Tryd.ntmps59
      go_wp2_with fail
      refine HC.out.mono ?_
      rintro e w1 ⟨rfl, rfl⟩
      go_wp2
      go_ret
      exact ⟨by rw [HE.out]; rfl, rfl⟩
    · have HX := Lib.hid (not_bits b hb)
      have HE : Hid (fkey b = B64 - 1 - b) := by show _ = _; unfold fkey; rw [if_neg hn, if_neg hl]
      rw [decide_eq_false hl] at e1
      clear hn hb hn' hl
      generalize classW b = c at *
      go_enter Tryd.func59, Tryd.ntmps59
      go_wp2_with fail
      refine HC.out.mono ?_
      rintro e w1 ⟨rfl, rfl⟩
      go_wp2
      go_ret
      exact ⟨by rw [HE.out, ← HX.out]; rfl, rfl⟩
theorem fkey_lt {b : Nat} (hb : b < B64) : fkey b < B64 := by
  have := b63_two
  have : 0 < B64 := by decide
  unfold fkey
  split
  · omega
  · split <;> omega
/-- The order that the document gives. -/
def cmpW (a b : Nat) : Int := if fkey a < fkey b then -1 else if fkey b < fkey a then 1 else 0
set_option maxHeartbeats 1000000 in
theorem rcmp_any (a b : Nat) (w : World) (ha : a < B64) (hb : b < B64) : Calls Tryd.prog 47 #[.float .f64 a, .float .f64 b] w fun e w' => e = .returned (.int .i64 (cmpW a b)) ∧ w = w' := by
  have HA := Lib.hid (rkey_any a w ha)
  have HB := Lib.hid (rkey_any b w hb)
  have HC : Hid (cmpW a b = if fkey a < fkey b then -1 else if fkey b < fkey a then 1 else 0) := rfl
  generalize cmpW a b = c at *
  generalize fkey a = x at *
  generalize fkey b = y at *
  clear ha hb
  by_cases h1 : x < y
  · have t1 : decide (x < y) = true := decide_eq_true h1
    have HR := Lib.hid (HC.out.trans (if_pos h1))
    go_enter Tryd.func47, Tryd.ntmps47
    go_wp2_with fail
    refine HA.out.mono ?_
    rintro e w1 ⟨rfl, rfl⟩
    go_wp2_with fail
    refine HB.out.mono ?_
    rintro e w1 ⟨rfl, rfl⟩
    go_wp2
    go_ret
    exact ⟨by rw [HR.out]; rfl, rfl⟩
  have t1 : decide (x < y) = false := decide_eq_false h1
  by_cases h2 : y < x
  · have t2 : decide (y < x) = true := decide_eq_true h2
    have HR := Lib.hid (HC.out.trans ((if_neg h1).trans (if_pos h2)))
    go_enter Tryd.func47, Tryd.ntmps47
    go_wp2_with fail
    refine HA.out.mono ?_
    rintro e w1 ⟨rfl, rfl⟩
    go_wp2_with fail
    refine HB.out.mono ?_
    rintro e w1 ⟨rfl, rfl⟩
    go_wp2
    go_ret
    exact ⟨by rw [HR.out]; rfl, rfl⟩
  have t2 : decide (y < x) = false := decide_eq_false h2
  have HR := Lib.hid (HC.out.trans ((if_neg h1).trans (if_neg h2)))
  go_enter Tryd.func47, Tryd.ntmps47
  go_wp2_with fail
  refine HA.out.mono ?_
  rintro e w1 ⟨rfl, rfl⟩
  go_wp2_with fail
  refine HB.out.mono ?_
  rintro e w1 ⟨rfl, rfl⟩
  go_wp2
  go_ret
  exact ⟨by rw [HR.out]; rfl, rfl⟩
/-- Alike, as the document has it. -/
def sameW (a b : Nat) : Bool := fkey a == fkey b
theorem cmpW_zero (a b : Nat) : (cmpW a b == 0) = sameW a b := by
  unfold cmpW sameW
  rw [Bool.eq_iff_iff, beq_iff_eq, beq_iff_eq]
  split
  · omega
  · split <;> omega
theorem rsame_any (a b : Nat) (w : World) (ha : a < B64) (hb : b < B64) : Calls Tryd.prog 32 #[.float .f64 a, .float .f64 b] w fun e w' => e = .returned (.bool (sameW a b)) ∧ w = w' := by
  have HC := Lib.hid (rcmp_any a b w ha hb)
  have t := cmpW_zero a b
  generalize cmpW a b = c at *
  generalize sameW a b = s at *
  go_enter Tryd.func32, Tryd.ntmps32
  go_wp2_with fail
  refine HC.out.mono ?_
  rintro e w1 ⟨rfl, rfl⟩
  go_wp2
  go_ret
  exact ⟨rfl, rfl⟩
end Go.Proofs.YtlklbdnlpljaiaaDoor
