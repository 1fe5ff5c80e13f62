/-
  flo's Of, Cmp, Same, Class; the reference's Of.
-/
import Derived.Test.YtgpjipgbighplaaDoorFlD
namespace Go.Proofs.YtgpjipgbighplaaDoor
open Go.RowKit Go.Shoal

def keyBits (k : Nat) : Nat := if k < B63 then B64 - 1 - k else k - B63
/-- The number of a key. -/
def ofW (k : Nat) : Nat × Bool := if k = 18446744073709551615 then (nanW, true) else if isN (keyBits k) then (0, false) else (keyBits k, true)
set_option maxRecDepth 100000
def pairF (x : Nat × Bool) : Value := .tuple #[.float .f64 x.1, .bool x.2]
theorem mod_top (k : Nat) (hk : k < B64) (h : ¬ k < B63) : k % B63 = k - B63 := mod_high (by omega) hk
set_option maxHeartbeats 2000000 in
theorem of_any (k : Nat) (w : World) (hk : k < B64) : Calls Tryd.prog 16 #[.int .u64 k] w fun e w' => e = .returned (pairF (ofW k)) ∧ w = w' := by
  by_cases h0 : k = 18446744073709551615
  · have t0 : ((k : Int) == 18446744073709551615) = true := by rw [beq_iff_eq]; omega
    have HE : Hid (ofW k = (nanW, true)) := if_pos h0
    have HN := Lib.hid (nan_any w)
    clear hk h0
    go_enter Tryd.func16, Tryd.ntmps16
    go_wp2_with fail
    refine HN.out.mono ?_
    rintro e w1 ⟨rfl, rfl⟩
    go_wp2
    go_ret2
    exact ⟨by rw [HE.out]; rfl, rfl⟩
  have t0 : ((k : Int) == 18446744073709551615) = false := by rw [beq_eq_false_iff_ne]; omega
  have HX := Lib.hid (not_bits k hk)
  have t2 := andnot_top k hk
  have t1 := low_zero k hk
  have HC := Lib.hid (isnan_any (keyBits k) w)
  by_cases hl : k < B63
  · have HK : Hid (keyBits k = B64 - 1 - k) := if_pos hl
    rw [decide_eq_true hl] at t1
    have t3 : (bits .and .u64 (k : Int) 9223372036854775808 != 0) = false := by rw [bne, t1]; rfl
    have HE : Hid (ofW k = if isN (keyBits k) then (0, false) else (keyBits k, true)) := if_neg h0
    have hx2 : bits .xor .u64 IntKind.u64.max (k : Int) = ((keyBits k : Nat) : Int) := by rw [HK.out]; exact HX.out
    clear hk h0 hl t1 t2 HX HK
    generalize keyBits k = b at *
    generalize ofW k = r at *
    generalize isN b = n at *
    cases n
    all_goals
      go_enter Tryd.func16, Tryd.ntmps16
      go_wp2_with fail
      refine HC.out.mono ?_
      rintro e w1 ⟨rfl, rfl⟩
      go_wp2
      go_ret2
      exact ⟨by rw [HE.out]; rfl, rfl⟩
  · have HK : Hid (keyBits k = k - B63) := if_neg hl
    rw [mod_top k hk hl, ← HK.out] at t2
    rw [decide_eq_false hl] at t1
    have t3 : (bits .and .u64 (k : Int) 9223372036854775808 != 0) = true := by rw [bne, t1]; rfl
    have HE : Hid (ofW k = if isN (keyBits k) then (0, false) else (keyBits k, true)) := if_neg h0
    clear hk h0 hl t1 HX HK
    generalize keyBits k = b at *
    generalize ofW k = r at *
    generalize isN b = n at *
    cases n
    all_goals
      go_enter Tryd.func16, Tryd.ntmps16
      go_wp2_with fail
      refine HC.out.mono ?_
      rintro e w1 ⟨rfl, rfl⟩
      go_wp2
      go_ret2
      exact ⟨by rw [HE.out]; rfl, rfl⟩
def cmpI (x y : Nat) : Int := if x < y then -1 else if y < x then 1 else 0
theorem compare_any (x y : Nat) (w : World) : Calls Tryd.prog 34 #[.int .u64 x, .int .u64 y] w fun e w' => e = .returned (.int .i64 (cmpI x y)) ∧ w = w' := by
  have HC : Hid (cmpI x y = if x < y then -1 else if y < x then 1 else 0) := rfl
  generalize cmpI x y = c at *
  by_cases h1 : x < y
  · have t1 : decide (x < y) = true := decide_eq_true h1
    have HR := Lib.hid (HC.out.trans (if_pos h1))
    go_enter Tryd.func34, Tryd.ntmps34
    go_wp2
    go_ret
    exact ⟨by rw [HR.out]; rfl, rfl⟩
  have t1 : decide (x < y) = false := decide_eq_false h1
  by_cases h2 : y < x
  · have t2 : decide (y < x) = true := decide_eq_true h2
    have HR := Lib.hid (HC.out.trans ((if_neg h1).trans (if_pos h2)))
    go_enter Tryd.func34, Tryd.ntmps34
    go_wp2
    go_ret
    exact ⟨by rw [HR.out]; rfl, rfl⟩
  have t2 : decide (y < x) = false := decide_eq_false h2
  have HR := Lib.hid (HC.out.trans ((if_neg h1).trans (if_neg h2)))
  go_enter Tryd.func34, Tryd.ntmps34
  go_wp2
  go_ret
  exact ⟨by rw [HR.out]; rfl, rfl⟩
theorem cmp_any (a b : Nat) (w : World) (ha : a < B64) (hb : b < B64) : Calls Tryd.prog 11 #[.float .f64 a, .float .f64 b] w fun e w' => e = .returned (.int .i64 (cmpW a b)) ∧ w = w' := by
  have HA := Lib.hid (key_any a w ha)
  have HB := Lib.hid (key_any b w hb)
  have HC := Lib.hid (compare_any (fkey a) (fkey b) w)
  have HE : Hid (cmpI (fkey a) (fkey b) = cmpW a b) := rfl
  generalize cmpW a b = c at *
  generalize fkey a = x at *
  generalize fkey b = y at *
  clear ha hb
  go_enter Tryd.func11, Tryd.ntmps11
  go_wp2_with fail
  refine HA.out.mono ?_
  rintro e w1 ⟨rfl, rfl⟩
  go_wp2_with fail
  refine HB.out.mono ?_
  rintro e w1 ⟨rfl, rfl⟩
  go_wp2_with fail
  refine HC.out.mono ?_
  rintro e w1 ⟨rfl, rfl⟩
  go_wp2
  go_ret
  exact ⟨by rw [← HE.out]; rfl, rfl⟩
theorem same_any (a b : Nat) (w : World) (ha : a < B64) (hb : b < B64) : Calls Tryd.prog 12 #[.float .f64 a, .float .f64 b] w fun e w' => e = .returned (.bool (sameW a b)) ∧ w = w' := by
  have HC := Lib.hid (cmp_any a b w ha hb)
  have t := cmpW_zero a b
  generalize cmpW a b = c at *
  generalize sameW a b = s at *
  go_enter Tryd.func12, Tryd.ntmps12
  go_wp2_with fail
  refine HC.out.mono ?_
  rintro e w1 ⟨rfl, rfl⟩
  go_wp2
  go_ret
  exact ⟨rfl, rfl⟩
theorem class_cases (b : Nat) (hb : b < B64) : classW b = if isN b then 0 else if b == INF + B63 then 1 else if b == INF then 6 else if (!isN b && isNeg b && decide (0 < b % B63)) then 2 else if (!isN b && !isNeg b && decide (0 < b % B63)) then 5 else if isNeg b then 3 else 4 := by
  have h64 := b64_is
  have h63 := b63_is
  have hI := inf_is
  unfold classW
  cases hn : isN b
  · have hn' : b % B63 ≤ INF := by
      unfold isN at hn
      have := of_decide_eq_false hn
      omega
    simp only [Bool.false_eq_true, if_false, Bool.not_false, Bool.true_and]
    cases hg : isNeg b
    · have hg' : b < B63 := by
        have h := Nat.lt_or_ge b B63
        rcases h with h | h
        · exact h
        · rw [isNeg_high h hb] at hg; cases hg
      have e : b % B63 = b := mod_low hg'
      rw [e]
      simp only [Bool.false_eq_true, if_false, Bool.not_false, Bool.true_and, Bool.false_and, beq_iff_eq, decide_eq_true_eq]
      by_cases h1 : b = INF
      · have h3 : ¬ b = INF + B63 := by omega
        simp only [h1, if_true]
        rw [if_neg (by omega)]
      · have h3 : ¬ b = INF + B63 := by omega
        by_cases h2 : b = 0
        · have h4 : ¬ 0 < b := by omega
          simp only [h1, h3, h4, if_false]
          rw [if_pos h2]
        · have h4 : 0 < b := by omega
          simp only [h1, h3, h4, h2, if_true, if_false]
    · have hg' : B63 ≤ b := by
        have h := Nat.lt_or_ge b B63
        rcases h with h | h
        · rw [isNeg_low h] at hg; cases hg
        · exact h
      have e : b % B63 = b - B63 := mod_high hg' hb
      rw [e]
      simp only [if_true, Bool.not_true, Bool.true_and, Bool.false_and, Bool.false_eq_true, if_false, beq_iff_eq, decide_eq_true_eq]
      by_cases h1 : b - B63 = INF
      · rw [if_pos h1, if_pos (by omega)]
      · have h3 : ¬ b = INF + B63 := by omega
        have h5 : ¬ b = INF := by omega
        by_cases h2 : b - B63 = 0
        · have h4 : ¬ 0 < b - B63 := by omega
          simp only [h1, h3, h4, h5, if_false]
          rw [if_pos h2]
        · have h4 : 0 < b - B63 := by omega
          simp only [h1, h3, h4, h5, h2, if_true, if_false]
  · simp only [if_true]
set_option maxHeartbeats 4000000 in
set_option maxRecDepth 100000 in
theorem class_any (b : Nat) (w : World) (hb : b < B64) : Calls Tryd.prog 13 #[.float .f64 b] w fun e w' => e = .returned (.int .i64 (classW b)) ∧ w = w' := by
  have HE := Lib.hid (class_cases b hb)
  have H1 := Lib.hid (isnan_any b w)
  have H2 := Lib.hid (isinf_minus b hb w)
  have H3 := Lib.hid (isinf_plus b hb w)
  have H4 := Lib.hid (signbit_any b w)
  have t1 := lt_zero b
  have t2 := gt_low b 0 (by decide)
  clear hb
  generalize classW b = c at *
  generalize (!isN b && isNeg b && decide (0 < b % B63)) = p1 at *
  generalize (!isN b && !isNeg b && decide (0 < b % B63)) = p2 at *
  generalize isN b = n at *
  generalize isNeg b = g at *
  generalize (b == INF + B63) = i1 at *
  generalize (b == INF) = i2 at *
  cases n
  rotate_left
  · go_enter Tryd.func13, Tryd.ntmps13
    go_wp2_with fail
    refine H1.out.mono ?_
    rintro e w1 ⟨rfl, rfl⟩
    go_wp2
    go_ret
    exact ⟨by rw [HE.out]; rfl, rfl⟩
  cases i1
  rotate_left
  · go_enter Tryd.func13, Tryd.ntmps13
    go_wp2_with fail
    refine H1.out.mono ?_
    rintro e w1 ⟨rfl, rfl⟩
    go_wp2_with fail
    refine H2.out.mono ?_
    rintro e w1 ⟨rfl, rfl⟩
    go_wp2
    go_ret
    exact ⟨by rw [HE.out]; rfl, rfl⟩
  cases i2
  rotate_left
  · go_enter Tryd.func13, Tryd.ntmps13
    go_wp2_with fail
    refine H1.out.mono ?_
    rintro e w1 ⟨rfl, rfl⟩
    go_wp2_with fail
    refine H2.out.mono ?_
    rintro e w1 ⟨rfl, rfl⟩
    go_wp2_with fail
    refine H3.out.mono ?_
    rintro e w1 ⟨rfl, rfl⟩
    go_wp2
    go_ret
    exact ⟨by rw [HE.out]; rfl, rfl⟩
  cases p1
  rotate_left
  · go_enter Tryd.func13, Tryd.ntmps13
    go_wp2_with fail
    refine H1.out.mono ?_
    rintro e w1 ⟨rfl, rfl⟩
    go_wp2_with fail
    refine H2.out.mono ?_
    rintro e w1 ⟨rfl, rfl⟩
    go_wp2_with fail
    refine H3.out.mono ?_
    rintro e w1 ⟨rfl, rfl⟩
    go_wp2
    go_ret
    exact ⟨by rw [HE.out]; rfl, rfl⟩
  cases p2
  rotate_left
  · go_enter Tryd.func13, Tryd.ntmps13
    go_wp2_with fail
    refine H1.out.mono ?_
    rintro e w1 ⟨rfl, rfl⟩
    go_wp2_with fail
    refine H2.out.mono ?_
    rintro e w1 ⟨rfl, rfl⟩
    go_wp2_with fail
    refine H3.out.mono ?_
    rintro e w1 ⟨rfl, rfl⟩
    go_wp2
    go_ret
    exact ⟨by rw [HE.out]; rfl, rfl⟩
  cases g
  all_goals
    go_enter Tryd.func13, Tryd.ntmps13
    go_wp2_with fail
    refine H1.out.mono ?_
    rintro e w1 ⟨rfl, rfl⟩
    go_wp2_with fail
    refine H2.out.mono ?_
    rintro e w1 ⟨rfl, rfl⟩
    go_wp2_with fail
    refine H3.out.mono ?_
    rintro e w1 ⟨rfl, rfl⟩
    go_wp2_with fail
    refine H4.out.mono ?_
    rintro e w1 ⟨rfl, rfl⟩
    go_wp2
    go_ret
    exact ⟨by rw [HE.out]; rfl, rfl⟩
end Go.Proofs.YtgpjipgbighplaaDoor
