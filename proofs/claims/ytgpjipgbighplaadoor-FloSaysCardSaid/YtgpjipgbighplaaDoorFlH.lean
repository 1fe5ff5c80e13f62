/-
  FloOrder.
-/
import Derived.Test.YtgpjipgbighplaaDoorFlG
namespace Go.Proofs.YtgpjipgbighplaaDoor
open Go.RowKit Go.Shoal

def zeroW (a : Nat) : Bool := !isN a && decide (a % B63 = 0)
theorem eq_zero (a : Nat) : (FloatKind.f64.format.order a 0 == some Ordering.eq) = zeroW a := by
  show (Ieee.double.order a 0 == some Ordering.eq) = _
  have hN : isN 0 = false := by decide
  unfold zeroW
  cases hx : isN a
  · rw [order_some hx hN]
    have e : valI 0 = 0 := by decide
    rw [e]
    have e2 : ((some (compare (valI a) 0) == some Ordering.eq) : Bool) = decide (valI a = 0) := by
      rw [Bool.eq_iff_iff, beq_iff_eq, decide_eq_true_eq, Option.some.injEq, Int.compare_eq_eq]
    rw [e2]
    have h0 : (0 < mag (a % B63)) ↔ 0 < a % B63 := mag_lt_iff (r := 0)
    unfold valI
    cases hg : isNeg a
    · rw [sgn_f, Bool.eq_iff_iff, decide_eq_true_eq]
      simp
      omega
    · rw [sgn_t, Bool.eq_iff_iff, decide_eq_true_eq]
      simp
      omega
  · rw [order_none (.inl hx)]
    simp
theorem order_lt (a b : Nat) (ha : a < B64) (hb : b < B64) (na : isN a = false) (nb : isN b = false) (h0 : (zeroW a && zeroW b) = false) : (FloatKind.f64.format.order a b == some Ordering.lt) = decide (fkey a < fkey b) := by
  show (Ieee.double.order a b == some Ordering.lt) = _
  rw [order_some na nb, Bool.eq_iff_iff, beq_iff_eq, decide_eq_true_eq, Option.some.injEq, Int.compare_eq_lt]
  apply val_key ha hb na nb
  rintro ⟨h1, h2⟩
  unfold zeroW at h0
  rw [na, nb, decide_eq_true h1, decide_eq_true h2] at h0
  cases h0
theorem order_gt (a b : Nat) (ha : a < B64) (hb : b < B64) (na : isN a = false) (nb : isN b = false) (h0 : (zeroW a && zeroW b) = false) : (FloatKind.f64.format.order a b == some Ordering.gt) = decide (fkey b < fkey a) := by
  show (Ieee.double.order a b == some Ordering.gt) = _
  rw [order_some na nb, Bool.eq_iff_iff, beq_iff_eq, decide_eq_true_eq, Option.some.injEq, Int.compare_eq_gt]
  apply val_key hb ha nb na
  rintro ⟨h1, h2⟩
  unfold zeroW at h0
  rw [na, nb, decide_eq_true h1, decide_eq_true h2] at h0
  cases h0
set_option maxRecDepth 100000 in
set_option maxHeartbeats 8000000 in
theorem order_any (a b c : Nat) (ha : a < B64) (hb : b < B64) (hc : c < B64) (w : World) (hT : Tab w) : Calls Tryd.prog 3 #[.float .f64 a, .float .f64 b, .float .f64 c] w fun e w' => e = .returned (.bool true) ∧ Mod (fun _ => False) w w' := by
  have HA := Lib.hid (awake_any w hT)
  have H1 := Lib.hid (fun w => cmp_any a b w ha hb)
  have H2 := Lib.hid (fun w => cmp_any b a w hb ha)
  have H3 := Lib.hid (fun w => cmp_any a a w ha ha)
  have H4 := Lib.hid (fun w => same_any a b w ha hb)
  have H5 := Lib.hid (fun w => cmp_any b c w hb hc)
  have H6 := Lib.hid (fun w => cmp_any a c w ha hc)
  have H7 := Lib.hid (fun w => class_any a w ha)
  have H8 := Lib.hid (fun w => class_any b w hb)
  have e3 : cmpW a a = 0 := by unfold cmpW; rw [if_neg (Nat.lt_irrefl _), if_neg (Nat.lt_irrefl _)]
  rw [e3] at H3
  have z1 := eq_zero a
  have z2 := eq_zero b
  have k1 := classW_zero a
  have k2 := classW_zero b
  have HL := Lib.hid (fun na nb h0 => order_lt a b ha hb na nb h0)
  have HG := Lib.hid (fun na nb h0 => order_gt a b ha hb na nb h0)
  have HX : Hid ((cmpW a b = -1 ∧ cmpW b a = 1 ∧ sameW a b = false ∧ fkey a < fkey b) ∨ (cmpW a b = 0 ∧ cmpW b a = 0 ∧ sameW a b = true ∧ fkey a = fkey b) ∨ (cmpW a b = 1 ∧ cmpW b a = -1 ∧ sameW a b = false ∧ fkey b < fkey a)) := by
    show _ ∨ _
    unfold cmpW sameW
    rcases Nat.lt_trichotomy (fkey a) (fkey b) with h | h | h
    · exact .inl ⟨if_pos h, by rw [if_neg (by omega), if_pos h], beq_eq_false_iff_ne.2 (by omega), h⟩
    · exact .inr (.inl ⟨by rw [if_neg (by omega), if_neg (by omega)], by rw [if_neg (by omega), if_neg (by omega)], beq_iff_eq.2 h, h⟩)
    · exact .inr (.inr ⟨by rw [if_neg (by omega), if_pos h], if_pos h, beq_eq_false_iff_ne.2 (by omega), h⟩)
  have HY : Hid (fkey a ≤ fkey b → cmpW b c ≤ 0 → cmpW a c ≤ 0) := by
    show _ → _
    unfold cmpW
    intro h
    split
    · intro _; rw [if_pos (by omega)]; decide
    · split
      · intro h; cases h
      · intro _
        split
        · decide
        · rw [if_neg (by omega)]; decide
  clear ha hb hc hT e3
  generalize cmpW a b = x at *
  generalize cmpW b a = y at *
  generalize cmpW b c = t at *
  generalize cmpW a c = r at *
  generalize sameW a b = s at *
  generalize fkey a = A at *
  generalize fkey b = B at *
  generalize zeroW a = za at *
  generalize zeroW b = zb at *
  generalize isN a = na at *
  generalize isN b = nb at *
  generalize classW a = ka at *
  generalize classW b = kb at *
  rcases HX.out with ⟨rfl, rfl, rfl, h⟩ | ⟨rfl, rfl, rfl, h⟩ | ⟨rfl, rfl, rfl, h⟩
  · have HK := Lib.hid h
    have HYY : Hid (t ≤ 0 → r ≤ 0) := HY.out (by omega)
    have q1 : decide (A < B) = true := decide_eq_true (by omega)
    have q2 : decide (B < A) = false := decide_eq_false (by omega)
    rw [q1] at HL
    rw [q2] at HG
    clear h q1 q2 HX HY HK
    go_enter Tryd.func3, Tryd.ntmps3
    go_wp2_with fail
    refine HA.out.mono ?_
    rintro e w1 ⟨rfl, hm⟩
    have HM := Lib.hid hm
    clear hm HA
    go_wp2_with fail
    refine (H1.out _).mono ?_
    rintro e w1 ⟨rfl, rfl⟩
    go_wp2_with fail
    refine (H2.out _).mono ?_
    rintro e w1 ⟨rfl, rfl⟩
    go_wp2_with fail
    refine (H3.out _).mono ?_
    rintro e w1 ⟨rfl, rfl⟩
    go_wp2_with fail
    refine (H4.out _).mono ?_
    rintro e w1 ⟨rfl, rfl⟩
    go_wp2_with fail
    refine (H5.out _).mono ?_
    rintro e w1 ⟨rfl, rfl⟩
    by_cases ht : t ≤ 0
    · have t1 : decide (t ≤ 0) = true := decide_eq_true ht
      have t2 : decide (0 < r) = false := decide_eq_false (by have := HYY.out ht; omega)
      go_wp2_with fail
      refine (H6.out _).mono ?_
      rintro e w1 ⟨rfl, rfl⟩
      go_wp2_with fail
      refine (H7.out _).mono ?_
      rintro e w1 ⟨rfl, rfl⟩
      cases na
      rotate_left
      · go_wp2
        go_ret
        exact ⟨rfl, HM.out⟩
      go_wp2_with fail
      refine (H8.out _).mono ?_
      rintro e w1 ⟨rfl, rfl⟩
      cases nb
      rotate_left
      · go_wp2
        go_ret
        exact ⟨rfl, HM.out⟩
      cases za
      · have hl := HL.out (by trivial) (by trivial) (by trivial)
        have hg := HG.out (by trivial) (by trivial) (by trivial)
        go_wp2
        go_ret
        exact ⟨rfl, HM.out⟩
      cases zb
      · have hl := HL.out (by trivial) (by trivial) (by trivial)
        have hg := HG.out (by trivial) (by trivial) (by trivial)
        go_wp2
        go_ret
        exact ⟨rfl, HM.out⟩
      go_wp2
      go_ret
      exact ⟨rfl, HM.out⟩
    · have t1 : decide (t ≤ 0) = false := decide_eq_false ht
      go_wp2_with fail
      refine (H7.out _).mono ?_
      rintro e w1 ⟨rfl, rfl⟩
      cases na
      rotate_left
      · go_wp2
        go_ret
        exact ⟨rfl, HM.out⟩
      go_wp2_with fail
      refine (H8.out _).mono ?_
      rintro e w1 ⟨rfl, rfl⟩
      cases nb
      rotate_left
      · go_wp2
        go_ret
        exact ⟨rfl, HM.out⟩
      cases za
      · have hl := HL.out (by trivial) (by trivial) (by trivial)
        have hg := HG.out (by trivial) (by trivial) (by trivial)
        go_wp2
        go_ret
        exact ⟨rfl, HM.out⟩
      cases zb
      · have hl := HL.out (by trivial) (by trivial) (by trivial)
        have hg := HG.out (by trivial) (by trivial) (by trivial)
        go_wp2
        go_ret
        exact ⟨rfl, HM.out⟩
      go_wp2
      go_ret
      exact ⟨rfl, HM.out⟩
  · have HK := Lib.hid h
    have HYY : Hid (t ≤ 0 → r ≤ 0) := HY.out (by omega)
    have q1 : decide (A < B) = false := decide_eq_false (by omega)
    have q2 : decide (B < A) = false := decide_eq_false (by omega)
    rw [q1] at HL
    rw [q2] at HG
    clear h q1 q2 HX HY HK
    go_enter Tryd.func3, Tryd.ntmps3
    go_wp2_with fail
    refine HA.out.mono ?_
    rintro e w1 ⟨rfl, hm⟩
    have HM := Lib.hid hm
    clear hm HA
    go_wp2_with fail
    refine (H1.out _).mono ?_
    rintro e w1 ⟨rfl, rfl⟩
    go_wp2_with fail
    refine (H2.out _).mono ?_
    rintro e w1 ⟨rfl, rfl⟩
    go_wp2_with fail
    refine (H3.out _).mono ?_
    rintro e w1 ⟨rfl, rfl⟩
    go_wp2_with fail
    refine (H4.out _).mono ?_
    rintro e w1 ⟨rfl, rfl⟩
    go_wp2_with fail
    refine (H5.out _).mono ?_
    rintro e w1 ⟨rfl, rfl⟩
    by_cases ht : t ≤ 0
    · have t1 : decide (t ≤ 0) = true := decide_eq_true ht
      have t2 : decide (0 < r) = false := decide_eq_false (by have := HYY.out ht; omega)
      go_wp2_with fail
      refine (H6.out _).mono ?_
      rintro e w1 ⟨rfl, rfl⟩
      go_wp2_with fail
      refine (H7.out _).mono ?_
      rintro e w1 ⟨rfl, rfl⟩
      cases na
      rotate_left
      · go_wp2
        go_ret
        exact ⟨rfl, HM.out⟩
      go_wp2_with fail
      refine (H8.out _).mono ?_
      rintro e w1 ⟨rfl, rfl⟩
      cases nb
      rotate_left
      · go_wp2
        go_ret
        exact ⟨rfl, HM.out⟩
      cases za
      · have hl := HL.out (by trivial) (by trivial) (by trivial)
        have hg := HG.out (by trivial) (by trivial) (by trivial)
        go_wp2
        go_ret
        exact ⟨rfl, HM.out⟩
      cases zb
      · have hl := HL.out (by trivial) (by trivial) (by trivial)
        have hg := HG.out (by trivial) (by trivial) (by trivial)
        go_wp2
        go_ret
        exact ⟨rfl, HM.out⟩
      go_wp2
      go_ret
      exact ⟨rfl, HM.out⟩
    · have t1 : decide (t ≤ 0) = false := decide_eq_false ht
      go_wp2_with fail
      refine (H7.out _).mono ?_
      rintro e w1 ⟨rfl, rfl⟩
      cases na
      rotate_left
      · go_wp2
        go_ret
        exact ⟨rfl, HM.out⟩
      go_wp2_with fail
      refine (H8.out _).mono ?_
      rintro e w1 ⟨rfl, rfl⟩
      cases nb
      rotate_left
      · go_wp2
        go_ret
        exact ⟨rfl, HM.out⟩
      cases za
      · have hl := HL.out (by trivial) (by trivial) (by trivial)
        have hg := HG.out (by trivial) (by trivial) (by trivial)
        go_wp2
        go_ret
        exact ⟨rfl, HM.out⟩
      cases zb
      · have hl := HL.out (by trivial) (by trivial) (by trivial)
        have hg := HG.out (by trivial) (by trivial) (by trivial)
        go_wp2
        go_ret
        exact ⟨rfl, HM.out⟩
      go_wp2
      go_ret
      exact ⟨rfl, HM.out⟩
  · have HK := Lib.hid h
    have q1 : decide (A < B) = false := decide_eq_false (by omega)
    have q2 : decide (B < A) = true := decide_eq_true (by omega)
    rw [q1] at HL
    rw [q2] at HG
    clear h q1 q2 HX HY HK
    go_enter Tryd.func3, Tryd.ntmps3
    go_wp2_with fail
    refine HA.out.mono ?_
    rintro e w1 ⟨rfl, hm⟩
    have HM := Lib.hid hm
    clear hm HA
    go_wp2_with fail
    refine (H1.out _).mono ?_
    rintro e w1 ⟨rfl, rfl⟩
    go_wp2_with fail
    refine (H2.out _).mono ?_
    rintro e w1 ⟨rfl, rfl⟩
    go_wp2_with fail
    refine (H3.out _).mono ?_
    rintro e w1 ⟨rfl, rfl⟩
    go_wp2_with fail
    refine (H4.out _).mono ?_
    rintro e w1 ⟨rfl, rfl⟩
    go_wp2_with fail
    refine (H7.out _).mono ?_
    rintro e w1 ⟨rfl, rfl⟩
    cases na
    rotate_left
    · go_wp2
      go_ret
      exact ⟨rfl, HM.out⟩
    go_wp2_with fail
    refine (H8.out _).mono ?_
    rintro e w1 ⟨rfl, rfl⟩
    cases nb
    rotate_left
    · go_wp2
      go_ret
      exact ⟨rfl, HM.out⟩
    cases za
    · have hl := HL.out (by trivial) (by trivial) (by trivial)
      have hg := HG.out (by trivial) (by trivial) (by trivial)
      go_wp2
      go_ret
      exact ⟨rfl, HM.out⟩
    cases zb
    · have hl := HL.out (by trivial) (by trivial) (by trivial)
      have hg := HG.out (by trivial) (by trivial) (by trivial)
      go_wp2
      go_ret
      exact ⟨rfl, HM.out⟩
    go_wp2
    go_ret
    exact ⟨rfl, HM.out⟩
end Go.Proofs.YtgpjipgbighplaaDoor
