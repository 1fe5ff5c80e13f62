/-
  What meter reaches of package flo and of the reference's Min and Max (cut out of flo's texts).
-/
import Derived.Test.YtpjlplkoiedhjaaFlC
import Derived.Test.YtpjlplkoiedhjaaFloatIn
namespace Go.Proofs.Ytpjlplkoiedhjaa
open Go.RowKit Go.Shoal
theorem inf_any (w : World) : Calls Try.prog 19 #[.int .i64 1] w fun e w' => e = .returned (.float .f64 INF) ∧ w = w' := by
  go_enter Try.func19, Try.ntmps19
  go_wp2
  go_ret
  exact ⟨rfl, rfl⟩
theorem minf_any (w : World) : Calls Try.prog 19 #[.int .i64 (-1)] w fun e w' => e = .returned (.float .f64 (INF + B63)) ∧ w = w' := by
  go_enter Try.func19, Try.ntmps19
  go_wp2
  go_ret
  exact ⟨rfl, rfl⟩
theorem andnot_top (b : Nat) (hb : b < B64) : bits .andNot .u64 (b : Int) 9223372036854775808 = ((b % B63 : Nat) : Int) := by
  have h := u64_andNot_nat b 9223372036854775808 hb (by decide)
  have e : b &&& (18446744073709551615 - 9223372036854775808) = b % B63 := Nat.and_two_pow_sub_one_eq_mod b 63
  rw [e] at h
  exact h
def topW (b : Nat) : Nat := if isNeg b then B63 else 0
theorem and_top (b : Nat) (hb : b < B64) : bits .and .u64 (b : Int) 9223372036854775808 = ((topW b : Nat) : Int) := by
  have h := bits_and_u64_nat b 9223372036854775808 hb (by decide)
  have e : b &&& 9223372036854775808 = topW b := by
    unfold topW
    apply Nat.eq_of_testBit_eq
    intro i
    rw [Nat.testBit_and, show (9223372036854775808 : Nat) = 2 ^ 63 from rfl, Nat.testBit_two_pow]
    by_cases hi : 63 = i
    · subst hi
      rw [decide_eq_true rfl, Bool.and_true]
      have e1 : b.testBit 63 = isNeg b := by
        rw [Nat.testBit_eq_decide_div_mod_eq]
        unfold isNeg
        rw [Bool.eq_iff_iff, decide_eq_true_eq, beq_iff_eq]
        exact Iff.rfl
      rw [e1]
      cases isNeg b <;> rfl
    · rw [decide_eq_false hi, Bool.and_false]
      cases isNeg b
      · rw [if_neg (by decide)]
        exact (Nat.zero_testBit i).symm
      · rw [if_pos rfl]
        show false = (2 ^ 63).testBit i
        rw [Nat.testBit_two_pow, decide_eq_false hi]
  rw [e] at h
  exact h
theorem topW_lt (b : Nat) : topW b ≤ B63 := by
  unfold topW
  split
  · exact Nat.le_refl _
  · exact Nat.zero_le _
theorem low_or_top (a b : Nat) : bits .or .u64 ((a % B63 : Nat) : Int) ((topW b : Nat) : Int) = ((a % B63 + topW b : Nat) : Int) := by
  have hl : a % B63 < B63 := Nat.mod_lt _ (by decide)
  unfold topW
  cases isNeg b
  · have h := u64_or_nat (a % B63) 0 (Nat.lt_trans hl (by decide)) (by decide)
    rw [Nat.or_zero] at h
    exact h
  · exact top_or _ hl
/-- A number with another's sign. -/
def signW (a b : Nat) : Nat := a % B63 + topW b
set_option maxHeartbeats 400000 in
theorem copysign_any (a b : Nat) (ha : a < B64) (hb : b < B64) (w : World) : Calls Try.prog 32 #[.float .f64 a, .float .f64 b] w fun e w' => e = .returned (.float .f64 (signW a b)) ∧ w = w' := by
  have t1 := andnot_top a ha
  have t2 := and_top b hb
  have t3 := low_or_top a b
  have HS : Hid (signW a b = a % B63 + topW b) := rfl
  clear ha hb
  generalize signW a b = s at *
  generalize topW b = q at *
  generalize a % B63 = r at *
  go_enter Try.func32, Try.ntmps32
  go_wp2
  go_ret
  exact ⟨by rw [HS.out]; rfl, rfl⟩
theorem low_zero (b : Nat) (hb : b < B64) : (bits .and .u64 (b : Int) 9223372036854775808 == 0) = decide (b < B63) := by
  rw [and_top b hb]
  have h64 := b64_is
  have h63 := b63_is
  unfold topW isNeg
  rw [h63, Bool.eq_iff_iff, beq_iff_eq, decide_eq_true_eq]
  by_cases h : (b / 9223372036854775808 % 2 == 1) = true
  · rw [if_pos h]
    rw [beq_iff_eq] at h
    omega
  · rw [if_neg h]
    rw [beq_iff_eq] at h
    omega
set_option maxHeartbeats 1000000 in
theorem key_any (b : Nat) (w : World) (hb : b < B64) : Calls Try.prog 36 #[.float .f64 b] w fun e w' => e = .returned (.int .u64 (fkey b)) ∧ w = w' := by
  have HC := Lib.hid (isnan_any b w)
  have e1 := low_zero b hb
  by_cases hn : isN b = true
  · rw [hn] at HC
    have HE : Hid (fkey b = 18446744073709551615) := by show _ = _; unfold fkey; rw [if_pos hn]; rfl
    clear hn hb e1
    go_enter Try.func36, Try.ntmps36
    go_wp2_with fail
    refine HC.out.mono ?_
    rintro e w1 ⟨rfl, rfl⟩
    go_wp2
    go_ret
    exact ⟨by rw [HE.out]; rfl, rfl⟩
  · have hn' : isN b = false := by simpa using hn
    rw [hn'] at HC
    by_cases hl : b < B63
    · have e2 := top_or b hl
      have HE : Hid (fkey b = b + B63) := by show _ = _; unfold fkey; rw [if_neg hn, if_pos hl]
      rw [decide_eq_true hl] at e1
      clear hn hb hn' hl
      go_enter Try.func36, Try.ntmps36
      go_wp2_with fail
      refine HC.out.mono ?_
      rintro e w1 ⟨rfl, rfl⟩
      go_wp2
      go_ret
      exact ⟨by rw [HE.out]; rfl, rfl⟩
    · have HX := Lib.hid (not_bits b hb)
      have HE : Hid (fkey b = B64 - 1 - b) := by show _ = _; unfold fkey; rw [if_neg hn, if_neg hl]
      rw [decide_eq_false hl] at e1
      clear hn hb hn' hl
      go_enter Try.func36, Try.ntmps36
      go_wp2_with fail
      refine HC.out.mono ?_
      rintro e w1 ⟨rfl, rfl⟩
      go_wp2
      go_ret
      exact ⟨by rw [HE.out, ← HX.out]; rfl, rfl⟩
def cmpI (x y : Nat) : Int := if x < y then -1 else if y < x then 1 else 0
theorem compare_any (x y : Nat) (w : World) : Calls Try.prog 54 #[.int .u64 x, .int .u64 y] w fun e w' => e = .returned (.int .i64 (cmpI x y)) ∧ w = w' := by
  have HC : Hid (cmpI x y = if x < y then -1 else if y < x then 1 else 0) := rfl
  generalize cmpI x y = c at *
  by_cases h1 : x < y
  · have t1 : decide (x < y) = true := decide_eq_true h1
    have HR := Lib.hid (HC.out.trans (if_pos h1))
    go_enter Try.func54, Try.ntmps54
    go_wp2
    go_ret
    exact ⟨by rw [HR.out]; rfl, rfl⟩
  have t1 : decide (x < y) = false := decide_eq_false h1
  by_cases h2 : y < x
  · have t2 : decide (y < x) = true := decide_eq_true h2
    have HR := Lib.hid (HC.out.trans ((if_neg h1).trans (if_pos h2)))
    go_enter Try.func54, Try.ntmps54
    go_wp2
    go_ret
    exact ⟨by rw [HR.out]; rfl, rfl⟩
  have t2 : decide (y < x) = false := decide_eq_false h2
  have HR := Lib.hid (HC.out.trans ((if_neg h1).trans (if_neg h2)))
  go_enter Try.func54, Try.ntmps54
  go_wp2
  go_ret
  exact ⟨by rw [HR.out]; rfl, rfl⟩
theorem cmp_any (a b : Nat) (w : World) (ha : a < B64) (hb : b < B64) : Calls Try.prog 51 #[.float .f64 a, .float .f64 b] w fun e w' => e = .returned (.int .i64 (cmpW a b)) ∧ w = w' := by
  have HA := Lib.hid (key_any a w ha)
  have HB := Lib.hid (key_any b w hb)
  have HC := Lib.hid (compare_any (fkey a) (fkey b) w)
  have HE : Hid (cmpI (fkey a) (fkey b) = cmpW a b) := rfl
  generalize cmpW a b = c at *
  generalize fkey a = x at *
  generalize fkey b = y at *
  clear ha hb
  go_enter Try.func51, Try.ntmps51
  go_wp2_with fail
  refine HA.out.mono ?_
  rintro e w1 ⟨rfl, rfl⟩
  go_wp2_with fail
  refine HB.out.mono ?_
  rintro e w1 ⟨rfl, rfl⟩
  go_wp2_with fail
  refine HC.out.mono ?_
  rintro e w1 ⟨rfl, rfl⟩
  go_wp2
  go_ret
  exact ⟨by rw [← HE.out]; rfl, rfl⟩
theorem flts_below {w w' : World} {v : Value} {l : List Nat} (h : Flts w v l) (hb : Below w.heap.size w w') : Flts w' v l := by
  obtain ⟨A, c, rfl, hl, hfit, hz⟩ := h
  refine ⟨A, c, rfl, hl, hfit, ?_⟩
  rcases hz with rfl | ⟨b, o, rfl, h1, h2⟩
  · exact .inl rfl
  · exact .inr ⟨b, o, rfl, Nat.lt_of_lt_of_le h1 hb.size, fun i j u hi hu => (hb.cell (p := ⟨b, o + i * 1 + j, none⟩) h1).trans (h2 i j u hi hu)⟩
def pickF (way : Int) : Nat → List Nat → Nat
  | best, [] => best
  | best, x :: l => if isN x then nanW else if cmpW x best == way then pickF way x l else pickF way best l
theorem pickF_nil (way : Int) (b : Nat) : pickF way b [] = b := rfl
theorem pickF_nan (way : Int) (b x : Nat) (l : List Nat) (h : isN x = true) : pickF way b (x :: l) = nanW := by rw [pickF, if_pos h]
theorem pickF_yes (way : Int) (b x : Nat) (l : List Nat) (h : isN x = false) (h2 : (cmpW x b == way) = true) : pickF way b (x :: l) = pickF way x l := by rw [pickF, if_neg (by rw [h]; decide), if_pos h2]
theorem pickF_no (way : Int) (b x : Nat) (l : List Nat) (h : isN x = false) (h2 : (cmpW x b == way) = false) : pickF way b (x :: l) = pickF way b l := by rw [pickF, if_neg (by rw [h]; decide), if_neg (by rw [h2]; decide)]
theorem drop_cons (l : List Nat) (k : Nat) (h : k < l.length) : l.drop k = l.getD k 0 :: l.drop (k + 1) := by
  rw [List.drop_eq_getElem_cons h, List.getD_eq_getElem?_getD, List.getElem?_eq_getElem h]
  rfl
set_option maxHeartbeats 2000000 in
theorem pick_any (first : Nat) (hf : first < B64) (v : Value) (l : List Nat) (way : Int) (w : World) (hl : Flts w v l) : Calls Try.prog 45 #[.float .f64 first, v, .int .i64 way] w fun e w' => e = .returned (.float .f64 (pickF way first l)) ∧ w = w' := by
  obtain ⟨A, c, rfl, hm, hfit, hz⟩ := hl
  unfold maxLen at hm
  have HZ := Lib.hid hz
  have HF := Lib.hid hfit
  have HFI := Lib.hid hf
  clear hz hfit hf
  have HP0 : Hid (pickF way first l = pickF way first (l.drop 0)) := rfl
  go_enter Try.func45, Try.ntmps45
  go_wp2
  go_loop [7, 9, 13] (fun q _ i => ∃ (k b : Nat), k ≤ l.length ∧ b < B64 ∧ i = .int .i64 k ∧ q = .float .f64 b ∧ Hid (pickF way first l = pickF way b (l.drop k))) (fun _ _ i => l.length - (intOf i).toNat)
  case atStart => exact ⟨0, first, Nat.zero_le _, HFI.out, rfl, rfl, HP0⟩
  case round =>
    obtain ⟨k, b, hk, hb, rfl, rfl, hp⟩ := hrel
    by_cases hlt : k < l.length
    · obtain ⟨bb, o, rfl, _, hc⟩ := ElemsIn.cell HZ.out (Mod.refl (fun _ => False) w).none_below k hlt
      have hi : (k : Int) < l.length := by omega
      have hi0 : (0 : Int) ≤ (k : Int) := by omega
      have k0 := hc 0 (.float .f64 (l.getD k 0)) rfl
      rw [Nat.mul_one, Nat.add_zero] at k0
      have hx := HF.out k hlt
      have hx : l.getD k 0 < B64 := hx
      have hd := drop_cons l k hlt
      obtain ⟨x, hxe⟩ : ∃ x, x = l.getD k 0 := ⟨_, rfl⟩
      rw [← hxe] at k0 hx hd
      have H1 := Lib.hid (isnan_any x w)
      have H2 := Lib.hid (nan_any w)
      have H3 := Lib.hid (cmp_any x b w hx hb)
      have hp' := hp.out
      rw [hd] at hp'
      clear hc hd hxe
      cases hn : isN x
      · rw [hn] at H1
        cases hq : (cmpW x b == way)
        · have HP := Lib.hid (hp'.trans (pickF_no way b x _ hn hq))
          clear hp' hp hn
          generalize cmpW x b = q at *
          go_wp2_with fail
          refine H1.out.mono ?_
          rintro e w1 ⟨rfl, rfl⟩
          go_wp2_with fail
          refine H3.out.mono ?_
          rintro e w1 ⟨rfl, rfl⟩
          go_wp2
          go_round
          case rel => exact ⟨k + 1, b, by omega, hb, by go_num, rfl, HP⟩
          case measure => simp [intOf]; omega
        · have HP := Lib.hid (hp'.trans (pickF_yes way b x _ hn hq))
          clear hp' hp hn
          generalize cmpW x b = q at *
          go_wp2_with fail
          refine H1.out.mono ?_
          rintro e w1 ⟨rfl, rfl⟩
          go_wp2_with fail
          refine H3.out.mono ?_
          rintro e w1 ⟨rfl, rfl⟩
          go_wp2
          go_round
          case rel => exact ⟨k + 1, x, by omega, hx, by go_num, rfl, HP⟩
          case measure => simp [intOf]; omega
      · rw [hn] at H1
        have HP := Lib.hid (hp'.trans (pickF_nan way b x _ hn))
        clear hp' hp hn
        go_wp2_with fail
        refine H1.out.mono ?_
        rintro e w1 ⟨rfl, rfl⟩
        go_wp2_with fail
        refine H2.out.mono ?_
        rintro e w1 ⟨rfl, rfl⟩
        go_wp2
        go_ret
        exact ⟨by rw [HP.out]; rfl, rfl⟩
    · obtain rfl : k = l.length := by omega
      have HP : Hid (pickF way first l = b) := by
        have h := hp.out
        rw [List.drop_length] at h
        exact h
      have ti : decide (l.length < l.length) = false := decide_eq_false (by omega)
      clear hp
      go_wp2
      go_ret
      exact ⟨by rw [HP.out]; rfl, rfl⟩
def minF (l : List Nat) : Nat := pickF (-1) INF l
def maxF (l : List Nat) : Nat := pickF 1 (INF + B63) l
theorem min_any (v : Value) (l : List Nat) (w : World) (hl : Flts w v l) : Calls Try.prog 34 #[v] w fun e w' => e = .returned (.float .f64 (minF l)) ∧ w = w' := by
  have H1 := Lib.hid (inf_any w)
  have H2 := Lib.hid (pick_any INF (by decide) v l (-1) w hl)
  have HE : Hid (minF l = pickF (-1) INF l) := rfl
  clear hl
  generalize pickF (-1) INF l = r at *
  go_enter Try.func34, Try.ntmps34
  go_wp2_with fail
  refine H1.out.mono ?_
  rintro e w1 ⟨rfl, rfl⟩
  go_wp2_with fail
  refine H2.out.mono ?_
  rintro e w1 ⟨rfl, rfl⟩
  go_wp2
  go_ret
  exact ⟨by rw [HE.out]; rfl, rfl⟩
theorem max_any (v : Value) (l : List Nat) (w : World) (hl : Flts w v l) : Calls Try.prog 35 #[v] w fun e w' => e = .returned (.float .f64 (maxF l)) ∧ w = w' := by
  have H1 := Lib.hid (minf_any w)
  have H2 := Lib.hid (pick_any (INF + B63) (by decide) v l 1 w hl)
  have HE : Hid (maxF l = pickF 1 (INF + B63) l) := rfl
  clear hl
  generalize pickF 1 (INF + B63) l = r at *
  go_enter Try.func35, Try.ntmps35
  go_wp2_with fail
  refine H1.out.mono ?_
  rintro e w1 ⟨rfl, rfl⟩
  go_wp2_with fail
  refine H2.out.mono ?_
  rintro e w1 ⟨rfl, rfl⟩
  go_wp2
  go_ret
  exact ⟨by rw [HE.out]; rfl, rfl⟩
theorem cmp_minus (x b : Nat) : (cmpW x b == -1) = decide (fkey x < fkey b) := by
  unfold cmpW
  rw [Bool.eq_iff_iff, beq_iff_eq, decide_eq_true_eq]
  split
  · exact ⟨fun _ => by assumption, fun _ => rfl⟩
  · split
    · exact ⟨fun h => absurd h (by decide), fun h => absurd h (by assumption)⟩
    · exact ⟨fun h => absurd h (by decide), fun h => absurd h (by assumption)⟩
theorem cmp_plus (x b : Nat) : (cmpW x b == 1) = decide (fkey b < fkey x) := by
  unfold cmpW
  rw [Bool.eq_iff_iff, beq_iff_eq, decide_eq_true_eq]
  split
  · exact ⟨fun h => absurd h (by decide), fun h => by omega⟩
  · split
    · exact ⟨fun _ => by assumption, fun _ => rfl⟩
    · exact ⟨fun h => absurd h (by decide), fun h => absurd h (by assumption)⟩
theorem cmp_lt (x b : Nat) : decide (cmpW x b < 0) = decide (fkey x < fkey b) := by
  unfold cmpW
  rw [Bool.eq_iff_iff, decide_eq_true_eq, decide_eq_true_eq]
  split
  · exact ⟨fun _ => by assumption, fun _ => by decide⟩
  · split
    · exact ⟨fun h => absurd h (by decide), fun h => absurd h (by assumption)⟩
    · exact ⟨fun h => absurd h (by decide), fun h => absurd h (by assumption)⟩
theorem cmp_gt (x b : Nat) : decide (0 < cmpW x b) = decide (fkey b < fkey x) := by
  unfold cmpW
  rw [Bool.eq_iff_iff, decide_eq_true_eq, decide_eq_true_eq]
  split
  · exact ⟨fun h => absurd h (by decide), fun h => by omega⟩
  · split
    · exact ⟨fun _ => by assumption, fun _ => by decide⟩
    · exact ⟨fun h => absurd h (by decide), fun h => absurd h (by assumption)⟩
theorem pickF_lt (way : Int) (l : List Nat) : ∀ b, b < B64 → (∀ x ∈ l, x < B64) → pickF way b l < B64 := by
  induction l with
  | nil => intro b hb _; exact hb
  | cons x l ih =>
    intro b hb h
    rw [pickF]
    split
    · show nanW < B64; decide
    · split
      · exact ih x (h x (List.mem_cons_self ..)) fun y hy => h y (List.mem_cons_of_mem _ hy)
      · exact ih b hb fun y hy => h y (List.mem_cons_of_mem _ hy)
theorem pickF_has (way : Int) (l : List Nat) : ∀ b, (∃ x ∈ l, isN x = true) → pickF way b l = nanW := by
  induction l with
  | nil => intro b ⟨x, hx, _⟩; cases hx
  | cons x l ih =>
    intro b ⟨y, hy, hn⟩
    rw [pickF]
    cases hx : isN x
    · rw [if_neg (by decide)]
      have : y ∈ l := by
        rcases List.mem_cons.1 hy with rfl | h
        · rw [hx] at hn; cases hn
        · exact h
      split
      · exact ih x ⟨y, this, hn⟩
      · exact ih b ⟨y, this, hn⟩
    · exact if_pos rfl
theorem pickF_min (l : List Nat) : ∀ b, (∀ x ∈ l, isN x = false) → (pickF (-1) b l = b ∨ pickF (-1) b l ∈ l) ∧ fkey (pickF (-1) b l) ≤ fkey b ∧ ∀ x ∈ l, fkey (pickF (-1) b l) ≤ fkey x := by
  induction l with
  | nil => intro b _; exact ⟨.inl rfl, Nat.le_refl _, fun x hx => by cases hx⟩
  | cons x l ih =>
    intro b h
    have hx := h x (List.mem_cons_self ..)
    have hr := fun y hy => h y (List.mem_cons_of_mem x hy)
    cases hc : (cmpW x b == -1)
    · rw [pickF_no _ _ _ _ hx hc]
      rw [cmp_minus] at hc
      have hc := of_decide_eq_false hc
      obtain ⟨h1, h2, h3⟩ := ih b hr
      exact ⟨h1.imp id (List.mem_cons_of_mem x), h2, fun y hy => (List.mem_cons.1 hy).elim (fun e => by rw [e]; omega) (h3 y)⟩
    · rw [pickF_yes _ _ _ _ hx hc]
      rw [cmp_minus] at hc
      have hc := of_decide_eq_true hc
      obtain ⟨h1, h2, h3⟩ := ih x hr
      exact ⟨.inr (h1.elim (fun e => by rw [e]; exact List.mem_cons_self ..) (List.mem_cons_of_mem x)), by omega, fun y hy => (List.mem_cons.1 hy).elim (fun e => by rw [e]; omega) (h3 y)⟩
theorem pickF_max (l : List Nat) : ∀ b, (∀ x ∈ l, isN x = false) → (pickF 1 b l = b ∨ pickF 1 b l ∈ l) ∧ fkey b ≤ fkey (pickF 1 b l) ∧ ∀ x ∈ l, fkey x ≤ fkey (pickF 1 b l) := by
  induction l with
  | nil => intro b _; exact ⟨.inl rfl, Nat.le_refl _, fun x hx => by cases hx⟩
  | cons x l ih =>
    intro b h
    have hx := h x (List.mem_cons_self ..)
    have hr := fun y hy => h y (List.mem_cons_of_mem x hy)
    cases hc : (cmpW x b == 1)
    · rw [pickF_no _ _ _ _ hx hc]
      rw [cmp_plus] at hc
      have hc := of_decide_eq_false hc
      obtain ⟨h1, h2, h3⟩ := ih b hr
      exact ⟨h1.imp id (List.mem_cons_of_mem x), h2, fun y hy => (List.mem_cons.1 hy).elim (fun e => by rw [e]; omega) (h3 y)⟩
    · rw [pickF_yes _ _ _ _ hx hc]
      rw [cmp_plus] at hc
      have hc := of_decide_eq_true hc
      obtain ⟨h1, h2, h3⟩ := ih x hr
      exact ⟨.inr (h1.elim (fun e => by rw [e]; exact List.mem_cons_self ..) (List.mem_cons_of_mem x)), by omega, fun y hy => (List.mem_cons.1 hy).elim (fun e => by rw [e]; omega) (h3 y)⟩
/-- The keys of numbers lie between those of the ends. -/
theorem key_range {x : Nat} (hx : x < B64) (hn : isN x = false) : fkey (INF + B63) ≤ fkey x ∧ fkey x ≤ fkey INF := by
  have h64 := b64_is
  have h63 := b63_is
  have hI := inf_is
  have e1 : fkey INF = INF + B63 := by decide
  have e2 : fkey (INF + B63) = B64 - 1 - (INF + B63) := by decide
  rw [e1, e2]
  unfold fkey
  unfold isN at hn ⊢
  have hn' := of_decide_eq_false hn
  rw [if_neg (by rw [decide_eq_true_eq]; exact hn')]
  split
  · rename_i hl
    rw [mod_low hl] at hn'
    omega
  · rename_i hl
    rw [mod_high (by omega) hx] at hn'
    omega
set_option maxHeartbeats 2000000 in
theorem best_any (first : Nat) (hf : first < B64) (v : Value) (l : List Nat) (way : Int) (w : World) (hl : Flts w v l) : Calls Try.prog 44 #[v, .int .i64 way, .float .f64 first] w fun e w' => e = .returned (.float .f64 (pickF way first l)) ∧ w = w' := by
  obtain ⟨A, c, rfl, hm, hfit, hz⟩ := hl
  unfold maxLen at hm
  have HZ := Lib.hid hz
  have HF := Lib.hid hfit
  have HFI := Lib.hid hf
  clear hz hfit hf
  have HP0 : Hid (pickF way first l = pickF way first (l.drop 0)) := rfl
  go_enter Try.func44, Try.ntmps44
  go_wp2
  go_loop [7, 8] (fun q i => ∃ (k b : Nat), k ≤ l.length ∧ b < B64 ∧ i = .int .i64 k ∧ q = .float .f64 b ∧ Hid (pickF way first l = pickF way b (l.drop k))) (fun _ i => l.length - (intOf i).toNat)
  case atStart => exact ⟨0, first, Nat.zero_le _, HFI.out, rfl, rfl, HP0⟩
  case round =>
    obtain ⟨k, b, hk, hb, rfl, rfl, hp⟩ := hrel
    by_cases hlt : k < l.length
    · obtain ⟨bb, o, rfl, _, hc⟩ := ElemsIn.cell HZ.out (Mod.refl (fun _ => False) w).none_below k hlt
      have hi : (k : Int) < l.length := by omega
      have hi0 : (0 : Int) ≤ (k : Int) := by omega
      have k0 := hc 0 (.float .f64 (l.getD k 0)) rfl
      rw [Nat.mul_one, Nat.add_zero] at k0
      have hx := HF.out k hlt
      have hx : l.getD k 0 < B64 := hx
      have hd := drop_cons l k hlt
      obtain ⟨x, hxe⟩ : ∃ x, x = l.getD k 0 := ⟨_, rfl⟩
      rw [← hxe] at k0 hx hd
      have H1 := Lib.hid (rclass_any x w hx)
      have H2 := Lib.hid (nan_any w)
      have H3 := Lib.hid (rcmp_any x b w hx hb)
      have kz := classW_zero x
      have hp' := hp.out
      rw [hd] at hp'
      clear hc hd hxe
      cases hn : isN x
      · rw [hn] at kz
        cases hq : (cmpW x b == way)
        · have HP := Lib.hid (hp'.trans (pickF_no way b x _ hn hq))
          clear hp' hp hn
          generalize cmpW x b = q at *
          generalize classW x = cx at *
          go_wp2_with fail
          refine H1.out.mono ?_
          rintro e w1 ⟨rfl, rfl⟩
          go_wp2_with fail
          refine H3.out.mono ?_
          rintro e w1 ⟨rfl, rfl⟩
          go_wp2
          go_round
          case rel => exact ⟨k + 1, b, by omega, hb, by go_num, rfl, HP⟩
          case measure => simp [intOf]; omega
        · have HP := Lib.hid (hp'.trans (pickF_yes way b x _ hn hq))
          clear hp' hp hn
          generalize cmpW x b = q at *
          generalize classW x = cx at *
          go_wp2_with fail
          refine H1.out.mono ?_
          rintro e w1 ⟨rfl, rfl⟩
          go_wp2_with fail
          refine H3.out.mono ?_
          rintro e w1 ⟨rfl, rfl⟩
          go_wp2
          go_round
          case rel => exact ⟨k + 1, x, by omega, hx, by go_num, rfl, HP⟩
          case measure => simp [intOf]; omega
      · rw [hn] at kz
        have HP := Lib.hid (hp'.trans (pickF_nan way b x _ hn))
        clear hp' hp hn
        generalize classW x = cx at *
        go_wp2_with fail
        refine H1.out.mono ?_
        rintro e w1 ⟨rfl, rfl⟩
        go_wp2_with fail
        refine H2.out.mono ?_
        rintro e w1 ⟨rfl, rfl⟩
        go_wp2
        go_ret
        exact ⟨by rw [HP.out]; rfl, rfl⟩
    · obtain rfl : k = l.length := by omega
      have HP : Hid (pickF way first l = b) := by
        have h := hp.out
        rw [List.drop_length] at h
        exact h
      have ti : decide (l.length < l.length) = false := decide_eq_false (by omega)
      clear hp
      go_wp2
      go_ret
      exact ⟨by rw [HP.out]; rfl, rfl⟩
theorem rmin_any (v : Value) (l : List Nat) (w : World) (hl : Flts w v l) : Calls Try.prog 27 #[v] w fun e w' => e = .returned (.float .f64 (minF l)) ∧ w = w' := by
  have H1 := Lib.hid (inf_any w)
  have H2 := Lib.hid (best_any INF (by decide) v l (-1) w hl)
  have HE : Hid (minF l = pickF (-1) INF l) := rfl
  clear hl
  generalize pickF (-1) INF l = r at *
  go_enter Try.func27, Try.ntmps27
  go_wp2_with fail
  refine H1.out.mono ?_
  rintro e w1 ⟨rfl, rfl⟩
  go_wp2_with fail
  refine H2.out.mono ?_
  rintro e w1 ⟨rfl, rfl⟩
  go_wp2
  go_ret
  exact ⟨by rw [HE.out]; rfl, rfl⟩
theorem rmax_any (v : Value) (l : List Nat) (w : World) (hl : Flts w v l) : Calls Try.prog 28 #[v] w fun e w' => e = .returned (.float .f64 (maxF l)) ∧ w = w' := by
  have H1 := Lib.hid (minf_any w)
  have H2 := Lib.hid (best_any (INF + B63) (by decide) v l 1 w hl)
  have HE : Hid (maxF l = pickF 1 (INF + B63) l) := rfl
  clear hl
  generalize pickF 1 (INF + B63) l = r at *
  go_enter Try.func28, Try.ntmps28
  go_wp2_with fail
  refine H1.out.mono ?_
  rintro e w1 ⟨rfl, rfl⟩
  go_wp2_with fail
  refine H2.out.mono ?_
  rintro e w1 ⟨rfl, rfl⟩
  go_wp2
  go_ret
  exact ⟨by rw [HE.out]; rfl, rfl⟩
end Go.Proofs.Ytpjlplkoiedhjaa
