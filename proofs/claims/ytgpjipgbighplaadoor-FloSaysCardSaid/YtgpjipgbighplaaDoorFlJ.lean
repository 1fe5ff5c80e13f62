/-
  FloSigns, FloNext.
-/
import Derived.Test.YtgpjipgbighplaaDoorFlI
namespace Go.Proofs.YtgpjipgbighplaaDoor
open Go.RowKit Go.Shoal

theorem fkey_nan {a : Nat} (h : isN a = true) : fkey a = B64 - 1 := if_pos h
theorem fkey_num {a : Nat} (h : isN a = false) (ha : a < B64) : fkey a < B64 - 1 := by
  have h64 := b64_is
  have h63 := b63_is
  have hI := inf_is
  unfold isN at h
  have h' := of_decide_eq_false h
  unfold fkey isN
  rw [if_neg (by rw [decide_eq_true_eq]; exact h')]
  split
  · rename_i hl
    rw [mod_low hl] at h'
    omega
  · omega
theorem nan_same (a b : Nat) (ha : a < B64) (hb : b < B64) (h : (isN a || isN b) = true) : sameW a b = (classW a == classW b) := by
  have k1 := classW_zero a
  have k2 := classW_zero b
  unfold sameW
  cases na : isN a
  · cases nb : isN b
    · rw [na, nb] at h; cases h
    · rw [na] at k1
      rw [nb] at k2
      have e1 := fkey_num na ha
      have e2 := fkey_nan nb
      rw [beq_eq_false_iff_ne.2 (show fkey a ≠ fkey b by omega)]
      rw [beq_iff_eq] at k2
      rw [k2, k1]
  · cases nb : isN b
    · rw [na] at k1
      rw [nb] at k2
      have e1 := fkey_num nb hb
      have e2 := fkey_nan na
      rw [beq_eq_false_iff_ne.2 (show fkey a ≠ fkey b by omega)]
      rw [beq_iff_eq] at k1
      rw [beq_eq_false_iff_ne] at k2
      rw [k1]
      exact (beq_eq_false_iff_ne.2 fun e => k2 e.symm).symm
    · rw [na] at k1
      rw [nb] at k2
      rw [fkey_nan na, fkey_nan nb]
      rw [beq_iff_eq] at k1 k2
      rw [k1, k2]
      rfl
def minusOne : Nat := 13830554455654793216
theorem sign_minus (a : Nat) : signW a minusOne = a % B63 + B63 := by
  unfold signW
  rfl
theorem low_of {a : Nat} (ha : a < B64) (h : isNeg a = false) : a < B63 := by
  rcases Nat.lt_or_ge a B63 with h1 | h1
  · exact h1
  · rw [isNeg_high h1 ha] at h; cases h
theorem class_sum (a : Nat) (ha : a < B64) (na : isN a = false) (h : isNeg a = false) : classW a + classW (a % B63 + B63) = 7 := by
  have h64 := b64_is
  have h63 := b63_is
  have hl := low_of ha h
  have e := mod_low hl
  rw [e]
  have hx : B63 ≤ a + B63 ∧ a + B63 < B64 := by omega
  have e2 : (a + B63) % B63 = a := by rw [mod_high hx.1 hx.2]; omega
  have n2 : isN (a + B63) = false := by unfold isN at na ⊢; rw [e] at na; rw [e2]; exact na
  have g2 := isNeg_high hx.1 hx.2
  unfold classW
  rw [na, n2, h, g2, e, e2]
  simp only [Bool.false_eq_true, if_false, if_true]
  by_cases h1 : a = INF
  · simp only [h1, if_true]; rfl
  · by_cases h2 : a = 0
    · simp only [h1, if_false]; simp only [h2, if_true]; decide
    · simp only [h1, h2, if_false]; rfl
theorem cmp_turned (a b : Nat) (na : isN a = false) (nb : isN b = false) (ha : a < B63) (hb : b < B63) : cmpW a b = cmpW (b % B63 + B63) (a % B63 + B63) := by
  have h64 := b64_is
  have h63 := b63_is
  rw [mod_low ha, mod_low hb]
  have key : ∀ c, c < B63 → isN c = false → fkey c = c + B63 ∧ fkey (c + B63) = B63 - 1 - c := fun c hc nc => by
    have hx : B63 ≤ c + B63 ∧ c + B63 < B64 := by omega
    have e2 : (c + B63) % B63 = c := by rw [mod_high hx.1 hx.2]; omega
    have n2 : isN (c + B63) = false := by unfold isN at nc ⊢; rw [mod_low hc] at nc; rw [e2]; exact nc
    unfold fkey
    rw [nc, n2]
    simp only [Bool.false_eq_true, if_false]
    rw [if_pos hc, if_neg (by omega)]
    exact ⟨rfl, by omega⟩
  obtain ⟨k1, k2⟩ := key a ha na
  obtain ⟨k3, k4⟩ := key b hb nb
  unfold cmpW
  rw [k1, k2, k3, k4]
  rcases Nat.lt_trichotomy a b with h | h | h
  · rw [if_pos (by omega), if_pos (by omega)]
  · rw [if_neg (by omega), if_neg (by omega), if_neg (by omega), if_neg (by omega)]
  · rw [if_neg (by omega), if_pos (by omega), if_neg (by omega), if_pos (by omega)]
theorem signed_lt (a : Nat) : a % B63 + B63 < B64 := by
  have h := b63_two
  have := Nat.mod_lt a (show B63 > 0 by decide)
  omega
set_option maxRecDepth 100000 in
set_option maxHeartbeats 8000000 in
theorem signs_any (a b : Nat) (ha : a < B64) (hb : b < B64) (w : World) (hT : Tab w) : Calls Tryd.prog 4 #[.float .f64 a, .float .f64 b] w fun e w' => e = .returned (.bool true) ∧ Mod (fun _ => False) w w' := by
  have HA := Lib.hid (awake_any w hT)
  have H1 := Lib.hid (fun w => class_any a w ha)
  have H2 := Lib.hid (fun w => class_any b w hb)
  have H3 := Lib.hid (fun w => same_any a b w ha hb)
  have H4 : Hid (∀ w, Calls Tryd.prog 14 #[.float .f64 a, .float .f64 13830554455654793216] w fun e w' => e = .returned (.float .f64 (a % B63 + B63)) ∧ w = w') := fun w => copysign_any a minusOne ha (by decide) w
  have H5 : Hid (∀ w, Calls Tryd.prog 14 #[.float .f64 b, .float .f64 13830554455654793216] w fun e w' => e = .returned (.float .f64 (b % B63 + B63)) ∧ w = w') := fun w => copysign_any b minusOne hb (by decide) w
  have H6 := Lib.hid (fun w => class_any (a % B63 + B63) w (signed_lt a))
  have H7 := Lib.hid (fun w => signbit_any a w)
  have H8 := Lib.hid (fun w => signbit_any b w)
  have H9 := Lib.hid (fun w => cmp_any a b w ha hb)
  have H10 := Lib.hid (fun w => cmp_any (b % B63 + B63) (a % B63 + B63) w (signed_lt b) (signed_lt a))
  have k1 := classW_zero a
  have k2 := classW_zero b
  have HN := Lib.hid (nan_same a b ha hb)
  have HS := Lib.hid (fun na h => class_sum a ha na h)
  have HC : Hid (isN a = false → isN b = false → isNeg a = false → isNeg b = false → cmpW a b = cmpW (b % B63 + B63) (a % B63 + B63)) := fun na nb ga gb => cmp_turned a b na nb (low_of ha ga) (low_of hb gb)
  clear ha hb hT
  generalize cmpW a b = c1 at *
  generalize cmpW (b % B63 + B63) (a % B63 + B63) = c2 at *
  generalize sameW a b = s at *
  generalize classW (a % B63 + B63) = kx at *
  generalize isN a = na at *
  generalize isN b = nb at *
  generalize classW a = ka at *
  generalize classW b = kb at *
  generalize isNeg a = ga at *
  generalize isNeg b = gb at *
  generalize a % B63 + B63 = x at *
  generalize b % B63 + B63 = y at *
  cases na
  rotate_left
  · have hn := HN.out rfl
    go_enter Tryd.func4, Tryd.ntmps4
    go_wp2_with fail
    refine HA.out.mono ?_
    rintro e w1 ⟨rfl, hm⟩
    have HM := Lib.hid hm
    clear hm HA
    go_wp2_with fail
    refine (H1.out _).mono ?_
    rintro e w1 ⟨rfl, rfl⟩
    go_wp2_with fail
    refine (H3.out _).mono ?_
    rintro e w1 ⟨rfl, rfl⟩
    go_wp2_with fail
    refine (H1.out _).mono ?_
    rintro e w1 ⟨rfl, rfl⟩
    go_wp2_with fail
    refine (H2.out _).mono ?_
    rintro e w1 ⟨rfl, rfl⟩
    go_wp2
    go_ret
    exact ⟨rfl, HM.out⟩
  cases nb
  rotate_left
  · have hn := HN.out rfl
    go_enter Tryd.func4, Tryd.ntmps4
    go_wp2_with fail
    refine HA.out.mono ?_
    rintro e w1 ⟨rfl, hm⟩
    have HM := Lib.hid hm
    clear hm HA
    go_wp2_with fail
    refine (H1.out _).mono ?_
    rintro e w1 ⟨rfl, rfl⟩
    go_wp2_with fail
    refine (H2.out _).mono ?_
    rintro e w1 ⟨rfl, rfl⟩
    go_wp2_with fail
    refine (H3.out _).mono ?_
    rintro e w1 ⟨rfl, rfl⟩
    go_wp2_with fail
    refine (H1.out _).mono ?_
    rintro e w1 ⟨rfl, rfl⟩
    go_wp2_with fail
    refine (H2.out _).mono ?_
    rintro e w1 ⟨rfl, rfl⟩
    go_wp2
    go_ret
    exact ⟨rfl, HM.out⟩
  cases ga
  · have hsum := HS.out rfl rfl
    go_enter Tryd.func4, Tryd.ntmps4
    go_wp2_with fail
    refine HA.out.mono ?_
    rintro e w1 ⟨rfl, hm⟩
    have HM := Lib.hid hm
    clear hm HA
    go_wp2_with fail
    refine (H1.out _).mono ?_
    rintro e w1 ⟨rfl, rfl⟩
    go_wp2_with fail
    refine (H2.out _).mono ?_
    rintro e w1 ⟨rfl, rfl⟩
    go_wp2_with fail
    refine (H4.out _).mono ?_
    rintro e w1 ⟨rfl, rfl⟩
    go_wp2_with fail
    refine (H5.out _).mono ?_
    rintro e w1 ⟨rfl, rfl⟩
    go_wp2_with fail
    refine (H7.out _).mono ?_
    rintro e w1 ⟨rfl, rfl⟩
    go_wp2_with fail
    refine (H1.out _).mono ?_
    rintro e w1 ⟨rfl, rfl⟩
    go_wp2_with fail
    refine (H6.out _).mono ?_
    rintro e w1 ⟨rfl, rfl⟩
    go_wp2_with fail
    refine (H7.out _).mono ?_
    rintro e w1 ⟨rfl, rfl⟩
    go_wp2_with fail
    refine (H8.out _).mono ?_
    rintro e w1 ⟨rfl, rfl⟩
    cases gb
    · have hc := HC.out (by trivial) (by trivial) (by trivial) (by trivial)
      subst hc
      go_wp2_with fail
      refine (H9.out _).mono ?_
      rintro e w1 ⟨rfl, rfl⟩
      go_wp2_with fail
      refine (H10.out _).mono ?_
      rintro e w1 ⟨rfl, rfl⟩
      go_wp2
      go_ret
      exact ⟨ret_bool (by simp), HM.out⟩
    · go_wp2
      go_ret
      exact ⟨rfl, HM.out⟩
  · go_enter Tryd.func4, Tryd.ntmps4
    go_wp2_with fail
    refine HA.out.mono ?_
    rintro e w1 ⟨rfl, hm⟩
    have HM := Lib.hid hm
    clear hm HA
    go_wp2_with fail
    refine (H1.out _).mono ?_
    rintro e w1 ⟨rfl, rfl⟩
    go_wp2_with fail
    refine (H2.out _).mono ?_
    rintro e w1 ⟨rfl, rfl⟩
    go_wp2_with fail
    refine (H4.out _).mono ?_
    rintro e w1 ⟨rfl, rfl⟩
    go_wp2_with fail
    refine (H5.out _).mono ?_
    rintro e w1 ⟨rfl, rfl⟩
    go_wp2_with fail
    refine (H7.out _).mono ?_
    rintro e w1 ⟨rfl, rfl⟩
    go_wp2_with fail
    refine (H7.out _).mono ?_
    rintro e w1 ⟨rfl, rfl⟩
    go_wp2
    go_ret
    exact ⟨rfl, HM.out⟩
theorem of_key {k : Nat} (hk : k < B64) (h : (ofW k).2 = true) : fkey (ofW k).1 = k ∧ (ofW k).1 < B64 := by
  have h64 := b64_is
  have h63 := b63_is
  unfold ofW at h ⊢
  by_cases h0 : k = 18446744073709551615
  · rw [if_pos h0]
    exact ⟨h0.symm ▸ (by decide), by show nanW < B64; decide⟩
  · rw [if_neg h0] at h ⊢
    cases hn : isN (keyBits k)
    · rw [if_neg (by decide)]
      show fkey (keyBits k) = k ∧ keyBits k < B64
      unfold fkey
      rw [hn, if_neg (by decide)]
      unfold keyBits
      by_cases hl : k < B63
      · rw [if_pos hl, if_neg (by omega)]
        omega
      · rw [if_neg hl, if_pos (by omega)]
        omega
    · rw [hn] at h
      cases h
set_option maxRecDepth 100000 in
set_option maxHeartbeats 8000000 in
theorem next_any (k l : Nat) (hk : k < B64) (hl : l < B64) (w : World) (hT : Tab w) : Calls Tryd.prog 5 #[.int .u64 k, .int .u64 l] w fun e w' => e = .returned (.bool true) ∧ Mod (fun _ => False) w w' := by
  have HA := Lib.hid (awake_any w hT)
  have H1 := Lib.hid (fun w => of_any k w hk)
  have H2 := Lib.hid (fun w => of_any l w hl)
  have HK := Lib.hid (of_key hk)
  have HL := Lib.hid (of_key hl)
  unfold pairF at H1 H2
  clear hk hl hT
  generalize ofW k = x at *
  generalize ofW l = y at *
  obtain ⟨x, p⟩ := x
  obtain ⟨y, q⟩ := y
  cases p
  · go_enter Tryd.func5, Tryd.ntmps5
    go_wp2_with fail
    refine HA.out.mono ?_
    rintro e w1 ⟨rfl, hm⟩
    have HM := Lib.hid hm
    clear hm HA
    go_wp2_with fail
    refine (H1.out _).mono ?_
    rintro e w1 ⟨rfl, rfl⟩
    go_wp2_with fail
    refine (H2.out _).mono ?_
    rintro e w1 ⟨rfl, rfl⟩
    go_wp2
    go_ret
    exact ⟨rfl, HM.out⟩
  cases q
  · go_enter Tryd.func5, Tryd.ntmps5
    go_wp2_with fail
    refine HA.out.mono ?_
    rintro e w1 ⟨rfl, hm⟩
    have HM := Lib.hid hm
    clear hm HA
    go_wp2_with fail
    refine (H1.out _).mono ?_
    rintro e w1 ⟨rfl, rfl⟩
    go_wp2_with fail
    refine (H2.out _).mono ?_
    rintro e w1 ⟨rfl, rfl⟩
    go_wp2
    go_ret
    exact ⟨rfl, HM.out⟩
  obtain ⟨hk, bx⟩ := HK.out rfl
  obtain ⟨hl, bY⟩ := HL.out rfl
  have hk : fkey x = k := hk
  have hl : fkey y = l := hl
  have HC := Lib.hid (fun w => cmp_any x y w bx bY)
  have HS := Lib.hid (fun w => same_any x y w bx bY)
  have e1 : cmpW x y = cmpI k l := by unfold cmpW cmpI; rw [hk, hl]
  have e2 : sameW x y = (k == l) := by unfold sameW; rw [hk, hl]
  have t1 : decide (cmpI k l < 0) = decide (k < l) := by
    unfold cmpI
    rw [Bool.eq_iff_iff, decide_eq_true_eq, decide_eq_true_eq]
    split
    · exact ⟨fun _ => by assumption, fun _ => by decide⟩
    · split
      · exact ⟨fun h => absurd h (by decide), fun h => absurd h (by assumption)⟩
      · exact ⟨fun h => absurd h (by decide), fun h => absurd h (by assumption)⟩
  rw [e1] at HC
  rw [e2] at HS
  have E3 : Hid (((k : Int) == (l : Int)) = (k == l)) := by show _ = _; rw [Bool.eq_iff_iff, beq_iff_eq, beq_iff_eq]; omega
  clear HK HL hk hl bx bY e1 e2
  generalize cmpI k l = c at *
  go_enter Tryd.func5, Tryd.ntmps5
  go_wp2_with fail
  refine HA.out.mono ?_
  rintro e w1 ⟨rfl, hm⟩
  have HM := Lib.hid hm
  clear hm HA
  go_wp2_with fail
  refine (H1.out _).mono ?_
  rintro e w1 ⟨rfl, rfl⟩
  go_wp2_with fail
  refine (H2.out _).mono ?_
  rintro e w1 ⟨rfl, rfl⟩
  go_wp2_with fail
  refine (HC.out _).mono ?_
  rintro e w1 ⟨rfl, rfl⟩
  go_wp2_with fail
  refine (HS.out _).mono ?_
  rintro e w1 ⟨rfl, rfl⟩
  go_wp2
  go_ret
  exact ⟨ret_bool (by rw [E3.out]; simp), HM.out⟩
theorem signs_walk (W : World) (hT : Tab W) (a : Nat) (ha : (Lit.float .f64 a).wf = true) (b : Nat) (hb : (Lit.float .f64 b).wf = true) :
    Calls Tryd.prog 4 #[.float .f64 a, .float .f64 b] W fun e w' => e = .returned (.bool true) ∧ Below W.heap.size W w' :=
  (signs_any a b (wf_f64 ha) (wf_f64 hb) W hT).mono fun _ _ ⟨x, y⟩ => ⟨x, y.none_below⟩
theorem next_walk (W : World) (hT : Tab W) (k : Int) (hk : (Lit.int .u64 k).wf = true) (l : Int) (hl : (Lit.int .u64 l).wf = true) :
    Calls Tryd.prog 5 #[.int .u64 k, .int .u64 l] W fun e w' => e = .returned (.bool true) ∧ Below W.heap.size W w' := by
  have h64 := b64_is
  obtain ⟨h1, h2⟩ := wf_u64 hk
  obtain ⟨h3, h4⟩ := wf_u64 hl
  obtain ⟨k, rfl⟩ := Int.eq_ofNat_of_zero_le h1
  obtain ⟨l, rfl⟩ := Int.eq_ofNat_of_zero_le h3
  exact (next_any k l (by omega) (by omega) W hT).mono fun _ _ ⟨x, y⟩ => ⟨x, y.none_below⟩
end Go.Proofs.YtgpjipgbighplaaDoor
