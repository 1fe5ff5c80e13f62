/-
  A meter of small whole numbers: the sum is theirs, mean and what comes slowly lie between the ends.
-/
import Derived.Test.YtpjlplkoiedhjaaMetQ
namespace Go.Proofs.Ytpjlplkoiedhjaa
open Go.RowKit Go.Shoal

theorem num_le {z r : Nat} (hz : isN z = false) (hr : isF r) (h1 : valI z ≤ valI r) (h2 : -(valI r) ≤ valI z) : isF z := by
  have h := val_bd r
  exact isF_of_val hz (mag_fin hr) (by omega) (by omega)
theorem unit_pos : (0 : Int) < ((2 ^ UEXP : Nat) : Int) := Int.ofNat_lt.2 (Nat.two_pow_pos _)
/-- A small whole number's word. -/
theorem small_word {c : Int} (h : c.natAbs ≤ B52) : isF (floatOfInt .f64 c) ∧ valI (floatOfInt .f64 c) = c * ((2 ^ UEXP : Nat) : Int) := by
  obtain ⟨r, h1, h2, h3⟩ := word_of c UEXP h (by decide)
  have := (ofInt_rd c).word h2 h1 (by rw [h3, Int.ofNat_one, Int.mul_one])
  exact ⟨this.1, this.2.trans h3⟩
theorem word_pow (j : Nat) (hj : j ≤ 2000) (s : Bool) : ∃ r, r < B64 ∧ isF r ∧ valI r = sgn s (2 ^ j) := by
  obtain ⟨r, h1, h2, h3⟩ := word_of (sgn s 1) j (by cases s <;> decide) hj
  refine ⟨r, h1, h2, h3.trans ?_⟩
  rw [sgn_mul, Nat.one_mul]
/-- An eighth of a difference. -/
theorem eighth_pos {D : Int} {d q : Nat} (hd : Rd D 1 d) (hq : Rd (valI d * ((2 ^ UEXP : Nat) : Int)) (8 * 2 ^ UEXP) q) (h0 : 0 ≤ D) (hD : D ≤ ((2 ^ 20 * 2 ^ UEXP : Nat) : Int)) : 0 ≤ valI q ∧ valI q ≤ D := by
  have hU := unit_pos
  by_cases hz : D = 0
  · have d1 := hd.word zero_is.1 zero_is.2 (by rw [hz, val_zero, Int.zero_mul])
    have q1 := hq.word zero_is.1 zero_is.2 (by rw [d1.2, val_zero, Int.zero_mul, Int.zero_mul])
    rw [q1.2, val_zero]
    omega
  · obtain ⟨n, rfl⟩ : ∃ n : Nat, D = n := ⟨D.toNat, by omega⟩
    have hn : 0 < n := by omega
    have l1 := log2_le hn
    have l2 := @log2_lt n
    have hj : n.log2 ≤ 1094 := by
      rcases Nat.lt_or_ge 1094 n.log2 with h | h
      · exfalso
        have h1 : 2 ^ (21 + UEXP) ≤ 2 ^ n.log2 := Nat.pow_le_pow_right (by decide) (by have : UEXP = 1074 := rfl
                                                                                       omega)
        have h2 : 2 ^ (21 + UEXP) = 2 * (2 ^ 20 * 2 ^ UEXP) := by rw [Nat.pow_add, show (2 : Nat) ^ 21 = 2 * 2 ^ 20 from rfl, Nat.mul_assoc]
        have h3 : 0 < 2 ^ 20 * 2 ^ UEXP := Nat.mul_pos (by decide) (Nat.two_pow_pos _)
        generalize 2 ^ 20 * 2 ^ UEXP = g at *
        omega
      · exact h
    obtain ⟨r1, a1, a2, a3⟩ := word_pow n.log2 (by omega) false
    obtain ⟨r2, b1, b2, b3⟩ := word_pow (n.log2 + 1) (by omega) false
    rw [sgn_f] at a3 b3
    have e2 : (2 : Nat) ^ (n.log2 + 1) = 2 * 2 ^ n.log2 := by rw [Nat.pow_succ, Nat.mul_comm]
    rw [e2] at b3 l2
    have d1 : valI d ≤ valI r2 := hd.le b1 b2.num (by rw [b3]; omega)
    have d0 : valI 0 ≤ valI d := hd.ge zero_is.2 zero_is.1.num (by rw [val_zero]; omega)
    rw [val_zero] at d0
    have q1 : valI q ≤ valI r1 := hq.le a1 a2.num (by
      rw [a3]
      have e3 : ((2 * 2 ^ n.log2 : Nat) : Int) = 2 * ((2 ^ n.log2 : Nat) : Int) := Int.natCast_mul _ _
      rw [e3] at b3
      generalize ((2 ^ n.log2 : Nat) : Int) = p at *
      rw [b3] at d1
      have h1 : valI d * ((2 ^ UEXP : Nat) : Int) ≤ (8 * p) * ((2 ^ UEXP : Nat) : Int) := Int.mul_le_mul_of_nonneg_right (by omega) (by omega)
      have h2 : p * ((8 * 2 ^ UEXP : Nat) : Int) = (8 * p) * ((2 ^ UEXP : Nat) : Int) := by rw [Int.natCast_mul, ← Int.mul_assoc, Int.mul_comm p]; rfl
      omega)
    have q0 : valI 0 ≤ valI q := hq.ge zero_is.2 zero_is.1.num (by rw [val_zero, Int.zero_mul]; exact Int.mul_nonneg d0 (by omega))
    rw [val_zero] at q0
    rw [a3] at q1
    omega
theorem eighth_neg {D : Int} {d q : Nat} (hd : Rd D 1 d) (hq : Rd (valI d * ((2 ^ UEXP : Nat) : Int)) (8 * 2 ^ UEXP) q) (h0 : D ≤ 0) (hD : -((2 ^ 20 * 2 ^ UEXP : Nat) : Int) ≤ D) : D ≤ valI q ∧ valI q ≤ 0 := by
  have hU := unit_pos
  by_cases hz : D = 0
  · have d1 := hd.word zero_is.1 zero_is.2 (by rw [hz, val_zero, Int.zero_mul])
    have q1 := hq.word zero_is.1 zero_is.2 (by rw [d1.2, val_zero, Int.zero_mul, Int.zero_mul])
    rw [q1.2, val_zero]
    omega
  · obtain ⟨n, rfl⟩ : ∃ n : Nat, D = -(n : Int) := ⟨(-D).toNat, by omega⟩
    have hn : 0 < n := by omega
    have l1 := log2_le hn
    have l2 := @log2_lt n
    have hj : n.log2 ≤ 1094 := by
      rcases Nat.lt_or_ge 1094 n.log2 with h | h
      · exfalso
        have h1 : 2 ^ (21 + UEXP) ≤ 2 ^ n.log2 := Nat.pow_le_pow_right (by decide) (by have : UEXP = 1074 := rfl
                                                                                       omega)
        have h2 : 2 ^ (21 + UEXP) = 2 * (2 ^ 20 * 2 ^ UEXP) := by rw [Nat.pow_add, show (2 : Nat) ^ 21 = 2 * 2 ^ 20 from rfl, Nat.mul_assoc]
        have h3 : 0 < 2 ^ 20 * 2 ^ UEXP := Nat.mul_pos (by decide) (Nat.two_pow_pos _)
        generalize 2 ^ 20 * 2 ^ UEXP = g at *
        omega
      · exact h
    obtain ⟨r1, a1, a2, a3⟩ := word_pow n.log2 (by omega) true
    obtain ⟨r2, b1, b2, b3⟩ := word_pow (n.log2 + 1) (by omega) true
    rw [sgn_t] at a3 b3
    have e2 : (2 : Nat) ^ (n.log2 + 1) = 2 * 2 ^ n.log2 := by rw [Nat.pow_succ, Nat.mul_comm]
    rw [e2] at b3 l2
    have d1 : valI r2 ≤ valI d := hd.ge b1 b2.num (by rw [b3]; omega)
    have d0 : valI d ≤ valI 0 := hd.le zero_is.2 zero_is.1.num (by rw [val_zero]; omega)
    rw [val_zero] at d0
    have q1 : valI r1 ≤ valI q := hq.ge a1 a2.num (by
      rw [a3]
      have e3 : ((2 * 2 ^ n.log2 : Nat) : Int) = 2 * ((2 ^ n.log2 : Nat) : Int) := Int.natCast_mul _ _
      rw [e3] at b3
      generalize ((2 ^ n.log2 : Nat) : Int) = p at *
      rw [b3] at d1
      have h1 : (8 * -p) * ((2 ^ UEXP : Nat) : Int) ≤ valI d * ((2 ^ UEXP : Nat) : Int) := Int.mul_le_mul_of_nonneg_right (by omega) (by omega)
      have h2 : -p * ((8 * 2 ^ UEXP : Nat) : Int) = (8 * -p) * ((2 ^ UEXP : Nat) : Int) := by rw [Int.natCast_mul, ← Int.mul_assoc, Int.mul_comm (-p)]; rfl
      omega)
    have q0 : valI q ≤ valI 0 := hq.le zero_is.2 zero_is.1.num (by
      rw [val_zero, Int.zero_mul]
      have := Int.mul_le_mul_of_nonneg_right d0 (show (0 : Int) ≤ ((2 ^ UEXP : Nat) : Int) by omega)
      omega)
    rw [val_zero] at q0
    rw [a3] at q1
    omega
/-- What comes slowly stays between what there was. -/
theorem smooth_between {s x d q z lo hi : Nat} (hs : isF s) (hx : isF x) (hd : Arith .sub x s d) (hq : Arith .quo d eightW q) (hz : Arith .add s q z) (bl : lo < B64) (bh : hi < B64) (fl : isF lo) (fh : isF hi)
    (h1 : valI lo ≤ valI s) (h2 : valI s ≤ valI hi) (h3 : valI lo ≤ valI x) (h4 : valI x ≤ valI hi) (g1 : -((2 ^ 16 * 2 ^ UEXP : Nat) : Int) ≤ valI lo) (g2 : valI hi ≤ ((2 ^ 16 * 2 ^ UEXP : Nat) : Int)) : isF z ∧ valI lo ≤ valI z ∧ valI z ≤ valI hi := by
  have hU := unit_pos
  have rd := arith_sub hd hx hs
  have g3 : ((2 ^ 16 * 2 ^ UEXP : Nat) : Int) = 65536 * ((2 ^ UEXP : Nat) : Int) := Int.natCast_mul _ _
  have g4 : ((2 ^ 20 * 2 ^ UEXP : Nat) : Int) = 1048576 * ((2 ^ UEXP : Nat) : Int) := Int.natCast_mul _ _
  have hfd : isF d := by
    obtain ⟨r, r1, r2, r3⟩ := word_of (2 ^ 20) UEXP (by decide) (by decide)
    obtain ⟨t, t1, t2, t3⟩ := word_of (-(2 ^ 20)) UEXP (by decide) (by decide)
    have e1 : ((2 : Int) ^ 20) = 1048576 := rfl
    rw [e1] at r3 t3
    have k1 := rd.le r1 r2.num (by rw [r3]; omega)
    have k2 := rd.ge t1 t2.num (by rw [t3]; omega)
    exact num_le rd.2.1 r2 k1 (by rw [r3]; rw [t3] at k2; omega)
  obtain ⟨e1, e2, e3, e4⟩ := eight_is
  have rq := arith_quo hq hfd e1 e2 e3
  rw [e4] at rq
  have hq2 : (0 ≤ valI q ∧ valI q ≤ valI x - valI s) ∨ (valI x - valI s ≤ valI q ∧ valI q ≤ 0) := by
    by_cases h : 0 ≤ valI x - valI s
    · exact .inl (eighth_pos rd rq h (by omega))
    · exact .inr (eighth_neg rd rq (by omega) (by omega))
  have hfq : isF q := by
    obtain ⟨r, r1, r2, r3⟩ := word_of (2 ^ 20) UEXP (by decide) (by decide)
    have e1 : ((2 : Int) ^ 20) = 1048576 := rfl
    rw [e1] at r3
    exact num_le rq.2.1 r2 (by rw [r3]; omega) (by rw [r3]; omega)
  have rz := arith_add hz hs hfq
  have z1 := rz.ge bl fl.num (by omega)
  have z2 := rz.le bh fh.num (by omega)
  refine ⟨?_, z1, z2⟩
  obtain ⟨r, r1, r2, r3⟩ := word_of (2 ^ 20) UEXP (by decide) (by decide)
  have e1 : ((2 : Int) ^ 20) = 1048576 := rfl
  rw [e1] at r3
  exact num_le rz.2.1 r2 (by rw [r3]; omega) (by rw [r3]; omega)
/-- A meter of k small whole numbers whose sum is t. -/
structure RkAt (t : Int) (k : Nat) (m : Mt) : Prop where
  len : m.ks.length = k
  n : m.n = k
  f : m.f = k
  sb : t.natAbs ≤ k * 32768
  sf : isF m.s
  s : valI m.s = t * ((2 ^ UEXP : Nat) : Int)
  none : k = 0 → m.le = INF ∧ m.mo = INF + B63
  ends : k ≠ 0 → isF m.le ∧ isF m.mo ∧ isF m.sm ∧ m.le < B64 ∧ m.mo < B64
  lo : k ≠ 0 → valI m.le ≤ valI m.sm ∧ valI m.le * (k : Int) ≤ valI m.s ∧ -((2 ^ 15 * 2 ^ UEXP : Nat) : Int) ≤ valI m.le
  hi : k ≠ 0 → valI m.sm ≤ valI m.mo ∧ valI m.s ≤ valI m.mo * (k : Int) ∧ valI m.mo ≤ ((2 ^ 15 * 2 ^ UEXP : Nat) : Int)
  keys : ∀ y ∈ m.ks, fkey m.le ≤ y ∧ y < fkey INF
theorem RkAt.new : RkAt 0 0 newMt := ⟨rfl, rfl, rfl, Nat.le_refl _, zero_is.1, by rw [Int.zero_mul]; exact val_zero, fun _ => ⟨rfl, rfl⟩, fun h => absurd rfl h, fun h => absurd rfl h, fun h => absurd rfl h, fun y h => by cases h⟩
theorem inf_notF : ¬ isF INF ∧ ¬ isF (INF + B63) := by unfold isF; decide
theorem RkAt.step {t c : Int} {k : Nat} {m m' : Mt} (h : RkAt t k m) (hk : k < 60) (hc : -32768 ≤ c ∧ c ≤ 32767) (ha : AddTo m (floatOfInt .f64 c) m') (hx64 : floatOfInt .f64 c < B64) : RkAt (t + c) (k + 1) m' := by
  obtain ⟨hx, vx⟩ := @small_word c (by have : B52 = 4503599627370496 := by decide
                                       omega)
  generalize floatOfInt .f64 c = x at *
  have hU := unit_pos
  have hlen := ha.len
  have g4 : ((2 ^ 15 * 2 ^ UEXP : Nat) : Int) = 32768 * ((2 ^ UEXP : Nat) : Int) := Int.natCast_mul _ _
  have x1 : -((2 ^ 15 * 2 ^ UEXP : Nat) : Int) ≤ valI x := by
    rw [vx, g4, ← Int.neg_mul]
    exact Int.mul_le_mul_of_nonneg_right (by omega) (by omega)
  have x2 : valI x ≤ ((2 ^ 15 * 2 ^ UEXP : Nat) : Int) := by
    rw [vx, g4]
    exact Int.mul_le_mul_of_nonneg_right (by omega) (by omega)
  have kx : fkey x < fkey INF := key_top hx64 hx.num (fun e => inf_notF.1 (e ▸ hx))
  have hb2 : (t + c).natAbs ≤ (k + 1) * 32768 := by have := h.sb; omega
  obtain ⟨hks, ⟨h1, _⟩ | ⟨_, e1, e2, e3, e4, ⟨h1, _⟩ | ⟨_, e5, e6⟩⟩⟩ := ha
  · rw [hx.num] at h1; cases h1
  · rw [hx.notI] at h1; cases h1
  · have hs : isF m'.s ∧ valI m'.s = (t + c) * ((2 ^ UEXP : Nat) : Int) := by
      obtain ⟨r, r1, r2, r3⟩ := word_of (t + c) UEXP (by have : B52 = 4503599627370496 := by decide
                                                         have := h.sb
                                                         omega) (by decide)
      have := (arith_add e2 h.sf hx).word r2 r1 (by rw [h.s, vx, r3, Int.ofNat_one, Int.mul_one, Int.add_mul])
      exact ⟨this.1, this.2.trans r3⟩
    by_cases h0 : k = 0
    · subst h0
      obtain ⟨p2, p3⟩ := h.none rfl
      have l1 : m'.le = x := by
        rw [e3, p2, minF_two (by decide) (by decide) hx.num, if_pos kx]
      have l2 : m'.mo = x := by
        rw [e4, p3, maxF_two (by decide) (by decide) hx.num, if_pos (key_bot hx64 hx.num (fun e => inf_notF.2 (e ▸ hx)))]
      have l3 : m'.sm = x := by
        rcases e6 with ⟨_, p⟩ | ⟨p, _⟩
        · exact p
        · exact absurd h.f p
      have l4 : valI m'.s = valI x := by
        have h5 := h.sb
        have : t = 0 := by omega
        rw [hs.2, vx, this, Int.zero_add]
      refine ⟨by rw [hlen, h.len], by rw [e1, h.n], by rw [e5, h.f], hb2, hs.1, hs.2, fun e => by omega, fun _ => ?_, fun _ => ?_, fun _ => ?_, fun y hy => ?_⟩
      · rw [l1, l2, l3]; exact ⟨hx, hx, hx, hx64, hx64⟩
      · rw [l1, l3, l4]; exact ⟨Int.le_refl _, by omega, x1⟩
      · rw [l2, l3, l4]; exact ⟨Int.le_refl _, by omega, x2⟩
      · rw [hks] at hy
        rw [l1]
        rcases ins_mem hy with hy | rfl
        · have h6 := h.len
          rw [List.eq_nil_of_length_eq_zero h6] at hy
          cases hy
        · exact ⟨Nat.le_refl _, kx⟩
    · obtain ⟨f1, f2, f3, b1, b2⟩ := h.ends h0
      obtain ⟨q1, q2, q3⟩ := h.lo h0
      obtain ⟨q4, q5, q6⟩ := h.hi h0
      have hle := e3
      rw [minF_two b1 f1.num hx.num] at hle
      have hmo := e4
      rw [maxF_two b2 f2.num hx.num] at hmo
      have A : isF m'.le ∧ m'.le < B64 ∧ valI m'.le ≤ valI m.le ∧ valI m'.le ≤ valI x ∧ fkey m'.le ≤ fkey m.le ∧ fkey m'.le ≤ fkey x ∧ (-((2 ^ 15 * 2 ^ UEXP : Nat) : Int) ≤ valI m'.le) := by
        rw [hle]
        by_cases hq : fkey x < fkey m.le
        · rw [if_pos hq]
          exact ⟨hx, hx64, val_of_key hx64 b1 hx.num f1.num (by omega), Int.le_refl _, by omega, Nat.le_refl _, x1⟩
        · rw [if_neg hq]
          exact ⟨f1, b1, Int.le_refl _, val_of_key b1 hx64 f1.num hx.num (by omega), Nat.le_refl _, by omega, q3⟩
      have B : isF m'.mo ∧ m'.mo < B64 ∧ valI m.mo ≤ valI m'.mo ∧ valI x ≤ valI m'.mo ∧ (valI m'.mo ≤ ((2 ^ 15 * 2 ^ UEXP : Nat) : Int)) := by
        rw [hmo]
        by_cases hq : fkey m.mo < fkey x
        · rw [if_pos hq]
          exact ⟨hx, hx64, val_of_key b2 hx64 f2.num hx.num (by omega), Int.le_refl _, x2⟩
        · rw [if_neg hq]
          exact ⟨f2, b2, Int.le_refl _, val_of_key hx64 b2 hx.num f2.num (by omega), q6⟩
      obtain ⟨A1, A2, A3, A4, A5, A6, A7⟩ := A
      obtain ⟨B1, B2, B3, B4, B5⟩ := B
      have g5 : ((2 ^ 16 * 2 ^ UEXP : Nat) : Int) = 65536 * ((2 ^ UEXP : Nat) : Int) := Int.natCast_mul _ _
      have hsm : isF m'.sm ∧ valI m'.le ≤ valI m'.sm ∧ valI m'.sm ≤ valI m'.mo := by
        rcases e6 with ⟨p, _⟩ | ⟨_, d, q, p2, p3, p4⟩
        · exact absurd (h.f ▸ p) h0
        · exact smooth_between f3 hx p2 p3 p4 A2 B2 A1 B1 (by omega) (by omega) A4 B4 (by omega) (by omega)
      have hsum : valI m'.s = valI m.s + valI x := by rw [hs.2, h.s, vx, Int.add_mul]
      have m1 := Int.mul_le_mul_of_nonneg_right A3 (show (0 : Int) ≤ (k : Int) by omega)
      have m2 := Int.mul_le_mul_of_nonneg_right B3 (show (0 : Int) ≤ (k : Int) by omega)
      have m3 : ∀ y : Int, y * ((k + 1 : Nat) : Int) = y * (k : Int) + y := fun y => by rw [Int.natCast_add, Int.mul_add]; omega
      refine ⟨by rw [hlen, h.len], by rw [e1, h.n], by rw [e5, h.f], hb2, hs.1, hs.2, fun e => by omega, fun _ => ⟨A1, B1, hsm.1, A2, B2⟩, fun _ => ⟨hsm.2.1, by rw [hsum, m3]; omega, A7⟩, fun _ => ⟨hsm.2.2, by rw [hsum, m3]; omega, B5⟩, fun y hy => ?_⟩
      rw [hks] at hy
      rcases ins_mem hy with hy | rfl
      · have := h.keys y hy
        exact ⟨by omega, this.2⟩
      · exact ⟨A6, kx⟩
theorem small_parts (n : Nat) (h : 0 < n) (hn : n ≤ 60) : isF (floatOfInt .f64 (n : Int)) ∧ floatOfInt .f64 (n : Int) % B63 ≠ 0 ∧ isNeg (floatOfInt .f64 (n : Int)) = false ∧ mag (floatOfInt .f64 (n : Int) % B63) = n * 2 ^ UEXP := by
  obtain ⟨h1, h2⟩ := @small_word (n : Int) (by have : B52 = 4503599627370496 := by decide
                                               omega)
  have hU := Nat.two_pow_pos UEXP
  have hp : 0 < n * 2 ^ UEXP := Nat.mul_pos h hU
  rw [← Int.natCast_mul] at h2
  generalize floatOfInt .f64 (n : Int) = y at *
  generalize n * 2 ^ UEXP = g at *
  unfold valI at h2
  have hg : isNeg y = false := by
    cases hs : isNeg y
    · rfl
    · rw [hs, sgn_t] at h2; omega
  rw [hg, sgn_f] at h2
  have h3 : mag (y % B63) = g := by omega
  refine ⟨h1, fun e => ?_, hg, h3⟩
  rw [e] at h3
  have : mag 0 = 0 := rfl
  omega
theorem RkAt.mean {t : Int} {k r : Nat} {m : Mt} (h : RkAt t k m) (h0 : k ≠ 0) (hk : k ≤ 60) (hr : MeanOf m r) : isN r = false ∧ valI m.le ≤ valI r ∧ valI r ≤ valI m.mo := by
  obtain ⟨f1, f2, f3, b1, b2⟩ := h.ends h0
  obtain ⟨q1, q2, q3⟩ := h.lo h0
  obtain ⟨q4, q5, q6⟩ := h.hi h0
  have hn := h.n
  rcases hr with ⟨h1, _⟩ | ⟨_, h1⟩
  · omega
  · rw [hn] at h1
    obtain ⟨g1, g2, g3, g4⟩ := small_parts k (by omega) hk
    have hq := arith_quo h1 h.sf g1 g2 g3
    rw [g4] at hq
    have hU := unit_pos
    have e : ∀ y : Int, y * ((k * 2 ^ UEXP : Nat) : Int) = y * (k : Int) * ((2 ^ UEXP : Nat) : Int) := fun y => by rw [Int.natCast_mul, ← Int.mul_assoc]
    exact ⟨hq.2.1, hq.ge b1 f1.num (by rw [e]; exact Int.mul_le_mul_of_nonneg_right q2 (by omega)), hq.le b2 f2.num (by rw [e]; exact Int.mul_le_mul_of_nonneg_right q5 (by omega))⟩
theorem rank_mono (l : List Nat) {x y : Nat} (h : x ≤ y) : rank l x ≤ rank l y := by
  unfold rank
  refine List.Sublist.length_le ?_
  induction l with
  | nil => exact List.Sublist.refl _
  | cons a r ih =>
    rw [List.filter_cons, List.filter_cons]
    by_cases h1 : a < x
    · rw [if_pos (by simpa using h1), if_pos (by simpa using (show a < y by omega))]
      exact ih.cons_cons _
    · rw [if_neg (by simpa using h1)]
      split
      · exact ih.cons _
      · exact ih
theorem RkAt.low {t : Int} {k : Nat} {m : Mt} (h : RkAt t k m) : rank m.ks (fkey m.le) = 0 := by
  unfold Go.Proofs.Ytpjlplkoiedhjaa.rank
  rw [List.length_eq_zero_iff, List.filter_eq_nil_iff]
  intro y hy
  have := (h.keys y hy).1
  simp; omega
theorem RkAt.high {t : Int} {k : Nat} {m : Mt} (h : RkAt t k m) : rank m.ks (fkey INF) = k := by
  unfold Go.Proofs.Ytpjlplkoiedhjaa.rank
  rw [List.filter_eq_self.2 (fun y hy => decide_eq_true (h.keys y hy).2)]
  exact h.len
end Go.Proofs.Ytpjlplkoiedhjaa
