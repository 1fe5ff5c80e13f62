/-
  What the operations on floats give, held against all words.
-/
import Derived.Test.YtpjlplkoiedhjaaRound
namespace Go.Shoal
open Go

/-- The least word's place. -/
def UEXP : Nat := 1074
/-- z is the word next to T / D. -/
def Rd (T : Int) (D : Nat) (z : Nat) : Prop :=
  z < B64 ∧ isN z = false ∧ ∀ r, r < B64 → isN r = false → (T ≤ valI r * (D : Int) → valI z ≤ valI r) ∧ (valI r * (D : Int) ≤ T → valI r ≤ valI z)
theorem word_parts {R : Nat} (s : Bool) (h : R ≤ INF) : (if s then B63 + R else R) < B64 ∧ isN (if s then B63 + R else R) = false ∧ valI (if s then B63 + R else R) = sgn s (mag R) := by
  have h1 := inf_lt
  have h2 := b63_two
  cases s
  · rw [if_neg (by decide)]
    refine ⟨by omega, ?_, ?_⟩
    · unfold isN; rw [mod_low (by omega)]; exact decide_eq_false (by omega)
    · unfold valI; rw [mod_low (by omega), isNeg_low (by omega)]
  · rw [if_pos rfl]
    have e : (B63 + R) % B63 = R := by rw [mod_high (by omega) (by omega)]; omega
    refine ⟨by omega, ?_, ?_⟩
    · unfold isN; rw [e]; exact decide_eq_false (by omega)
    · unfold valI; rw [e, isNeg_high (by omega) (by omega)]
theorem rd_of_rnd {s : Bool} {M D z : Nat} (hD : 0 < D) (h : IsRnd s (fun r => M ≤ mag r * D) (fun r => mag r * D ≤ M) z) : Rd (sgn s M) D z := by
  obtain ⟨R, hR, rfl, hr⟩ := h
  obtain ⟨w1, w2, w3⟩ := word_parts s hR
  refine ⟨w1, w2, fun r hb hn => ?_⟩
  rw [w3]
  have hrI : r % B63 ≤ INF := by have := of_decide_eq_false hn; omega
  obtain ⟨k1, k2⟩ := hr _ hrI
  have m1 : M ≤ mag (r % B63) * D → mag R ≤ mag (r % B63) := fun h => mag_le (k1 h)
  have m2 : mag (r % B63) * D ≤ M → mag (r % B63) ≤ mag R := fun h => mag_le (k2 h)
  have z1 : M = 0 → mag R = 0 := fun h => by
    have := (hr 0 (Nat.zero_le _)).1 (by rw [h]; exact Nat.zero_le _)
    have e : R = 0 := by omega
    rw [e]; rfl
  have z2 : mag (r % B63) * D = 0 → mag (r % B63) = 0 := fun h => by
    rcases Nat.mul_eq_zero.1 h with h | h
    · exact h
    · omega
  unfold valI
  generalize mag (r % B63) = a at *
  generalize mag R = c at *
  rw [sgn_mul]
  have e0 : ((a * D : Nat) : Int) = ((a * D : Nat) : Int) := rfl
  generalize a * D = p at *
  cases isNeg r <;> cases s <;> simp only [sgn, Bool.false_eq_true, if_false, if_true]
  · omega
  · refine ⟨fun _ => by omega, fun h => ?_⟩
    have h3 : M = 0 := by omega
    have h4 : p = 0 := by omega
    have := z1 h3
    have := z2 h4
    omega
  · refine ⟨fun h => ?_, fun _ => by omega⟩
    have h3 : M = 0 := by omega
    have h4 : p = 0 := by omega
    have := z1 h3
    have := z2 h4
    omega
  · omega
theorem rd_nearest (s : Bool) (m : Nat) (p : Int) : Rd (sgn s (m * 2 ^ (p + 1074).toNat)) (2 ^ (-1074 - p).toNat) (Ieee.double.nearest s m p) :=
  rd_of_rnd (Nat.two_pow_pos _) (nearest_rnd s m p)
/-- A result that there is a word for. -/
theorem Rd.exact {T : Int} {D z r : Nat} (h : Rd T D z) (hb : r < B64) (hn : isN r = false) (he : T = valI r * (D : Int)) : valI z = valI r := by
  have := h.2.2 r hb hn
  exact Int.le_antisymm (this.1 (Int.le_of_eq he)) (this.2 (Int.le_of_eq he.symm))
theorem Rd.le {T : Int} {D z r : Nat} (h : Rd T D z) (hb : r < B64) (hn : isN r = false) (he : T ≤ valI r * (D : Int)) : valI z ≤ valI r := (h.2.2 r hb hn).1 he
theorem Rd.ge {T : Int} {D z r : Nat} (h : Rd T D z) (hb : r < B64) (hn : isN r = false) (he : valI r * (D : Int) ≤ T) : valI r ≤ valI z := (h.2.2 r hb hn).2 he
/-- A number that has an end. -/
def isF (b : Nat) : Prop := b % B63 < INF
theorem isF.num {b : Nat} (h : isF b) : isN b = false := decide_eq_false (by unfold isF at h; omega)
theorem sgn_natAbs (t : Int) (b : Bool) (h : t ≠ 0 → b = decide (t < 0)) (k : Nat) : sgn b (t.natAbs * k) = t * (k : Int) := by
  by_cases h0 : t = 0
  · subst h0
    simp [sgn]
  · rw [h h0]
    unfold sgn
    by_cases hn : t < 0
    · rw [if_pos (decide_eq_true hn)]
      have : (t.natAbs : Int) = -t := by omega
      rw [Int.natCast_mul, this, Int.neg_mul, Int.neg_neg]
    · rw [if_neg (by simpa using hn)]
      have : (t.natAbs : Int) = t := by omega
      rw [Int.natCast_mul, this]
theorem sum_rd (s t : Bool) (m n e f : Nat) : ∃ z, ((Ieee.Datum.number s m (-1074 + (e : Int))).sum (.number t n (-1074 + (f : Int)))).map Ieee.double.write = some z ∧ Rd (sgn s (m * 2 ^ e) + sgn t (n * 2 ^ f)) 1 z := by
  have hb : (min (-1074 + (e : Int)) (-1074 + (f : Int)) : Int) = -1074 + ((min e f : Nat) : Int) := by omega
  obtain ⟨q, hq⟩ : ∃ q : Int, q = Ieee.signed s m (-1074 + (e : Int) - (-1074 + ((min e f : Nat) : Int))).toNat + Ieee.signed t n (-1074 + (f : Int) - (-1074 + ((min e f : Nat) : Int))).toNat := ⟨_, rfl⟩
  have h1 : ((Ieee.Datum.number s m (-1074 + (e : Int))).sum (.number t n (-1074 + (f : Int)))) = some (.number (if q = 0 then s && t else decide (q < 0)) q.natAbs (-1074 + ((min e f : Nat) : Int))) := by
    rw [hq, ← hb]; rfl
  refine ⟨Ieee.double.nearest (if q = 0 then s && t else decide (q < 0)) q.natAbs (-1074 + ((min e f : Nat) : Int)), by rw [h1]; rfl, ?_⟩
  have h2 := rd_nearest (if q = 0 then s && t else decide (q < 0)) q.natAbs (-1074 + ((min e f : Nat) : Int))
  rw [show (-1074 + ((min e f : Nat) : Int) + 1074).toNat = min e f by omega, show (-1074 - (-1074 + ((min e f : Nat) : Int))).toNat = 0 by omega, Nat.pow_zero, sgn_natAbs q _ (fun h => by rw [if_neg h])] at h2
  have h3 : q * ((2 ^ min e f : Nat) : Int) = sgn s (m * 2 ^ e) + sgn t (n * 2 ^ f) := by
    rw [hq, signed_eq, signed_eq, Int.add_mul, sgn_mul, sgn_mul]
    have p1 : m * 2 ^ (-1074 + (e : Int) - (-1074 + ((min e f : Nat) : Int))).toNat * 2 ^ min e f = m * 2 ^ e := by
      rw [Nat.mul_assoc, ← Nat.pow_add]; congr 2; omega
    have p2 : n * 2 ^ (-1074 + (f : Int) - (-1074 + ((min e f : Nat) : Int))).toNat * 2 ^ min e f = n * 2 ^ f := by
      rw [Nat.mul_assoc, ← Nat.pow_add]; congr 2; omega
    rw [p1, p2]
  rw [h3] at h2
  exact h2
theorem add_rd {x y : Nat} (hx : isF x) (hy : isF y) : ∃ z, floatBits .add .f64 x y = some z ∧ Rd (valI x + valI y) 1 z := by
  obtain ⟨m, e, h1, h2, _⟩ := read_fin hx
  obtain ⟨n, f, k1, k2, _⟩ := read_fin hy
  obtain ⟨z, hz, hr⟩ := sum_rd (isNeg x) (isNeg y) m n e f
  refine ⟨z, ?_, ?_⟩
  · show ((Ieee.double.read x).sum (Ieee.double.read y)).map Ieee.double.write = some z
    rw [h1, k1]; exact hz
  · unfold valI; rw [← h2, ← k2]; exact hr
theorem sub_rd {x y : Nat} (hx : isF x) (hy : isF y) : ∃ z, floatBits .sub .f64 x y = some z ∧ Rd (valI x - valI y) 1 z := by
  obtain ⟨m, e, h1, h2, _⟩ := read_fin hx
  obtain ⟨n, f, k1, k2, _⟩ := read_fin hy
  obtain ⟨z, hz, hr⟩ := sum_rd (isNeg x) (!isNeg y) m n e f
  refine ⟨z, ?_, ?_⟩
  · show ((Ieee.double.read x).sum (Ieee.double.read y).opposite).map Ieee.double.write = some z
    rw [h1, k1]; exact hz
  · have e1 : sgn (!isNeg y) (n * 2 ^ f) = - sgn (isNeg y) (n * 2 ^ f) := by cases isNeg y <;> simp [sgn]
    rw [e1] at hr
    unfold valI; rw [← h2, ← k2, Int.sub_eq_add_neg]; exact hr
/-- What is left over tells on which side of whole numbers a quotient lies. -/
theorem sticky_le {N n k : Nat} (hn : 0 < n) : (k * n ≤ N ↔ 2 * k ≤ 2 * (N / n) + (N % n != 0).toNat) ∧ (N ≤ k * n ↔ 2 * (N / n) + (N % n != 0).toNat ≤ 2 * k) := by
  have e := Nat.div_add_mod N n
  have hm := Nat.mod_lt N hn
  have h1 : k ≤ N / n ↔ k * n ≤ N := Nat.le_div_iff_mul_le hn
  have h2 : N / n ≤ k ↔ N < (k + 1) * n := by rw [← Nat.div_lt_iff_lt_mul hn]; omega
  have hb : (N % n != 0).toNat = if N % n = 0 then 0 else 1 := by
    by_cases h : N % n = 0
    · rw [if_pos h, h]; rfl
    · rw [if_neg h]
      have : (N % n != 0) = true := by simpa using h
      rw [this]; rfl
  rw [hb]
  by_cases h : N % n = 0
  · rw [if_pos h]
    rw [h, Nat.add_zero] at e
    refine ⟨by rw [← h1]; omega, ?_⟩
    constructor
    · intro hk
      have : N / n ≤ k := by
        rw [Nat.div_le_iff_le_mul_add_pred hn, Nat.mul_comm]
        omega
      omega
    · intro hk
      have h3 : N / n ≤ k := by omega
      have := Nat.mul_le_mul_left n h3
      rw [Nat.mul_comm k n]; omega
  · rw [if_neg h]
    refine ⟨by rw [← h1]; omega, ?_⟩
    constructor
    · intro hk
      have h4 : N / n < k := by
        rw [Nat.div_lt_iff_lt_mul hn]
        rcases Nat.lt_or_ge N (k * n) with h5 | h5
        · exact h5
        · exfalso
          have h6 : N = k * n := by omega
          rw [h6, Nat.mul_mod_left] at h
          exact h rfl
      omega
    · intro hk
      have h3 : N / n + 1 ≤ k := by omega
      have h4 := Nat.mul_le_mul_left n h3
      rw [Nat.mul_add, Nat.mul_one] at h4
      rw [Nat.mul_comm k n]; omega
theorem IsRnd.of {s : Bool} {le ge le' ge' : Nat → Prop} {z : Nat} (h : IsRnd s le ge z) (h1 : ∀ r, le' r → le r) (h2 : ∀ r, ge' r → ge r) : IsRnd s le' ge' z := by
  obtain ⟨R, a, b, c⟩ := h
  exact ⟨R, a, b, fun r hr => ⟨fun k => (c r hr).1 (h1 r k), fun k => (c r hr).2 (h2 r k)⟩⟩
theorem pow_le_iff {a b k : Nat} : a ≤ b ↔ a * 2 ^ k ≤ b * 2 ^ k := ⟨fun h => Nat.mul_le_mul_right _ h, fun h => Nat.le_of_mul_le_mul_right h (Nat.two_pow_pos k)⟩
theorem quo_cmp (m n e f r : Nat) (hm : 0 < m) (hn : 0 < n) (more N Q : Nat) (hmore : more = 54 + n.log2 - m.log2) (hN : N = m * 2 ^ more) (hQ : Q = 2 * (N / n) + (N % n != 0).toNat) (p : Int) (hp : p = (e : Int) - f - more - 1) :
    (m * 2 ^ e * 2 ^ UEXP ≤ mag r * (n * 2 ^ f) → Q * 2 ^ (p + 1074).toNat ≤ mag r * 2 ^ (-1074 - p).toNat) ∧ (mag r * (n * 2 ^ f) ≤ m * 2 ^ e * 2 ^ UEXP → mag r * 2 ^ (-1074 - p).toNat ≤ Q * 2 ^ (p + 1074).toNat) := by
  obtain ⟨v, hv⟩ : ∃ v, v = mag r := ⟨_, rfl⟩
  have hU : UEXP = 1074 := rfl
  rw [← hv]
  by_cases hc : p + 1 + 1074 ≤ 0
  · obtain ⟨d, hd⟩ : ∃ d : Nat, d = (-(p + 1 + 1074)).toNat := ⟨_, rfl⟩
    obtain ⟨s1, s2⟩ := @sticky_le N n (v * 2 ^ d) hn
    rw [← hQ] at s1 s2
    have a0 : (p + 1074).toNat = 0 := by omega
    have b0 : (-1074 - p).toNat = d + 1 := by omega
    rw [a0, b0, Nat.pow_zero, Nat.mul_one]
    have q1 : v * 2 ^ (d + 1) = 2 * (v * 2 ^ d) := by rw [Nat.pow_succ, ← Nat.mul_assoc, Nat.mul_comm]
    rw [q1]
    have g1 : m * 2 ^ e * 2 ^ UEXP * 2 ^ more = N * 2 ^ (e + UEXP) := by
      rw [hN, Nat.pow_add]; generalize 2 ^ UEXP = u; simp only [Nat.mul_assoc, Nat.mul_comm, Nat.mul_left_comm]
    have g2 : v * (n * 2 ^ f) * 2 ^ more = v * 2 ^ d * n * 2 ^ (e + UEXP) := by
      have : 2 ^ f * 2 ^ more = 2 ^ d * 2 ^ (e + UEXP) := by rw [← Nat.pow_add, ← Nat.pow_add]; congr 1; omega
      calc v * (n * 2 ^ f) * 2 ^ more = v * n * (2 ^ f * 2 ^ more) := by simp only [Nat.mul_assoc]
        _ = v * n * (2 ^ d * 2 ^ (e + UEXP)) := by rw [this]
        _ = v * 2 ^ d * n * 2 ^ (e + UEXP) := by simp only [Nat.mul_assoc, Nat.mul_comm]
    constructor
    · intro h
      rw [@pow_le_iff _ _ more, g1, g2, ← pow_le_iff] at h
      exact s2.1 h
    · intro h
      rw [@pow_le_iff _ _ more, g1, g2, ← pow_le_iff] at h
      exact s1.1 h
  · obtain ⟨c, hc2⟩ : ∃ c : Nat, p + 1 + 1074 = (c : Int) + 1 := ⟨(p + 1074).toNat, by omega⟩
    have a0 : (p + 1074).toNat = c := by omega
    have b0 : (-1074 - p).toNat = 0 := by omega
    rw [a0, b0, Nat.pow_zero, Nat.mul_one]
    have g1 : m * 2 ^ e * 2 ^ UEXP = N * (2 ^ (c + 1) * 2 ^ f) := by
      have : 2 ^ e * 2 ^ UEXP = 2 ^ more * (2 ^ (c + 1) * 2 ^ f) := by rw [← Nat.pow_add, ← Nat.pow_add, ← Nat.pow_add]; congr 1; omega
      rw [Nat.mul_assoc, this, hN, Nat.mul_assoc]
    rw [g1]
    have e2 : 2 ^ (c + 1) = 2 * 2 ^ c := by rw [Nat.pow_succ, Nat.mul_comm]
    rcases mag_mult r (c + 1) with ⟨j, hj⟩ | hj
    · rw [← hv] at hj
      obtain ⟨s1, s2⟩ := @sticky_le N n j hn
      rw [← hQ] at s1 s2
      have g2 : v * (n * 2 ^ f) = j * n * (2 ^ (c + 1) * 2 ^ f) := by rw [hj]; simp only [Nat.mul_assoc, Nat.mul_comm, Nat.mul_left_comm]
      have g3 : v = 2 * j * 2 ^ c := by rw [hj, e2]; simp only [Nat.mul_assoc, Nat.mul_comm]
      rw [g2, g3, ← Nat.pow_add]
      constructor
      · intro h
        exact pow_le_iff.1 (s2.1 (pow_le_iff.2 h))
      · intro h
        exact pow_le_iff.1 (s1.1 (pow_le_iff.2 h))
    · rw [← hv] at hj
      have hlm := log2_le hm
      have hln := @log2_lt n
      have hb : B52 * n ≤ N := by
        have h1 : 2 ^ (54 + n.log2) ≤ N := by
          rw [hN]
          calc 2 ^ (54 + n.log2) ≤ 2 ^ (m.log2 + more) := Nat.pow_le_pow_right (by decide) (by omega)
            _ = 2 ^ m.log2 * 2 ^ more := by rw [Nat.pow_add]
            _ ≤ m * 2 ^ more := Nat.mul_le_mul_right _ hlm
        have h2 : B52 * n ≤ 2 ^ 52 * 2 ^ (n.log2 + 1) := Nat.mul_le_mul_left _ (Nat.le_of_lt hln)
        have h3 : 2 ^ 52 * 2 ^ (n.log2 + 1) ≤ 2 ^ (54 + n.log2) := by rw [← Nat.pow_add]; exact Nat.pow_le_pow_right (by decide) (by omega)
        omega
      have hq : B52 ≤ N / n := (Nat.le_div_iff_mul_le hn).2 hb
      constructor
      · intro h
        exfalso
        have h1 : v * (n * 2 ^ f) < B52 * 2 ^ (c + 1) * (n * 2 ^ f) := Nat.mul_lt_mul_of_pos_right hj (Nat.mul_pos hn (Nat.two_pow_pos f))
        have h2 : B52 * 2 ^ (c + 1) * (n * 2 ^ f) = B52 * n * (2 ^ (c + 1) * 2 ^ f) := by simp only [Nat.mul_assoc, Nat.mul_comm, Nat.mul_left_comm]
        have h3 : B52 * n * (2 ^ (c + 1) * 2 ^ f) ≤ N * (2 ^ (c + 1) * 2 ^ f) := Nat.mul_le_mul_right _ hb
        omega
      · intro _
        have h1 : 2 * B52 * 2 ^ c ≤ Q * 2 ^ c := Nat.mul_le_mul_right _ (by omega)
        have h2 : B52 * 2 ^ (c + 1) = 2 * B52 * 2 ^ c := by rw [e2]; simp only [Nat.mul_assoc, Nat.mul_comm]
        omega
theorem div_rd {x y : Nat} (hx : isF x) (hy : isF y) (h0 : y % B63 ≠ 0) : ∃ z, floatBits .quo .f64 x y = some z ∧ Rd (sgn (isNeg x ^^ isNeg y) (mag (x % B63) * 2 ^ UEXP)) (mag (y % B63)) z := by
  obtain ⟨m, e, h1, h2, _⟩ := read_fin hx
  obtain ⟨n, f, k1, k2, _⟩ := read_fin hy
  have hy0 : 0 < mag (y % B63) := mag_pos (by omega)
  have hn : 0 < n := by
    rcases Nat.eq_zero_or_pos n with h | h
    · rw [h, Nat.zero_mul] at k2; omega
    · exact h
  obtain ⟨more, hmore⟩ : ∃ more, more = 54 + n.log2 - m.log2 := ⟨_, rfl⟩
  obtain ⟨N, hN⟩ : ∃ N, N = m * 2 ^ more := ⟨_, rfl⟩
  obtain ⟨Q, hQ⟩ : ∃ Q, Q = 2 * (N / n) + (N % n != 0).toNat := ⟨_, rfl⟩
  obtain ⟨p, hp⟩ : ∃ p : Int, p = (e : Int) - f - more - 1 := ⟨_, rfl⟩
  have hz : floatBits .quo .f64 x y = some (Ieee.double.nearest (isNeg x ^^ isNeg y) Q p) := by
    show ((Ieee.double.read x).quotient 54 (Ieee.double.read y)).map Ieee.double.write = _
    rw [h1, k1]
    show ((if n = 0 then _ else some (Ieee.Datum.number (isNeg x ^^ isNeg y) (2 * ((m <<< (54 + n.log2 - m.log2)) / n) + ((m <<< (54 + n.log2 - m.log2)) % n != 0).toNat) (-1074 + (e : Int) - (-1074 + (f : Int)) - ((54 + n.log2 - m.log2 : Nat) : Int) - 1)) : Option Ieee.Datum)).map Ieee.double.write = _
    rw [if_neg (by omega), ← hmore, Nat.shiftLeft_eq, ← hN, ← hQ, show -1074 + (e : Int) - (-1074 + (f : Int)) - (more : Int) - 1 = p by omega]
    rfl
  refine ⟨_, hz, ?_⟩
  rw [← h2, ← k2]
  rcases Nat.eq_zero_or_pos m with hm | hm
  · have hN0 : N = 0 := by rw [hN, hm, Nat.zero_mul]
    have hQ0 : Q = 0 := by rw [hQ, hN0, Nat.zero_div, Nat.zero_mod]; rfl
    refine rd_of_rnd (Nat.mul_pos hn (Nat.two_pow_pos f)) ?_
    rw [hQ0, hm, Nat.zero_mul, Nat.zero_mul]
    refine ⟨0, Nat.zero_le _, rfl, fun r _ => ⟨fun _ => Nat.zero_le _, fun h => ?_⟩⟩
    rcases Nat.eq_zero_or_pos r with hr | hr
    · omega
    · have := Nat.mul_pos (mag_pos hr) (Nat.mul_pos hn (Nat.two_pow_pos f))
      omega
  · refine rd_of_rnd (Nat.mul_pos hn (Nat.two_pow_pos f)) ?_
    exact (nearest_rnd (isNeg x ^^ isNeg y) Q p).of (fun r => (quo_cmp m n e f r hm hn more N Q hmore hN hQ p hp).1) (fun r => (quo_cmp m n e f r hm hn more N Q hmore hN hQ p hp).2)
/-- There is a rung for every number of few digits. -/
theorem rung_of (k e : Nat) (hk : k ≤ B52) (he : e ≤ 2000) : ∃ r, r < INF ∧ mag r = k * 2 ^ e := by
  have hp := b52_pos
  have hI : INF = 2047 * B52 := rfl
  rcases Nat.eq_zero_or_pos k with h0 | h0
  · exact ⟨0, by decide, by rw [h0, Nat.zero_mul]; rfl⟩
  have l1 := log2_le h0
  have l2 := @log2_lt k
  have hb : B52 = 2 ^ 52 := rfl
  have hl : k.log2 ≤ 52 := by
    rcases Nat.lt_or_ge 52 k.log2 with h | h
    · have : 2 ^ 53 ≤ 2 ^ k.log2 := Nat.pow_le_pow_right (by decide) h
      rw [hb] at hk
      omega
    · exact h
  obtain ⟨d, hd⟩ : ∃ d, d = min e (52 - k.log2) := ⟨_, rfl⟩
  have hu : k * 2 ^ d ≤ 2 * B52 := by
    calc k * 2 ^ d ≤ 2 ^ (k.log2 + 1) * 2 ^ (52 - k.log2) := Nat.mul_le_mul (Nat.le_of_lt l2) (Nat.pow_le_pow_right (by decide) (by omega))
      _ = 2 ^ 53 := by rw [← Nat.pow_add]; congr 1; omega
  have hlo : e - d = 0 ∨ B52 ≤ k * 2 ^ d := by
    rcases Nat.lt_or_ge (52 - k.log2) e with h | h
    · right
      have : d = 52 - k.log2 := by omega
      rw [this, hb]
      calc 2 ^ 52 = 2 ^ k.log2 * 2 ^ (52 - k.log2) := by rw [← Nat.pow_add]; congr 1; omega
        _ ≤ k * 2 ^ (52 - k.log2) := Nat.mul_le_mul_right _ l1
    · left; omega
  refine ⟨(e - d) * B52 + k * 2 ^ d, ?_, ?_⟩
  · rw [hI]
    have h1 : (e - d) * B52 ≤ 2000 * B52 := Nat.mul_le_mul_right _ (by omega)
    have h2 : (2047 : Nat) * B52 = 2000 * B52 + 47 * B52 := by rw [← Nat.add_mul]
    have h3 : 2 * B52 < 47 * B52 := Nat.mul_lt_mul_of_pos_right (by decide) hp
    omega
  · rw [mag_of _ _ hu hlo, Nat.mul_assoc, ← Nat.pow_add]
    congr 2; omega
/-- There is a word for every whole number of few digits. -/
theorem word_of (t : Int) (e : Nat) (ht : t.natAbs ≤ B52) (he : e ≤ 2000) : ∃ r, r < B64 ∧ isF r ∧ valI r = t * ((2 ^ e : Nat) : Int) := by
  obtain ⟨r, h1, h2⟩ := rung_of t.natAbs e ht he
  obtain ⟨w1, w2, w3⟩ := word_parts (decide (t < 0)) (Nat.le_of_lt h1)
  refine ⟨_, w1, ?_, by rw [w3, h2, sgn_natAbs t _ (fun _ => rfl)]⟩
  unfold isF
  have := inf_lt
  have := b63_two
  cases decide (t < 0)
  · rw [if_neg (by decide), mod_low (by omega)]; exact h1
  · rw [if_pos rfl, mod_high (by omega) (by omega)]; omega
/-- A whole number as a float. -/
theorem ofInt_rd (t : Int) : Rd (t * ((2 ^ UEXP : Nat) : Int)) 1 (floatOfInt .f64 t) := by
  have h := rd_nearest (decide (t < 0)) t.natAbs 0
  rw [sgn_natAbs t _ (fun _ => rfl), show ((0 : Int) + 1074).toNat = UEXP from rfl, show ((-1074 : Int) - 0).toNat = 0 from rfl, Nat.pow_zero] at h
  exact h
end Go.Shoal
