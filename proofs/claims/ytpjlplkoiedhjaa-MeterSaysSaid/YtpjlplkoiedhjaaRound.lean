/-
  Rounding to a word, held against the words that there are.
-/
import Derived.Test.YtpjlplkoiedhjaaFloat
namespace Go.Shoal
open Go

section
theorem log2_lt {n : Nat} : n < 2 ^ (n.log2 + 1) := Nat.lt_log2_self
theorem log2_le {n : Nat} (h : 0 < n) : 2 ^ n.log2 ≤ n := Nat.log2_self_le (by omega)
theorem cut_le (s : Bool) (n d k : Nat) (h : n ≤ k * 2 ^ d) : Ieee.Toward.even.cut s n d ≤ k := by
  unfold Ieee.Toward.cut
  simp only [Nat.one_shiftLeft]
  by_cases hd : d ≤ n.log2 + 2
  · rw [Nat.min_eq_left hd]
    have hp := Nat.two_pow_pos d
    have e := Nat.div_add_mod n (2 ^ d)
    have hm := Nat.mod_lt n hp
    generalize 2 ^ d = G at *
    by_cases hk : n / G < k
    · have : ∀ b : Bool, b.toNat ≤ 1 := fun b => by cases b <;> decide
      have := this (decide (G < 2 * (n % G)) || (G == 2 * (n % G) && n / G % 2 == 1))
      omega
    · have h1 : k ≤ n / G := by omega
      have h2 : k * G ≤ G * (n / G) := by rw [Nat.mul_comm]; exact Nat.mul_le_mul_left _ h1
      have h3 : n % G = 0 := by omega
      have h4 : n / G = k := by
        have h5 : G * (n / G) ≤ G * k := by rw [Nat.mul_comm G k]; omega
        have := Nat.le_of_mul_le_mul_left h5 hp
        omega
      rw [h3, h4]
      have h6 : (decide (G < 2 * 0) || (G == 2 * 0 && k % 2 == 1)) = false := by
        have a : decide (G < 2 * 0) = false := decide_eq_false (by omega)
        have b : (G == 2 * 0) = false := beq_eq_false_iff_ne.2 (by omega)
        rw [a, b]; rfl
      rw [h6]
      exact Nat.le_refl _
  · rw [Nat.min_eq_right (by omega)]
    have hl := @log2_lt n
    have e1 : 2 ^ (n.log2 + 2) = 2 ^ (n.log2 + 1) * 2 := by rw [← Nat.pow_succ]
    generalize 2 ^ (n.log2 + 2) = G at *
    have h1 : n / G = 0 := Nat.div_eq_of_lt (by omega)
    have h2 : n % G = n := Nat.mod_eq_of_lt (by omega)
    rw [h1, h2]
    have a : decide (G < 2 * n) = false := decide_eq_false (by omega)
    have b : (G == 2 * n) = false := beq_eq_false_iff_ne.2 (by omega)
    rw [a, b]
    exact Nat.zero_le _
theorem cut_ge (s : Bool) (n d k : Nat) (h : k * 2 ^ d ≤ n) : k ≤ Ieee.Toward.even.cut s n d := by
  unfold Ieee.Toward.cut
  simp only [Nat.one_shiftLeft]
  by_cases hd : d ≤ n.log2 + 2
  · rw [Nat.min_eq_left hd]
    have h1 : k ≤ n / 2 ^ d := (Nat.le_div_iff_mul_le (Nat.two_pow_pos d)).2 h
    omega
  · have hl := @log2_lt n
    have h2 : 2 ^ (n.log2 + 1) ≤ 2 ^ d := Nat.pow_le_pow_right (by decide) (by omega)
    have h3 : k = 0 := by
      rcases Nat.eq_zero_or_pos k with h | hk
      · exact h
      · have : 1 * 2 ^ d ≤ k * 2 ^ d := Nat.mul_le_mul_right _ hk
        omega
    rw [h3]
    exact Nat.zero_le _
theorem mag_mult (r e : Nat) : (∃ j, mag r = j * 2 ^ e) ∨ mag r < B52 * 2 ^ e := by
  have hp := b52_pos
  have h1 := Nat.one_le_two_pow (n := e)
  unfold mag
  by_cases hr : r < B52
  · rw [if_pos hr]
    right
    calc r < B52 * 1 := by omega
      _ ≤ B52 * 2 ^ e := Nat.mul_le_mul_left _ h1
  · rw [if_neg hr]
    by_cases he : e ≤ r / B52 - 1
    · left
      refine ⟨(B52 + r % B52) * 2 ^ (r / B52 - 1 - e), ?_⟩
      rw [Nat.mul_assoc, ← Nat.pow_add]
      congr 2; omega
    · right
      have hm := Nat.mod_lt r hp
      have h2 : 2 ^ (r / B52 - 1) * 2 ≤ 2 ^ e := by rw [← Nat.pow_succ]; exact Nat.pow_le_pow_right (by decide) (by omega)
      have hq := Nat.two_pow_pos (r / B52 - 1)
      calc (B52 + r % B52) * 2 ^ (r / B52 - 1) < (B52 * 2) * 2 ^ (r / B52 - 1) := Nat.mul_lt_mul_of_pos_right (by omega) hq
        _ = B52 * (2 ^ (r / B52 - 1) * 2) := by rw [Nat.mul_assoc, Nat.mul_comm 2]
        _ ≤ B52 * 2 ^ e := Nat.mul_le_mul_left _ h2
theorem mag_of (e k : Nat) (h1 : k ≤ 2 * B52) (h2 : e = 0 ∨ B52 ≤ k) : mag (e * B52 + k) = k * 2 ^ e := by
  have hp := b52_pos
  unfold mag
  by_cases hk : k < B52
  · rcases h2 with rfl | h2
    · rw [if_pos (by omega)]; simp
    · omega
  · have hge : B52 ≤ e * B52 + k := by omega
    rw [if_neg (by omega)]
    by_cases ht : k = 2 * B52
    · subst ht
      have e1 : e * B52 + 2 * B52 = (e + 2) * B52 := by rw [Nat.add_mul]
      rw [e1, Nat.mul_div_cancel _ hp, Nat.mul_mod_left, Nat.add_zero, show e + 2 - 1 = e + 1 by omega, Nat.pow_succ, Nat.mul_comm 2 B52, Nat.mul_assoc, Nat.mul_comm 2]
    · obtain ⟨j, rfl⟩ : ∃ j, k = B52 + j := ⟨k - B52, by omega⟩
      have hj : j < B52 := by omega
      have e1 : e * B52 + (B52 + j) = j + (e + 1) * B52 := by rw [Nat.add_mul]; omega
      rw [e1, Nat.add_mul_div_right _ _ hp, Nat.add_mul_mod_self_right, Nat.div_eq_of_lt hj, Nat.mod_eq_of_lt hj, Nat.zero_add, Nat.add_sub_cancel]
/-- z is the word next to the magnitude that lies so against the rungs. -/
def IsRnd (s : Bool) (le ge : Nat → Prop) (z : Nat) : Prop :=
  ∃ R, R ≤ INF ∧ z = (if s then B63 + R else R) ∧ ∀ r, r ≤ INF → (le r → R ≤ r) ∧ (ge r → r ≤ R)
theorem nearest_rnd (s : Bool) (m : Nat) (p : Int) : IsRnd s (fun r => m * 2 ^ (p + 1074).toNat ≤ mag r * 2 ^ (-1074 - p).toNat) (fun r => mag r * 2 ^ (-1074 - p).toNat ≤ m * 2 ^ (p + 1074).toNat) (Ieee.double.nearest s m p) := by
  by_cases h0 : m = 0
  · subst h0
    refine ⟨0, Nat.zero_le _, rfl, fun r _ => ⟨fun _ => Nat.zero_le _, fun h => ?_⟩⟩
    rw [Nat.zero_mul] at h
    rcases Nat.eq_zero_or_pos r with hr | hr
    · omega
    · have := Nat.mul_pos (mag_pos hr) (Nat.two_pow_pos (-1074 - p).toNat)
      omega
  have hm : 0 < m := by omega
  obtain ⟨e, he⟩ : ∃ e : Nat, max (p + (m.log2 : Int) - 52) (-1074) = -1074 + (e : Int) := ⟨(max (p + (m.log2 : Int) - 52) (-1074) + 1074).toNat, by omega⟩
  have hz : Ieee.double.nearest s m p = (if s then B63 + min (e * B52 + Ieee.Toward.even.cut s (m * 2 ^ (p + 1074 - e).toNat) (e - 1074 - p).toNat) INF else min (e * B52 + Ieee.Toward.even.cut s (m * 2 ^ (p + 1074 - e).toNat) (e - 1074 - p).toNat) INF) := by
    unfold Ieee.Format.nearest
    rw [if_neg h0]
    show Ieee.double.word s (min ((max (p + (m.log2 : Int) - 52) (-1074) - (-1074)).toNat * B52 + Ieee.Toward.even.cut s (m <<< (p - max (p + (m.log2 : Int) - 52) (-1074)).toNat) (max (p + (m.log2 : Int) - 52) (-1074) - p).toNat) INF) = _
    rw [he, Nat.shiftLeft_eq]
    rw [show (-1074 + (e : Int) - -1074).toNat = e by omega, show (p - (-1074 + (e : Int))).toNat = (p + 1074 - e).toNat by omega, show (-1074 + (e : Int) - p).toNat = (e - 1074 - p).toNat by omega]
    rfl
  rw [hz]
  obtain ⟨n, hn⟩ : ∃ n, n = m * 2 ^ (p + 1074 - e).toNat := ⟨_, rfl⟩
  obtain ⟨d, hd⟩ : ∃ d, d = (e - 1074 - p).toNat := ⟨_, rfl⟩
  rw [← hn, ← hd]
  have hl := @log2_lt m
  have hg := log2_le hm
  have hb : B52 = 2 ^ 52 := rfl
  have hup : n ≤ 2 * B52 * 2 ^ d := by
    have e1 : 2 * B52 * 2 ^ d = 2 ^ (53 + d) := by rw [hb, Nat.pow_add, show (2 : Nat) ^ 53 = 2 * 2 ^ 52 from rfl]
    rw [e1, hn]
    calc m * 2 ^ (p + 1074 - e).toNat ≤ 2 ^ (m.log2 + 1) * 2 ^ (p + 1074 - e).toNat := Nat.mul_le_mul_right _ (Nat.le_of_lt hl)
      _ = 2 ^ (m.log2 + 1 + (p + 1074 - e).toNat) := by rw [← Nat.pow_add]
      _ ≤ 2 ^ (53 + d) := Nat.pow_le_pow_right (by decide) (by omega)
  have hlow : e = 0 ∨ B52 * 2 ^ d ≤ n := by
    by_cases h : e = 0
    · exact .inl h
    · right
      have e1 : B52 * 2 ^ d = 2 ^ (52 + d) := by rw [hb, Nat.pow_add]
      rw [e1, hn]
      calc 2 ^ (52 + d) ≤ 2 ^ (m.log2 + (p + 1074 - e).toNat) := Nat.pow_le_pow_right (by decide) (by omega)
        _ = 2 ^ m.log2 * 2 ^ (p + 1074 - e).toNat := by rw [Nat.pow_add]
        _ ≤ m * 2 ^ (p + 1074 - e).toNat := Nat.mul_le_mul_right _ hg
  have hk1 : Ieee.Toward.even.cut s n d ≤ 2 * B52 := cut_le s n d _ hup
  have hk2 : e = 0 ∨ B52 ≤ Ieee.Toward.even.cut s n d := hlow.imp id (cut_ge s n d _)
  have hmag := mag_of e _ hk1 hk2
  -- m * 2^(p+1074) / 2^(-1074-p) = n * 2^e / 2^d
  have hx : ∀ v, (m * 2 ^ (p + 1074).toNat ≤ v * 2 ^ (-1074 - p).toNat ↔ n * 2 ^ e ≤ v * 2 ^ d) ∧ (v * 2 ^ (-1074 - p).toNat ≤ m * 2 ^ (p + 1074).toNat ↔ v * 2 ^ d ≤ n * 2 ^ e) := by
    intro v
    by_cases hpe : (e : Int) ≤ p + 1074
    · have a1 : (-1074 - p).toNat = 0 := by omega
      have a2 : d = 0 := by omega
      have a3 : n * 2 ^ e = m * 2 ^ (p + 1074).toNat := by rw [hn, Nat.mul_assoc, ← Nat.pow_add]; congr 2; omega
      rw [a1, a2, a3]
      exact ⟨Iff.rfl, Iff.rfl⟩
    · have a0 : (p + 1074 - e).toNat = 0 := by omega
      rw [a0, Nat.pow_zero, Nat.mul_one] at hn
      rw [hn]
      -- both sides by 2^c
      have a1 : 2 ^ e = 2 ^ (p + 1074).toNat * 2 ^ (e - (p + 1074).toNat) := by rw [← Nat.pow_add]; congr 1; omega
      have a2 : 2 ^ d = 2 ^ (-1074 - p).toNat * 2 ^ (e - (p + 1074).toNat) := by rw [← Nat.pow_add]; congr 1; omega
      have hc := Nat.two_pow_pos (e - (p + 1074).toNat)
      rw [a1, a2, ← Nat.mul_assoc, ← Nat.mul_assoc]
      exact ⟨⟨fun h => Nat.mul_le_mul_right _ h, fun h => Nat.le_of_mul_le_mul_right h hc⟩, ⟨fun h => Nat.mul_le_mul_right _ h, fun h => Nat.le_of_mul_le_mul_right h hc⟩⟩
  generalize hK : Ieee.Toward.even.cut s n d = K at *
  have hpe := Nat.two_pow_pos e
  have hpd := Nat.two_pow_pos d
  refine ⟨min (e * B52 + K) INF, Nat.min_le_right _ _, rfl, fun r hr => ⟨fun h => ?_, fun h => ?_⟩⟩
  · have h := (hx (mag r)).1.1 h
    rcases Nat.lt_or_ge r (e * B52 + K) with hlt | hge
    · exfalso
      have hm1 := mag_lt hlt
      rw [hmag] at hm1
      rcases mag_mult r e with ⟨j, hj⟩ | hj
      · rw [hj] at hm1 h
        have j1 := Nat.lt_of_mul_lt_mul_right hm1
        have j2 : n ≤ j * 2 ^ d := by
          have h5 : n * 2 ^ e ≤ j * 2 ^ d * 2 ^ e := by rw [Nat.mul_assoc, Nat.mul_comm (2 ^ d), ← Nat.mul_assoc]; exact h
          exact Nat.le_of_mul_le_mul_right h5 hpe
        have := cut_le s n d j j2
        omega
      · rcases hlow with rfl | hlow
        · rw [Nat.pow_zero, Nat.mul_one] at h hj hm1
          have := cut_le s n d (mag r) h
          omega
        · have h5 : B52 * 2 ^ d * 2 ^ e ≤ n * 2 ^ e := Nat.mul_le_mul_right _ hlow
          have h6 : mag r * 2 ^ d < B52 * 2 ^ e * 2 ^ d := Nat.mul_lt_mul_of_pos_right hj hpd
          rw [Nat.mul_assoc, Nat.mul_comm (2 ^ d), ← Nat.mul_assoc] at h5
          omega
    · exact Nat.le_trans (Nat.min_le_left _ _) hge
  · have h := (hx (mag r)).2.1 h
    refine Nat.le_min.2 ⟨?_, hr⟩
    rcases Nat.lt_or_ge (e * B52 + K) r with hlt | hge
    · exfalso
      have hm1 := mag_lt hlt
      rw [hmag] at hm1
      rcases mag_mult r e with ⟨j, hj⟩ | hj
      · rw [hj] at hm1 h
        have j1 := Nat.lt_of_mul_lt_mul_right hm1
        have j2 : j * 2 ^ d ≤ n := by
          have h5 : j * 2 ^ d * 2 ^ e ≤ n * 2 ^ e := by rw [Nat.mul_assoc, Nat.mul_comm (2 ^ d), ← Nat.mul_assoc]; exact h
          exact Nat.le_of_mul_le_mul_right h5 hpe
        have := cut_ge s n d j j2
        omega
      · rcases hk2 with rfl | hk2
        · rw [Nat.pow_zero, Nat.mul_one] at h hm1
          have := cut_ge s n d (mag r) h
          omega
        · have h5 : B52 * 2 ^ e ≤ K * 2 ^ e := Nat.mul_le_mul_right _ hk2
          omega
    · exact hge
end
end Go.Shoal
