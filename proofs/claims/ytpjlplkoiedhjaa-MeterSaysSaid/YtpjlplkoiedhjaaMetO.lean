/-
  Numbers' order and their keys; a meter of one number again and again.
-/
import Derived.Test.YtpjlplkoiedhjaaMetM
namespace Go.Proofs.Ytpjlplkoiedhjaa
open Go.RowKit Go.Shoal

theorem isF_of {x : Nat} (h : isN x = false) (hi : isI x = false) : isF x := by
  have h1 := not_nan h
  have h2 := beq_eq_false_iff_ne.1 hi
  unfold isF; omega
theorem _root_.Go.Shoal.isF.notI {x : Nat} (h : isF x) : isI x = false := beq_eq_false_iff_ne.2 (by unfold isF at h; omega)
theorem key_top {a : Nat} (ha : a < B64) (hn : isN a = false) (h : a ≠ INF) : fkey a < fkey INF := by
  have h1 := inf_is
  have h2 := b63_is
  have h3 := b64_is
  have h4 := not_nan hn
  have e : fkey INF = INF + B63 := by decide
  rw [e]
  unfold fkey
  rw [if_neg (by rw [hn]; decide)]
  split
  · rename_i hl
    rw [mod_low hl] at h4
    omega
  · omega
theorem key_bot {a : Nat} (ha : a < B64) (hn : isN a = false) (h : a ≠ INF + B63) : fkey (INF + B63) < fkey a := by
  have h1 := inf_is
  have h2 := b63_is
  have h3 := b64_is
  have h4 := not_nan hn
  have e : fkey (INF + B63) = B64 - 1 - (INF + B63) := by decide
  rw [e]
  unfold fkey
  rw [if_neg (by rw [hn]; decide)]
  split
  · omega
  · rename_i hl
    rw [mod_high (by omega) ha] at h4
    omega
theorem minF_two {a b : Nat} (ha : a < B64) (na : isN a = false) (nb : isN b = false) : minF [a, b] = if fkey b < fkey a then b else a := by
  have h0 : pickF (-1) INF [a, b] = pickF (-1) a [b] := by
    by_cases h : a = INF
    · subst h
      exact pickF_no _ _ _ _ na (by rw [cmp_minus]; exact decide_eq_false (Nat.lt_irrefl _))
    · exact pickF_yes _ _ _ _ na (by rw [cmp_minus]; exact decide_eq_true (key_top ha na h))
  unfold minF
  rw [h0]
  by_cases h : fkey b < fkey a
  · rw [if_pos h, pickF_yes _ _ _ _ nb (by rw [cmp_minus]; exact decide_eq_true h)]; rfl
  · rw [if_neg h, pickF_no _ _ _ _ nb (by rw [cmp_minus]; exact decide_eq_false h)]; rfl
theorem maxF_two {a b : Nat} (ha : a < B64) (na : isN a = false) (nb : isN b = false) : maxF [a, b] = if fkey a < fkey b then b else a := by
  have h0 : pickF 1 (INF + B63) [a, b] = pickF 1 a [b] := by
    by_cases h : a = INF + B63
    · subst h
      exact pickF_no _ _ _ _ na (by rw [cmp_plus]; exact decide_eq_false (Nat.lt_irrefl _))
    · exact pickF_yes _ _ _ _ na (by rw [cmp_plus]; exact decide_eq_true (key_bot ha na h))
  unfold maxF
  rw [h0]
  by_cases h : fkey a < fkey b
  · rw [if_pos h, pickF_yes _ _ _ _ nb (by rw [cmp_plus]; exact decide_eq_true h)]; rfl
  · rw [if_neg h, pickF_no _ _ _ _ nb (by rw [cmp_plus]; exact decide_eq_false h)]; rfl
theorem val_of_key {a b : Nat} (ha : a < B64) (hb : b < B64) (na : isN a = false) (nb : isN b = false) (h : fkey a ≤ fkey b) : valI a ≤ valI b := by
  by_cases h1 : valI b < valI a
  · exfalso
    have h0 : ¬ (b % B63 = 0 ∧ a % B63 = 0) := fun ⟨e1, e2⟩ => by
      unfold valI at h1
      rw [e1, e2] at h1
      have : mag 0 = 0 := rfl
      rw [this] at h1
      have z : ∀ s, sgn s 0 = 0 := fun s => by cases s <;> rfl
      rw [z, z] at h1
      omega
    have := (val_key hb ha nb na h0).1 h1
    omega
  · omega
theorem order_val {a b : Nat} (na : isN a = false) (nb : isN b = false) : (FloatKind.f64.format.order a b == some Ordering.eq) = decide (valI a = valI b) := by
  show (Ieee.double.order a b == some Ordering.eq) = _
  rw [order_some na nb, Bool.eq_iff_iff, beq_iff_eq, decide_eq_true_eq, Option.some.injEq, Int.compare_eq_eq]
theorem order_ltV {a b : Nat} (na : isN a = false) (nb : isN b = false) : (FloatKind.f64.format.order a b == some Ordering.lt) = decide (valI a < valI b) := by
  show (Ieee.double.order a b == some Ordering.lt) = _
  rw [order_some na nb, Bool.eq_iff_iff, beq_iff_eq, decide_eq_true_eq, Option.some.injEq, Int.compare_eq_lt]
theorem order_gtV {a b : Nat} (na : isN a = false) (nb : isN b = false) : (FloatKind.f64.format.order a b == some Ordering.gt) = decide (valI b < valI a) := by
  show (Ieee.double.order a b == some Ordering.gt) = _
  rw [order_some na nb, Bool.eq_iff_iff, beq_iff_eq, decide_eq_true_eq, Option.some.injEq, Int.compare_eq_gt]
theorem val_zero : valI 0 = 0 := by decide
theorem arith_add {x y r : Nat} (h : Arith .add x y r) (hx : isF x) (hy : isF y) : Rd (valI x + valI y) 1 r := by
  obtain ⟨z, hz, hr⟩ := add_rd hx hy
  rw [arith_is h hz]; exact hr
theorem arith_sub {x y r : Nat} (h : Arith .sub x y r) (hx : isF x) (hy : isF y) : Rd (valI x - valI y) 1 r := by
  obtain ⟨z, hz, hr⟩ := sub_rd hx hy
  rw [arith_is h hz]; exact hr
theorem sgn_val (x : Nat) (k : Nat) : sgn (isNeg x ^^ false) (mag (x % B63) * k) = valI x * (k : Int) := by
  unfold valI
  rw [Bool.xor_false, sgn_mul]
/-- A quotient by a number above nought. -/
theorem arith_quo {x y r : Nat} (h : Arith .quo x y r) (hx : isF x) (hy : isF y) (h0 : y % B63 ≠ 0) (hp : isNeg y = false) : Rd (valI x * ((2 ^ UEXP : Nat) : Int)) (mag (y % B63)) r := by
  obtain ⟨z, hz, hr⟩ := div_rd hx hy h0
  rw [hp, sgn_val] at hr
  rw [arith_is h hz]; exact hr
/-- Of words that lie below a word that has an end, none is without end. -/
theorem isF_of_val {z : Nat} (hn : isN z = false) {B : Nat} (hB : B < mag INF) (h1 : valI z ≤ (B : Int)) (h2 : -(B : Int) ≤ valI z) : isF z := by
  rcases not_nan hn with h | h
  · exact h
  · exfalso
    unfold valI at h1 h2
    rw [h] at h1 h2
    generalize mag INF = M at *
    cases hs : isNeg z
    · rw [hs, sgn_f] at h1; omega
    · rw [hs, sgn_t] at h2; omega
theorem mag_fin {x : Nat} (h : isF x) : mag (x % B63) < mag INF := mag_lt h
theorem val_bd (x : Nat) : valI x ≤ (mag (x % B63) : Int) ∧ -(mag (x % B63) : Int) ≤ valI x := ⟨(sgn_bd _ _).2, (sgn_bd _ _).1⟩
/-- A result that is a word's. -/
theorem _root_.Go.Shoal.Rd.word {T : Int} {D z x : Nat} (h : Rd T D z) (hx : isF x) (hb : x < B64) (he : T = valI x * (D : Int)) : isF z ∧ valI z = valI x := by
  have e := h.exact hb hx.num he
  have := val_bd x
  exact ⟨isF_of_val h.2.1 (mag_fin hx) (by rw [e]; exact this.1) (by rw [e]; exact this.2), e⟩
theorem eight_is : isF eightW ∧ eightW % B63 ≠ 0 ∧ isNeg eightW = false ∧ mag (eightW % B63) = 8 * 2 ^ UEXP := by
  refine ⟨by unfold isF; decide, by decide, by decide, by decide +kernel⟩
theorem zero_is : isF 0 ∧ (0 : Nat) < B64 := ⟨by unfold isF; decide, by decide⟩
/-- A meter that one number was added to, k times. -/
structure OneAt (x k : Nat) (m : Mt) : Prop where
  len : m.ks.length = k
  all : ∀ y ∈ m.ks, y = fkey x
  f : m.f = k
  n : m.n = k
  none : k = 0 → m.s = 0 ∧ m.le = INF ∧ m.mo = INF + B63
  some_ : k ≠ 0 → m.le = x ∧ m.mo = x ∧ isF m.sm ∧ valI m.sm = valI x
  one : k = 1 → isF m.s ∧ valI m.s = valI x
theorem OneAt.new (x : Nat) : OneAt x 0 newMt := ⟨rfl, (fun y h => by cases h), rfl, rfl, fun _ => ⟨rfl, rfl, rfl⟩, fun h => absurd rfl h, (fun h => by cases h)⟩
theorem ins_mem {l : List Nat} {k y : Nat} (h : y ∈ ins l k) : y ∈ l ∨ y = k := by
  unfold ins at h
  rcases List.mem_append.1 h with h | h
  · exact .inl (List.mem_of_mem_take h)
  · rcases List.mem_cons.1 h with h | h
    · exact .inr h
    · exact .inl (List.mem_of_mem_drop h)
theorem OneAt.step {x k : Nat} {m m' : Mt} (h : OneAt x k m) (ha : AddTo m x m') (hx : isF x) (hb : x < B64) : OneAt x (k + 1) m' := by
  have hlen := ha.len
  obtain ⟨hk, ⟨h1, _⟩ | ⟨_, e1, e2, e3, e4, ⟨h1, _⟩ | ⟨_, e5, e6⟩⟩⟩ := ha
  · rw [hx.num] at h1; cases h1
  · rw [hx.notI] at h1; cases h1
  · have hle : m'.le = x ∧ m'.mo = x := by
      by_cases h0 : k = 0
      · obtain ⟨_, p2, p3⟩ := h.none h0
        rw [e3, e4, p2, p3, minF_two (by decide) (by decide) hx.num, maxF_two (by decide) (by decide) hx.num]
        have n1 : x ≠ INF := fun e => by
          unfold isF at hx
          rw [e] at hx
          exact absurd hx (by decide)
        have n2 : x ≠ INF + B63 := fun e => by
          unfold isF at hx
          rw [e] at hx
          exact absurd hx (by decide)
        rw [if_pos (key_top hb hx.num n1), if_pos (key_bot hb hx.num n2)]
        exact ⟨rfl, rfl⟩
      · obtain ⟨p2, p3, _⟩ := h.some_ h0
        rw [e3, e4, p2, p3, minF_two hb hx.num hx.num, maxF_two hb hx.num hx.num]
        simp
    have hsm : isF m'.sm ∧ valI m'.sm = valI x := by
      rcases e6 with ⟨p1, p2⟩ | ⟨p1, d, q, p2, p3, p4⟩
      · rw [p2]; exact ⟨hx, rfl⟩
      · obtain ⟨_, _, s1, s2⟩ := h.some_ (by have := h.f; omega)
        have d1 := (arith_sub p2 hx s1).word zero_is.1 zero_is.2 (by rw [s2, val_zero]; omega)
        obtain ⟨g1, g2, g3, g4⟩ := eight_is
        have q1 := (arith_quo p3 d1.1 g1 g2 g3).word zero_is.1 zero_is.2 (by rw [d1.2, val_zero, Int.zero_mul, Int.zero_mul])
        have := (arith_add p4 s1 q1.1).word hx hb (by rw [q1.2, s2, val_zero]; simp)
        exact this
    refine ⟨by rw [hlen, h.len], fun y hy => ?_, by rw [e5, h.f], by rw [e1, h.n], fun e => by omega, fun _ => ⟨hle.1, hle.2, hsm⟩, fun e => ?_⟩
    · rw [hk] at hy
      rcases ins_mem hy with hy | hy
      · exact h.all y hy
      · exact hy
    · have p := (h.none (by omega)).1
      rw [p] at e2
      exact (arith_add e2 zero_is.1 hx).word hx hb (by rw [val_zero]; simp)
theorem OneAt.rank {x k : Nat} {m : Mt} (h : OneAt x k m) : rank m.ks (fkey x) = 0 := by
  unfold Go.Proofs.Ytpjlplkoiedhjaa.rank
  rw [List.length_eq_zero_iff, List.filter_eq_nil_iff]
  intro y hy
  rw [h.all y hy]
  simp
theorem one_is : isF (floatOfInt .f64 1) ∧ floatOfInt .f64 1 % B63 ≠ 0 ∧ isNeg (floatOfInt .f64 1) = false ∧ mag (floatOfInt .f64 1 % B63) = 2 ^ UEXP := by
  have e : floatOfInt .f64 1 = oneW := by decide +kernel
  rw [e]
  refine ⟨by unfold isF; decide, by decide, by decide, by decide +kernel⟩
theorem OneAt.mean {x : Nat} {m : Mt} {r : Nat} (h : OneAt x 1 m) (hr : MeanOf m r) (hx : isF x) (hb : x < B64) : isF r ∧ valI r = valI x := by
  have hn := h.n
  rcases hr with ⟨h1, _⟩ | ⟨_, h1⟩
  · omega
  · rw [hn] at h1
    obtain ⟨s1, s2⟩ := h.one rfl
    obtain ⟨g1, g2, g3, g4⟩ := one_is
    refine (arith_quo h1 s1 g1 g2 g3).word hx hb ?_
    rw [s2]; exact congrArg (fun k : Nat => valI x * (k : Int)) g4.symm
theorem sub_self_nan {x r : Nat} (h : Arith .sub x x r) (hi : isI x = true) : isN r = true := by
  have e : floatBits .sub .f64 x x = none := by
    show ((Ieee.double.read x).sum (Ieee.double.read x).opposite).map Ieee.double.write = none
    rw [read_inf (beq_iff_eq.1 hi)]
    cases isNeg x <;> rfl
  rcases h.2 with h1 | ⟨_, h1⟩
  · rw [e] at h1; cases h1
  · omega
end Go.Proofs.Ytpjlplkoiedhjaa
