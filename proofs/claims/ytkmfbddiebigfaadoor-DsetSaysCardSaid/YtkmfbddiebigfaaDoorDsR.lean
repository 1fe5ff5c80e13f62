/-
  DsetOrder's plain law: doubled and turned about, the set is the same; the first is the least.
-/
import Derived.Test.YtkmfbddiebigfaaDoorDsQ
namespace Go.Proofs.YtkmfbddiebigfaaDoor
open Go.RowKit Go.Shoal

/-- A row turned about, each twice. -/
def twice (l : List Int) : List Int := l.reverse.flatMap fun x => [x, x]
theorem twice_mem (l : List Int) (x : Int) : x ∈ twice l ↔ x ∈ l := by
  unfold twice
  simp [List.mem_flatMap]
theorem set_twice (l : List Int) : setOf (twice l) = setOf l := by
  apply Nat.eq_of_testBit_eq
  intro i
  rw [testBit_setOf, testBit_setOf]
  congr 1
  rw [Bool.eq_iff_iff, List.contains_iff_mem, List.contains_iff_mem, twice_mem]
theorem twice_drop (l : List Int) (k : Nat) (h : k < l.length) : twice (l.drop k) = twice (l.drop (k + 1)) ++ [l.getD k 0, l.getD k 0] := by
  rw [List.drop_eq_getElem_cons h, List.getD_eq_getElem?_getD, List.getElem?_eq_getElem h]
  unfold twice
  rw [List.reverse_cons, List.flatMap_append]
  rfl
theorem twice_len (l : List Int) : (twice l).length = 2 * l.length := by
  induction l with
  | nil => rfl
  | cons x r ih =>
    unfold twice at ih ⊢
    rw [List.reverse_cons, List.flatMap_append, List.length_append, ih]
    simp
    omega
theorem ctz_low (s : Nat) (hs : s < 18446744073709551616) (h0 : s ≠ 0) : s.testBit (Lib.ctz 64 s) = true ∧ Lib.ctz 64 s < 64 ∧ ∀ i, i < Lib.ctz 64 s → s.testBit i = false := by
  obtain ⟨m, hm, hk⟩ := Lib.ctzFrom_spec 64 s (by omega) hs
  have hc : Lib.ctz 64 s = Lib.ctzFrom 64 s := by unfold Lib.ctz; rw [if_neg h0]
  rw [hc]
  generalize Lib.ctzFrom 64 s = k at *
  refine ⟨?_, hk, fun i hi => ?_⟩
  · have := Nat.testBit_two_pow_mul_add (2 * m + 1) (b := 0) (i := k) (Nat.two_pow_pos k) k
    rw [Nat.add_zero] at this
    rw [hm, this, if_neg (Nat.lt_irrefl _), Nat.sub_self]
    simp
  · have := Nat.testBit_two_pow_mul_add (2 * m + 1) (b := 0) (i := k) (Nat.two_pow_pos k) i
    rw [Nat.add_zero] at this
    rw [hm, this, if_pos hi]
    simp
theorem first_in (s : Nat) (hs : s < 18446744073709551616) (h0 : s ≠ 0) : inSet s (Lib.ctz 64 s : Nat) = true := by
  obtain ⟨h1, h2, _⟩ := ctz_low s hs h0
  unfold inSet
  rw [Int.toNat_natCast, h1, decide_eq_true (show (0 : Int) ≤ (Lib.ctz 64 s : Nat) by omega), decide_eq_true (show ((Lib.ctz 64 s : Nat) : Int) < 64 by omega)]
  rfl
theorem first_least (s : Nat) (hs : s < 18446744073709551616) (h0 : s ≠ 0) : lessOf s (lessOf (allOf 64) (allOf (Lib.ctz 64 s : Nat))) = 0 := by
  obtain ⟨h1, h2, h3⟩ := ctz_low s hs h0
  refine (less_zero hs (less_lt _ _ (allOf_lt _))).2 fun i hi hb => ?_
  rw [testBit_less _ _ _ (allOf_lt _) (allOf_lt _), testBit_allOf, testBit_allOf]
  have hki : ¬ i < Lib.ctz 64 s := fun h => by rw [h3 i h] at hb; cases hb
  rw [decide_eq_true (by omega), decide_eq_false (by omega)]
  rfl
end Go.Proofs.YtkmfbddiebigfaaDoor
