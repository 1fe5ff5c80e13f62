/-
  Plain laws of keepers.
-/
import Derived.Test.YtcnjllkmliphkaaDoorKeepA
namespace Go.Proofs.YtcnjllkmliphkaaDoor
open Go.RowKit Go.Shoal

theorem ctz_bit (s : Nat) (h0 : s ≠ 0) (hs : s < 18446744073709551616) : s.testBit (Lib.ctz 64 s) = true ∧ (∀ j, j < Lib.ctz 64 s → s.testBit j = false) ∧ Lib.ctz 64 s < 64 := by
  have he : Lib.ctz 64 s = Lib.ctzFrom 64 s := by unfold Lib.ctz; rw [if_neg h0]
  rw [he]
  obtain ⟨m, hm, hc⟩ := Lib.ctzFrom_spec 64 s (by omega) (by rw [two64]; exact hs)
  generalize Lib.ctzFrom 64 s = c at hm hc
  refine ⟨?_, fun j hj => ?_, hc⟩
  · rw [hm, Nat.testBit_two_pow_mul]
    simp
  · rw [hm, Nat.testBit_two_pow_mul]
    have : ¬ j ≥ c := by omega
    simp [this]
theorem first_is (s k : Nat) (hs : s < 18446744073709551616) (hk : s.testBit k = true) (hj : ∀ j, j < k → s.testBit j = false) : firstOf s = ((k : Int), true) := by
  have h0 : s ≠ 0 := fun e => by rw [e, Nat.zero_testBit] at hk; cases hk
  obtain ⟨h1, h2, h3⟩ := ctz_bit s h0 hs
  unfold firstOf
  rw [if_neg h0]
  have : Lib.ctz 64 s = k := by
    rcases Nat.lt_trichotomy (Lib.ctz 64 s) k with h | h | h
    · rw [hj _ h] at h1; cases h1
    · exact h
    · rw [h2 _ h] at hk; cases hk
  rw [this]
theorem Cf.good_n {c : Cf} (h : c.good = true) : 1 ≤ c.n ∧ c.n ≤ 16 := by
  unfold Cf.good at h
  simp only [Bool.and_eq_true] at h
  exact inB_true h.1.1.1.1.1
theorem Cf.good_vars {c : Cf} (h : c.good = true) : ∀ s ∈ c.vars, someB s c.n = true := by
  unfold Cf.good at h
  simp only [Bool.and_eq_true, Bool.not_eq_true'] at h
  intro s hs
  have h1 := h.1.1.1.2
  cases hb : someB s c.n
  · have h2 : (c.vars.any fun s => !someB s c.n) = true := List.any_eq_true.2 ⟨s, hs, by rw [hb]; rfl⟩
    rw [h1] at h2; cases h2
  · rfl
theorem some_bits {s : Nat} {n : Int} (h : someB s n = true) (hs : s < 18446744073709551616) : s ≠ 0 ∧ ∀ i, s.testBit i = true → (i : Int) < n := by
  unfold someB at h
  simp only [Bool.and_eq_true, decide_eq_true_eq] at h
  refine ⟨h.1, fun i hi => ?_⟩
  have h64 : i < 64 := by
    rcases Nat.lt_or_ge i 64 with h | h
    · exact h
    · rw [testBit_high hs h] at hi; cases hi
  have := (less_zero hs (allOf_lt n)).1 h.2 i h64 hi
  rw [testBit_allOf, decide_eq_true_eq] at this
  exact this.1
theorem getD_mem {l : List Nat} {x : Int} (h : inB x 0 (l.length - 1) = true) : l.getD x.toNat 0 ∈ l := by
  have hb := inB_true h
  have hk : x.toNat < l.length := by omega
  rw [List.getD_eq_getElem?_getD, List.getElem?_eq_getElem hk]
  exact List.getElem_mem hk
/-- Who keeps is one of them. -/
theorem Cf.keeps_lt {c : Cf} {p x : Int} (hw : ∀ s ∈ c.vars, s < 18446744073709551616) (h : c.keeps p x = true) : c.good = true ∧ inB x 0 (c.vars.length - 1) = true ∧ 0 ≤ p ∧ p < c.n ∧ inSet (c.vars.getD x.toNat 0) p = true := by
  unfold Cf.keeps at h
  simp only [Bool.and_eq_true] at h
  obtain ⟨⟨h1, h2⟩, h3⟩ := h
  have hm := getD_mem h2
  have hb := some_bits (Cf.good_vars h1 _ hm) (hw _ hm)
  refine ⟨h1, h2, ?_, ?_, h3⟩
  · unfold inSet at h3
    simp only [Bool.and_eq_true, decide_eq_true_eq] at h3
    exact h3.1.1
  · unfold inSet at h3
    simp only [Bool.and_eq_true, decide_eq_true_eq] at h3
    have := hb.2 _ h3.2
    omega
theorem Cf.keeper_some {c : Cf} {k : Nat} {x : Int} (hw : ∀ s ∈ c.vars, s < 18446744073709551616) (h : c.keeps k x = true) (hj : ∀ j : Nat, j < k → c.keeps j x = false) : c.keeper x = ((k : Int), true) := by
  obtain ⟨h1, h2, h3, h4, h5⟩ := Cf.keeps_lt hw h
  have hm := getD_mem h2
  unfold Cf.keeper
  rw [h1, h2]
  have hn := Cf.good_n h1
  refine first_is _ k (hw _ hm) ?_ (fun j hjk => ?_)
  · rw [inSet_nat _ _ (hw _ hm)] at h5; exact h5
  · have := hj j hjk
    unfold Cf.keeps at this
    rw [h1, h2, inSet_nat _ _ (hw _ hm)] at this
    simpa using this
theorem Cf.keeper_none {c : Cf} {x : Int} (hw : ∀ s ∈ c.vars, s < 18446744073709551616) (h : ∀ j : Nat, j < 16 → c.keeps j x = false) : c.keeper x = (0, false) := by
  unfold Cf.keeper
  cases h1 : c.good
  · rfl
  · cases h2 : inB x 0 (c.vars.length - 1)
    · rfl
    · have hm := getD_mem h2
      have hn := Cf.good_n h1
      have hb := some_bits (Cf.good_vars h1 _ hm) (hw _ hm)
      obtain ⟨c1, _, _⟩ := ctz_bit _ hb.1 (hw _ hm)
      have hlt := hb.2 _ c1
      have := h (Lib.ctz 64 (c.vars.getD x.toNat 0)) (by omega)
      unfold Cf.keeps at this
      rw [h1, h2, inSet_nat _ _ (hw _ hm), c1] at this
      cases this
theorem Cf.keeper_yes {c : Cf} {x a : Int} (hw : ∀ s ∈ c.vars, s < 18446744073709551616) (h : c.keeper x = (a, true)) : ∃ k : Nat, a = k ∧ k < 16 ∧ c.keeps k x = true ∧ ∀ j : Nat, j < k → c.keeps j x = false := by
  unfold Cf.keeper at h
  cases h1 : c.good
  · rw [h1] at h; simp at h
  · cases h2 : inB x 0 (c.vars.length - 1)
    · rw [h1, h2] at h; simp at h
    · have hm := getD_mem h2
      have hn := Cf.good_n h1
      have hb := some_bits (Cf.good_vars h1 _ hm) (hw _ hm)
      obtain ⟨c1, c2, _⟩ := ctz_bit _ hb.1 (hw _ hm)
      have hlt := hb.2 _ c1
      rw [h1, h2] at h
      simp only [Bool.and_self, if_true, firstOf, if_neg hb.1, Prod.mk.injEq, and_true] at h
      refine ⟨_, h.symm, by omega, ?_, fun j hj => ?_⟩
      · unfold Cf.keeps
        rw [h1, h2, inSet_nat _ _ (hw _ hm), c1]
        rfl
      · unfold Cf.keeps
        rw [h1, h2, inSet_nat _ _ (hw _ hm), c2 j hj]
        rfl
theorem Cf.keeper_no {c : Cf} {x a : Int} (hw : ∀ s ∈ c.vars, s < 18446744073709551616) (h : c.keeper x = (a, false)) : a = 0 ∧ ∀ p : Int, c.keeps p x = false := by
  unfold Cf.keeper at h
  cases h1 : c.good
  · rw [h1] at h
    refine ⟨by simp at h; exact h.symm, fun p => by unfold Cf.keeps; rw [h1]; rfl⟩
  · cases h2 : inB x 0 (c.vars.length - 1)
    · rw [h1, h2] at h
      refine ⟨by simp at h; exact h.symm, fun p => by unfold Cf.keeps; rw [h1, h2]; rfl⟩
    · have hm := getD_mem h2
      have hb := some_bits (Cf.good_vars h1 _ hm) (hw _ hm)
      rw [h1, h2] at h
      simp only [Bool.and_self, if_true, firstOf, if_neg hb.1, Prod.mk.injEq] at h
      cases h.2
end Go.Proofs.YtcnjllkmliphkaaDoor
