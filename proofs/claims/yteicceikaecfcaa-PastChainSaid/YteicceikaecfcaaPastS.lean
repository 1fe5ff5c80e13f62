/-
  PastChain: messages that answer one another, as data.
-/
import Derived.Test.YteicceikaecfcaaPastM
namespace Go.Proofs.Yteicceikaecfcaa
open Go.RowKit Go.Shoal Go.Maps

/-- Whom the k-th message is for. -/
def chainTo (last k : Nat) : Nat := oneOf (((k + 1) % last : Nat) : Int) ||| oneOf (last : Int)
theorem chainTo_lt (last k : Nat) : chainTo last k < 18446744073709551616 := or_lt (oneOf_lt _) (oneOf_lt _)
theorem chainTo_in (last k q : Nat) (h : last < 8) (h1 : 2 ≤ last) : inSet (chainTo last k) (q : Int) = ((q == (k + 1) % last) || (q == last)) := by
  have hm : (k + 1) % last < last := Nat.mod_lt _ (by omega)
  unfold chainTo
  rw [inSet_or, inSet_one _ q (by omega), inSet_one _ q (by omega)]
theorem chainTo_bit (last k q : Nat) (h : last < 8) (h1 : 2 ≤ last) : (chainTo last k).testBit q = ((q == (k + 1) % last) || (q == last)) := by
  rw [← inSet_nat _ q (chainTo_lt last k), chainTo_in last k q h h1]
theorem chain_turn {last k : Nat} (h1 : 2 ≤ last) : k % last ≠ (k + 1) % last := by
  intro e
  have h2 : (k + 1) % last = (k % last + 1) % last := by rw [Nat.add_mod, Nat.mod_eq_of_lt (a := 1) (by omega)]
  have hm : k % last < last := Nat.mod_lt _ (by omega)
  rcases Nat.lt_or_ge (k % last + 1) last with h3 | h3
  · rw [Nat.mod_eq_of_lt h3] at h2
    omega
  · have h4 : k % last + 1 = last := by omega
    rw [h4, Nat.mod_self] at h2
    omega
/-- What was sent. -/
structure ChainMs (s : Pa) (last : Nat) : Prop where
  n : s.n = last + 1
  whom : ∀ (k : Nat) (m : Ms), s.all[k]? = some m → m.to = chainTo last k
  ahead : ∀ (k : Nat) (m : Ms) (j : Nat), s.all[k]? = some m → m.ahead j = decide (j < k)
/-- Behind i rounds. -/
structure ChainOk (s : Pa) (last i : Nat) : Prop where
  ms : ChainMs s last
  len : s.all.length = i
  knows : ∀ j, s.knows (i % last) j = decide (j < i)
  none : s.got last = []
theorem chain_good {s : Pa} {last i : Nat} (h : ChainOk s last i) (h1 : 2 ≤ last) (h2 : last < 8) : s.goodTo (i % last) (chainTo last i) = true := by
  have hm : i % last < last := Nat.mod_lt _ (by omega)
  have hm' : (i + 1) % last < last := Nat.mod_lt _ (by omega)
  have ht := chain_turn (k := i) h1
  unfold Pa.goodTo
  have e1 : (chainTo last i == 0) = false := by
    rw [beq_eq_false_iff_ne]
    intro e
    have := chainTo_bit last i last h2 h1
    rw [e] at this
    simp at this
  have e2 : inSet (chainTo last i) ((i % last : Nat) : Int) = false := by
    rw [chainTo_in last i _ h2 h1]
    have a1 : (i % last == (i + 1) % last) = false := by rw [beq_eq_false_iff_ne]; exact ht
    have a2 : (i % last == last) = false := by rw [beq_eq_false_iff_ne]; omega
    rw [a1, a2]; rfl
  have e3 : lessOf (chainTo last i) (allOf s.n) = 0 := by
    rw [less_zero (chainTo_lt _ _) (allOf_lt _)]
    intro q _ hq
    rw [chainTo_bit last i q h2 h1] at hq
    rw [testBit_allOf, h.ms.n]
    simp only [Bool.or_eq_true, beq_iff_eq] at hq
    have : ((q : Int) < ((last + 1 : Nat) : Int) ∧ q < 64) := by omega
    simpa using this
  rw [e1, e2, e3]; rfl
theorem ChainMs.sent {s : Pa} {last i M : Nat} {av : Value} (h : ChainOk s last i) : ChainMs (s.sent (i % last) (chainTo last i) M av) last := by
  refine ⟨h.ms.n, fun k m hk => ?_, fun k m j hk => ?_⟩
  · rcases get_snoc hk with ⟨_, hk⟩ | ⟨e, rfl⟩
    · exact h.ms.whom k m hk
    · rw [e, h.len]
  · rcases get_snoc hk with ⟨_, hk⟩ | ⟨e, rfl⟩
    · exact h.ms.ahead k m j hk
    · rw [e, h.len]
      exact h.knows j
theorem ChainMs.took {s : Pa} {last k p : Nat} {m : Ms} {v : Value} (h : ChainMs s last) : ChainMs (s.took m k p v) last := ⟨h.n, h.whom, h.ahead⟩
/-- The message that was sent last. -/
theorem chain_get {s : Pa} {last i M : Nat} {av : Value} (h : ChainOk s last i) : (s.sent (i % last) (chainTo last i) M av).all[i]? = some ⟨i % last, cnt s.all (i % last) + 1, chainTo last i, s.knows (i % last), M⟩ := by
  show (s.all ++ [_])[i]? = _
  rw [List.getElem?_append_right (by rw [h.len]; exact Nat.le_refl _), h.len, Nat.sub_self]
  rfl
theorem chain_open {s : Pa} {last i M : Nat} {av : Value} (hok : s.Ok) (h : ChainOk s last i) (h1 : 2 ≤ last) (h2 : last < 8) :
    (s.sent (i % last) (chainTo last i) M av).open ⟨i % last, cnt s.all (i % last) + 1, chainTo last i, s.knows (i % last), M⟩ i ((i + 1) % last) = true := by
  have hm' : (i + 1) % last < last := Nat.mod_lt _ (by omega)
  unfold Pa.open
  have e1 : inSet (chainTo last i) (((i + 1) % last : Nat) : Int) = true := by rw [chainTo_in last i _ h2 h1]; simp
  have e2 : inSet (s.had i) (((i + 1) % last : Nat) : Int) = false := by
    rw [hok.hin i _ (by rw [h.ms.n]; omega)]
    apply decide_eq_false
    intro hg
    have := hok.glt _ _ hg
    rw [h.len] at this
    omega
  show (inSet (chainTo last i) (((i + 1) % last : Nat) : Int) && !inSet (s.had i) _) = true
  rw [e1, e2]; rfl
theorem ChainOk.step {s : Pa} {last i M : Nat} {av v : Value} (hok : s.Ok) (h : ChainOk s last i) (h1 : 2 ≤ last) :
    ChainOk ((s.sent (i % last) (chainTo last i) M av).took ⟨i % last, cnt s.all (i % last) + 1, chainTo last i, s.knows (i % last), M⟩ i ((i + 1) % last) v) last (i + 1) := by
  have hm' : (i + 1) % last < last := Nat.mod_lt _ (by omega)
  have ht := chain_turn (k := i) h1
  refine ⟨(ChainMs.sent h).took, by show (s.all ++ [_]).length = i + 1; simp [h.len], fun j => ?_, ?_⟩
  · show (if (i + 1) % last = (i + 1) % last then (fun j => ((if (i + 1) % last = i % last then (fun k => s.knows (i % last) k || k == s.all.length) else s.knows ((i + 1) % last)) j || s.knows (i % last) j) || j == i) else _) j = _
    rw [if_pos rfl, if_neg (Ne.symm ht)]
    show ((s.knows ((i + 1) % last) j || s.knows (i % last) j) || j == i) = _
    rw [h.knows j]
    cases hk : s.knows ((i + 1) % last) j
    · by_cases hj : j < i
      · simp [hj]; omega
      · by_cases hji : j = i
        · subst hji; simp
        · have : ¬ j < i + 1 := by omega
          simp [hj, hji, this]
    · have := hok.klt _ _ hk
      rw [h.len] at this
      simp; omega
  · show (if last = (i + 1) % last then _ else s.got last) = []
    rw [if_neg (by omega)]
    exact h.none
/-- Behind i Takes of the last. -/
structure ChainEnd (s : Pa) (last many i : Nat) : Prop where
  ms : ChainMs s last
  len : s.all.length = many
  got : s.got last = List.range i
theorem ChainOk.end {s : Pa} {last i : Nat} (h : ChainOk s last i) : ChainEnd s last i 0 := ⟨h.ms, h.len, h.none⟩
theorem ChainEnd.open {s : Pa} {last many i k : Nat} {m : Ms} (hok : s.Ok) (h : ChainEnd s last many i) (h1 : 2 ≤ last) (h2 : last < 8) (hk : s.all[k]? = some m) : s.open m k last = decide (i ≤ k) := by
  unfold Pa.open
  rw [h.ms.whom k m hk, chainTo_in last k last h2 h1, hok.hin k last (by rw [h.ms.n]; omega), h.got]
  by_cases hki : k < i
  · have : ¬ i ≤ k := by omega
    simp [hki, this]
  · have : i ≤ k := by omega
    simp [hki, this]
theorem ChainEnd.can {s : Pa} {last many i k : Nat} {m : Ms} (hok : s.Ok) (h : ChainEnd s last many i) (h1 : 2 ≤ last) (h2 : last < 8) (hk : s.all[k]? = some m) : s.can m k last = decide (k = i) := by
  have hkl := (List.getElem?_eq_some_iff.1 hk).1
  unfold Pa.can
  rw [h.open hok h1 h2 hk]
  have hget : ∀ j, j < s.all.length → s.all[j]? = some (s.all.getD j default) := fun j hj => by rw [List.getD_eq_getElem?_getD, List.getElem?_eq_getElem hj]; rfl
  by_cases h3 : k = i
  · subst h3
    simp only [Nat.le_refl, decide_true, Bool.true_and]
    rw [List.all_eq_true]
    intro j hj
    have hjl := List.mem_range.1 hj
    rw [h.ms.ahead k m j hk, h.open hok h1 h2 (hget j hjl)]
    by_cases hjk : j < k
    · have : ¬ k ≤ j := by omega
      simp [this]
    · simp [hjk]
  · rw [decide_eq_false h3]
    by_cases h4 : i ≤ k
    · rw [decide_eq_true h4, Bool.true_and]
      apply Bool.eq_false_iff.2
      intro hall
      rw [List.all_eq_true] at hall
      have := hall i (List.mem_range.2 (by omega))
      rw [h.ms.ahead k m i hk, h.open hok h1 h2 (hget i (by omega))] at this
      simp at this
      omega
    · rw [decide_eq_false h4]; rfl
theorem ChainEnd.step {s : Pa} {last many i : Nat} {m : Ms} {v : Value} (h : ChainEnd s last many i) : ChainEnd (s.took m i last v) last many (i + 1) := by
  refine ⟨h.ms.took, h.len, ?_⟩
  show (if last = last then s.got last ++ [i] else s.got last) = _
  rw [if_pos rfl, h.got, List.range_succ]
end Go.Proofs.Yteicceikaecfcaa
