/-
  What the reference's meter tells, and what the program's keeps.
-/
import Derived.Test.YtpjlplkoiedhjaaMetU
import Derived.Test.YtpjlplkoiedhjaaMetT
namespace Go.Proofs.Ytpjlplkoiedhjaa
open Go.RowKit Go.Shoal

/-- A sum, the last number first. -/
def SumR : List Nat → Nat → Prop
  | [], s => s = 0
  | x :: l, s' => ∃ s, SumR l s ∧ Arith .add s x s'
def SumOf (l : List Nat) (s : Nat) : Prop := SumR l.reverse s
theorem SumOf.snoc {l : List Nat} {x s s' : Nat} (h : SumOf l s) (ha : Arith .add s x s') : SumOf (l ++ [x]) s' := by
  unfold SumOf
  rw [List.reverse_append]
  exact ⟨s, h, ha⟩
theorem SumR.same : ∀ {l : List Nat} {s s' : Nat}, SumR l s → SumR l s' → SameN s s'
  | [], s, s', h, h' => by
    have h : s = 0 := h
    have h' : s' = 0 := h'
    rw [h, h']; exact .refl _
  | x :: l, s, s', ⟨a, h1, h2⟩, ⟨b, k1, k2⟩ => arith_same (.inl rfl) h2 k2 (SumR.same h1 k1) (.refl x)
/-- What comes slowly, the last number first. -/
def SmR : List Nat → Nat → Prop
  | [], s => s = 0
  | x :: l, s' => (l = [] ∧ s' = x) ∨ (l ≠ [] ∧ ∃ s d q, SmR l s ∧ Arith .sub x s d ∧ Arith .quo d eightW q ∧ Arith .add s q s')
def SmOf (l : List Nat) (s : Nat) : Prop := SmR l.reverse s
theorem SmOf.one (x : Nat) : SmOf [x] x := .inl ⟨rfl, rfl⟩
theorem SmOf.snoc {l : List Nat} {x s d q s' : Nat} (h : SmOf l s) (h0 : l ≠ []) (h1 : Arith .sub x s d) (h2 : Arith .quo d eightW q) (h3 : Arith .add s q s') : SmOf (l ++ [x]) s' := by
  unfold SmOf
  rw [List.reverse_append]
  exact .inr ⟨by simpa using h0, s, d, q, h, h1, h2, h3⟩
theorem SmR.same : ∀ {l : List Nat} {s s' : Nat}, SmR l s → SmR l s' → SameN s s'
  | [], s, s', h, h' => by
    have h : s = 0 := h
    have h' : s' = 0 := h'
    rw [h, h']; exact .refl _
  | x :: l, s, s', h, h' => by
    rcases h with ⟨h0, rfl⟩ | ⟨h0, a, d, q, h1, h2, h3, h4⟩ <;> rcases h' with ⟨k0, rfl⟩ | ⟨k0, b, d', q', k1, k2, k3, k4⟩
    · exact .refl _
    · exact absurd h0 k0
    · exact absurd k0 h0
    · have hs := SmR.same h1 k1
      exact arith_same (.inl rfl) h4 k4 hs (arith_same (.inr (.inr rfl)) h3 k3 (arith_same (.inr (.inl rfl)) h2 k2 (.refl x) hs) (.refl _))
theorem SameN.key {a b : Nat} (h : SameN a b) : sameW a b = true := by
  unfold sameW
  rcases h with rfl | ⟨h1, h2⟩
  · exact beq_self_eq_true _
  · unfold fkey
    rw [if_pos h1, if_pos h2]
    exact beq_self_eq_true _
theorem pick_snoc_min : ∀ (l : List Nat) (b x : Nat), (∀ y ∈ l, isN y = false) → isN x = false → pickF (-1) b (l ++ [x]) = if fkey x < fkey (pickF (-1) b l) then x else pickF (-1) b l
  | [], b, x, _, hx => by
    rw [pickF_nil]
    show pickF (-1) b [x] = _
    by_cases h : fkey x < fkey b
    · rw [if_pos h, pickF_yes _ _ _ _ hx (by rw [cmp_minus]; exact decide_eq_true h)]; rfl
    · rw [if_neg h, pickF_no _ _ _ _ hx (by rw [cmp_minus]; exact decide_eq_false h)]; rfl
  | y :: l, b, x, hl, hx => by
    have hy := hl y (List.mem_cons_self ..)
    have hr : ∀ z ∈ l, isN z = false := fun z hz => hl z (List.mem_cons_of_mem _ hz)
    show pickF (-1) b (y :: (l ++ [x])) = _
    by_cases h : fkey y < fkey b
    · have hc : (cmpW y b == -1) = true := by rw [cmp_minus]; exact decide_eq_true h
      rw [pickF_yes _ _ _ _ hy hc, pickF_yes _ _ _ _ hy hc]
      exact pick_snoc_min l y x hr hx
    · have hc : (cmpW y b == -1) = false := by rw [cmp_minus]; exact decide_eq_false h
      rw [pickF_no _ _ _ _ hy hc, pickF_no _ _ _ _ hy hc]
      exact pick_snoc_min l b x hr hx
theorem pick_snoc_max : ∀ (l : List Nat) (b x : Nat), (∀ y ∈ l, isN y = false) → isN x = false → pickF 1 b (l ++ [x]) = if fkey (pickF 1 b l) < fkey x then x else pickF 1 b l
  | [], b, x, _, hx => by
    rw [pickF_nil]
    show pickF 1 b [x] = _
    by_cases h : fkey b < fkey x
    · rw [if_pos h, pickF_yes _ _ _ _ hx (by rw [cmp_plus]; exact decide_eq_true h)]; rfl
    · rw [if_neg h, pickF_no _ _ _ _ hx (by rw [cmp_plus]; exact decide_eq_false h)]; rfl
  | y :: l, b, x, hl, hx => by
    have hy := hl y (List.mem_cons_self ..)
    have hr : ∀ z ∈ l, isN z = false := fun z hz => hl z (List.mem_cons_of_mem _ hz)
    show pickF 1 b (y :: (l ++ [x])) = _
    by_cases h : fkey b < fkey y
    · have hc : (cmpW y b == 1) = true := by rw [cmp_plus]; exact decide_eq_true h
      rw [pickF_yes _ _ _ _ hy hc, pickF_yes _ _ _ _ hy hc]
      exact pick_snoc_max l y x hr hx
    · have hc : (cmpW y b == 1) = false := by rw [cmp_plus]; exact decide_eq_false h
      rw [pickF_no _ _ _ _ hy hc, pickF_no _ _ _ _ hy hc]
      exact pick_snoc_max l b x hr hx
theorem rank_ins (l : List Nat) (k x : Nat) : rank (ins l k) x = rank l x + if k < x then 1 else 0 := by
  have h : rank l x = rank (l.take (rank l k) ++ l.drop (rank l k)) x := by rw [List.take_append_drop]
  rw [h]
  unfold ins
  generalize l.take (rank l k) = a
  generalize l.drop (rank l k) = b
  unfold rank
  rw [List.filter_append, List.filter_append, List.filter_cons, List.length_append, List.length_append]
  by_cases hk : k < x
  · rw [if_pos (decide_eq_true hk), if_pos hk, List.length_cons]; omega
  · rw [if_neg (by simpa using hk), if_neg hk]; omega
/-- How many are below, as the reference counts. -/
def below (L : List Nat) (x : Nat) : Nat := (L.filter fun y => decide (fkey y < fkey x)).length
/-- The meter that all of L was added to. -/
structure MtFor (L : List Nat) (m : Mt) : Prop where
  len : m.ks.length = L.length
  n : m.n = (nums L).length
  f : m.f = (fins L).length
  s : SumOf (nums L) m.s
  sm : SmOf (fins L) m.sm
  le : m.le = minF (nums L)
  mo : m.mo = maxF (nums L)
  rk : ∀ x, rank m.ks (fkey x) = below L x
theorem MtFor.new : MtFor [] newMt := ⟨rfl, rfl, rfl, rfl, rfl, rfl, rfl, fun _ => rfl⟩
theorem nums_not (L : List Nat) : ∀ y ∈ nums L, isN y = false := fun y hy => by
  have := (List.mem_filter.1 hy).2
  simpa using this
theorem nums_snoc (L : List Nat) (x : Nat) : nums (L ++ [x]) = if isN x then nums L else nums L ++ [x] := by
  unfold nums
  rw [List.filter_append]
  cases h : isN x <;> simp [h]
theorem fins_snoc (L : List Nat) (x : Nat) : fins (L ++ [x]) = if finB x then fins L ++ [x] else fins L := by
  unfold fins
  rw [List.filter_append]
  cases h : finB x <;> simp [h]
theorem MtFor.step {L : List Nat} {m m' : Mt} {x : Nat} (h : MtFor L m) (ho : m.Ok) (ha : AddTo m x m') : MtFor (L ++ [x]) m' := by
  have hlen := ha.len
  have hrk : ∀ y, rank m'.ks (fkey y) = below (L ++ [x]) y := fun y => by
    rw [ha.1, rank_ins, h.rk]
    unfold below
    rw [List.filter_append, List.length_append]
    by_cases hk : fkey x < fkey y
    · rw [if_pos hk]; simp [hk]
    · rw [if_neg hk]; simp [hk]
  have hl : m'.ks.length = (L ++ [x]).length := by rw [hlen, h.len]; simp
  obtain ⟨hk, ⟨h1, e1, e2, e3, e4, e5, e6⟩ | ⟨h1, e1, e2, e3, e4, hc⟩⟩ := ha
  · have hn : nums (L ++ [x]) = nums L := by rw [nums_snoc, if_pos h1]
    have hf : fins (L ++ [x]) = fins L := by rw [fins_snoc, if_neg (by unfold finB; rw [h1]; simp)]
    exact ⟨hl, by rw [hn, e1, h.n], by rw [hf, e2, h.f], by rw [hn, e3]; exact h.s, by rw [hf, e4]; exact h.sm, by rw [hn, e5, h.le], by rw [hn, e6, h.mo], hrk⟩
  · have hn : nums (L ++ [x]) = nums L ++ [x] := by rw [nums_snoc, if_neg (by rw [h1]; decide)]
    have nle : isN m.le = false := by
      rw [h.le]
      obtain ⟨hq, _⟩ := pickF_min (nums L) INF (nums_not L)
      unfold minF
      rcases hq with hq | hq
      · rw [hq]; decide
      · exact nums_not L _ hq
    have nmo : isN m.mo = false := by
      rw [h.mo]
      obtain ⟨hq, _⟩ := pickF_max (nums L) (INF + B63) (nums_not L)
      unfold maxF
      rcases hq with hq | hq
      · rw [hq]; decide
      · exact nums_not L _ hq
    have hle : m'.le = minF (nums L ++ [x]) := by
      rw [e3, minF_two ho.hle nle h1, h.le]
      exact (pick_snoc_min (nums L) INF x (nums_not L) h1).symm
    have hmo : m'.mo = maxF (nums L ++ [x]) := by
      rw [e4, maxF_two ho.hmo nmo h1, h.mo]
      exact (pick_snoc_max (nums L) (INF + B63) x (nums_not L) h1).symm
    rcases hc with ⟨i1, i2, i3⟩ | ⟨i1, i2, i3⟩
    · have hf : fins (L ++ [x]) = fins L := by rw [fins_snoc, if_neg (by unfold finB; rw [i1]; simp)]
      exact ⟨hl, by rw [hn, e1, h.n]; simp, by rw [hf, i2, h.f], by rw [hn]; exact h.s.snoc e2, by rw [hf, i3]; exact h.sm, by rw [hn]; exact hle, by rw [hn]; exact hmo, hrk⟩
    · have hf : fins (L ++ [x]) = fins L ++ [x] := by rw [fins_snoc, if_pos (by unfold finB; rw [i1, h1]; rfl)]
      refine ⟨hl, by rw [hn, e1, h.n]; simp, by rw [hf, i2, h.f]; simp, by rw [hn]; exact h.s.snoc e2, ?_, by rw [hn]; exact hle, by rw [hn]; exact hmo, hrk⟩
      rw [hf]
      rcases i3 with ⟨j1, j2⟩ | ⟨j1, d, q, j2, j3, j4⟩
      · have h0 : fins L = [] := List.eq_nil_of_length_eq_zero (by rw [← h.f]; exact j1)
        rw [h0, j2]
        exact SmOf.one x
      · exact h.sm.snoc (fun e => j1 (by rw [h.f, e]; rfl)) j2 j3 j4
theorem nums_lt {L : List Nat} (h : ∀ x ∈ L, x < B64) : ∀ x ∈ nums L, x < B64 := fun x hx => h x (List.mem_filter.1 hx).1
theorem fins_lt {L : List Nat} (h : ∀ x ∈ L, x < B64) : ∀ x ∈ fins L, x < B64 := fun x hx => h x (List.mem_filter.1 hx).1
end Go.Proofs.Ytpjlplkoiedhjaa
