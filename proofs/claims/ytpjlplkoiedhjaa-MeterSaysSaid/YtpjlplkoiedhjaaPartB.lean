/-
  Loads taken first where a late operation waits for them by way of others.
-/
import Derived.Test.YtpjlplkoiedhjaaPart
namespace Go.Shoal
open Go
section
variable {P : Program} {ops : Array Oper} {Q : Exit → Act → World → Prop} {md : Region.Mode} {S : World → Prop} {late : List Nat}
/-- By which chain of waits j needs i. -/
def needs (md : Region.Mode) (ops : Array Oper) (i : Nat) : Nat → Nat → Bool
  | 0, _ => false
  | n + 1, j => match ops[j]? with
    | some o => o.after.any fun e => Region.binds md e && (e.on == i || needs md ops i n e.on)
    | none => false
def Shuts (md : Region.Mode) (ops : Array Oper) (l : Array Bool) : Prop := ∀ (j : Nat) (o : Oper), ops[j]? = some o → l.getD j false = true → ∀ e ∈ o.after, Region.binds md e = true → l.getD e.on false = true
def shutB (md : Region.Mode) (ops : Array Oper) (l : Array Bool) : Bool := (List.range ops.size).all fun j => match ops[j]? with
  | some o => !(l.getD j false) || o.after.all fun e => !(Region.binds md e) || l.getD e.on false
  | none => true
theorem shut_spec {l : Array Bool} (h : shutB md ops l = true) : Shuts md ops l := by
  intro j o hj hl e he hb
  unfold shutB at h
  rw [List.all_eq_true] at h
  have k := h j (List.mem_range.2 (Array.getElem?_eq_some_iff.1 hj).1)
  rw [hj] at k
  simp only [hl, Bool.not_true, Bool.false_or] at k
  have := Array.all_eq_true'.1 k e he
  simpa [hb] using this
theorem Shuts.set {l : Array Bool} (h : Shuts md ops l) {j : Nat} (hj : j ∈ Region.ready md ops l) : Shuts md ops (l.setIfInBounds j true) := by
  obtain ⟨_, oj, hoj, hall⟩ := mem_ready.1 hj
  intro k o hk hl e he hb
  refine getD_set_true ?_
  by_cases hjk : j = k
  · subst hjk
    rw [hoj] at hk
    cases hk
    exact hall e he hb
  · rw [getD_set_ne false hjk] at hl
    exact h k o hk hl e he hb
theorem needs_open {l : Array Bool} (h : Shuts md ops l) {i : Nat} (hi : l.getD i false = false) : ∀ (n j : Nat), needs md ops i n j = true → ∃ o, ops[j]? = some o ∧ ∃ e ∈ o.after, Region.binds md e = true ∧ l.getD e.on false = false
  | 0, _, hn => by cases hn
  | n + 1, j, hn => by
    unfold needs at hn
    cases ho : ops[j]? with
    | none => rw [ho] at hn; cases hn
    | some o =>
      rw [ho] at hn
      obtain ⟨e, he, hb⟩ := Array.any_eq_true'.1 hn
      simp only [Bool.and_eq_true, Bool.or_eq_true, beq_iff_eq] at hb
      refine ⟨o, rfl, e, he, hb.1, ?_⟩
      rcases hb.2 with rfl | h2
      · exact hi
      · obtain ⟨o', ho', e', he', hb', hl'⟩ := needs_open h hi n e.on h2
        cases hc : l.getD e.on false with
        | false => rfl
        | true =>
          have := h e.on o' ho' hc e' he' hb'
          rw [hl'] at this
          cases this
def awaitedT (md : Region.Mode) (ops : Array Oper) (late : List Nat) (l : Array Bool) (i : Nat) : Bool := late.all fun j => l.getD j false || needs md ops i ops.size j
theorem awaitedT_set {l : Array Bool} {i j : Nat} (h : awaitedT md ops late l i = true) : awaitedT md ops late (l.setIfInBounds j true) i = true := by
  unfold awaitedT at h ⊢
  rw [List.all_eq_true] at h ⊢
  intro k hk
  have := h k hk
  rw [Bool.or_eq_true] at this ⊢
  exact this.imp (fun x => getD_set_true x) id
theorem wpPart_firstT {i : Nat} {oi : Oper} {v : Value} (hi : ops[i]? = some oi) (hsel : ∀ (j : Nat) (o : Oper) cs b, ops[j]? = some o → o.op ≠ .select cs b)
    (hQ : ∀ c a w, Q (.panic c) (a.put oi.dst v) w → Q (.panic c) a w) : ∀ (f : Nat) (l : Array Bool) (a : Act) (w : World), awaitedT md ops late l i = true → Shuts md ops l →
      (∀ j oj, ops[j]? = some oj → j ≠ i → l.getD j true = false → (∀ e ∈ oj.after, Region.binds md e = true → e.on ≠ i) → oi.apart ops oj = true) →
      i ∈ Region.ready md ops l → late.contains i = false → YieldsIf P ops S oi v a → S w → wpPart P md ops Q S late f (l.setIfInBounds i true) (a.put oi.dst v) w → wpPart P md ops Q S late (f + 1) l a w := by
  intro f
  induction f with
  | zero =>
    intro l a w _ _ _ hr _ hy hS H
    refine ⟨fun h => (by rw [h] at hr; cases hr), fun j hj => ?_⟩
    by_cases hji : j = i
    · subst hji; exact hy.wpOp hi hS ⟨fun _ => hS, H⟩
    · have h0 := ready_mono hj hji
      rw [H.1] at h0
      cases h0
  | succ f ih =>
    intro l a w hw hsh hfree hr hlate hy hS H
    refine ⟨fun h => (by rw [h] at hr; cases hr), fun j hj => ?_⟩
    by_cases hji : j = i
    · subst hji; exact hy.wpOp hi hS ⟨fun _ => hS, H⟩
    obtain ⟨hjun, oj, hoj, hall⟩ := mem_ready.1 hj
    have hiun : l.getD i false = false := by
      have h0 := (mem_ready.1 hr).1
      rcases Nat.lt_or_ge i l.size with h' | h'
      · simp [h'] at h0 ⊢; exact h0
      · simp [Array.getElem?_eq_none h']
    have hnot : ∀ e ∈ oj.after, Region.binds md e = true → e.on ≠ i := fun e he hb heq => by
      have h1 := hall e he hb
      rw [heq, hiun] at h1
      cases h1
    have hjl : late.contains j = false := by
      cases hc : late.contains j with
      | false => rfl
      | true =>
        unfold awaitedT at hw
        rw [List.all_eq_true] at hw
        have hwj := hw j (by simpa using hc)
        have hju : l.getD j false = false := by
          rcases Nat.lt_or_ge j l.size with h' | h'
          · simp [h'] at hjun ⊢; exact hjun
          · simp [Array.getElem?_eq_none h']
        rw [hju, Bool.false_or] at hwj
        obtain ⟨o, ho, e, he, hb, hl⟩ := needs_open hsh hiun _ j hwj
        rw [hoj] at ho
        cases ho
        have h1 := hall e he hb
        rw [hl] at h1
        cases h1
    have h2 := wpOp_putIf hoj (hfree j oj hoj hji hjun hnot) (fun cs b => hsel i oi cs b hi) (fun cs b => hsel j oj cs b hoj) hQ hy (H.2 j (ready_mono hj hji))
    refine wpOp_mono (fun a' w' h3 => ⟨h3.2.1, ih (l.setIfInBounds j true) a' w' (awaitedT_set hw) (hsh.set hj) (fun k ok hk hki hun hno => ?_) (ready_mono hr (Ne.symm hji)) hlate h3.1 (h3.2.1 hjl) ?_⟩) h2
    · refine hfree k ok hk hki ?_ hno
      by_cases hjk : j = k
      · subst hjk; exact hjun
      · rw [getD_set_ne true hjk] at hun; exact hun
    · rw [Array.setIfInBounds_comm _ _ hji]
      exact h3.2.2
theorem wpPart_takeT {i : Nat} {oi : Oper} {v : Value} {f : Nat} {l : Array Bool} {a : Act} {w : World} (hi : ops[i]? = some oi) (hs : Region.noSelect ops = true) (hw : awaitedT md ops late l i = true) (hsh : shutB md ops l = true) (hl : late.contains i = false)
    (hf : Region.free md ops l i = true) (hr : (Region.ready md ops l).contains i = true) (hQ : ∀ c a w, Q (.panic c) (a.put oi.dst v) w → Q (.panic c) a w) (hy : YieldsIf P ops S oi v a) (hS : S w)
    (h : wpPart P md ops Q S late f (l.setIfInBounds i true) (a.put oi.dst v) w) : wpPart P md ops Q S late (f + 1) l a w :=
  wpPart_firstT hi (Region.noSelect_spec hs) hQ f l a w hw (shut_spec hsh) (Region.free_spec hi hf) (by simpa using hr) hl hy hS h
/-- A late operation that yields one value whatever the world is. -/
theorem wpPart_firstM {i : Nat} {oi : Oper} {v : Value} (hi : ops[i]? = some oi) (hsel : ∀ (j : Nat) (o : Oper) cs b, ops[j]? = some o → o.op ≠ .select cs b)
    (hQ : ∀ c a w, Q (.panic c) (a.put oi.dst v) w → Q (.panic c) a w) (hlate : late.contains i = true) : ∀ (f : Nat) (l : Array Bool) (a : Act) (w : World),
      (∀ j oj, ops[j]? = some oj → j ≠ i → l.getD j true = false → (∀ e ∈ oj.after, Region.binds md e = true → e.on ≠ i) → oi.apart ops oj = true) →
      i ∈ Region.ready md ops l → YieldsIf P ops (fun _ => True) oi v a → wpPart P md ops Q S late f (l.setIfInBounds i true) (a.put oi.dst v) w → wpPart P md ops Q S late (f + 1) l a w := by
  intro f
  induction f with
  | zero =>
    intro l a w _ hr hy H
    refine ⟨fun h => (by rw [h] at hr; cases hr), fun j hj => ?_⟩
    by_cases hji : j = i
    · subst hji; exact hy.wpOp hi trivial ⟨fun hc => absurd hc (by rw [hlate]; decide), H⟩
    · have h0 := ready_mono hj hji
      rw [H.1] at h0
      cases h0
  | succ f ih =>
    intro l a w hfree hr hy H
    refine ⟨fun h => (by rw [h] at hr; cases hr), fun j hj => ?_⟩
    by_cases hji : j = i
    · subst hji; exact hy.wpOp hi trivial ⟨fun hc => absurd hc (by rw [hlate]; decide), H⟩
    obtain ⟨hjun, oj, hoj, hall⟩ := mem_ready.1 hj
    have hiun : l.getD i false = false := by
      have h0 := (mem_ready.1 hr).1
      rcases Nat.lt_or_ge i l.size with h' | h'
      · simp [h'] at h0 ⊢; exact h0
      · simp [Array.getElem?_eq_none h']
    have hnot : ∀ e ∈ oj.after, Region.binds md e = true → e.on ≠ i := fun e he hb heq => by
      have h1 := hall e he hb
      rw [heq, hiun] at h1
      cases h1
    have h2 := wpOp_putIf hoj (hfree j oj hoj hji hjun hnot) (fun cs b => hsel i oi cs b hi) (fun cs b => hsel j oj cs b hoj) hQ hy (H.2 j (ready_mono hj hji))
    refine wpOp_mono (fun a' w' h3 => ⟨h3.2.1, ih (l.setIfInBounds j true) a' w' (fun k ok hk hki hun hno => ?_) (ready_mono hr (Ne.symm hji)) h3.1 ?_⟩) h2
    · refine hfree k ok hk hki ?_ hno
      by_cases hjk : j = k
      · subst hjk; exact hjun
      · rw [getD_set_ne true hjk] at hun; exact hun
    · rw [Array.setIfInBounds_comm _ _ hji]
      exact h3.2.2
theorem wpPart_takeM {i : Nat} {oi : Oper} {v : Value} {f : Nat} {l : Array Bool} {a : Act} {w : World} (hi : ops[i]? = some oi) (hs : Region.noSelect ops = true) (hl : late.contains i = true)
    (hf : Region.free md ops l i = true) (hr : (Region.ready md ops l).contains i = true) (hQ : ∀ c a w, Q (.panic c) (a.put oi.dst v) w → Q (.panic c) a w) (hy : YieldsIf P ops (fun _ => True) oi v a)
    (h : wpPart P md ops Q S late f (l.setIfInBounds i true) (a.put oi.dst v) w) : wpPart P md ops Q S late (f + 1) l a w :=
  wpPart_firstM hi (Region.noSelect_spec hs) hQ hl f l a w (Region.free_spec hi hf) (by simpa using hr) hy h
end
end Go.Shoal
