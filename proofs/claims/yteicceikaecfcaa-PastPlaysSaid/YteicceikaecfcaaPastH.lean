/-
  Package past: what Send leaves, as data.
-/
import Derived.Test.YteicceikaecfcaaPastG
namespace Go.Proofs.Yteicceikaecfcaa
open Go.RowKit Go.Shoal Go.Maps

/-- Behind a Send. -/
def Pa.sent (s : Pa) (f t M : Nat) (av : Value) : Pa :=
  { s with all := s.all ++ [⟨f, cnt s.all f + 1, t, s.knows f, M⟩], knows := fun q => if q = f then (fun k => s.knows f k || k == s.all.length) else s.knows q, av := av }
theorem get_snoc {α : Type} {l : List α} {a b : α} {k : Nat} (h : (l ++ [a])[k]? = some b) : (k < l.length ∧ l[k]? = some b) ∨ (k = l.length ∧ b = a) := by
  by_cases hk : k < l.length
  · rw [List.getElem?_append_left hk] at h
    exact .inl ⟨hk, h⟩
  · rw [List.getElem?_append_right (by omega)] at h
    have h0 : k - l.length = 0 := by
      have := (List.getElem?_eq_some_iff.1 h).1
      simp at this
      omega
    rw [h0] at h
    exact .inr ⟨by omega, by simpa using h.symm⟩
theorem get_old {α : Type} {l : List α} (a : α) {k : Nat} (h : k < l.length) : (l ++ [a])[k]? = l[k]? := List.getElem?_append_left h
theorem Pa.Ok.sent {s : Pa} (h : s.Ok) {f t M : Nat} {av : Value} (hf : f < s.n) (ht : t < 18446744073709551616) (hl : s.all.length < 1000) : (s.sent f t M av).Ok := by
  have hk1 : ∀ q k, (s.sent f t M av).knows q k = true → k < s.all.length ∧ s.knows q k = true ∨ (q = f ∧ k = s.all.length) := by
    intro q k hk
    unfold Pa.sent at hk
    by_cases e : q = f
    · subst e
      simp only [if_true, Bool.or_eq_true, beq_iff_eq] at hk
      rcases hk with hk | hk
      · exact .inl ⟨h.klt _ _ hk, hk⟩
      · exact .inr ⟨rfl, hk⟩
    · simp only [if_neg e] at hk
      exact .inl ⟨h.klt _ _ hk, hk⟩
  have hk2 : ∀ q k, s.knows q k = true → (s.sent f t M av).knows q k = true := by
    intro q k hk
    unfold Pa.sent
    by_cases e : q = f
    · subst e; simp [hk]
    · simp [e, hk]
  refine ⟨h.n1, h.n16, by show (s.all ++ [_]).length ≤ 1000; simp; omega, fun m hm => ?_, fun m hm => ?_, fun k m hk => ?_, fun k m j hk hj => ?_, fun q k hk => ?_, fun q k m j hk hm hj => ?_, fun i k m m' j hi hk hm' hj => ?_, fun q k hk => ?_, h.gnd, fun q k m hk hm => ?_, h.hlt, h.hin⟩
  · rcases List.mem_append.1 hm with hm | hm
    · exact h.frm m hm
    · obtain rfl := List.mem_singleton.1 hm
      exact hf
  · rcases List.mem_append.1 hm with hm | hm
    · exact h.to m hm
    · obtain rfl := List.mem_singleton.1 hm
      exact ht
  · show m.num = cnt ((s.all ++ [_]).take k) m.frm + 1
    rcases get_snoc hk with ⟨hlt, hk⟩ | ⟨rfl, rfl⟩
    · rw [List.take_append_of_le_length (by omega)]
      exact h.num k m hk
    · rw [List.take_append_of_le_length (Nat.le_refl _), List.take_length]
  · rcases get_snoc hk with ⟨hlt, hk⟩ | ⟨rfl, rfl⟩
    · exact h.alt k m j hk hj
    · exact h.klt f j hj
  · show k < (s.all ++ [_]).length
    rw [List.length_append]
    rcases hk1 q k hk with ⟨h1, _⟩ | ⟨_, h1⟩
    · omega
    · rw [h1]; simp
  · rcases get_snoc hm with ⟨hlt, hm⟩ | ⟨rfl, rfl⟩
    · rcases hk1 q k hk with ⟨_, h1⟩ | ⟨_, h1⟩
      · exact hk2 q j (h.kcl q k m j h1 hm hj)
      · omega
    · rcases hk1 q _ hk with ⟨h1, _⟩ | ⟨rfl, _⟩
      · omega
      · exact hk2 q j hj
  · rcases get_snoc hi with ⟨hlt, hi⟩ | ⟨rfl, rfl⟩
    · have hki := h.alt i m k hi hk
      have hm' : (s.all ++ [_])[k]? = some m' := hm'
      rw [get_old _ (by omega : k < s.all.length)] at hm'
      exact h.acl i k m m' j hi hk hm' hj
    · have hki := h.klt f k hk
      have hm' : (s.all ++ [_])[k]? = some m' := hm'
      rw [get_old _ hki] at hm'
      exact h.kcl f k m' j hk hm' hj
  · show k < (s.all ++ [_]).length
    have := h.glt q k hk
    rw [List.length_append]; simp; omega
  · have hlt := h.glt q k hk
    have hm2 : (s.all ++ [_])[k]? = some m := hm
    rw [get_old _ hlt] at hm2
    exact h.gto q k m hk hm2
theorem ne_map {w : World} {a b t : Nat} {cs : Array Value} {es : Array MapEntry} {c : Nat} (h : w.heap[a]? = some (.cells cs t (0, 0))) (h' : w.heap[b]? = some (.map es c)) : a ≠ b := by
  rintro rfl
  rw [h] at h'
  cases h'
theorem row_ne {w : World} {e size n g t : Nat} {v : Value} {xs : List Value} {cs : Array Value} (h : RowOf w e size v n xs) (hg : w.heap[g]? = some (.cells cs t (0, 0))) (hne : e ≠ t) : ∀ b, v.ownBlock = some b → b ≠ g := by
  intro b hb
  obtain ⟨cur, hc⟩ := h.block hb
  exact blk_ne hc hg hne
theorem row_map {w : World} {e size n g c : Nat} {v : Value} {xs : List Value} {es : Array MapEntry} (h : RowOf w e size v n xs) (hg : w.heap[g]? = some (.map es c)) : ∀ b, v.ownBlock = some b → b ≠ g := by
  intro b hb
  obtain ⟨cur, hc⟩ := h.block hb
  exact ne_map hc hg
theorem row_row {w : World} {e e' size size' n n' : Nat} {v v' : Value} {xs xs' : List Value} (h : RowOf w e size v n xs) (h' : RowOf w e' size' v' n' xs') (hne : e ≠ e') : ∀ b, v.ownBlock = some b → v'.ownBlock ≠ some b := by
  intro b hb hb'
  obtain ⟨cur, hc⟩ := h.block hb
  obtain ⟨cur', hc'⟩ := h'.block hb'
  exact blk_ne hc hc' hne rfl
theorem nameAt_old (l : List Ms) (m : Ms) {k : Nat} (h : k < l.length) : nameAt (l ++ [m]) k = nameAt l k := by
  unfold nameAt
  rw [List.getD_eq_getElem?_getD, List.getD_eq_getElem?_getD, get_old _ h]
/-- Which blocks a Send writes. -/
def SendS (B : Nat) (s : Pa) (f b : Nat) : Prop := b = s.cB ∨ b = s.kb f ∨ s.av.ownBlock = some b ∨ b = B
theorem PastAt.send {w W : World} {B : Nat} {s : Pa} (h : PastAt w B s) {f t M : Nat} {av : Value} (hf : f < s.n) (ht : t < 18446744073709551616) (hl : s.all.length < 1000) (hM : w.heap.size ≤ M) (hm : Mod (SendS B s f) w W)
    (htop : W.heap[B]? = some (.cells (s.sent f t M av).top 69 (0, 0))) (hall : RowOf W 73 4 av (s.all.length + 1) ((s.all ++ [(⟨f, cnt s.all f + 1, t, s.knows f, M⟩ : Ms)]).flatMap Ms.cells))
    (hcrow : W.heap[s.cB]? = some (.cells (s.sent f t M av).crow 30 (0, 0))) (hsM : SetsAt W M (s.knows f)) (hsK : SetsAt W (s.kb f) (fun k => s.knows f k || k == s.all.length)) : PastAt W B (s.sent f t M av) := by
  obtain ⟨ef, cf, mf⟩ := (h.ks f hf).isMap
  obtain ⟨eh, ch, mh⟩ := h.had.isMap
  have hnb : ∀ g cs t', w.heap[g]? = some (.cells cs t' (0, 0)) → t' ≠ 30 → t' ≠ 73 → t' ≠ 69 → ¬ SendS B s f g := by
    intro g cs t' hg h1 h2 h3 hs
    rcases hs with rfl | rfl | hs | rfl
    · exact blk_ne hg h.crow h1 rfl
    · exact ne_map hg mf rfl
    · exact row_ne h.all hg (Ne.symm h2) _ hs rfl
    · exact blk_ne hg h.top h3 rfl
  have hnm : ∀ g es c, w.heap[g]? = some (.map es c) → g ≠ s.kb f → ¬ SendS B s f g := by
    intro g es c hg h1 hs
    rcases hs with rfl | rfl | hs | rfl
    · exact ne_map h.crow hg rfl
    · exact h1 rfl
    · exact row_map h.all hg _ hs rfl
    · exact ne_map h.top hg rfl
  refine ⟨htop, ?_, hm.blk h.krow (hnb _ _ _ h.krow (by decide) (by decide) (by decide)), hcrow, hm.blk h.trow (hnb _ _ _ h.trow (by decide) (by decide) (by decide)), h.had.mod hm (hnm _ _ _ mh (h.apart.hk f hf)), fun q hq => ?_, fun m hmm => ?_, fun q hq => ?_, h.ok.sent hf ht hl, ?_⟩
  · show RowOf W _ 4 av (s.all ++ [_]).length _
    rw [List.length_append]
    exact hall
  · show SetsAt W (s.kb q) (if q = f then (fun k => s.knows f k || k == s.all.length) else s.knows q)
    by_cases e : q = f
    · rw [if_pos e, e]; exact hsK
    · rw [if_neg e]
      obtain ⟨eq, cq, mq⟩ := (h.ks q hq).isMap
      exact (h.ks q hq).mod hm (hnm _ _ _ mq (fun hk => e (h.apart.kk q f hq hf hk)))
  · rcases List.mem_append.1 hmm with hmm | hmm
    · obtain ⟨em, cm, mm⟩ := (h.sets m hmm).isMap
      exact (h.sets m hmm).mod hm (hnm _ _ _ mm (fun hk => h.apart.ka f m hf hmm hk.symm))
    · obtain rfl := List.mem_singleton.1 hmm
      exact hsM
  · have hts := (h.ts q hq).mod hm (fun b hb => by
      obtain ⟨cur, hc⟩ := (h.ts q hq).block hb
      exact hnb _ _ _ hc (by decide) (by decide) (by decide))
    have e : (s.sent f t M av).names q = s.names q := by
      show (s.got q).map (nameAt (s.all ++ [_])) = (s.got q).map (nameAt s.all)
      exact List.map_congr_left fun k hk => nameAt_old _ _ (h.ok.glt q k hk)
    show RowOf W _ 2 (s.tv q) (s.got q).length (((s.sent f t M av).names q).flatMap nameCells)
    rw [e]
    exact hts
  · have hold : ∀ m ∈ s.all, m.blk ≠ M := fun m hmm e => by have := (h.sets m hmm).lt_size; omega
    refine ⟨h.apart.kk, fun i j m m' hi hj e => ?_, fun q m hq hmm => ?_, h.apart.hk, fun m hmm => ?_, h.apart.tt⟩
    · rcases get_snoc hi with ⟨h1, hi⟩ | ⟨h1, rfl⟩ <;> rcases get_snoc hj with ⟨h2, hj⟩ | ⟨h2, rfl⟩
      · exact h.apart.aa i j m m' hi hj e
      · exact absurd e (hold m (List.mem_of_getElem? hi))
      · exact absurd e.symm (hold m' (List.mem_of_getElem? hj))
      · omega
    · rcases List.mem_append.1 hmm with hmm | hmm
      · exact h.apart.ka q m hq hmm
      · obtain rfl := List.mem_singleton.1 hmm
        intro e
        have := (h.ks q hq).lt_size
        have e2 : s.kb q = M := e
        omega
    · rcases List.mem_append.1 hmm with hmm | hmm
      · exact h.apart.ha m hmm
      · obtain rfl := List.mem_singleton.1 hmm
        intro e
        have := h.had.lt_size
        have e2 : s.hB = M := e
        omega
/-- One word of the counts is one more. -/
theorem crow_set (s : Pa) (f t M : Nat) (av : Value) (hf : f < s.n) : s.crow.setIfInBounds f (.int .u64 ((cnt s.all f + 1 : Nat) : Int)) = (s.sent f t M av).crow := by
  unfold Pa.crow
  apply Array.ext_getElem?
  intro i
  by_cases hi : i < s.n
  · have e2 : ((List.range (s.sent f t M av).n).map fun q => Value.int .u64 (cnt (s.sent f t M av).all q : Int)).toArray[i]? = some (.int .u64 (cnt (s.all ++ [⟨f, cnt s.all f + 1, t, s.knows f, M⟩]) i : Int)) := row_at _ hi
    rw [e2, cnt_snoc]
    by_cases hif : i = f
    · subst hif
      rw [Array.getElem?_setIfInBounds, if_pos rfl, if_pos (by simpa using hi)]
      simp
    · rw [Array.getElem?_setIfInBounds, if_neg (fun e => hif e.symm), row_at _ hi]
      have : (f == i) = false := by simp; omega
      simp [this]
  · rw [Array.getElem?_eq_none (by simp; omega), Array.getElem?_eq_none (by simp [Pa.sent]; omega)]
end Go.Proofs.Yteicceikaecfcaa
