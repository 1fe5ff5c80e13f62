/-
  The reference's reading of a set's text: plain.
-/
import Derived.Test.YtkmfbddiebigfaaDoorDsF
namespace Go.Proofs.YtkmfbddiebigfaaDoor
open Go.RowKit Go.Shoal

/-- What ParseSet bears from letter to letter: the set, the number under way, whether there is one. -/
structure PSt where
  s : Nat
  n : Nat
  some : Bool
def isDig (c : UInt8) : Bool := decide (48 ≤ c.toNat) && decide (c.toNat ≤ 57)
def pend (st : PSt) : Nat := if st.some = true ∧ st.n < 64 then st.s ||| oneOf (st.n : Int) else st.s
def pstep (st : PSt) (c : UInt8) : PSt :=
  if isDig c = true ∧ st.n < 100 then ⟨st.s, 10 * st.n + (c.toNat - 48), true⟩ else ⟨pend st, 0, false⟩
def pfold (l : List UInt8) : PSt := l.foldl pstep ⟨0, 0, false⟩
def pscan (l : List UInt8) : Nat := (pfold l).s
theorem pend_lt {st : PSt} (h : st.s < 18446744073709551616) : pend st < 18446744073709551616 := by
  unfold pend
  split
  · exact or_lt64 h (oneOf_lt _)
  · exact h
theorem pstep_lt {st : PSt} (c : UInt8) (h : st.s < 18446744073709551616 ∧ st.n < 1000) : (pstep st c).s < 18446744073709551616 ∧ (pstep st c).n < 1000 := by
  unfold pstep
  split
  · rename_i hc
    have h2 := (Bool.and_eq_true_iff.1 hc.1).2
    have h3 := of_decide_eq_true h2
    exact ⟨h.1, by show 10 * st.n + (c.toNat - 48) < 1000; omega⟩
  · exact ⟨pend_lt h.1, by show (0 : Nat) < 1000; decide⟩
theorem pfold_snoc (l : List UInt8) (c : UInt8) : pfold (l ++ [c]) = pstep (pfold l) c := by simp [pfold, List.foldl_append]
theorem pfold_lt (l : List UInt8) : (pfold l).s < 18446744073709551616 ∧ (pfold l).n < 1000 := by
  have : ∀ (l : List UInt8) (st : PSt), st.s < 18446744073709551616 ∧ st.n < 1000 → (l.foldl pstep st).s < 18446744073709551616 ∧ (l.foldl pstep st).n < 1000 := by
    intro l
    induction l with
    | nil => exact fun st h => h
    | cons c r ih => exact fun st h => ih _ (pstep_lt c h)
  exact this l _ ⟨by decide, by decide⟩
theorem dig_nat {d : Nat} (h : d < 10) : isDig (UInt8.ofNat (48 + d)) = true ∧ (UInt8.ofNat (48 + d)).toNat = 48 + d := by
  have e : (UInt8.ofNat (48 + d)).toNat = 48 + d := by rw [UInt8.toNat_ofNat']; omega
  refine ⟨?_, e⟩
  unfold isDig
  rw [e, decide_eq_true (show 48 ≤ 48 + d by omega), decide_eq_true (show 48 + d ≤ 57 by omega)]
  rfl
theorem pstep_dig (s n d : Nat) (b : Bool) (h : d < 10) (hn : n < 100) : pstep ⟨s, n, b⟩ (UInt8.ofNat (48 + d)) = ⟨s, 10 * n + d, true⟩ := by
  obtain ⟨h1, h2⟩ := dig_nat h
  unfold pstep
  rw [if_pos ⟨h1, hn⟩, h2, Nat.add_sub_cancel_left]
theorem pfold_dd (s k : Nat) (h : k < 64) : (Lib.decDigits k).foldl pstep ⟨s, 0, false⟩ = ⟨s, k, true⟩ := by
  rw [dd_is (by omega)]
  unfold dd
  by_cases h1 : k < 10
  · rw [if_pos h1]
    show pstep _ _ = _
    rw [pstep_dig s 0 k false h1 (by decide)]
    congr 1
    omega
  · rw [if_neg h1]
    show pstep (pstep _ _) _ = _
    rw [pstep_dig s 0 (k / 10) false (by omega) (by decide), pstep_dig s _ (k % 10) true (by omega) (by omega)]
    congr 1
    omega
theorem pstep_end (st : PSt) {c : UInt8} (h : isDig c = false) : pstep st c = ⟨pend st, 0, false⟩ := by
  unfold pstep
  rw [if_neg (by rw [h]; rintro ⟨x, _⟩; cases x)]
theorem pend_num (s k : Nat) (h : k < 64) : pend ⟨s, k, true⟩ = s ||| oneOf (k : Int) := if_pos ⟨rfl, h⟩
theorem pfold_tail : ∀ (l : List Nat) (s k : Nat), k < 64 → (∀ j ∈ l, j < 64) → (Lib.joinTail [44] (l.map Lib.decDigits) ++ [125]).foldl pstep ⟨s, k, true⟩ = ⟨(l.map (fun k : Nat => (k : Int))).foldl (fun s p => s ||| oneOf p) (s ||| oneOf (k : Int)), 0, false⟩
  | [], s, k, hk, _ => by
    show pstep _ 125 = _
    rw [pstep_end _ (by decide), pend_num s k hk]
    rfl
  | j :: r, s, k, hk, hl => by
    have ih := pfold_tail r (s ||| oneOf (k : Int)) j (hl j (List.mem_cons_self ..)) (fun x hx => hl x (List.mem_cons_of_mem _ hx))
    have e : Lib.joinTail [44] ((j :: r).map Lib.decDigits) ++ [125] = 44 :: (Lib.decDigits j ++ (Lib.joinTail [44] (r.map Lib.decDigits) ++ [125])) := by
      simp [Lib.joinTail]
    rw [e, List.foldl_cons, pstep_end _ (by decide), pend_num s k hk, List.foldl_append, pfold_dd _ _ (hl j (List.mem_cons_self ..)), ih]
    rfl
theorem pscan_show (u : Nat) (hu : u < 18446744073709551616) : pscan (showL u) = u := by
  have hset := setOf_bits u hu
  have hb : ∀ j ∈ bitsOf u, j < 64 := fun j hj => ((bitsOf_mem u j).1 hj).1
  unfold pscan pfold showL joinL
  generalize bitsOf u = l at *
  rw [List.foldl_cons, pstep_end _ (by decide)]
  have e0 : pend ⟨0, 0, false⟩ = 0 := rfl
  rw [e0]
  cases l with
  | nil => exact hset
  | cons k r =>
    rw [List.map_cons, Lib.join_cons, List.append_assoc, List.foldl_append, pfold_dd _ _ (hb k (List.mem_cons_self ..)), pfold_tail r 0 k (hb k (List.mem_cons_self ..)) (fun x hx => hb x (List.mem_cons_of_mem _ hx))]
    exact hset
/-- Both readings are alike. -/
theorem parse_alike (t : List UInt8) : decide (showL (pscan t) = t) = (parseX t).2 ∧ ((parseX t).2 = true → pscan t = (parseX t).1) := by
  cases h : (parseX t).2 with
  | true =>
    obtain ⟨h1, h2⟩ := parse_is t h
    have e : pscan t = (parseX t).1 := by
      have := pscan_show _ h2
      rw [h1] at this
      exact this
    exact ⟨decide_eq_true (by rw [e, h1]), fun _ => e⟩
  | false =>
    refine ⟨decide_eq_false fun e => ?_, fun x => by cases x⟩
    have := parse_show (pscan t) (pfold_lt t).1
    rw [e, ] at this
    rw [this] at h
    cases h
end Go.Proofs.YtkmfbddiebigfaaDoor
