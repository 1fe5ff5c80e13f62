/-
  PastOnce: one message, and who has taken it.
-/
import Derived.Test.YteicceikaecfcaaPastM
namespace Go.Proofs.Yteicceikaecfcaa
open Go.RowKit Go.Shoal Go.Maps

/-- The set that the law asks for. -/
def onceSet (t : Nat) (n : Int) : Nat := lessOf (t &&& allOf n) (oneOf 0)
theorem onceSet_lt (t : Nat) (n : Int) (ht : t < 18446744073709551616) : onceSet t n < 18446744073709551616 := less_lt _ _ (and_lt ht)
theorem onceSet_bits (t : Nat) (n : Int) (ht : t < 18446744073709551616) :
    bits .and .u64 (t : Int) ((allOf n : Nat) : Int) = ((t &&& allOf n : Nat) : Int) ∧ bits .andNot .u64 ((t &&& allOf n : Nat) : Int) ((oneOf 0 : Nat) : Int) = ((onceSet t n : Nat) : Int) :=
  ⟨u64_and_nat t (allOf n) ht (allOf_lt n), u64_andNot_nat _ _ (and_lt ht) (oneOf_lt 0)⟩
theorem onceSet_zero (t : Nat) (n : Int) (ht : t < 18446744073709551616) : inSet (onceSet t n) ((0 : Nat) : Int) = false := by
  rw [inSet_nat _ _ (onceSet_lt t n ht)]
  unfold onceSet
  rw [testBit_less _ _ _ (oneOf_lt 0) (and_lt ht), testBit_oneOf]
  simp
theorem onceSet_within (t : Nat) (n : Int) (ht : t < 18446744073709551616) : lessOf (onceSet t n) (allOf n) = 0 := by
  rw [less_zero (onceSet_lt t n ht) (allOf_lt n)]
  intro i _ h
  unfold onceSet at h
  rw [testBit_less _ _ _ (oneOf_lt 0) (and_lt ht), Nat.testBit_and] at h
  simp at h
  exact h.1.2
/-- The message. -/
def onceMs (S M : Nat) : Ms := ⟨0, 1, S, fun _ => false, M⟩
def tkRow (tk : Nat → Bool) : Array Value := ((List.range 10).map fun q => Value.bool (tk q)).toArray
/-- Who has taken it: tk; what the law has noted: row. -/
def OnceSt (w : World) (B n S M qT R : Nat) (tk row : Nat → Bool) (wr : World) : Prop :=
  ∃ s : Pa, Lives w B s wr ∧ s.n = n ∧ s.all = [onceMs S M] ∧ (∀ q, q < n → s.got q = if tk q then [0] else []) ∧ Held qT (.cells (tkRow row) 47 (0, 0)) B s wr ∧ Held R (.cells #[.int .i64 0, .int .u64 1] 34 (0, 0)) B s wr ∧ qT ≠ R ∧ w.heap.size ≤ qT
def thereB (tk : Nat → Bool) (S n : Nat) (x : Int) : Bool := decide (0 ≤ x) && decide (x < n) && inSet S x && !tk x.toNat
def tkUp (tk : Nat → Bool) (S n : Nat) (x : Int) : Nat → Bool := fun q => if thereB tk S n x && (q == x.toNat) then true else tk q
section
variable {w wr : World} {B n S M qT R : Nat} {tk row : Nat → Bool}
theorem once_open {s : Pa} (hok : s.Ok) (hn : s.n = n) (hg : ∀ q, q < n → s.got q = if tk q then [0] else []) (q : Nat) (hq : q < n) : s.open (onceMs S M) 0 q = (inSet S (q : Int) && !tk q) := by
  unfold Pa.open
  rw [hok.hin 0 q (by omega), hg q hq]
  show (inSet S (q : Int) && _) = _
  cases tk q <;> simp
theorem once_there (q : Nat) (hq : q < n) : thereB tk S n (q : Int) = (inSet S (q : Int) && !tk q) := by
  unfold thereB
  rw [decide_eq_true (by omega : (0 : Int) ≤ (q : Int)), decide_eq_true (by omega : (q : Int) < (n : Int))]
  simp
theorem once_can (h : OnceSt w B n S M qT R tk row wr) (x : Int) :
    Calls Try.prog 15 #[.pointer (some ⟨B, 0, none⟩), .int .i64 x, .agg #[.int .i64 0, .int .u64 1]] wr fun e w' => e = .returned (.bool (thereB tk S n x)) ∧ OnceSt w B n S M qT R tk row w' := by
  obtain ⟨s, h1, h2, h3, h4, h5, h6, h7⟩ := h
  have hk : s.all[0]? = some (onceMs S M) := by rw [h3]; rfl
  by_cases hx : 0 ≤ x ∧ x < n
  · obtain ⟨q, rfl⟩ : ∃ q : Nat, x = q := ⟨x.toNat, by omega⟩
    have hq : q < n := by omega
    have hc := can_any B s q 0 (onceMs S M) wr h1.at' (by omega) hk
    have e : s.can (onceMs S M) 0 q = thereB tk S n (q : Int) := by
      unfold Pa.can
      rw [once_open h1.at'.ok h2 h4 q hq, once_there q hq, h3]
      cases inSet S (q : Int) <;> cases tk q <;> simp [onceMs]
    rw [e] at hc
    exact hc.mono fun _ _ ⟨he, hm⟩ => ⟨he, s, h1.quiet hm, h2, h3, h4, h5.quiet hm, h6.quiet hm, h7⟩
  · have e : thereB tk S n x = false := by
      unfold thereB
      by_cases h0 : 0 ≤ x
      · rw [decide_eq_false (by omega : ¬ x < (n : Int))]; simp
      · rw [decide_eq_false h0]; simp
    rw [e]
    refine (can_no B s x 0 1 wr h1.at' (.inl ?_)).mono fun _ _ ⟨he, hm⟩ => ⟨he, s, h1.quiet hm, h2, h3, h4, h5.quiet hm, h6.quiet hm, h7⟩
    unfold Pa.there
    rw [h2]
    by_cases h0 : 0 ≤ x
    · rw [decide_eq_false (by omega : ¬ x < (n : Int))]; simp
    · rw [decide_eq_false h0]; simp
theorem once_take (h : OnceSt w B n S M qT R tk row wr) (x : Int) :
    Calls Try.prog 12 #[.pointer (some ⟨B, 0, none⟩), .int .i64 x, .agg #[.int .i64 0, .int .u64 1]] wr fun e w' => e = .returned (.bool (thereB tk S n x)) ∧ OnceSt w B n S M qT R (tkUp tk S n x) row w' := by
  obtain ⟨s, h1, h2, h3, h4, h5, h6, h7⟩ := h
  have hk : s.all[0]? = some (onceMs S M) := by rw [h3]; rfl
  have hno : thereB tk S n x = false → tkUp tk S n x = tk := fun e => by
    funext q
    unfold tkUp
    rw [e]; simp
  by_cases hx : 0 ≤ x ∧ x < n
  · obtain ⟨q, rfl⟩ : ∃ q : Nat, x = q := ⟨x.toNat, by omega⟩
    have hq : q < n := by omega
    have ho := once_open (S := S) (M := M) h1.at'.ok h2 h4 q hq
    rw [← once_there q hq] at ho
    cases e : thereB tk S n (q : Int)
    · rw [e] at ho
      rw [hno e]
      exact (take_not B s q 0 (onceMs S M) wr h1.at' (by omega) hk ho).mono fun _ _ ⟨he, hm⟩ => ⟨he, s, h1.quiet hm, h2, h3, h4, h5.quiet hm, h6.quiet hm, h7⟩
    · rw [e] at ho
      refine (lives_take h1 q 0 (onceMs S M) (by omega) hk ho).mono fun _ w' ⟨v, he, hL, hh, _⟩ => ⟨he, _, hL, h2, h3, fun r hr => ?_, hh _ _ h5, hh _ _ h6, h7⟩
      show (if r = q then s.got q ++ [0] else s.got r) = if tkUp tk S n (q : Int) r then [0] else []
      unfold tkUp
      rw [e]
      by_cases hrq : r = q
      · subst hrq
        have h0 : tk r = false := by
          rw [once_there r hq] at e
          simp at e
          exact e.2
        rw [if_pos rfl, h4 r hr, h0]
        simp
      · rw [if_neg hrq, h4 r hr]
        simp [hrq]
  · have e : thereB tk S n x = false := by
      unfold thereB
      by_cases h0 : 0 ≤ x
      · rw [decide_eq_false (by omega : ¬ x < (n : Int))]; simp
      · rw [decide_eq_false h0]; simp
    rw [e, hno e]
    refine (take_no B s x 0 1 wr h1.at' (.inl ?_)).mono fun _ _ ⟨he, hm⟩ => ⟨he, s, h1.quiet hm, h2, h3, h4, h5.quiet hm, h6.quiet hm, h7⟩
    unfold Pa.there
    rw [h2]
    by_cases h0 : 0 ≤ x
    · rw [decide_eq_false (by omega : ¬ x < (n : Int))]; simp
    · rw [decide_eq_false h0]; simp
/-- What one who has taken it has taken. -/
theorem once_taken (h : OnceSt w B n S M qT R tk row wr) (q : Nat) (hq : q < n) (ht : tk q = true) :
    Calls Try.prog 16 #[.pointer (some ⟨B, 0, none⟩), .int .i64 q] wr fun e w' => (∃ A c, e = .returned (.slice A 1 c)) ∧ OnceSt w B n S M qT R tk row w' := by
  obtain ⟨s, h1, h2, h3, h4, h5, h6, h7⟩ := h
  refine (taken_at B s q wr h1.at' (by omega)).mono fun _ w' ⟨v, he, hn, hm, _⟩ => ⟨?_, s, h1.quiet hm, h2, h3, h4, h5.quiet hm, h6.quiet hm, h7⟩
  obtain ⟨A, c, rfl⟩ := RowOf.form hn
  have e : (s.names q).length = 1 := by
    unfold Pa.names
    rw [h4 q hq, ht]; simp
  rw [e] at he
  exact ⟨A, c, he⟩
/-- The law's own note. -/
theorem once_note (h : OnceSt w B n S M qT R tk row wr) (q : Nat) (hq : q < 10) : OnceSt w B n S M qT R tk (fun r => if r = q then true else row r) (wr.setCell ⟨qT, q, none⟩ (.bool true)) := by
  obtain ⟨s, h1, h2, h3, h4, h5, h6, h7⟩ := h
  have hm : Mod (· = qT) wr (wr.setCell ⟨qT, q, none⟩ (.bool true)) := (Mod.refl (· = qT) wr).set (p := ⟨qT, q, none⟩) (fun _ => rfl) _
  refine ⟨s, ?_, h2, h3, h4, ⟨?_, h5.away⟩, ⟨hm.blk h6.here (fun e => h7.1 e.symm), h6.away⟩, h7⟩
  · exact h1.other hm (fun b hb => by rw [show b = qT from hb]; exact h5.away) (fun b hb => by rw [show b = qT from hb]; exact h7.2)
  · refine (blk_set h5.here q (.bool true)).trans ?_
    congr 2
    apply Array.ext_getElem?
    intro i
    by_cases hi : i < 10
    · have e2 : (tkRow (fun r => if r = q then true else row r))[i]? = some (.bool (if i = q then true else row i)) := row_at (fun r => Value.bool (if r = q then true else row r)) hi
      rw [e2]
      by_cases hiq : i = q
      · subst hiq
        rw [Array.getElem?_setIfInBounds, if_pos rfl, if_pos (by simp [tkRow]; omega)]
        simp
      · rw [Array.getElem?_setIfInBounds, if_neg (fun e => hiq e.symm), if_neg hiq]
        exact row_at (fun r => Value.bool (row r)) hi
    · rw [Array.getElem?_eq_none (by simp [tkRow]; omega), Array.getElem?_eq_none (by simp [tkRow]; omega)]
theorem OnceSt.quiet {w' : World} (h : OnceSt w B n S M qT R tk row wr) (hm : Mod (fun _ => False) wr w') : OnceSt w B n S M qT R tk row w' := by
  obtain ⟨s, h1, h2, h3, h4, h5, h6, h7⟩ := h
  exact ⟨s, h1.quiet hm, h2, h3, h4, h5.quiet hm, h6.quiet hm, h7⟩
theorem OnceSt.low (h : OnceSt w B n S M qT R tk row wr) : Below w.heap.size w wr := by
  obtain ⟨s, h1, _⟩ := h
  exact h1.low
theorem OnceSt.far (h : OnceSt w B n S M qT R tk row wr) : w.heap.size ≤ qT := by
  obtain ⟨s, h1, h2, h3, h4, h5, h6, h7⟩ := h
  exact h7.2
theorem OnceSt.box (h : OnceSt w B n S M qT R tk row wr) : wr.cell? ⟨R, 0, none⟩ = some (.int .i64 0) ∧ wr.cell? ⟨R, 1, none⟩ = some (.int .u64 1) := by
  obtain ⟨s, h1, h2, h3, h4, h5, h6, h7⟩ := h
  exact two_cells h6.here
theorem OnceSt.note (h : OnceSt w B n S M qT R tk row wr) (q : Nat) (hq : q < 10) : wr.cell? ⟨qT, q, none⟩ = some (.bool (row q)) ∧ wr.frozen? ⟨qT, q, none⟩ = false := by
  obtain ⟨s, h1, h2, h3, h4, h5, h6, h7⟩ := h
  exact ⟨(blk_cell h5.here q).trans (row_at (fun r => Value.bool (row r)) hq), blk_frozen h5.here q⟩
/-- The numbers that came in. -/
theorem ints_cell {A : Option Addr} {c : Nat} {zs : List Int} (h : NumsIn .i64 w (.slice A zs.length c) zs) {i : Nat} (hi : i < zs.length) : ∃ b o, A = some ⟨b, o, none⟩ ∧ b < w.heap.size ∧ ∀ W, Below w.heap.size w W → W.cell? ⟨b, o + i, none⟩ = some (.int .i64 (zs.getD i 0)) := by
  obtain ⟨A', c', he, _, hx, _⟩ := h
  cases he
  rcases hx with rfl | ⟨b, o, rfl, hbz, hc⟩
  · simp at hi
  · exact ⟨b, o, rfl, hbz, fun W hW => (hW.cell (p := ⟨b, o + i, none⟩) hbz).trans (hc i hi)⟩
end
end Go.Proofs.Yteicceikaecfcaa
