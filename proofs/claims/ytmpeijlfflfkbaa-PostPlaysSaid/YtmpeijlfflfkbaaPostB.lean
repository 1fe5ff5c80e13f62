/-
  Package post: what the boxes hold.
-/
import Derived.Test.YtmpeijlfflfkbaaPostA
namespace Go.Proofs.Ytmpeijlfflfkbaa
open Go.RowKit Go.Shoal Go.Conc

theorem chan_far (w : World) (c c' cap : Nat) (buf : Array Value) (cl : Bool) (s r : Nat) (tm : Bool) (h : c ≠ c') : (w.setChan c cap buf cl s r tm).heap[c']? = w.heap[c']? := by
  simp [World.setChan, Array.getElem?_setIfInBounds_ne h]
def canPut (n room : Nat) (ls : Nat → List Value) (b : Int) : Bool := decide (0 ≤ b) && decide (b < n) && decide ((ls b.toNat).length < room)
def canGet (n : Nat) (ls : Nat → List Value) (b : Int) : Bool := decide (0 ≤ b) && decide (b < n) && !(ls b.toNat).isEmpty
def setLs (ls : Nat → List Value) (k : Nat) (l : List Value) : Nat → List Value := fun i => if i = k then l else ls i
def putLs (n room : Nat) (ls : Nat → List Value) (b : Int) (v : Value) : Nat → List Value := if canPut n room ls b then setLs ls b.toNat (ls b.toNat ++ [v]) else ls
def getLs (n : Nat) (ls : Nat → List Value) (b : Int) : Nat → List Value := if canGet n ls b then setLs ls b.toNat (ls b.toNat).tail else ls

theorem BoxesI.set {base : Nat} {w : World} {p n room g : Nat} {ls : Nat → List Value} {c : Nat → Nat} (h0 : base ≤ p) (h1 : base ≤ g) (h2 : w.heap[p]? = some (.cells #[.slice (some ⟨g, 0, none⟩) n n] 56 (0, 0)))
    (h3 : ∃ cells, w.heap[g]? = some (.cells cells 57 (0, 0)) ∧ ∀ i, i < n → cells[i]? = some (.chan (some (c i))))
    (h4 : ∀ i, i < n → base ≤ c i ∧ ∃ s r, w.heap[c i]? = some (.chan room (ls i).toArray false s r false)) (h5 : ∀ i j, i < n → j < n → c i = c j → i = j) (k : Nat) (hk : k < n) (l : List Value) (buf : Array Value) (hb : buf = l.toArray) (s r : Nat) :
    BoxesI base (w.setChan (c k) room buf false s r false) p n room (setLs ls k l) ∧ Below base w (w.setChan (c k) room buf false s r false) := by
  obtain ⟨k1, s0, r0, k2⟩ := h4 k hk
  have hlt : c k < w.heap.size := (Array.getElem?_eq_some_iff.1 k2).1
  have e1 : c k ≠ p := fun e => by rw [e, h2] at k2; cases k2
  obtain ⟨cells, h3a, h3b⟩ := h3
  have e2 : c k ≠ g := fun e => by rw [e, h3a] at k2; cases k2
  subst hb
  refine ⟨⟨g, c, h0, h1, (chan_far _ _ _ _ _ _ _ _ _ e1).trans h2, ⟨cells, (chan_far _ _ _ _ _ _ _ _ _ e2).trans h3a, h3b⟩, fun i hi => ?_, h5⟩, below_setChan (Below.refl _ _) k1 _ _ _ _ _ _⟩
  unfold setLs
  by_cases hik : i = k
  · subst hik
    rw [if_pos rfl]
    exact ⟨k1, s, r, heap_setChan _ _ _ _ _ _ _ _ hlt⟩
  · rw [if_neg hik]
    obtain ⟨j1, s1, r1, j2⟩ := h4 i hi
    exact ⟨j1, s1, r1, (chan_far _ _ _ _ _ _ _ _ _ (fun e => hik (h5 i k hi hk e.symm))).trans j2⟩
theorem put_I (base p n room : Nat) (ls : Nat → List Value) (b : Int) (v : Value) (w : World) (h : BoxesI base w p n room ls) :
    Calls Try.prog 9 #[.pointer (some ⟨p, 0, none⟩), .int .i64 b, v] w fun e w' => e = .returned (.bool (canPut n room ls b)) ∧ BoxesI base w' p n room (putLs n room ls b v) ∧ Below base w w' := by
  have hB := h
  obtain ⟨g, c, h0, h1, h2, h3, h4, h5⟩ := h
  obtain ⟨cells, h3a, h3b⟩ := h3
  by_cases hb : 0 ≤ b ∧ b < n
  · obtain ⟨k, rfl⟩ := Int.eq_ofNat_of_zero_le hb.1
    have hk : k < n := by omega
    obtain ⟨k1, s, r, k2⟩ := h4 k hk
    by_cases hr : (ls k).length < room
    · have hc : canPut n room ls (k : Int) = true := by unfold canPut; rw [Int.toNat_natCast]; simp [hr]; omega
      refine (put_room_I p g n s r room c cells k (ls k).toArray v w h2 h3a h3b hk k2 (by simpa using hr)).mono fun e w' ⟨he, hw⟩ => ?_
      subst hw
      have hs := BoxesI.set h0 h1 h2 ⟨cells, h3a, h3b⟩ h4 h5 k hk (ls k ++ [v]) ((ls k).toArray.push v) (by simp) (s + 1) r
      rw [hc]
      unfold putLs
      rw [hc, if_pos rfl, Int.toNat_natCast]
      exact ⟨he, hs⟩
    · have hc : canPut n room ls (k : Int) = false := by unfold canPut; rw [Int.toNat_natCast, decide_eq_false hr, Bool.and_false]
      refine (put_full_I p g n s r room c cells k (ls k).toArray v w h2 h3a h3b hk k2 (by simp; omega)).mono fun e w' ⟨he, hw⟩ => ?_
      subst hw
      rw [hc]
      unfold putLs
      rw [hc, if_neg (by decide)]
      exact ⟨he, hB, Below.refl _ _⟩
  · have hc : canPut n room ls b = false := by
      unfold canPut
      by_cases h : 0 ≤ b
      · rw [decide_eq_false (show ¬ b < n by omega), Bool.and_false, Bool.false_and]
      · rw [decide_eq_false h, Bool.false_and, Bool.false_and]
    refine (put_none_I p g n c cells b v w h2 h3a h3b hb).mono fun e w' ⟨he, hw⟩ => ?_
    subst hw
    rw [hc]
    unfold putLs
    rw [hc, if_neg (by decide)]
    exact ⟨he, hB, Below.refl _ _⟩
theorem get_I (base p n room : Nat) (ls : Nat → List Value) (b : Int) (w : World) (h : BoxesI base w p n room ls) :
    Calls Try.prog 12 #[.pointer (some ⟨p, 0, none⟩), .int .i64 b] w fun e w' => e = .returned (.tuple #[if canGet n ls b then (ls b.toNat).headD (.int .i64 0) else .int .i64 0, .bool (canGet n ls b)]) ∧ BoxesI base w' p n room (getLs n ls b) ∧ Below base w w' := by
  have hB := h
  obtain ⟨g, c, h0, h1, h2, h3, h4, h5⟩ := h
  obtain ⟨cells, h3a, h3b⟩ := h3
  by_cases hb : 0 ≤ b ∧ b < n
  · obtain ⟨k, rfl⟩ := Int.eq_ofNat_of_zero_le hb.1
    have hk : k < n := by omega
    obtain ⟨k1, s, r, k2⟩ := h4 k hk
    cases hl : ls k with
    | nil =>
      have hc : canGet n ls (k : Int) = false := by unfold canGet; rw [Int.toNat_natCast, hl]; simp
      rw [hl] at k2
      refine (get_empty_I p g n s r room c cells k w h2 h3a h3b hk k2).mono fun e w' ⟨he, hw⟩ => ?_
      subst hw
      rw [hc]
      unfold getLs
      rw [hc, if_neg (by decide), if_neg (by decide)]
      exact ⟨he, hB, Below.refl _ _⟩
    | cons y l =>
      have hc : canGet n ls (k : Int) = true := by unfold canGet; rw [Int.toNat_natCast, hl]; simp; omega
      rw [hl] at k2
      refine (get_buf_I p g n s r room c cells k (y :: l).toArray y w h2 h3a h3b hk k2 (by simp) (by simp)).mono fun e w' ⟨he, hw⟩ => ?_
      subst hw
      have hs := BoxesI.set h0 h1 h2 ⟨cells, h3a, h3b⟩ h4 h5 k hk l ((y :: l).toArray.extract 1 (y :: l).toArray.size) (by simp) s (r + 1)
      rw [hc]
      unfold getLs
      rw [hc, if_pos rfl, if_pos rfl, Int.toNat_natCast, hl]
      exact ⟨he, hs⟩
  · have hc : canGet n ls b = false := by
      unfold canGet
      by_cases h : 0 ≤ b
      · rw [decide_eq_false (show ¬ b < n by omega), Bool.and_false, Bool.false_and]
      · rw [decide_eq_false h, Bool.false_and, Bool.false_and]
    refine (get_none_I p g n c cells b w h2 h3a h3b hb).mono fun e w' ⟨he, hw⟩ => ?_
    subst hw
    rw [hc]
    unfold getLs
    rw [hc, if_neg (by decide), if_neg (by decide)]
    exact ⟨he, hB, Below.refl _ _⟩
theorem len_I (base p n room : Nat) (ls : Nat → List Value) (b : Int) (w : World) (h : BoxesI base w p n room ls) :
    Calls Try.prog 11 #[.pointer (some ⟨p, 0, none⟩), .int .i64 b] w fun e w' => e = .returned (.int .i64 (if 0 ≤ b ∧ b < n then ((ls b.toNat).length : Int) else 0)) ∧ w = w' := by
  obtain ⟨g, c, h0, h1, h2, h3, h4, h5⟩ := h
  obtain ⟨cells, h3a, h3b⟩ := h3
  by_cases hb : 0 ≤ b ∧ b < n
  · obtain ⟨k, rfl⟩ := Int.eq_ofNat_of_zero_le hb.1
    have hk : k < n := by omega
    obtain ⟨k1, s, r, k2⟩ := h4 k hk
    refine (len_in_I p g n s r room c cells k (ls k).toArray w h2 h3a h3b hk k2).mono fun e w' ⟨he, hw⟩ => ⟨?_, hw⟩
    rw [if_pos hb, Int.toNat_natCast, he]
    simp
  · refine (len_none_I p g n c cells b w h2 h3a h3b hb).mono fun e w' ⟨he, hw⟩ => ⟨?_, hw⟩
    rw [if_neg hb, he]

theorem BoxesS.set {base : Nat} {w : World} {p n room g : Nat} {ls : Nat → List Value} {c : Nat → Nat} (h0 : base ≤ p) (h1 : base ≤ g) (h2 : w.heap[p]? = some (.cells #[.slice (some ⟨g, 0, none⟩) n n] 61 (0, 0)))
    (h3 : ∃ cells, w.heap[g]? = some (.cells cells 62 (0, 0)) ∧ ∀ i, i < n → cells[i]? = some (.chan (some (c i))))
    (h4 : ∀ i, i < n → base ≤ c i ∧ ∃ s r, w.heap[c i]? = some (.chan room (ls i).toArray false s r false)) (h5 : ∀ i j, i < n → j < n → c i = c j → i = j) (k : Nat) (hk : k < n) (l : List Value) (buf : Array Value) (hb : buf = l.toArray) (s r : Nat) :
    BoxesS base (w.setChan (c k) room buf false s r false) p n room (setLs ls k l) ∧ Below base w (w.setChan (c k) room buf false s r false) := by
  obtain ⟨k1, s0, r0, k2⟩ := h4 k hk
  have hlt : c k < w.heap.size := (Array.getElem?_eq_some_iff.1 k2).1
  have e1 : c k ≠ p := fun e => by rw [e, h2] at k2; cases k2
  obtain ⟨cells, h3a, h3b⟩ := h3
  have e2 : c k ≠ g := fun e => by rw [e, h3a] at k2; cases k2
  subst hb
  refine ⟨⟨g, c, h0, h1, (chan_far _ _ _ _ _ _ _ _ _ e1).trans h2, ⟨cells, (chan_far _ _ _ _ _ _ _ _ _ e2).trans h3a, h3b⟩, fun i hi => ?_, h5⟩, below_setChan (Below.refl _ _) k1 _ _ _ _ _ _⟩
  unfold setLs
  by_cases hik : i = k
  · subst hik
    rw [if_pos rfl]
    exact ⟨k1, s, r, heap_setChan _ _ _ _ _ _ _ _ hlt⟩
  · rw [if_neg hik]
    obtain ⟨j1, s1, r1, j2⟩ := h4 i hi
    exact ⟨j1, s1, r1, (chan_far _ _ _ _ _ _ _ _ _ (fun e => hik (h5 i k hi hk e.symm))).trans j2⟩
theorem put_S (base p n room : Nat) (ls : Nat → List Value) (b : Int) (v : Value) (w : World) (h : BoxesS base w p n room ls) :
    Calls Try.prog 14 #[.pointer (some ⟨p, 0, none⟩), .int .i64 b, v] w fun e w' => e = .returned (.bool (canPut n room ls b)) ∧ BoxesS base w' p n room (putLs n room ls b v) ∧ Below base w w' := by
  have hB := h
  obtain ⟨g, c, h0, h1, h2, h3, h4, h5⟩ := h
  obtain ⟨cells, h3a, h3b⟩ := h3
  by_cases hb : 0 ≤ b ∧ b < n
  · obtain ⟨k, rfl⟩ := Int.eq_ofNat_of_zero_le hb.1
    have hk : k < n := by omega
    obtain ⟨k1, s, r, k2⟩ := h4 k hk
    by_cases hr : (ls k).length < room
    · have hc : canPut n room ls (k : Int) = true := by unfold canPut; rw [Int.toNat_natCast]; simp [hr]; omega
      refine (put_room_S p g n s r room c cells k (ls k).toArray v w h2 h3a h3b hk k2 (by simpa using hr)).mono fun e w' ⟨he, hw⟩ => ?_
      subst hw
      have hs := BoxesS.set h0 h1 h2 ⟨cells, h3a, h3b⟩ h4 h5 k hk (ls k ++ [v]) ((ls k).toArray.push v) (by simp) (s + 1) r
      rw [hc]
      unfold putLs
      rw [hc, if_pos rfl, Int.toNat_natCast]
      exact ⟨he, hs⟩
    · have hc : canPut n room ls (k : Int) = false := by unfold canPut; rw [Int.toNat_natCast, decide_eq_false hr, Bool.and_false]
      refine (put_full_S p g n s r room c cells k (ls k).toArray v w h2 h3a h3b hk k2 (by simp; omega)).mono fun e w' ⟨he, hw⟩ => ?_
      subst hw
      rw [hc]
      unfold putLs
      rw [hc, if_neg (by decide)]
      exact ⟨he, hB, Below.refl _ _⟩
  · have hc : canPut n room ls b = false := by
      unfold canPut
      by_cases h : 0 ≤ b
      · rw [decide_eq_false (show ¬ b < n by omega), Bool.and_false, Bool.false_and]
      · rw [decide_eq_false h, Bool.false_and, Bool.false_and]
    refine (put_none_S p g n c cells b v w h2 h3a h3b hb).mono fun e w' ⟨he, hw⟩ => ?_
    subst hw
    rw [hc]
    unfold putLs
    rw [hc, if_neg (by decide)]
    exact ⟨he, hB, Below.refl _ _⟩
theorem get_S (base p n room : Nat) (ls : Nat → List Value) (b : Int) (w : World) (h : BoxesS base w p n room ls) :
    Calls Try.prog 15 #[.pointer (some ⟨p, 0, none⟩), .int .i64 b] w fun e w' => e = .returned (.tuple #[if canGet n ls b then (ls b.toNat).headD (.string ⟨#[]⟩) else .string ⟨#[]⟩, .bool (canGet n ls b)]) ∧ BoxesS base w' p n room (getLs n ls b) ∧ Below base w w' := by
  have hB := h
  obtain ⟨g, c, h0, h1, h2, h3, h4, h5⟩ := h
  obtain ⟨cells, h3a, h3b⟩ := h3
  by_cases hb : 0 ≤ b ∧ b < n
  · obtain ⟨k, rfl⟩ := Int.eq_ofNat_of_zero_le hb.1
    have hk : k < n := by omega
    obtain ⟨k1, s, r, k2⟩ := h4 k hk
    cases hl : ls k with
    | nil =>
      have hc : canGet n ls (k : Int) = false := by unfold canGet; rw [Int.toNat_natCast, hl]; simp
      rw [hl] at k2
      refine (get_empty_S p g n s r room c cells k w h2 h3a h3b hk k2).mono fun e w' ⟨he, hw⟩ => ?_
      subst hw
      rw [hc]
      unfold getLs
      rw [hc, if_neg (by decide), if_neg (by decide)]
      exact ⟨he, hB, Below.refl _ _⟩
    | cons y l =>
      have hc : canGet n ls (k : Int) = true := by unfold canGet; rw [Int.toNat_natCast, hl]; simp; omega
      rw [hl] at k2
      refine (get_buf_S p g n s r room c cells k (y :: l).toArray y w h2 h3a h3b hk k2 (by simp) (by simp)).mono fun e w' ⟨he, hw⟩ => ?_
      subst hw
      have hs := BoxesS.set h0 h1 h2 ⟨cells, h3a, h3b⟩ h4 h5 k hk l ((y :: l).toArray.extract 1 (y :: l).toArray.size) (by simp) s (r + 1)
      rw [hc]
      unfold getLs
      rw [hc, if_pos rfl, if_pos rfl, Int.toNat_natCast, hl]
      exact ⟨he, hs⟩
  · have hc : canGet n ls b = false := by
      unfold canGet
      by_cases h : 0 ≤ b
      · rw [decide_eq_false (show ¬ b < n by omega), Bool.and_false, Bool.false_and]
      · rw [decide_eq_false h, Bool.false_and, Bool.false_and]
    refine (get_none_S p g n c cells b w h2 h3a h3b hb).mono fun e w' ⟨he, hw⟩ => ?_
    subst hw
    rw [hc]
    unfold getLs
    rw [hc, if_neg (by decide), if_neg (by decide)]
    exact ⟨he, hB, Below.refl _ _⟩
theorem len_S (base p n room : Nat) (ls : Nat → List Value) (b : Int) (w : World) (h : BoxesS base w p n room ls) :
    Calls Try.prog 18 #[.pointer (some ⟨p, 0, none⟩), .int .i64 b] w fun e w' => e = .returned (.int .i64 (if 0 ≤ b ∧ b < n then ((ls b.toNat).length : Int) else 0)) ∧ w = w' := by
  obtain ⟨g, c, h0, h1, h2, h3, h4, h5⟩ := h
  obtain ⟨cells, h3a, h3b⟩ := h3
  by_cases hb : 0 ≤ b ∧ b < n
  · obtain ⟨k, rfl⟩ := Int.eq_ofNat_of_zero_le hb.1
    have hk : k < n := by omega
    obtain ⟨k1, s, r, k2⟩ := h4 k hk
    refine (len_in_S p g n s r room c cells k (ls k).toArray w h2 h3a h3b hk k2).mono fun e w' ⟨he, hw⟩ => ⟨?_, hw⟩
    rw [if_pos hb, Int.toNat_natCast, he]
    simp
  · refine (len_none_S p g n c cells b w h2 h3a h3b hb).mono fun e w' ⟨he, hw⟩ => ⟨?_, hw⟩
    rw [if_neg hb, he]

end Go.Proofs.Ytmpeijlfflfkbaa
