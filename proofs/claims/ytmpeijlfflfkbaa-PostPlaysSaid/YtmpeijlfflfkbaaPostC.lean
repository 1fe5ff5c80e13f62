/-
  Package post: Either, Any, New.
-/
import Derived.Test.YtmpeijlfflfkbaaPostB
namespace Go.Proofs.Ytmpeijlfflfkbaa
open Go.RowKit Go.Shoal Go.Conc
theorem chanOf_out {n : Nat} {c : Nat → Nat} {b : Int} (h : ¬ (0 ≤ b ∧ b < n)) : chanOf n c b = .chan none := by unfold chanOf; rw [if_neg h]
theorem chanOf_in {n : Nat} {c : Nat → Nat} {k : Nat} (h : k < n) : chanOf n c (k : Int) = .chan (some (c k)) := by unfold chanOf; rw [if_pos (by omega)]; rfl
theorem canGet_in {n : Nat} {ls : Nat → List Value} {b : Int} (h : canGet n ls b = true) : ∃ k : Nat, b = k ∧ k < n ∧ ∃ y l, ls k = y :: l := by
  unfold canGet at h
  simp only [Bool.and_eq_true, decide_eq_true_eq, Bool.not_eq_true'] at h
  obtain ⟨k, rfl⟩ := Int.eq_ofNat_of_zero_le h.1.1
  refine ⟨k, rfl, by omega, ?_⟩
  rw [Int.toNat_natCast] at h
  cases hl : ls k with
  | nil => rw [hl] at h; simp at h
  | cons y l => exact ⟨y, l, rfl⟩

theorem idle_I {base : Nat} {w : World} {n room : Nat} {ls : Nat → List Value} {c : Nat → Nat} (h4 : ∀ i, i < n → base ≤ c i ∧ ∃ s r, w.heap[c i]? = some (.chan room (ls i).toArray false s r false)) (b : Int) (hb : canGet n ls b = false) :
    ∃ ca, chanOf n c b = .chan ca ∧ ∀ (fr : Frame) (cs : List Frame) (es : Array Event), stepG Try.prog true (G fr cs) w = .comm (G fr cs) #[offer ca (.int .i64 0)] false .select w es → step Try.prog (solo (G fr cs) w) = .next (solo (G (fr.finish (.tuple #[goInt (-1), .bool false, .int .i64 0])) cs) w) := by
  by_cases hi : 0 ≤ b ∧ b < n
  · obtain ⟨k, rfl⟩ := Int.eq_ofNat_of_zero_le hi.1
    have hk : k < n := by omega
    obtain ⟨k1, s, r, k2⟩ := h4 k hk
    have hl : ls k = [] := by
      unfold canGet at hb
      rw [Int.toNat_natCast, decide_eq_true hi.1, decide_eq_true hi.2] at hb
      simpa using hb
    rw [hl] at k2
    exact ⟨some (c k), chanOf_in hk, fun fr cs es h => step_lone_select_default (z := .int .i64 0) h k2⟩
  · exact ⟨none, chanOf_out hi, fun fr cs es h => step_lone_select_recv_nil (z := .int .i64 0) h⟩
/-- What Either does. -/
def eitherIv (n : Nat) (ls : Nat → List Value) (a b : Int) : Int × Value × Bool × (Nat → List Value) :=
  if canGet n ls a then (a, (ls a.toNat).headD (.int .i64 0), true, getLs n ls a) else if canGet n ls b then (b, (ls b.toNat).headD (.int .i64 0), true, getLs n ls b) else (0, .int .i64 0, false, ls)
theorem either_I (base p n room : Nat) (ls : Nat → List Value) (a b : Int) (w : World) (h : BoxesI base w p n room ls) :
    Calls Try.prog 22 #[.pointer (some ⟨p, 0, none⟩), .int .i64 a, .int .i64 b] w fun e w' => e = .returned (.tuple #[.int .i64 (eitherIv n ls a b).1, (eitherIv n ls a b).2.1, .bool (eitherIv n ls a b).2.2.1]) ∧ BoxesI base w' p n room (eitherIv n ls a b).2.2.2 ∧ Below base w w' := by
  have hB := h
  obtain ⟨g, c, h0, h1, h2, h3, h4, h5⟩ := h
  obtain ⟨cells, h3a, h3b⟩ := h3
  cases ha : canGet n ls a
  · obtain ⟨ca, e1, s1⟩ := idle_I h4 a ha
    cases hb : canGet n ls b
    · obtain ⟨cb, e2, s2⟩ := idle_I h4 b hb
      refine (either_none_I p g n c cells a b ca cb w h2 h3a h3b e1 e2 s1 s2).mono fun e w' ⟨he, hw⟩ => ?_
      subst hw
      unfold eitherIv
      rw [ha, hb, if_neg (by decide), if_neg (by decide)]
      exact ⟨he, hB, Below.refl _ _⟩
    · obtain ⟨k, rfl, hk, y, l, hl⟩ := canGet_in hb
      obtain ⟨k1, s, r, k2⟩ := h4 k hk
      rw [hl] at k2
      have s2 : ∀ (fr : Frame) (cs : List Frame) (es : Array Event), stepG Try.prog true (G fr cs) w = .comm (G fr cs) #[offer (some (c k)) (.int .i64 0)] false .select w es → step Try.prog (solo (G fr cs) w) = .next (solo (G (fr.finish (.tuple #[goInt 0, .bool true, y])) cs) (w.setChan (c k) room ((y :: l).toArray.extract 1 (y :: l).toArray.size) false s (r + 1) false)) :=
        fun fr cs es h => step_lone_select_recv_buf (z := .int .i64 0) h k2 (by simp)
      refine (either_second_I p g n c cells a (k : Int) ca (some (c k)) y _ w h2 h3a h3b e1 (chanOf_in hk) s1 s2).mono fun e w' ⟨he, hw⟩ => ?_
      subst hw
      have hs := BoxesI.set h0 h1 h2 ⟨cells, h3a, h3b⟩ h4 h5 k hk l ((y :: l).toArray.extract 1 (y :: l).toArray.size) (by simp) s (r + 1)
      unfold eitherIv getLs
      rw [ha, hb, if_neg (by decide), if_pos rfl, if_pos rfl, Int.toNat_natCast, hl]
      exact ⟨he, hs⟩
  · obtain ⟨k, rfl, hk, y, l, hl⟩ := canGet_in ha
    obtain ⟨k1, s, r, k2⟩ := h4 k hk
    rw [hl] at k2
    have s2 : ∀ (fr : Frame) (cs : List Frame) (es : Array Event), stepG Try.prog true (G fr cs) w = .comm (G fr cs) #[offer (some (c k)) (.int .i64 0)] false .select w es → step Try.prog (solo (G fr cs) w) = .next (solo (G (fr.finish (.tuple #[goInt 0, .bool true, y])) cs) (w.setChan (c k) room ((y :: l).toArray.extract 1 (y :: l).toArray.size) false s (r + 1) false)) :=
      fun fr cs es h => step_lone_select_recv_buf (z := .int .i64 0) h k2 (by simp)
    refine (either_first_I p g n c cells (k : Int) b (some (c k)) y _ w h2 h3a h3b (chanOf_in hk) s2).mono fun e w' ⟨he, hw⟩ => ?_
    subst hw
    have hs := BoxesI.set h0 h1 h2 ⟨cells, h3a, h3b⟩ h4 h5 k hk l ((y :: l).toArray.extract 1 (y :: l).toArray.size) (by simp) s (r + 1)
    unfold eitherIv getLs
    rw [ha, if_pos rfl, if_pos rfl, Int.toNat_natCast, hl]
    exact ⟨he, hs⟩

theorem idle_S {base : Nat} {w : World} {n room : Nat} {ls : Nat → List Value} {c : Nat → Nat} (h4 : ∀ i, i < n → base ≤ c i ∧ ∃ s r, w.heap[c i]? = some (.chan room (ls i).toArray false s r false)) (b : Int) (hb : canGet n ls b = false) :
    ∃ ca, chanOf n c b = .chan ca ∧ ∀ (fr : Frame) (cs : List Frame) (es : Array Event), stepG Try.prog true (G fr cs) w = .comm (G fr cs) #[offer ca (.string ⟨#[]⟩)] false .select w es → step Try.prog (solo (G fr cs) w) = .next (solo (G (fr.finish (.tuple #[goInt (-1), .bool false, .string ⟨#[]⟩])) cs) w) := by
  by_cases hi : 0 ≤ b ∧ b < n
  · obtain ⟨k, rfl⟩ := Int.eq_ofNat_of_zero_le hi.1
    have hk : k < n := by omega
    obtain ⟨k1, s, r, k2⟩ := h4 k hk
    have hl : ls k = [] := by
      unfold canGet at hb
      rw [Int.toNat_natCast, decide_eq_true hi.1, decide_eq_true hi.2] at hb
      simpa using hb
    rw [hl] at k2
    exact ⟨some (c k), chanOf_in hk, fun fr cs es h => step_lone_select_default (z := .string ⟨#[]⟩) h k2⟩
  · exact ⟨none, chanOf_out hi, fun fr cs es h => step_lone_select_recv_nil (z := .string ⟨#[]⟩) h⟩
/-- What Either does. -/
def eitherSv (n : Nat) (ls : Nat → List Value) (a b : Int) : Int × Value × Bool × (Nat → List Value) :=
  if canGet n ls a then (a, (ls a.toNat).headD (.string ⟨#[]⟩), true, getLs n ls a) else if canGet n ls b then (b, (ls b.toNat).headD (.string ⟨#[]⟩), true, getLs n ls b) else (0, .string ⟨#[]⟩, false, ls)
theorem either_S (base p n room : Nat) (ls : Nat → List Value) (a b : Int) (w : World) (h : BoxesS base w p n room ls) :
    Calls Try.prog 16 #[.pointer (some ⟨p, 0, none⟩), .int .i64 a, .int .i64 b] w fun e w' => e = .returned (.tuple #[.int .i64 (eitherSv n ls a b).1, (eitherSv n ls a b).2.1, .bool (eitherSv n ls a b).2.2.1]) ∧ BoxesS base w' p n room (eitherSv n ls a b).2.2.2 ∧ Below base w w' := by
  have hB := h
  obtain ⟨g, c, h0, h1, h2, h3, h4, h5⟩ := h
  obtain ⟨cells, h3a, h3b⟩ := h3
  cases ha : canGet n ls a
  · obtain ⟨ca, e1, s1⟩ := idle_S h4 a ha
    cases hb : canGet n ls b
    · obtain ⟨cb, e2, s2⟩ := idle_S h4 b hb
      refine (either_none_S p g n c cells a b ca cb w h2 h3a h3b e1 e2 s1 s2).mono fun e w' ⟨he, hw⟩ => ?_
      subst hw
      unfold eitherSv
      rw [ha, hb, if_neg (by decide), if_neg (by decide)]
      exact ⟨he, hB, Below.refl _ _⟩
    · obtain ⟨k, rfl, hk, y, l, hl⟩ := canGet_in hb
      obtain ⟨k1, s, r, k2⟩ := h4 k hk
      rw [hl] at k2
      have s2 : ∀ (fr : Frame) (cs : List Frame) (es : Array Event), stepG Try.prog true (G fr cs) w = .comm (G fr cs) #[offer (some (c k)) (.string ⟨#[]⟩)] false .select w es → step Try.prog (solo (G fr cs) w) = .next (solo (G (fr.finish (.tuple #[goInt 0, .bool true, y])) cs) (w.setChan (c k) room ((y :: l).toArray.extract 1 (y :: l).toArray.size) false s (r + 1) false)) :=
        fun fr cs es h => step_lone_select_recv_buf (z := .string ⟨#[]⟩) h k2 (by simp)
      refine (either_second_S p g n c cells a (k : Int) ca (some (c k)) y _ w h2 h3a h3b e1 (chanOf_in hk) s1 s2).mono fun e w' ⟨he, hw⟩ => ?_
      subst hw
      have hs := BoxesS.set h0 h1 h2 ⟨cells, h3a, h3b⟩ h4 h5 k hk l ((y :: l).toArray.extract 1 (y :: l).toArray.size) (by simp) s (r + 1)
      unfold eitherSv getLs
      rw [ha, hb, if_neg (by decide), if_pos rfl, if_pos rfl, Int.toNat_natCast, hl]
      exact ⟨he, hs⟩
  · obtain ⟨k, rfl, hk, y, l, hl⟩ := canGet_in ha
    obtain ⟨k1, s, r, k2⟩ := h4 k hk
    rw [hl] at k2
    have s2 : ∀ (fr : Frame) (cs : List Frame) (es : Array Event), stepG Try.prog true (G fr cs) w = .comm (G fr cs) #[offer (some (c k)) (.string ⟨#[]⟩)] false .select w es → step Try.prog (solo (G fr cs) w) = .next (solo (G (fr.finish (.tuple #[goInt 0, .bool true, y])) cs) (w.setChan (c k) room ((y :: l).toArray.extract 1 (y :: l).toArray.size) false s (r + 1) false)) :=
      fun fr cs es h => step_lone_select_recv_buf (z := .string ⟨#[]⟩) h k2 (by simp)
    refine (either_first_S p g n c cells (k : Int) b (some (c k)) y _ w h2 h3a h3b (chanOf_in hk) s2).mono fun e w' ⟨he, hw⟩ => ?_
    subst hw
    have hs := BoxesS.set h0 h1 h2 ⟨cells, h3a, h3b⟩ h4 h5 k hk l ((y :: l).toArray.extract 1 (y :: l).toArray.size) (by simp) s (r + 1)
    unfold eitherSv getLs
    rw [ha, if_pos rfl, if_pos rfl, Int.toNat_natCast, hl]
    exact ⟨he, hs⟩

end Go.Proofs.Ytmpeijlfflfkbaa
