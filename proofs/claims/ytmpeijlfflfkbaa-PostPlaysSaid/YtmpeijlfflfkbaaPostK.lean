/-
  Package post: the contracts over a set of blocks.
-/
import Derived.Test.YtmpeijlfflfkbaaPostF
namespace Go.Proofs.Ytmpeijlfflfkbaa
open Go.RowKit Go.Shoal Go.Conc
theorem mod_setChan {S : Nat → Prop} {w : World} {c : Nat} (h : S c) (cap : Nat) (buf : Array Value) (cl : Bool) (s r : Nat) (tm : Bool) : Mod S w (w.setChan c cap buf cl s r tm) := by
  refine ⟨rfl, rfl, rfl, by simp [World.setChan], fun k _ hk => chan_far w c k cap buf cl s r tm (fun e => hk (e ▸ h))⟩
/-- The boxes of a Post, all of whose blocks are of S. -/
def PlotI (S : Nat → Prop) (w : World) (p n room : Nat) (ls : Nat → List Value) : Prop :=
  ∃ (g : Nat) (c : Nat → Nat), S p ∧ S g ∧ w.heap[p]? = some (.cells #[.slice (some ⟨g, 0, none⟩) n n] 56 (0, 0)) ∧
    (∃ cells, w.heap[g]? = some (.cells cells 57 (0, 0)) ∧ ∀ i, i < n → cells[i]? = some (.chan (some (c i)))) ∧
    (∀ i, i < n → S (c i) ∧ ∃ s r, w.heap[c i]? = some (.chan room (ls i).toArray false s r false)) ∧ (∀ i j, i < n → j < n → c i = c j → i = j)
theorem PlotI.of_boxes {base : Nat} {w : World} {p n room : Nat} {ls : Nat → List Value} (h : BoxesI base w p n room ls) : PlotI (fun k => base ≤ k ∧ k < w.heap.size) w p n room ls := by
  obtain ⟨g, c, h0, h1, h2, ⟨cells, h3, h3'⟩, h4, h5⟩ := h
  exact ⟨g, c, ⟨h0, blk_lt h2⟩, ⟨h1, blk_lt h3⟩, h2, ⟨cells, h3, h3'⟩, fun i hi => by
    obtain ⟨k1, s, r, k2⟩ := h4 i hi
    exact ⟨⟨k1, (Array.getElem?_eq_some_iff.1 k2).1⟩, s, r, k2⟩, h5⟩
theorem PlotI.below {S : Nat → Prop} {w w' : World} {p n room top : Nat} {ls : Nat → List Value} (h : PlotI S w p n room ls) (hB : Below top w w') (hS : ∀ k, S k → k < top) : PlotI S w' p n room ls := by
  obtain ⟨g, c, h0, h1, h2, ⟨cells, h3, h3'⟩, h4, h5⟩ := h
  exact ⟨g, c, h0, h1, (hB.block _ (hS _ h0)).trans h2, ⟨cells, (hB.block _ (hS _ h1)).trans h3, h3'⟩, fun i hi => by
    obtain ⟨k1, s, r, k2⟩ := h4 i hi
    exact ⟨k1, s, r, (hB.block _ (hS _ k1)).trans k2⟩, h5⟩
theorem PlotI.congr {S : Nat → Prop} {w : World} {p n room : Nat} {ls ls' : Nat → List Value} (h : PlotI S w p n room ls) (e : ∀ i, i < n → ls i = ls' i) : PlotI S w p n room ls' := by
  obtain ⟨g, c, h0, h1, h2, h3, h4, h5⟩ := h
  exact ⟨g, c, h0, h1, h2, h3, fun i hi => by rw [← e i hi]; exact h4 i hi, h5⟩

theorem PlotI.set {S : Nat → Prop} {w : World} {p n room g : Nat} {ls : Nat → List Value} {c : Nat → Nat} (h0 : S p) (h1 : S g) (h2 : w.heap[p]? = some (.cells #[.slice (some ⟨g, 0, none⟩) n n] 56 (0, 0)))
    (h3 : ∃ cells, w.heap[g]? = some (.cells cells 57 (0, 0)) ∧ ∀ i, i < n → cells[i]? = some (.chan (some (c i))))
    (h4 : ∀ i, i < n → S (c i) ∧ ∃ s r, w.heap[c i]? = some (.chan room (ls i).toArray false s r false)) (h5 : ∀ i j, i < n → j < n → c i = c j → i = j) (k : Nat) (hk : k < n) (l : List Value) (buf : Array Value) (hb : buf = l.toArray) (s r : Nat) :
    PlotI S (w.setChan (c k) room buf false s r false) p n room (setLs ls k l) ∧ Mod S w (w.setChan (c k) room buf false s r false) := by
  obtain ⟨k1, s0, r0, k2⟩ := h4 k hk
  have hlt : c k < w.heap.size := (Array.getElem?_eq_some_iff.1 k2).1
  have e1 : c k ≠ p := fun e => by rw [e, h2] at k2; cases k2
  obtain ⟨cells, h3a, h3b⟩ := h3
  have e2 : c k ≠ g := fun e => by rw [e, h3a] at k2; cases k2
  subst hb
  refine ⟨⟨g, c, h0, h1, (chan_far _ _ _ _ _ _ _ _ _ e1).trans h2, ⟨cells, (chan_far _ _ _ _ _ _ _ _ _ e2).trans h3a, h3b⟩, fun i hi => ?_, h5⟩, mod_setChan k1 _ _ _ _ _ _⟩
  unfold setLs
  by_cases hik : i = k
  · subst hik
    rw [if_pos rfl]
    exact ⟨k1, s, r, heap_setChan _ _ _ _ _ _ _ _ hlt⟩
  · rw [if_neg hik]
    obtain ⟨j1, s1, r1, j2⟩ := h4 i hi
    exact ⟨j1, s1, r1, (chan_far _ _ _ _ _ _ _ _ _ (fun e => hik (h5 i k hi hk e.symm))).trans j2⟩
theorem put_P (S : Nat → Prop) (p n room : Nat) (ls : Nat → List Value) (b : Int) (v : Value) (w : World) (h : PlotI S w p n room ls) :
    Calls Try.prog 9 #[.pointer (some ⟨p, 0, none⟩), .int .i64 b, v] w fun e w' => e = .returned (.bool (canPut n room ls b)) ∧ PlotI S w' p n room (putLs n room ls b v) ∧ Mod S w w' := by
  have hB := h
  obtain ⟨g, c, h0, h1, h2, h3, h4, h5⟩ := h
  obtain ⟨cells, h3a, h3b⟩ := h3
  by_cases hb : 0 ≤ b ∧ b < n
  · obtain ⟨k, rfl⟩ := Int.eq_ofNat_of_zero_le hb.1
    have hk : k < n := by omega
    obtain ⟨k1, s, r, k2⟩ := h4 k hk
    by_cases hr : (ls k).length < room
    · have hc : canPut n room ls (k : Int) = true := by unfold canPut; rw [Int.toNat_natCast]; simp [hr]; omega
      refine (put_room_I p g n s r room c cells k (ls k).toArray v w h2 h3a h3b hk k2 (by simpa using hr)).mono fun e w' ⟨he, hw⟩ => ?_
      subst hw
      have hs := PlotI.set h0 h1 h2 ⟨cells, h3a, h3b⟩ h4 h5 k hk (ls k ++ [v]) ((ls k).toArray.push v) (by simp) (s + 1) r
      rw [hc]
      unfold putLs
      rw [hc, if_pos rfl, Int.toNat_natCast]
      exact ⟨he, hs⟩
    · have hc : canPut n room ls (k : Int) = false := by unfold canPut; rw [Int.toNat_natCast, decide_eq_false hr, Bool.and_false]
      refine (put_full_I p g n s r room c cells k (ls k).toArray v w h2 h3a h3b hk k2 (by simp; omega)).mono fun e w' ⟨he, hw⟩ => ?_
      subst hw
      rw [hc]
      unfold putLs
      rw [hc, if_neg (by decide)]
      exact ⟨he, hB, Mod.refl _ _⟩
  · have hc : canPut n room ls b = false := by
      unfold canPut
      by_cases h : 0 ≤ b
      · rw [decide_eq_false (show ¬ b < n by omega), Bool.and_false, Bool.false_and]
      · rw [decide_eq_false h, Bool.false_and, Bool.false_and]
    refine (put_none_I p g n c cells b v w h2 h3a h3b hb).mono fun e w' ⟨he, hw⟩ => ?_
    subst hw
    rw [hc]
    unfold putLs
    rw [hc, if_neg (by decide)]
    exact ⟨he, hB, Mod.refl _ _⟩
theorem get_P (S : Nat → Prop) (p n room : Nat) (ls : Nat → List Value) (b : Int) (w : World) (h : PlotI S w p n room ls) :
    Calls Try.prog 12 #[.pointer (some ⟨p, 0, none⟩), .int .i64 b] w fun e w' => e = .returned (.tuple #[if canGet n ls b then (ls b.toNat).headD (.int .i64 0) else .int .i64 0, .bool (canGet n ls b)]) ∧ PlotI S w' p n room (getLs n ls b) ∧ Mod S w w' := by
  have hB := h
  obtain ⟨g, c, h0, h1, h2, h3, h4, h5⟩ := h
  obtain ⟨cells, h3a, h3b⟩ := h3
  by_cases hb : 0 ≤ b ∧ b < n
  · obtain ⟨k, rfl⟩ := Int.eq_ofNat_of_zero_le hb.1
    have hk : k < n := by omega
    obtain ⟨k1, s, r, k2⟩ := h4 k hk
    cases hl : ls k with
    | nil =>
      have hc : canGet n ls (k : Int) = false := by unfold canGet; rw [Int.toNat_natCast, hl]; simp
      rw [hl] at k2
      refine (get_empty_I p g n s r room c cells k w h2 h3a h3b hk k2).mono fun e w' ⟨he, hw⟩ => ?_
      subst hw
      rw [hc]
      unfold getLs
      rw [hc, if_neg (by decide), if_neg (by decide)]
      exact ⟨he, hB, Mod.refl _ _⟩
    | cons y l =>
      have hc : canGet n ls (k : Int) = true := by unfold canGet; rw [Int.toNat_natCast, hl]; simp; omega
      rw [hl] at k2
      refine (get_buf_I p g n s r room c cells k (y :: l).toArray y w h2 h3a h3b hk k2 (by simp) (by simp)).mono fun e w' ⟨he, hw⟩ => ?_
      subst hw
      have hs := PlotI.set h0 h1 h2 ⟨cells, h3a, h3b⟩ h4 h5 k hk l ((y :: l).toArray.extract 1 (y :: l).toArray.size) (by simp) s (r + 1)
      rw [hc]
      unfold getLs
      rw [hc, if_pos rfl, if_pos rfl, Int.toNat_natCast, hl]
      exact ⟨he, hs⟩
  · have hc : canGet n ls b = false := by
      unfold canGet
      by_cases h : 0 ≤ b
      · rw [decide_eq_false (show ¬ b < n by omega), Bool.and_false, Bool.false_and]
      · rw [decide_eq_false h, Bool.false_and, Bool.false_and]
    refine (get_none_I p g n c cells b w h2 h3a h3b hb).mono fun e w' ⟨he, hw⟩ => ?_
    subst hw
    rw [hc]
    unfold getLs
    rw [hc, if_neg (by decide), if_neg (by decide)]
    exact ⟨he, hB, Mod.refl _ _⟩
theorem len_P (S : Nat → Prop) (p n room : Nat) (ls : Nat → List Value) (b : Int) (w : World) (h : PlotI S w p n room ls) :
    Calls Try.prog 11 #[.pointer (some ⟨p, 0, none⟩), .int .i64 b] w fun e w' => e = .returned (.int .i64 (if 0 ≤ b ∧ b < n then ((ls b.toNat).length : Int) else 0)) ∧ w = w' := by
  obtain ⟨g, c, h0, h1, h2, h3, h4, h5⟩ := h
  obtain ⟨cells, h3a, h3b⟩ := h3
  by_cases hb : 0 ≤ b ∧ b < n
  · obtain ⟨k, rfl⟩ := Int.eq_ofNat_of_zero_le hb.1
    have hk : k < n := by omega
    obtain ⟨k1, s, r, k2⟩ := h4 k hk
    refine (len_in_I p g n s r room c cells k (ls k).toArray w h2 h3a h3b hk k2).mono fun e w' ⟨he, hw⟩ => ⟨?_, hw⟩
    rw [if_pos hb, Int.toNat_natCast, he]
    simp
  · refine (len_none_I p g n c cells b w h2 h3a h3b hb).mono fun e w' ⟨he, hw⟩ => ⟨?_, hw⟩
    rw [if_neg hb, he]

theorem idle_P {S : Nat → Prop} {w : World} {n room : Nat} {ls : Nat → List Value} {c : Nat → Nat} (h4 : ∀ i, i < n → S (c i) ∧ ∃ s r, w.heap[c i]? = some (.chan room (ls i).toArray false s r false)) (b : Int) (hb : canGet n ls b = false) :
    ∃ ca, chanOf n c b = .chan ca ∧ ∀ (fr : Frame) (cs : List Frame) (es : Array Event), stepG Try.prog true (G fr cs) w = .comm (G fr cs) #[offer ca (.int .i64 0)] false .select w es → step Try.prog (solo (G fr cs) w) = .next (solo (G (fr.finish (.tuple #[goInt (-1), .bool false, .int .i64 0])) cs) w) := by
  by_cases hi : 0 ≤ b ∧ b < n
  · obtain ⟨k, rfl⟩ := Int.eq_ofNat_of_zero_le hi.1
    have hk : k < n := by omega
    obtain ⟨k1, s, r, k2⟩ := h4 k hk
    have hl : ls k = [] := by
      unfold canGet at hb
      rw [Int.toNat_natCast, decide_eq_true hi.1, decide_eq_true hi.2] at hb
      simpa using hb
    rw [hl] at k2
    exact ⟨some (c k), chanOf_in hk, fun fr cs es h => step_lone_select_default (z := .int .i64 0) h k2⟩
  · exact ⟨none, chanOf_out hi, fun fr cs es h => step_lone_select_recv_nil (z := .int .i64 0) h⟩
theorem either_P (S : Nat → Prop) (p n room : Nat) (ls : Nat → List Value) (a b : Int) (w : World) (h : PlotI S w p n room ls) :
    Calls Try.prog 22 #[.pointer (some ⟨p, 0, none⟩), .int .i64 a, .int .i64 b] w fun e w' => e = .returned (.tuple #[.int .i64 (eitherIv n ls a b).1, (eitherIv n ls a b).2.1, .bool (eitherIv n ls a b).2.2.1]) ∧ PlotI S w' p n room (eitherIv n ls a b).2.2.2 ∧ Mod S w w' := by
  have hB := h
  obtain ⟨g, c, h0, h1, h2, h3, h4, h5⟩ := h
  obtain ⟨cells, h3a, h3b⟩ := h3
  cases ha : canGet n ls a
  · obtain ⟨ca, e1, s1⟩ := idle_P h4 a ha
    cases hb : canGet n ls b
    · obtain ⟨cb, e2, s2⟩ := idle_P h4 b hb
      refine (either_none_I p g n c cells a b ca cb w h2 h3a h3b e1 e2 s1 s2).mono fun e w' ⟨he, hw⟩ => ?_
      subst hw
      unfold eitherIv
      rw [ha, hb, if_neg (by decide), if_neg (by decide)]
      exact ⟨he, hB, Mod.refl _ _⟩
    · obtain ⟨k, rfl, hk, y, l, hl⟩ := canGet_in hb
      obtain ⟨k1, s, r, k2⟩ := h4 k hk
      rw [hl] at k2
      have s2 : ∀ (fr : Frame) (cs : List Frame) (es : Array Event), stepG Try.prog true (G fr cs) w = .comm (G fr cs) #[offer (some (c k)) (.int .i64 0)] false .select w es → step Try.prog (solo (G fr cs) w) = .next (solo (G (fr.finish (.tuple #[goInt 0, .bool true, y])) cs) (w.setChan (c k) room ((y :: l).toArray.extract 1 (y :: l).toArray.size) false s (r + 1) false)) :=
        fun fr cs es h => step_lone_select_recv_buf (z := .int .i64 0) h k2 (by simp)
      refine (either_second_I p g n c cells a (k : Int) ca (some (c k)) y _ w h2 h3a h3b e1 (chanOf_in hk) s1 s2).mono fun e w' ⟨he, hw⟩ => ?_
      subst hw
      have hs := PlotI.set h0 h1 h2 ⟨cells, h3a, h3b⟩ h4 h5 k hk l ((y :: l).toArray.extract 1 (y :: l).toArray.size) (by simp) s (r + 1)
      unfold eitherIv getLs
      rw [ha, hb, if_neg (by decide), if_pos rfl, if_pos rfl, Int.toNat_natCast, hl]
      exact ⟨he, hs⟩
  · obtain ⟨k, rfl, hk, y, l, hl⟩ := canGet_in ha
    obtain ⟨k1, s, r, k2⟩ := h4 k hk
    rw [hl] at k2
    have s2 : ∀ (fr : Frame) (cs : List Frame) (es : Array Event), stepG Try.prog true (G fr cs) w = .comm (G fr cs) #[offer (some (c k)) (.int .i64 0)] false .select w es → step Try.prog (solo (G fr cs) w) = .next (solo (G (fr.finish (.tuple #[goInt 0, .bool true, y])) cs) (w.setChan (c k) room ((y :: l).toArray.extract 1 (y :: l).toArray.size) false s (r + 1) false)) :=
      fun fr cs es h => step_lone_select_recv_buf (z := .int .i64 0) h k2 (by simp)
    refine (either_first_I p g n c cells (k : Int) b (some (c k)) y _ w h2 h3a h3b (chanOf_in hk) s2).mono fun e w' ⟨he, hw⟩ => ?_
    subst hw
    have hs := PlotI.set h0 h1 h2 ⟨cells, h3a, h3b⟩ h4 h5 k hk l ((y :: l).toArray.extract 1 (y :: l).toArray.size) (by simp) s (r + 1)
    unfold eitherIv getLs
    rw [ha, if_pos rfl, if_pos rfl, Int.toNat_natCast, hl]
    exact ⟨he, hs⟩

/-- While Any looks. -/
def AnyRelP (S : Nat → Prop) (p n room : Nat) (ls : Nat → List Value) (w : World) (k : Nat) (wr : World) : Prop := (∀ j, j < k → ls j = []) ∧ PlotI S wr p n room ls ∧ Mod S w wr
/-- What Any gives. -/
def AnyEndP (S : Nat → Prop) (p n room : Nat) (ls : Nat → List Value) (w : World) (e : Ending) (w' : World) : Prop :=
  (∃ k y l, k < n ∧ (∀ j, j < k → ls j = []) ∧ ls k = y :: l ∧ e = .returned (.tuple #[.int .i64 (k : Int), y, .bool true]) ∧ PlotI S w' p n room (setLs ls k l) ∧ Mod S w w') ∨
  ((∀ j, j < n → ls j = []) ∧ e = .returned (.tuple #[.int .i64 0, .int .i64 0, .bool false]) ∧ PlotI S w' p n room ls ∧ Mod S w w')
theorem getc_P (S : Nat → Prop) (p n room : Nat) (ls : Nat → List Value) (k : Nat) (y : Value) (l : List Value) (w : World) (h : PlotI S w p n room ls) (hk : k < n) (hl : ls k = y :: l) :
    Calls Try.prog 12 #[.pointer (some ⟨p, 0, none⟩), .int .i64 k] w fun e w' => e = .returned (.tuple #[y, .bool true]) ∧ PlotI S w' p n room (setLs ls k l) ∧ Mod S w w' := by
  refine (get_P S p n room ls k w h).mono fun e w' ⟨h1, h2, h3⟩ => ?_
  rw [canGet_cons hk hl, if_pos rfl, Int.toNat_natCast, hl] at h1
  unfold getLs at h2
  rw [canGet_cons hk hl, if_pos rfl, Int.toNat_natCast, hl] at h2
  exact ⟨h1, h2, h3⟩
theorem getn_P (S : Nat → Prop) (p n room : Nat) (ls : Nat → List Value) (k : Nat) (w : World) (h : PlotI S w p n room ls) (hl : ls k = []) :
    Calls Try.prog 12 #[.pointer (some ⟨p, 0, none⟩), .int .i64 k] w fun e w' => e = .returned (.tuple #[.int .i64 0, .bool false]) ∧ PlotI S w' p n room ls ∧ Mod S w w' := by
  refine (get_P S p n room ls k w h).mono fun e w' ⟨h1, h2, h3⟩ => ?_
  rw [canGet_nil hl, if_neg (by decide)] at h1
  unfold getLs at h2
  rw [canGet_nil hl, if_neg (by decide)] at h2
  exact ⟨h1, h2, h3⟩
set_option maxHeartbeats 1000000 in
theorem any_P (S : Nat → Prop) (p n room : Nat) (ls : Nat → List Value) (w : World) (h : PlotI S w p n room ls) (hn : n ≤ 16) :
    Calls Try.prog 10 #[.pointer (some ⟨p, 0, none⟩)] w (AnyEndP S p n room ls w) := by
  have H0 : Hid (AnyRelP S p n room ls w 0 w) := ⟨fun j hj => by omega, h, Mod.refl _ _⟩
  obtain ⟨g, c, h0, h1, h2, h3, h4, h5⟩ := h
  have c0 := (blk_cell h2 0).trans rfl
  clear h0 h1 h2 h3 h4 h5
  go_enter Try.func10, Try.ntmps10
  go_wp2
  go_loopw [3, 13] (fun v i wr => ∃ k : Nat, k ≤ n ∧ v = .int .i64 0 ∧ i = .int .i64 k ∧ Hid (AnyRelP S p n room ls w k wr)) (fun _ i _ => n - (intOf i).toNat)
  case atStart => exact ⟨0, Nat.zero_le _, rfl, rfl, H0⟩
  case round =>
    obtain ⟨k, hk, rfl, rfl, hR⟩ := hrel
    by_cases hlt : k < n
    · cases hl : ls k with
      | nil =>
        have HC := Lib.hid (getn_P S p n room ls k wr hR.out.2.1 hl)
        have HL := Lib.hid hl
        clear hl
        go_wp2_with fail
        refine HC.out.mono ?_
        rintro e w1 ⟨rfl, hb1, hb2⟩
        have HR : Hid (AnyRelP S p n room ls w (k + 1) w1) := ⟨fun j hj => by
          by_cases hjk : j = k
          · rw [hjk]; exact HL.out
          · exact hR.out.1 j (by omega), hb1, hR.out.2.2.trans hb2⟩
        clear hb1 hb2
        go_wp2
        go_roundw
        case rel => exact ⟨k + 1, by omega, rfl, by go_num, HR⟩
        case measure => simp [intOf]; omega
      | cons y l =>
        have HC := Lib.hid (getc_P S p n room ls k y l wr hR.out.2.1 hlt hl)
        have HL := Lib.hid hl
        clear hl
        go_wp2_with fail
        refine HC.out.mono ?_
        rintro e w1 ⟨rfl, hb1, hb2⟩
        have HE : Hid (AnyEndP S p n room ls w (.returned (.tuple #[.int .i64 (k : Int), y, .bool true])) w1) :=
          .inl ⟨k, y, l, hlt, hR.out.1, HL.out, rfl, hb1, hR.out.2.2.trans hb2⟩
        clear hb1 hb2
        go_wp2
        go_ret3
        exact HE.out
    · obtain rfl : k = n := by omega
      have hi : decide ((k : Int) < k) = false := decide_eq_false (by omega)
      have HE : Hid (AnyEndP S p k room ls w (.returned (.tuple #[.int .i64 0, .int .i64 0, .bool false])) wr) := .inr ⟨hR.out.1, rfl, hR.out.2.1, hR.out.2.2⟩
      go_wp2
      go_ret3
      exact HE.out

end Go.Proofs.Ytmpeijlfflfkbaa
