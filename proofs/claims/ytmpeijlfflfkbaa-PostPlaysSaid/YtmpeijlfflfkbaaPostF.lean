/-
  Package post: plain forms; awake.
-/
import Derived.Test.YtmpeijlfflfkbaaPostE
namespace Go.Proofs.Ytmpeijlfflfkbaa
open Go.RowKit Go.Shoal Go.Conc

theorem putt_I (base p n room : Nat) (ls : Nat → List Value) (k : Nat) (v : Value) (w : World) (h : BoxesI base w p n room ls) (hk : k < n) (hl : (ls k).length < room) :
    Calls Try.prog 9 #[.pointer (some ⟨p, 0, none⟩), .int .i64 k, v] w fun e w' => e = .returned (.bool true) ∧ BoxesI base w' p n room (setLs ls k (ls k ++ [v])) ∧ Below base w w' := by
  have hc : canPut n room ls (k : Int) = true := by unfold canPut; rw [Int.toNat_natCast]; simp [hl]; omega
  refine (put_I base p n room ls k v w h).mono fun e w' ⟨h1, h2, h3⟩ => ?_
  rw [hc] at h1
  unfold putLs at h2
  rw [hc, if_pos rfl, Int.toNat_natCast] at h2
  exact ⟨h1, h2, h3⟩
theorem putf_I (base p n room : Nat) (ls : Nat → List Value) (b : Int) (v : Value) (w : World) (h : BoxesI base w p n room ls) (hc : canPut n room ls b = false) :
    Calls Try.prog 9 #[.pointer (some ⟨p, 0, none⟩), .int .i64 b, v] w fun e w' => e = .returned (.bool false) ∧ BoxesI base w' p n room ls ∧ Below base w w' := by
  refine (put_I base p n room ls b v w h).mono fun e w' ⟨h1, h2, h3⟩ => ?_
  rw [hc] at h1
  unfold putLs at h2
  rw [hc, if_neg (by decide)] at h2
  exact ⟨h1, h2, h3⟩
theorem canPut_full {n room : Nat} {ls : Nat → List Value} {k : Nat} (h : room ≤ (ls k).length) : canPut n room ls (k : Int) = false := by
  unfold canPut
  rw [Int.toNat_natCast, decide_eq_false (show ¬ (ls k).length < room by omega), Bool.and_false]
theorem anyc_I (base p n room : Nat) (ls : Nat → List Value) (k : Nat) (y : Value) (l : List Value) (w : World) (h : BoxesI base w p n room ls) (hn : n ≤ 16) (hk : k < n) (h0 : ∀ j, j < k → ls j = []) (hl : ls k = y :: l) :
    Calls Try.prog 10 #[.pointer (some ⟨p, 0, none⟩)] w fun e w' => e = .returned (.tuple #[.int .i64 (k : Int), y, .bool true]) ∧ BoxesI base w' p n room (setLs ls k l) ∧ Below base w w' := by
  refine (any_I base p n room ls w h hn).mono fun e w' hE => ?_
  rcases hE with ⟨k', y', l', hk', h0', hl', he, hb, hw⟩ | ⟨h0', _⟩
  · have : k = k' := by
      rcases Nat.lt_trichotomy k k' with h | h | h
      · have := h0' k h; rw [hl] at this; cases this
      · exact h
      · have := h0 k' h; rw [hl'] at this; cases this
    subst this
    rw [hl] at hl'
    cases hl'
    exact ⟨he, hb, hw⟩
  · have := h0' k hk; rw [hl] at this; cases this
theorem anyn_I (base p n room : Nat) (ls : Nat → List Value) (w : World) (h : BoxesI base w p n room ls) (hn : n ≤ 16) (h0 : ∀ j, j < n → ls j = []) :
    Calls Try.prog 10 #[.pointer (some ⟨p, 0, none⟩)] w fun e w' => e = .returned (.tuple #[.int .i64 0, .int .i64 0, .bool false]) ∧ BoxesI base w' p n room ls ∧ Below base w w' := by
  refine (any_I base p n room ls w h hn).mono fun e w' hE => ?_
  rcases hE with ⟨k', y', l', hk', h0', hl', he, hb, hw⟩ | ⟨_, he, hb, hw⟩
  · have := h0 k' hk'; rw [hl'] at this; cases this
  · exact ⟨he, hb, hw⟩
theorem lenk_I (base p n room : Nat) (ls : Nat → List Value) (k : Nat) (w : World) (h : BoxesI base w p n room ls) (hk : k < n) :
    Calls Try.prog 11 #[.pointer (some ⟨p, 0, none⟩), .int .i64 k] w fun e w' => e = .returned (.int .i64 (ls k).length) ∧ w = w' := by
  refine (len_I base p n room ls k w h).mono fun e w' ⟨h1, h2⟩ => ⟨?_, h2⟩
  rw [if_pos (by omega), Int.toNat_natCast] at h1
  exact h1

theorem putt_S (base p n room : Nat) (ls : Nat → List Value) (k : Nat) (v : Value) (w : World) (h : BoxesS base w p n room ls) (hk : k < n) (hl : (ls k).length < room) :
    Calls Try.prog 14 #[.pointer (some ⟨p, 0, none⟩), .int .i64 k, v] w fun e w' => e = .returned (.bool true) ∧ BoxesS base w' p n room (setLs ls k (ls k ++ [v])) ∧ Below base w w' := by
  have hc : canPut n room ls (k : Int) = true := by unfold canPut; rw [Int.toNat_natCast]; simp [hl]; omega
  refine (put_S base p n room ls k v w h).mono fun e w' ⟨h1, h2, h3⟩ => ?_
  rw [hc] at h1
  unfold putLs at h2
  rw [hc, if_pos rfl, Int.toNat_natCast] at h2
  exact ⟨h1, h2, h3⟩
theorem putf_S (base p n room : Nat) (ls : Nat → List Value) (b : Int) (v : Value) (w : World) (h : BoxesS base w p n room ls) (hc : canPut n room ls b = false) :
    Calls Try.prog 14 #[.pointer (some ⟨p, 0, none⟩), .int .i64 b, v] w fun e w' => e = .returned (.bool false) ∧ BoxesS base w' p n room ls ∧ Below base w w' := by
  refine (put_S base p n room ls b v w h).mono fun e w' ⟨h1, h2, h3⟩ => ?_
  rw [hc] at h1
  unfold putLs at h2
  rw [hc, if_neg (by decide)] at h2
  exact ⟨h1, h2, h3⟩
theorem anyc_S (base p n room : Nat) (ls : Nat → List Value) (k : Nat) (y : Value) (l : List Value) (w : World) (h : BoxesS base w p n room ls) (hn : n ≤ 16) (hk : k < n) (h0 : ∀ j, j < k → ls j = []) (hl : ls k = y :: l) :
    Calls Try.prog 17 #[.pointer (some ⟨p, 0, none⟩)] w fun e w' => e = .returned (.tuple #[.int .i64 (k : Int), y, .bool true]) ∧ BoxesS base w' p n room (setLs ls k l) ∧ Below base w w' := by
  refine (any_S base p n room ls w h hn).mono fun e w' hE => ?_
  rcases hE with ⟨k', y', l', hk', h0', hl', he, hb, hw⟩ | ⟨h0', _⟩
  · have : k = k' := by
      rcases Nat.lt_trichotomy k k' with h | h | h
      · have := h0' k h; rw [hl] at this; cases this
      · exact h
      · have := h0 k' h; rw [hl'] at this; cases this
    subst this
    rw [hl] at hl'
    cases hl'
    exact ⟨he, hb, hw⟩
  · have := h0' k hk; rw [hl] at this; cases this
theorem anyn_S (base p n room : Nat) (ls : Nat → List Value) (w : World) (h : BoxesS base w p n room ls) (hn : n ≤ 16) (h0 : ∀ j, j < n → ls j = []) :
    Calls Try.prog 17 #[.pointer (some ⟨p, 0, none⟩)] w fun e w' => e = .returned (.tuple #[.int .i64 0, .string ⟨#[]⟩, .bool false]) ∧ BoxesS base w' p n room ls ∧ Below base w w' := by
  refine (any_S base p n room ls w h hn).mono fun e w' hE => ?_
  rcases hE with ⟨k', y', l', hk', h0', hl', he, hb, hw⟩ | ⟨_, he, hb, hw⟩
  · have := h0 k' hk'; rw [hl'] at this; cases this
  · exact ⟨he, hb, hw⟩
theorem lenk_S (base p n room : Nat) (ls : Nat → List Value) (k : Nat) (w : World) (h : BoxesS base w p n room ls) (hk : k < n) :
    Calls Try.prog 18 #[.pointer (some ⟨p, 0, none⟩), .int .i64 k] w fun e w' => e = .returned (.int .i64 (ls k).length) ∧ w = w' := by
  refine (len_S base p n room ls k w h).mono fun e w' ⟨h1, h2⟩ => ⟨?_, h2⟩
  rw [if_pos (by omega), Int.toNat_natCast] at h1
  exact h1

theorem below_of {w a b : World} (h : Below w.heap.size w a) (k : Below a.heap.size a b) : Below w.heap.size w b := h.trans (k.mono h.size)
theorem setLs_at (ls : Nat → List Value) (k : Nat) (l : List Value) : setLs ls k l k = l := if_pos rfl
theorem setLs_far (ls : Nat → List Value) (k : Nat) (l : List Value) (j : Nat) (h : j ≠ k) : setLs ls k l j = ls j := if_neg h
set_option maxHeartbeats 1000000 in
theorem awake_any (w : World) : Calls Try.prog 7 #[] w fun e w' => e = .returned (.bool true) ∧ Below w.heap.size w w' := by
  have HN := Lib.hid (new_ok_I 3 2 w (by omega) (by omega) (by omega) (by omega))
  go_enter Try.func7, Try.ntmps7
  go_wp2_with fail
  refine HN.out.mono ?_
  rintro e w1 ⟨rfl, hb, hw⟩
  have HW1 := Lib.hid hw
  have H1 := Lib.hid (putt_I w.heap.size _ 3 2 _ 1 (.int .i64 7) w1 hb (by omega) (by simp))
  generalize hp : w.heap.size + 1 = p at *
  clear hb hw hp
  go_wp2_with fail
  refine H1.out.mono ?_
  rintro e w2 ⟨rfl, hb, hw⟩
  have HW2 := Lib.hid hw
  have H2 := Lib.hid (anyc_I w.heap.size _ 3 2 _ 1 (.int .i64 7) [] w2 hb (by omega) (by omega) (fun j hj => by rw [setLs_far _ _ _ _ (by omega)]) (by rw [setLs_at]; rfl))
  clear hb hw
  go_wp2_with fail
  refine H2.out.mono ?_
  rintro e w3 ⟨rfl, hb, hw⟩
  have HW3 := Lib.hid hw
  have hL := lenk_I w.heap.size _ 3 2 _ 1 w3 hb (by omega)
  rw [setLs_at] at hL
  have HL := Lib.hid hL
  clear hb hw hL
  go_wp2_with fail
  refine HL.out.mono ?_
  rintro e w4 ⟨rfl, rfl⟩
  go_wp2
  go_ret
  exact ⟨rfl, (HW1.out.trans HW2.out).trans HW3.out⟩
end Go.Proofs.Ytmpeijlfflfkbaa
