/-
  The walk of PostKnown.
-/
import Derived.Test.YtmpeijlfflfkbaaPostF
namespace Go.Proofs.Ytmpeijlfflfkbaa
open Go.RowKit Go.Shoal Go.Conc

theorem BoxesS.congr {base : Nat} {w : World} {p n room : Nat} {ls ls' : Nat → List Value} (h : BoxesS base w p n room ls) (e : ∀ i, i < n → ls i = ls' i) : BoxesS base w p n room ls' := by
  obtain ⟨g, c, h0, h1, h2, h3, h4, h5⟩ := h
  exact ⟨g, c, h0, h1, h2, h3, fun i hi => by rw [← e i hi]; exact h4 i hi, h5⟩
/-- Two boxes. -/
def two (a b : List Value) : Nat → List Value := fun i => if i = 0 then a else b
theorem BoxesS.two {base : Nat} {w : World} {p room : Nat} {ls : Nat → List Value} {a b : List Value} (h : BoxesS base w p 2 room ls) (e0 : ls 0 = a) (e1 : ls 1 = b) : BoxesS base w p 2 room (two a b) :=
  h.congr fun i hi => by
    rcases (show i = 0 ∨ i = 1 by omega) with rfl | rfl
    · exact e0
    · exact e1
theorem geto_S (base p n room : Nat) (ls : Nat → List Value) (b : Int) (w : World) (h : BoxesS base w p n room ls) (hc : canGet n ls b = false) :
    Calls Try.prog 15 #[.pointer (some ⟨p, 0, none⟩), .int .i64 b] w fun e w' => e = .returned (.tuple #[.string ⟨#[]⟩, .bool false]) ∧ BoxesS base w' p n room ls ∧ Below base w w' := by
  refine (get_S base p n room ls b w h).mono fun e w' ⟨h1, h2, h3⟩ => ?_
  rw [hc, if_neg (by decide)] at h1
  unfold getLs at h2
  rw [hc, if_neg (by decide)] at h2
  exact ⟨h1, h2, h3⟩
theorem eithere_S (base p n room : Nat) (ls : Nat → List Value) (a b : Int) (w : World) (h : BoxesS base w p n room ls) (r : Int) (v : Value) (ok : Bool) (ls' : Nat → List Value) (he : eitherSv n ls a b = (r, v, ok, ls')) :
    Calls Try.prog 16 #[.pointer (some ⟨p, 0, none⟩), .int .i64 a, .int .i64 b] w fun e w' => e = .returned (.tuple #[.int .i64 r, v, .bool ok]) ∧ BoxesS base w' p n room ls' ∧ Below base w w' := by
  refine (either_S base p n room ls a b w h).mono fun e w' ⟨h1, h2, h3⟩ => ?_
  rw [he] at h1 h2
  exact ⟨h1, h2, h3⟩
theorem leno_S (base p n room : Nat) (ls : Nat → List Value) (b : Int) (w : World) (h : BoxesS base w p n room ls) (hc : ¬ (0 ≤ b ∧ b < n)) :
    Calls Try.prog 18 #[.pointer (some ⟨p, 0, none⟩), .int .i64 b] w fun e w' => e = .returned (.int .i64 0) ∧ w = w' := by
  refine (len_S base p n room ls b w h).mono fun e w' ⟨h1, h2⟩ => ⟨?_, h2⟩
  rw [if_neg hc] at h1
  exact h1
/-- A Post of two boxes. -/
def Twin (base p : Nat) (a b : List Value) (w0 w : World) : Prop := BoxesS base w p 2 1 (two a b) ∧ Below base w0 w

set_option maxRecDepth 100000 in
set_option maxHeartbeats 2000000 in
theorem known_any (w : World) : Calls Try.prog 5 #[] w fun e w' => e = .returned (.bool true) ∧ Below w.heap.size w w' := by
  have HA := Lib.hid (awake_any w)
  go_enter Try.func5, Try.ntmps5
  go_wp2_with fail
  refine HA.out.mono ?_
  rintro e w1 ⟨rfl, hm⟩
  have HM := Lib.hid hm
  clear hm
  go_wp2_with fail
  refine (new_no_I 0 1 w1 (by omega)).mono ?_
  rintro e w2 ⟨rfl, rfl⟩
  go_wp2_with fail
  refine (new_no_I 17 1 w1 (by omega)).mono ?_
  rintro e w2 ⟨rfl, rfl⟩
  go_wp2_with fail
  refine (new_no_I 1 65 w1 (by omega)).mono ?_
  rintro e w2 ⟨rfl, rfl⟩
  have HN := Lib.hid (new_ok_S 2 1 w1 (by omega) (by omega) (by omega) (by omega))
  go_wp2_with fail
  refine HN.out.mono ?_
  rintro e w2 ⟨rfl, hb, hw⟩
  have T2 : Hid (Twin w1.heap.size (w1.heap.size + 1) [] [] w1 w2) := ⟨hb.two rfl rfl, hw⟩
  clear hb hw
  generalize w1.heap.size + 1 = p at *
  have HW : Hid (w.heap.size ≤ w1.heap.size) := HM.out.size
  generalize w1.heap.size = base at *
  go_wp2_with fail
  refine (putf_S base p 2 1 _ 2 (.string ⟨#[120]⟩) w2 T2.out.1 rfl).mono ?_
  rintro e w3 ⟨rfl, hb, hw⟩
  have T3 : Hid (Twin base p [] [] w1 w3) := ⟨hb, T2.out.2.trans hw⟩
  clear hb hw
  go_wp2_with fail
  refine (putt_S base p 2 1 _ 0 (.string ⟨#[120]⟩) w3 T3.out.1 (by omega) (Nat.lt_succ_self _)).mono ?_
  rintro e w4 ⟨rfl, hb, hw⟩
  have T4 : Hid (Twin base p [.string ⟨#[120]⟩] [] w1 w4) := ⟨hb.two rfl rfl, T3.out.2.trans hw⟩
  clear hb hw
  go_wp2_with fail
  refine (putf_S base p 2 1 _ 0 (.string ⟨#[121]⟩) w4 T4.out.1 rfl).mono ?_
  rintro e w5 ⟨rfl, hb, hw⟩
  have T5 : Hid (Twin base p [.string ⟨#[120]⟩] [] w1 w5) := ⟨hb, T4.out.2.trans hw⟩
  clear hb hw
  go_wp2_with fail
  refine (geto_S base p 2 1 _ (-1) w5 T5.out.1 rfl).mono ?_
  rintro e w6 ⟨rfl, hb, hw⟩
  have T6 : Hid (Twin base p [.string ⟨#[120]⟩] [] w1 w6) := ⟨hb, T5.out.2.trans hw⟩
  clear hb hw
  go_wp2_with fail
  refine (putt_S base p 2 1 _ 1 (.string ⟨#[122]⟩) w6 T6.out.1 (by omega) (Nat.lt_succ_self _)).mono ?_
  rintro e w7 ⟨rfl, hb, hw⟩
  have T7 : Hid (Twin base p [.string ⟨#[120]⟩] [.string ⟨#[122]⟩] w1 w7) := ⟨hb.two rfl rfl, T6.out.2.trans hw⟩
  clear hb hw
  go_wp2_with fail
  refine (eithere_S base p 2 1 _ 1 0 w7 T7.out.1 1 (.string ⟨#[122]⟩) true _ rfl).mono ?_
  rintro e w8 ⟨rfl, hb, hw⟩
  have T8 : Hid (Twin base p [.string ⟨#[120]⟩] [] w1 w8) := ⟨hb.two rfl rfl, T7.out.2.trans hw⟩
  clear hb hw
  go_wp2_with fail
  refine (eithere_S base p 2 1 _ 1 0 w8 T8.out.1 0 (.string ⟨#[120]⟩) true _ rfl).mono ?_
  rintro e w9 ⟨rfl, hb, hw⟩
  have T9 : Hid (Twin base p [] [] w1 w9) := ⟨hb.two rfl rfl, T8.out.2.trans hw⟩
  clear hb hw
  go_wp2_with fail
  refine (eithere_S base p 2 1 _ 0 5 w9 T9.out.1 0 (.string ⟨#[]⟩) false _ rfl).mono ?_
  rintro e w10 ⟨rfl, hb, hw⟩
  have T10 : Hid (Twin base p [] [] w1 w10) := ⟨hb.two rfl rfl, T9.out.2.trans hw⟩
  clear hb hw
  go_wp2_with fail
  refine (anyn_S base p 2 1 _ w10 T10.out.1 (by omega) (fun j _ => by unfold two; split <;> rfl)).mono ?_
  rintro e w11 ⟨rfl, hb, hw⟩
  have T11 : Hid (Twin base p [] [] w1 w11) := ⟨hb, T10.out.2.trans hw⟩
  clear hb hw
  have K1 := Lib.hid (lenk_S base p 2 1 _ 0 w11 T11.out.1 (by omega))
  have K2 := Lib.hid (leno_S base p 2 1 _ 9 w11 T11.out.1 (by omega))
  go_wp2_with fail
  refine K1.out.mono ?_
  rintro e w12 ⟨rfl, rfl⟩
  go_wp2_with fail
  refine K2.out.mono ?_
  rintro e w12 ⟨rfl, rfl⟩
  go_wp2
  go_ret
  exact ⟨rfl, HM.out.trans (T11.out.2.mono HW.out)⟩
theorem known_walk (W : World) : Calls Try.prog 5 #[] W fun e w' => e = .returned (.bool true) ∧ Below W.heap.size W w' := known_any W
end Go.Proofs.Ytmpeijlfflfkbaa
