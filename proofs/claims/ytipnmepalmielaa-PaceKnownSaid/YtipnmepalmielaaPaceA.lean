/-
  The contracts of package pace and of the reference's Pace: what each call does to the block of its receiver.
-/
import Derived.Test.YtipnmepalmielaaRows
import Derived.Test.YtipnmepalmielaaBase
namespace Go.Proofs.Ytipnmepalmielaa
open Go.RowKit Go.Shoal

/-- A pace, as numbers. -/
structure Pc where
  first : Int
  most : Int
  step : Int
  left : Int
  rings : Int

def Pc.start (p : Pc) : Pc := if p.left = 0 then { p with left := p.step } else p
def Pc.stop (p : Pc) : Pc := { p with left := 0, step := p.first }
def Pc.tick (p : Pc) : Pc × Bool :=
  if p.left = 0 then (p, false)
  else if 1 < p.left then ({ p with left := p.left - 1 }, false)
  else ({ p with step := min (p.step * 2) p.most, left := min (p.step * 2) p.most, rings := p.rings + 1 }, true)
/-- Within what New makes. -/
structure Pc.Ok (p : Pc) : Prop where
  f1 : 1 ≤ p.first
  fs : p.first ≤ p.step
  sm : p.step ≤ p.most
  m1 : p.most ≤ 1000
  l0 : 0 ≤ p.left
  ls : p.left ≤ p.step
theorem Pc.start_ok {p : Pc} (h : p.Ok) : p.start.Ok := by
  obtain ⟨h1, h2, h3, h4, h5, h6⟩ := h
  unfold Pc.start
  split
  · exact ⟨h1, h2, h3, h4, by show 0 ≤ p.step; omega, Int.le_refl _⟩
  · exact ⟨h1, h2, h3, h4, h5, h6⟩
theorem Pc.stop_ok {p : Pc} (h : p.Ok) : p.stop.Ok := by
  obtain ⟨h1, h2, h3, h4, h5, h6⟩ := h
  exact ⟨h1, Int.le_refl _, by show p.first ≤ p.most; omega, h4, Int.le_refl _, by show 0 ≤ p.first; omega⟩
theorem Pc.tick_ok {p : Pc} (h : p.Ok) : p.tick.1.Ok := by
  obtain ⟨h1, h2, h3, h4, h5, h6⟩ := h
  unfold Pc.tick
  split
  · exact ⟨h1, h2, h3, h4, h5, h6⟩
  · split
    · exact ⟨h1, h2, h3, h4, by show 0 ≤ p.left - 1; omega, by show p.left - 1 ≤ p.step; omega⟩
    · exact ⟨h1, by show p.first ≤ min (p.step * 2) p.most; omega, by show min (p.step * 2) p.most ≤ p.most; omega, h4, by show 0 ≤ min (p.step * 2) p.most; omega, Int.le_refl _⟩

/-- A pace lies at block b. -/
def PaceAt (w : World) (b : Nat) (p : Pc) : Prop :=
  w.heap[b]? = some (.cells #[.int .i64 p.first, .int .i64 p.most, .int .i64 p.step, .int .i64 p.left, .int .i64 p.rings] 43 (0, 0))

set_option maxHeartbeats 400000 in
theorem new_ok (f m : Int) (w : World) (h1 : 1 ≤ f) (h2 : f ≤ m) (h3 : m ≤ 1000) :
    Calls Try.prog 8 #[.int .i64 f, .int .i64 m] w fun e w' => e = .returned (.tuple #[.pointer (some ⟨w.heap.size, 0, none⟩), .int .i64 0]) ∧ PaceAt w' w.heap.size ⟨f, m, f, 0, 0⟩ ∧ Mod (fun _ => False) w w' ∧ w'.heap.size = w.heap.size + 1 := by
  have a1 : decide (f < 1) = false := by simp; omega
  have a2 : decide (m < f) = false := by simp; omega
  have a3 : decide (1000 < m) = false := by simp; omega
  go_enter Try.func8, Try.ntmps8
  go_wp2
  go_ret2
  exact ⟨rfl, blk_new _ _, (Mod.refl _ _).alloc _, by simp⟩

set_option maxHeartbeats 400000 in
theorem new_no (f m : Int) (w : World) (h : f < 1 ∨ m < f ∨ 1000 < m) :
    Calls Try.prog 8 #[.int .i64 f, .int .i64 m] w fun e w' => e = .returned (.tuple #[.pointer none, .int .i64 1]) ∧ w = w' := by
  by_cases a1 : f < 1
  · go_enter Try.func8, Try.ntmps8
    go_wp2
    go_ret2
    exact ⟨rfl, rfl⟩
  by_cases a2 : m < f
  · go_enter Try.func8, Try.ntmps8
    go_wp2
    go_ret2
    exact ⟨rfl, rfl⟩
  have a3 : 1000 < m := by omega
  go_enter Try.func8, Try.ntmps8
  go_wp2
  go_ret2
  exact ⟨rfl, rfl⟩

/-- What a method of no results, or of one, does. -/
def Does (w : World) (b : Nat) (q : Pc) (v : Value) (e : Ending) (w' : World) : Prop := e = .returned v ∧ PaceAt w' b q ∧ Mod (· = b) w w'

theorem mod_here {b : Nat} {w w1 : World} (h : Mod (· = b) w w1) (j : Nat) (u : Value) : Mod (· = b) w (w1.setCell ⟨b, j, none⟩ u) := h.set (fun _ => rfl) u
theorem PaceAt.set2 {w : World} {b : Nat} {p : Pc} (h : PaceAt w b p) (x : Int) : PaceAt (w.setCell ⟨b, 2, none⟩ (.int .i64 x)) b { p with step := x } := (blk_set h 2 (.int .i64 x)).trans rfl
theorem PaceAt.set3 {w : World} {b : Nat} {p : Pc} (h : PaceAt w b p) (x : Int) : PaceAt (w.setCell ⟨b, 3, none⟩ (.int .i64 x)) b { p with left := x } := (blk_set h 3 (.int .i64 x)).trans rfl
theorem PaceAt.set4 {w : World} {b : Nat} {p : Pc} (h : PaceAt w b p) (x : Int) : PaceAt (w.setCell ⟨b, 4, none⟩ (.int .i64 x)) b { p with rings := x } := (blk_set h 4 (.int .i64 x)).trans rfl
theorem PaceAt.drew {w : World} {b : Nat} {p : Pc} (h : PaceAt w b p) : PaceAt w.drew b p := h

set_option maxHeartbeats 400000 in
theorem start_any (w : World) (b : Nat) (p : Pc) (hp : PaceAt w b p) : Calls Try.prog 9 #[.pointer (some ⟨b, 0, none⟩)] w (Does w b p.start (.tuple #[])) := by
  have c2 := (blk_cell hp 2).trans rfl
  have c3 := (blk_cell hp 3).trans rfl
  have z3 := blk_frozen hp 3
  have H := Lib.hid hp
  clear hp
  by_cases h : p.left = 0
  · have hb : (p.left == 0) = true := beq_iff_eq.2 h
    have hS : p.start = { p with left := p.step } := by unfold Pc.start; rw [if_pos h]
    rw [hS]; clear hS h
    go_enter Try.func9, Try.ntmps9
    go_wp2
    go_end0
    exact ⟨rfl, H.out.set3 _, mod_here (Mod.refl _ _) _ _⟩
  · have hb : (p.left == 0) = false := beq_eq_false_iff_ne.2 h
    have hS : p.start = p := by unfold Pc.start; rw [if_neg h]
    rw [hS]; clear hS h
    go_enter Try.func9, Try.ntmps9
    go_wp2
    go_end0
    exact ⟨rfl, H.out, Mod.refl _ _⟩

set_option maxHeartbeats 400000 in
theorem stop_any (w : World) (b : Nat) (p : Pc) (hp : PaceAt w b p) : Calls Try.prog 12 #[.pointer (some ⟨b, 0, none⟩)] w (Does w b p.stop (.tuple #[])) := by
  have c0 := (blk_cell hp 0).trans rfl
  have c2 := (blk_cell hp 2).trans rfl
  have c3 := (blk_cell hp 3).trans rfl
  have z2 := blk_frozen hp 2
  have z3 := blk_frozen hp 3
  have H := Lib.hid hp
  clear hp
  go_enter Try.func12, Try.ntmps12
  go_wp2
  go_end0
  exact ⟨rfl, (H.out.set3 _).set2 _, mod_here (mod_here (Mod.refl _ _) _ _) _ _⟩

set_option maxHeartbeats 400000 in
theorem step_any (w : World) (b : Nat) (p : Pc) (hp : PaceAt w b p) : Calls Try.prog 10 #[.pointer (some ⟨b, 0, none⟩)] w fun e w' => e = .returned (.int .i64 p.step) ∧ w = w' := by
  have c2 := (blk_cell hp 2).trans rfl
  clear hp
  go_enter Try.func10, Try.ntmps10
  go_wp2
  go_ret
  exact ⟨rfl, rfl⟩

set_option maxHeartbeats 400000 in
theorem rings_any (w : World) (b : Nat) (p : Pc) (hp : PaceAt w b p) : Calls Try.prog 14 #[.pointer (some ⟨b, 0, none⟩)] w fun e w' => e = .returned (.int .i64 p.rings) ∧ w = w' := by
  have c2 := (blk_cell hp 4).trans rfl
  clear hp
  go_enter Try.func14, Try.ntmps14
  go_wp2
  go_ret
  exact ⟨rfl, rfl⟩

set_option maxHeartbeats 400000 in
theorem left_any (w : World) (b : Nat) (p : Pc) (hp : PaceAt w b p) : Calls Try.prog 13 #[.pointer (some ⟨b, 0, none⟩)] w fun e w' => e = .returned (.tuple #[.int .i64 p.left, .bool (decide (0 < p.left))]) ∧ ∃ n, w' = w.drewN n := by
  have c2 := (blk_cell hp 3).trans rfl
  clear hp
  go_enter Try.func13, Try.ntmps13
  go_wp2
  go_quiet (fail)
  go_wp2
  go_ret2
  exact ⟨rfl, _, rfl⟩

/-- What a Tick does. -/
def Ticks (w : World) (b : Nat) (p : Pc) (e : Ending) (w' : World) : Prop := Does w b p.tick.1 (.bool p.tick.2) e w'
set_option maxHeartbeats 400000 in
theorem tick_any (w : World) (b : Nat) (p : Pc) (hp : PaceAt w b p) (ok : p.Ok) (hr : 0 ≤ p.rings ∧ p.rings ≤ 1000000) : Calls Try.prog 11 #[.pointer (some ⟨b, 0, none⟩)] w (Ticks w b p) := by
  obtain ⟨h1, h2, h3, h4, h5, h6⟩ := ok
  have c1 := (blk_cell hp 1).trans rfl
  have c2 := (blk_cell hp 2).trans rfl
  have c3 := (blk_cell hp 3).trans rfl
  have c4 := (blk_cell hp 4).trans rfl
  have z2 := blk_frozen hp 2
  have z3 := blk_frozen hp 3
  have z4 := blk_frozen hp 4
  have H := Lib.hid hp
  clear hp
  unfold Ticks
  by_cases h : p.left = 0
  · have hb : (p.left == 0) = true := beq_iff_eq.2 h
    have hS : p.tick = (p, false) := by unfold Pc.tick; rw [if_pos h]
    rw [hS]; clear hS h
    go_enter Try.func11, Try.ntmps11
    go_wp2
    go_ret
    exact ⟨rfl, H.out, Mod.refl _ _⟩
  · have hb : (p.left == 0) = false := beq_eq_false_iff_ne.2 h
    by_cases h7 : 1 < p.left
    · have hS : p.tick = ({ p with left := p.left - 1 }, false) := by unfold Pc.tick; rw [if_neg h, if_pos h7]
      have hd : decide (0 < p.left - 1) = true := by simp; omega
      rw [hS]; clear hS h
      go_enter Try.func11, Try.ntmps11
      go_wp2
      go_ret
      exact ⟨rfl, H.out.set3 _, mod_here (Mod.refl _ _) _ _⟩
    · have hS : p.tick = ({ p with step := min (p.step * 2) p.most, left := min (p.step * 2) p.most, rings := p.rings + 1 }, true) := by unfold Pc.tick; rw [if_neg h, if_neg h7]
      have hd : decide (0 < p.left - 1) = false := by simp; omega
      rw [hS]; clear hS h
      go_enter Try.func11, Try.ntmps11
      go_wp2
      go_region
      all_goals go_wp2
      all_goals go_ret
      · have hx : min (p.step * 2) p.most = p.most := by omega
        rw [hx]
        exact ⟨rfl, (((H.out.set3 _).set4 _).set2 _).set3 _, (mod_here (mod_here (mod_here (mod_here (Mod.refl _ _) _ _) _ _) _ _) _ _).drew⟩
      · have hx : min (p.step * 2) p.most = p.step * 2 := by omega
        rw [hx]
        exact ⟨rfl, (((H.out.set3 _).set4 _).set2 _).set3 _, (mod_here (mod_here (mod_here (mod_here (Mod.refl _ _) _ _) _ _) _ _) _ _).drew⟩

end Go.Proofs.Ytipnmepalmielaa
