/-
  Package pace and the reference's Pace: what each call does to the block of its receiver.
-/
import Derived.Test.YtcgfbbfepopinaaBase
import Derived.Test.YtcgfbbfepopinaaChecked
namespace Go.Proofs.Ytcgfbbfepopinaa
open Go.RowKit Go.Shoal

/-- A pace, as numbers. -/
structure Pc where
  first : Int
  most : Int
  step : Int
  left : Int
  rings : Int

def Pc.start (p : Pc) : Pc := if p.left = 0 then { p with left := p.step } else p
def Pc.stop (p : Pc) : Pc := { p with left := 0, step := p.first }
def Pc.tick (p : Pc) : Pc × Bool :=
  if p.left = 0 then (p, false)
  else if 1 < p.left then ({ p with left := p.left - 1 }, false)
  else ({ p with step := min (p.step * 2) p.most, left := min (p.step * 2) p.most, rings := p.rings + 1 }, true)
/-- Within what New makes. -/
structure Pc.Ok (p : Pc) : Prop where
  f1 : 1 ≤ p.first
  fs : p.first ≤ p.step
  sm : p.step ≤ p.most
  m1 : p.most ≤ 1000
  l0 : 0 ≤ p.left
  ls : p.left ≤ p.step
theorem Pc.start_ok {p : Pc} (h : p.Ok) : p.start.Ok := by
  obtain ⟨h1, h2, h3, h4, h5, h6⟩ := h
  unfold Pc.start
  split
  · exact ⟨h1, h2, h3, h4, by show 0 ≤ p.step; omega, Int.le_refl _⟩
  · exact ⟨h1, h2, h3, h4, h5, h6⟩
theorem Pc.stop_ok {p : Pc} (h : p.Ok) : p.stop.Ok := by
  obtain ⟨h1, h2, h3, h4, h5, h6⟩ := h
  exact ⟨h1, Int.le_refl _, by show p.first ≤ p.most; omega, h4, Int.le_refl _, by show 0 ≤ p.first; omega⟩
theorem Pc.tick_ok {p : Pc} (h : p.Ok) : p.tick.1.Ok := by
  obtain ⟨h1, h2, h3, h4, h5, h6⟩ := h
  unfold Pc.tick
  split
  · exact ⟨h1, h2, h3, h4, h5, h6⟩
  · split
    · exact ⟨h1, h2, h3, h4, by show 0 ≤ p.left - 1; omega, by show p.left - 1 ≤ p.step; omega⟩
    · exact ⟨h1, by show p.first ≤ min (p.step * 2) p.most; omega, by show min (p.step * 2) p.most ≤ p.most; omega, h4, by show 0 ≤ min (p.step * 2) p.most; omega, Int.le_refl _⟩

/-- A pace lies at block b. -/
def PaceAt (w : World) (b : Nat) (p : Pc) : Prop :=
  w.heap[b]? = some (.cells #[.int .i64 p.first, .int .i64 p.most, .int .i64 p.step, .int .i64 p.left, .int .i64 p.rings] 76 (0, 0))

set_option maxHeartbeats 400000 in
theorem pace_new_ok (f m : Int) (w : World) (h1 : 1 ≤ f) (h2 : f ≤ m) (h3 : m ≤ 1000) :
    Calls Try.prog 24 #[.int .i64 f, .int .i64 m] w fun e w' => e = .returned (.tuple #[.pointer (some ⟨w.heap.size, 0, none⟩), .int .i64 0]) ∧ PaceAt w' w.heap.size ⟨f, m, f, 0, 0⟩ ∧ Mod (fun _ => False) w w' ∧ w'.heap.size = w.heap.size + 1 := by
  have a1 : decide (f < 1) = false := by simp; omega
  have a2 : decide (m < f) = false := by simp; omega
  have a3 : decide (1000 < m) = false := by simp; omega
  go_enter Try.func24, Try.ntmps24
  go_wp2
  go_ret2
  exact ⟨rfl, blk_new _ _, (Mod.refl _ _).alloc _, by simp⟩

set_option maxHeartbeats 400000 in
theorem pace_new_no (f m : Int) (w : World) (h : f < 1 ∨ m < f ∨ 1000 < m) :
    Calls Try.prog 24 #[.int .i64 f, .int .i64 m] w fun e w' => e = .returned (.tuple #[.pointer none, .int .i64 1]) ∧ w = w' := by
  by_cases a1 : f < 1
  · go_enter Try.func24, Try.ntmps24
    go_wp2
    go_ret2
    exact ⟨rfl, rfl⟩
  by_cases a2 : m < f
  · go_enter Try.func24, Try.ntmps24
    go_wp2
    go_ret2
    exact ⟨rfl, rfl⟩
  have a3 : 1000 < m := by omega
  go_enter Try.func24, Try.ntmps24
  go_wp2
  go_ret2
  exact ⟨rfl, rfl⟩

/-- What a method of no results, or of one, does. -/
def Does (w : World) (b : Nat) (q : Pc) (v : Value) (e : Ending) (w' : World) : Prop := e = .returned v ∧ PaceAt w' b q ∧ Mod (· = b) w w'

theorem mod_here {b : Nat} {w w1 : World} (h : Mod (· = b) w w1) (j : Nat) (u : Value) : Mod (· = b) w (w1.setCell ⟨b, j, none⟩ u) := h.set (fun _ => rfl) u
theorem PaceAt.set2 {w : World} {b : Nat} {p : Pc} (h : PaceAt w b p) (x : Int) : PaceAt (w.setCell ⟨b, 2, none⟩ (.int .i64 x)) b { p with step := x } := (blk_set h 2 (.int .i64 x)).trans rfl
theorem PaceAt.set3 {w : World} {b : Nat} {p : Pc} (h : PaceAt w b p) (x : Int) : PaceAt (w.setCell ⟨b, 3, none⟩ (.int .i64 x)) b { p with left := x } := (blk_set h 3 (.int .i64 x)).trans rfl
theorem PaceAt.set4 {w : World} {b : Nat} {p : Pc} (h : PaceAt w b p) (x : Int) : PaceAt (w.setCell ⟨b, 4, none⟩ (.int .i64 x)) b { p with rings := x } := (blk_set h 4 (.int .i64 x)).trans rfl
theorem PaceAt.drew {w : World} {b : Nat} {p : Pc} (h : PaceAt w b p) : PaceAt w.drew b p := h

set_option maxHeartbeats 400000 in
theorem pace_start_any (w : World) (b : Nat) (p : Pc) (hp : PaceAt w b p) : Calls Try.prog 38 #[.pointer (some ⟨b, 0, none⟩)] w (Does w b p.start (.tuple #[])) := by
  have c2 := (blk_cell hp 2).trans rfl
  have c3 := (blk_cell hp 3).trans rfl
  have z3 := blk_frozen hp 3
  have H := Lib.hid hp
  clear hp
  by_cases h : p.left = 0
  · have hb : (p.left == 0) = true := beq_iff_eq.2 h
    have hS : p.start = { p with left := p.step } := by unfold Pc.start; rw [if_pos h]
    rw [hS]; clear hS h
    go_enter Try.func38, Try.ntmps38
    go_wp2
    go_end0
    exact ⟨rfl, H.out.set3 _, mod_here (Mod.refl _ _) _ _⟩
  · have hb : (p.left == 0) = false := beq_eq_false_iff_ne.2 h
    have hS : p.start = p := by unfold Pc.start; rw [if_neg h]
    rw [hS]; clear hS h
    go_enter Try.func38, Try.ntmps38
    go_wp2
    go_end0
    exact ⟨rfl, H.out, Mod.refl _ _⟩

set_option maxHeartbeats 400000 in
theorem pace_stop_any (w : World) (b : Nat) (p : Pc) (hp : PaceAt w b p) : Calls Try.prog 30 #[.pointer (some ⟨b, 0, none⟩)] w (Does w b p.stop (.tuple #[])) := by
  have c0 := (blk_cell hp 0).trans rfl
  have c2 := (blk_cell hp 2).trans rfl
  have c3 := (blk_cell hp 3).trans rfl
  have z2 := blk_frozen hp 2
  have z3 := blk_frozen hp 3
  have H := Lib.hid hp
  clear hp
  go_enter Try.func30, Try.ntmps30
  go_wp2
  go_end0
  exact ⟨rfl, (H.out.set3 _).set2 _, mod_here (mod_here (Mod.refl _ _) _ _) _ _⟩

set_option maxHeartbeats 400000 in
theorem pace_left_any (w : World) (b : Nat) (p : Pc) (hp : PaceAt w b p) : Calls Try.prog 31 #[.pointer (some ⟨b, 0, none⟩)] w fun e w' => e = .returned (.tuple #[.int .i64 p.left, .bool (decide (0 < p.left))]) ∧ ∃ n, w' = w.drewN n := by
  have c2 := (blk_cell hp 3).trans rfl
  clear hp
  go_enter Try.func31, Try.ntmps31
  go_wp2
  go_quiet (fail)
  go_wp2
  go_ret2
  exact ⟨rfl, _, rfl⟩

/-- What a Tick does. -/
def Ticks (w : World) (b : Nat) (p : Pc) (e : Ending) (w' : World) : Prop := Does w b p.tick.1 (.bool p.tick.2) e w'
set_option maxHeartbeats 400000 in
theorem pace_tick_any (w : World) (b : Nat) (p : Pc) (hp : PaceAt w b p) (ok : p.Ok) (hr : 0 ≤ p.rings ∧ p.rings ≤ 1000000) : Calls Try.prog 32 #[.pointer (some ⟨b, 0, none⟩)] w (Ticks w b p) := by
  obtain ⟨h1, h2, h3, h4, h5, h6⟩ := ok
  have c1 := (blk_cell hp 1).trans rfl
  have c2 := (blk_cell hp 2).trans rfl
  have c3 := (blk_cell hp 3).trans rfl
  have c4 := (blk_cell hp 4).trans rfl
  have z2 := blk_frozen hp 2
  have z3 := blk_frozen hp 3
  have z4 := blk_frozen hp 4
  have H := Lib.hid hp
  clear hp
  unfold Ticks
  by_cases h : p.left = 0
  · have hb : (p.left == 0) = true := beq_iff_eq.2 h
    have hS : p.tick = (p, false) := by unfold Pc.tick; rw [if_pos h]
    rw [hS]; clear hS h
    go_enter Try.func32, Try.ntmps32
    go_wp2
    go_ret
    exact ⟨rfl, H.out, Mod.refl _ _⟩
  · have hb : (p.left == 0) = false := beq_eq_false_iff_ne.2 h
    by_cases h7 : 1 < p.left
    · have hS : p.tick = ({ p with left := p.left - 1 }, false) := by unfold Pc.tick; rw [if_neg h, if_pos h7]
      have hd : decide (0 < p.left - 1) = true := by simp; omega
      rw [hS]; clear hS h
      go_enter Try.func32, Try.ntmps32
      go_wp2
      go_ret
      exact ⟨rfl, H.out.set3 _, mod_here (Mod.refl _ _) _ _⟩
    · have hS : p.tick = ({ p with step := min (p.step * 2) p.most, left := min (p.step * 2) p.most, rings := p.rings + 1 }, true) := by unfold Pc.tick; rw [if_neg h, if_neg h7]
      have hd : decide (0 < p.left - 1) = false := by simp; omega
      rw [hS]; clear hS h
      go_enter Try.func32, Try.ntmps32
      go_wp2
      go_region
      all_goals go_wp2
      all_goals go_ret
      · have hx : min (p.step * 2) p.most = p.most := by omega
        rw [hx]
        exact ⟨rfl, (((H.out.set3 _).set4 _).set2 _).set3 _, (mod_here (mod_here (mod_here (mod_here (Mod.refl _ _) _ _) _ _) _ _) _ _).drew⟩
      · have hx : min (p.step * 2) p.most = p.step * 2 := by omega
        rw [hx]
        exact ⟨rfl, (((H.out.set3 _).set4 _).set2 _).set3 _, (mod_here (mod_here (mod_here (mod_here (Mod.refl _ _) _ _) _ _) _ _) _ _).drew⟩


/-- The reference's pace lies at block b. -/
def RefAt (w : World) (b : Nat) (p : Pc) (r : Bool) : Prop :=
  w.heap[b]? = some (.cells #[.int .i64 p.first, .int .i64 p.most, .int .i64 p.step, .int .i64 p.left, .bool r, .int .i64 p.rings] 63 (0, 0))
/-- Runs is what Left says. -/
def RefOk (w : World) (b : Nat) (p : Pc) : Prop := RefAt w b p (decide (0 < p.left))

theorem RefAt.set2 {w : World} {b : Nat} {p : Pc} {r : Bool} (h : RefAt w b p r) (x : Int) : RefAt (w.setCell ⟨b, 2, none⟩ (.int .i64 x)) b { p with step := x } r := (blk_set h 2 (.int .i64 x)).trans rfl
theorem RefAt.set3 {w : World} {b : Nat} {p : Pc} {r : Bool} (h : RefAt w b p r) (x : Int) : RefAt (w.setCell ⟨b, 3, none⟩ (.int .i64 x)) b { p with left := x } r := (blk_set h 3 (.int .i64 x)).trans rfl
theorem RefAt.set4 {w : World} {b : Nat} {p : Pc} {r : Bool} (h : RefAt w b p r) (x : Bool) : RefAt (w.setCell ⟨b, 4, none⟩ (.bool x)) b p x := (blk_set h 4 (.bool x)).trans rfl
theorem RefAt.set5 {w : World} {b : Nat} {p : Pc} {r : Bool} (h : RefAt w b p r) (x : Int) : RefAt (w.setCell ⟨b, 5, none⟩ (.int .i64 x)) b { p with rings := x } r := (blk_set h 5 (.int .i64 x)).trans rfl
def RDoes (w : World) (b : Nat) (q : Pc) (v : Value) (e : Ending) (w' : World) : Prop := e = .returned v ∧ RefOk w' b q ∧ Mod (· = b) w w'

theorem ref_new (f m : Int) (w : World) : Calls Try.prog 33 #[.int .i64 f, .int .i64 m] w fun e w' => e = .returned (.pointer (some ⟨w.heap.size, 0, none⟩)) ∧ RefOk w' w.heap.size ⟨f, m, f, 0, 0⟩ ∧ Mod (fun _ => False) w w' := by
  go_enter Try.func33, Try.ntmps33
  go_wp2
  go_ret
  exact ⟨rfl, (blk_new _ _).trans rfl, (Mod.refl _ _).alloc _⟩

set_option maxHeartbeats 400000 in
theorem ref_start (w : World) (b : Nat) (p : Pc) (hp : RefOk w b p) (h0 : 0 ≤ p.left) (h1 : 1 ≤ p.step) : Calls Try.prog 35 #[.pointer (some ⟨b, 0, none⟩)] w (RDoes w b p.start (.tuple #[])) := by
  unfold RefOk at hp
  by_cases h : p.left = 0
  · have hb : decide (0 < p.left) = false := decide_eq_false (by omega)
    rw [hb] at hp
    have c2 := (blk_cell hp 2).trans rfl
    have c3 := (blk_cell hp 3).trans rfl
    have c4 := (blk_cell hp 4).trans rfl
    have z3 := blk_frozen hp 3
    have z4 := blk_frozen hp 4
    have H := Lib.hid hp
    have hS : p.start = { p with left := p.step } := by unfold Pc.start; rw [if_pos h]
    have hd : Hid (decide (0 < p.step) = true) := decide_eq_true (by omega)
    rw [hS]; clear hS h hp hb
    go_enter Try.func35, Try.ntmps35
    go_wp2
    go_end0
    refine ⟨rfl, ?_, mod_here (mod_here (Mod.refl _ _) _ _) _ _⟩
    have h := (H.out.set4 true).set3 p.step
    show RefAt _ b { p with left := p.step } (decide (0 < p.step))
    rw [hd.out]
    exact h
  · have hb : decide (0 < p.left) = true := decide_eq_true (by omega)
    have hp0 := hp
    rw [hb] at hp
    have c4 := (blk_cell hp 4).trans rfl
    have H := Lib.hid hp0
    have hS : p.start = p := by unfold Pc.start; rw [if_neg h]
    rw [hS]; clear hS h hp hb hp0
    go_enter Try.func35, Try.ntmps35
    go_wp2
    go_end0
    exact ⟨rfl, H.out, Mod.refl _ _⟩

set_option maxHeartbeats 400000 in
theorem ref_stop (w : World) (b : Nat) (p : Pc) (hp : RefOk w b p) : Calls Try.prog 36 #[.pointer (some ⟨b, 0, none⟩)] w (RDoes w b p.stop (.tuple #[])) := by
  unfold RefOk at hp
  have c0 := (blk_cell hp 0).trans rfl
  have c2 := (blk_cell hp 2).trans rfl
  have c3 := (blk_cell hp 3).trans rfl
  have c4 := (blk_cell hp 4).trans rfl
  have z2 := blk_frozen hp 2
  have z3 := blk_frozen hp 3
  have z4 := blk_frozen hp 4
  have H := Lib.hid hp
  clear hp
  go_enter Try.func36, Try.ntmps36
  go_wp2
  go_end0
  exact ⟨rfl, ((H.out.set4 false).set2 p.first).set3 0, mod_here (mod_here (mod_here (Mod.refl _ _) _ _) _ _) _ _⟩

set_option maxHeartbeats 1000000 in
theorem ref_tick (w : World) (b : Nat) (p : Pc) (hp : RefOk w b p) (ok : p.Ok) (hr : 0 ≤ p.rings ∧ p.rings ≤ 1000000) : Calls Try.prog 37 #[.pointer (some ⟨b, 0, none⟩)] w (RDoes w b p.tick.1 (.bool p.tick.2)) := by
  unfold RefOk at hp
  obtain ⟨h1, h2, h3, h4, h5, h6⟩ := ok
  by_cases h : p.left = 0
  · have hb : decide (0 < p.left) = false := decide_eq_false (by omega)
    have hp0 := hp
    rw [hb] at hp
    have c4 := (blk_cell hp 4).trans rfl
    have H := Lib.hid hp0
    have hS : p.tick = (p, false) := by unfold Pc.tick; rw [if_pos h]
    rw [hS]; clear hS h hp hb hp0
    go_enter Try.func37, Try.ntmps37
    go_wp2
    go_ret
    exact ⟨rfl, H.out, Mod.refl _ _⟩
  · have hb : decide (0 < p.left) = true := decide_eq_true (by omega)
    rw [hb] at hp
    have c1 := (blk_cell hp 1).trans rfl
    have c2 := (blk_cell hp 2).trans rfl
    have c3 := (blk_cell hp 3).trans rfl
    have c4 := (blk_cell hp 4).trans rfl
    have c5 := (blk_cell hp 5).trans rfl
    have z2 := blk_frozen hp 2
    have z3 := blk_frozen hp 3
    have z5 := blk_frozen hp 5
    have H := Lib.hid hp
    clear hp hb
    by_cases h7 : 1 < p.left
    · have hS : p.tick = ({ p with left := p.left - 1 }, false) := by unfold Pc.tick; rw [if_neg h, if_pos h7]
      have hd : decide (0 < p.left - 1) = true := decide_eq_true (by omega)
      have HD := Lib.hid hd
      rw [hS]; clear hS h
      go_enter Try.func37, Try.ntmps37
      go_wp2
      go_ret
      refine ⟨rfl, ?_, mod_here (Mod.refl _ _) _ _⟩
      show RefAt _ b { p with left := p.left - 1 } (decide (0 < p.left - 1))
      rw [HD.out]
      exact H.out.set3 _
    · have hd : decide (0 < p.left - 1) = false := decide_eq_false (by omega)
      by_cases h8 : p.most < 2 * p.step
      · have hS : p.tick = ({ p with step := p.most, left := p.most, rings := p.rings + 1 }, true) := by unfold Pc.tick; rw [if_neg h, if_neg h7, show min (p.step * 2) p.most = p.most by omega]
        have HD : Hid (decide (0 < p.most) = true) := decide_eq_true (by omega)
        rw [hS]; clear hS h
        go_enter Try.func37, Try.ntmps37
        go_wp2
        go_region
        go_wp2
        go_ret
        refine ⟨rfl, ?_, ?_⟩
        · show RefAt _ b { p with step := p.most, left := p.most, rings := p.rings + 1 } (decide (0 < p.most))
          rw [HD.out]
          exact (((H.out.set3 _).set5 _).set2 _).set3 _
        · exact (mod_here (mod_here (mod_here (mod_here (Mod.refl _ _) _ _) _ _) _ _) _ _).drew
      · have hS : p.tick = ({ p with step := 2 * p.step, left := 2 * p.step, rings := p.rings + 1 }, true) := by unfold Pc.tick; rw [if_neg h, if_neg h7, show min (p.step * 2) p.most = 2 * p.step by omega]
        have HD : Hid (decide (0 < 2 * p.step) = true) := decide_eq_true (by omega)
        rw [hS]; clear hS h
        go_enter Try.func37, Try.ntmps37
        go_wp2
        go_quiet (fail)
        go_wp2
        go_ret
        refine ⟨rfl, ?_, ?_⟩
        · show RefAt _ b { p with step := 2 * p.step, left := 2 * p.step, rings := p.rings + 1 } (decide (0 < 2 * p.step))
          rw [HD.out]
          exact (((H.out.set3 _).set5 _).set2 _).set3 _
        · exact mod_here (Mod.drewN (mod_here (mod_here (mod_here (Mod.refl _ _) _ _) _ _) _ _) _) _ _


theorem tick_rings {p : Pc} : p.rings ≤ p.tick.1.rings ∧ p.tick.1.rings ≤ p.rings + 1 := by
  unfold Pc.tick
  split
  · exact ⟨Int.le_refl _, by show p.rings ≤ p.rings + 1; omega⟩
  · split
    · exact ⟨Int.le_refl _, by show p.rings ≤ p.rings + 1; omega⟩
    · exact ⟨by show p.rings ≤ p.rings + 1; omega, Int.le_refl _⟩
theorem start_rings (p : Pc) : p.start.rings = p.rings := by unfold Pc.start; split <;> rfl
end Go.Proofs.Ytcgfbbfepopinaa
