/-
  The reference's Pace, and the walk of PacePlays.
-/
import Derived.Test.YtipnmepalmielaaPaceD
import Derived.Test.YtipnmepalmielaaOpen
namespace Go.Proofs.Ytipnmepalmielaa
open Go.RowKit Go.Shoal

/-- The reference's pace lies at block b. -/
def RefAt (w : World) (b : Nat) (p : Pc) (r : Bool) : Prop :=
  w.heap[b]? = some (.cells #[.int .i64 p.first, .int .i64 p.most, .int .i64 p.step, .int .i64 p.left, .bool r, .int .i64 p.rings] 37 (0, 0))
/-- Runs is what Left says. -/
def RefOk (w : World) (b : Nat) (p : Pc) : Prop := RefAt w b p (decide (0 < p.left))

theorem RefAt.set2 {w : World} {b : Nat} {p : Pc} {r : Bool} (h : RefAt w b p r) (x : Int) : RefAt (w.setCell ⟨b, 2, none⟩ (.int .i64 x)) b { p with step := x } r := (blk_set h 2 (.int .i64 x)).trans rfl
theorem RefAt.set3 {w : World} {b : Nat} {p : Pc} {r : Bool} (h : RefAt w b p r) (x : Int) : RefAt (w.setCell ⟨b, 3, none⟩ (.int .i64 x)) b { p with left := x } r := (blk_set h 3 (.int .i64 x)).trans rfl
theorem RefAt.set4 {w : World} {b : Nat} {p : Pc} {r : Bool} (h : RefAt w b p r) (x : Bool) : RefAt (w.setCell ⟨b, 4, none⟩ (.bool x)) b p x := (blk_set h 4 (.bool x)).trans rfl
theorem RefAt.set5 {w : World} {b : Nat} {p : Pc} {r : Bool} (h : RefAt w b p r) (x : Int) : RefAt (w.setCell ⟨b, 5, none⟩ (.int .i64 x)) b { p with rings := x } r := (blk_set h 5 (.int .i64 x)).trans rfl
def RDoes (w : World) (b : Nat) (q : Pc) (v : Value) (e : Ending) (w' : World) : Prop := e = .returned v ∧ RefOk w' b q ∧ Mod (· = b) w w'

theorem ref_new (f m : Int) (w : World) : Calls Try.prog 15 #[.int .i64 f, .int .i64 m] w fun e w' => e = .returned (.pointer (some ⟨w.heap.size, 0, none⟩)) ∧ RefOk w' w.heap.size ⟨f, m, f, 0, 0⟩ ∧ Mod (fun _ => False) w w' := by
  go_enter Try.func15, Try.ntmps15
  go_wp2
  go_ret
  exact ⟨rfl, (blk_new _ _).trans rfl, (Mod.refl _ _).alloc _⟩

set_option maxHeartbeats 400000 in
theorem ref_start (w : World) (b : Nat) (p : Pc) (hp : RefOk w b p) (h0 : 0 ≤ p.left) (h1 : 1 ≤ p.step) : Calls Try.prog 16 #[.pointer (some ⟨b, 0, none⟩)] w (RDoes w b p.start (.tuple #[])) := by
  unfold RefOk at hp
  by_cases h : p.left = 0
  · have hb : decide (0 < p.left) = false := decide_eq_false (by omega)
    rw [hb] at hp
    have c2 := (blk_cell hp 2).trans rfl
    have c3 := (blk_cell hp 3).trans rfl
    have c4 := (blk_cell hp 4).trans rfl
    have z3 := blk_frozen hp 3
    have z4 := blk_frozen hp 4
    have H := Lib.hid hp
    have hS : p.start = { p with left := p.step } := by unfold Pc.start; rw [if_pos h]
    have hd : Hid (decide (0 < p.step) = true) := decide_eq_true (by omega)
    rw [hS]; clear hS h hp hb
    go_enter Try.func16, Try.ntmps16
    go_wp2
    go_end0
    refine ⟨rfl, ?_, mod_here (mod_here (Mod.refl _ _) _ _) _ _⟩
    have h := (H.out.set4 true).set3 p.step
    show RefAt _ b { p with left := p.step } (decide (0 < p.step))
    rw [hd.out]
    exact h
  · have hb : decide (0 < p.left) = true := decide_eq_true (by omega)
    have hp0 := hp
    rw [hb] at hp
    have c4 := (blk_cell hp 4).trans rfl
    have H := Lib.hid hp0
    have hS : p.start = p := by unfold Pc.start; rw [if_neg h]
    rw [hS]; clear hS h hp hb hp0
    go_enter Try.func16, Try.ntmps16
    go_wp2
    go_end0
    exact ⟨rfl, H.out, Mod.refl _ _⟩

set_option maxHeartbeats 400000 in
theorem ref_stop (w : World) (b : Nat) (p : Pc) (hp : RefOk w b p) : Calls Try.prog 17 #[.pointer (some ⟨b, 0, none⟩)] w (RDoes w b p.stop (.tuple #[])) := by
  unfold RefOk at hp
  have c0 := (blk_cell hp 0).trans rfl
  have c2 := (blk_cell hp 2).trans rfl
  have c3 := (blk_cell hp 3).trans rfl
  have c4 := (blk_cell hp 4).trans rfl
  have z2 := blk_frozen hp 2
  have z3 := blk_frozen hp 3
  have z4 := blk_frozen hp 4
  have H := Lib.hid hp
  clear hp
  go_enter Try.func17, Try.ntmps17
  go_wp2
  go_end0
  exact ⟨rfl, ((H.out.set4 false).set2 p.first).set3 0, mod_here (mod_here (mod_here (Mod.refl _ _) _ _) _ _) _ _⟩

set_option maxHeartbeats 1000000 in
theorem ref_tick (w : World) (b : Nat) (p : Pc) (hp : RefOk w b p) (ok : p.Ok) (hr : 0 ≤ p.rings ∧ p.rings ≤ 1000000) : Calls Try.prog 18 #[.pointer (some ⟨b, 0, none⟩)] w (RDoes w b p.tick.1 (.bool p.tick.2)) := by
  unfold RefOk at hp
  obtain ⟨h1, h2, h3, h4, h5, h6⟩ := ok
  by_cases h : p.left = 0
  · have hb : decide (0 < p.left) = false := decide_eq_false (by omega)
    have hp0 := hp
    rw [hb] at hp
    have c4 := (blk_cell hp 4).trans rfl
    have H := Lib.hid hp0
    have hS : p.tick = (p, false) := by unfold Pc.tick; rw [if_pos h]
    rw [hS]; clear hS h hp hb hp0
    go_enter Try.func18, Try.ntmps18
    go_wp2
    go_ret
    exact ⟨rfl, H.out, Mod.refl _ _⟩
  · have hb : decide (0 < p.left) = true := decide_eq_true (by omega)
    rw [hb] at hp
    have c1 := (blk_cell hp 1).trans rfl
    have c2 := (blk_cell hp 2).trans rfl
    have c3 := (blk_cell hp 3).trans rfl
    have c4 := (blk_cell hp 4).trans rfl
    have c5 := (blk_cell hp 5).trans rfl
    have z2 := blk_frozen hp 2
    have z3 := blk_frozen hp 3
    have z5 := blk_frozen hp 5
    have H := Lib.hid hp
    clear hp hb
    by_cases h7 : 1 < p.left
    · have hS : p.tick = ({ p with left := p.left - 1 }, false) := by unfold Pc.tick; rw [if_neg h, if_pos h7]
      have hd : decide (0 < p.left - 1) = true := decide_eq_true (by omega)
      have HD := Lib.hid hd
      rw [hS]; clear hS h
      go_enter Try.func18, Try.ntmps18
      go_wp2
      go_ret
      refine ⟨rfl, ?_, mod_here (Mod.refl _ _) _ _⟩
      show RefAt _ b { p with left := p.left - 1 } (decide (0 < p.left - 1))
      rw [HD.out]
      exact H.out.set3 _
    · have hd : decide (0 < p.left - 1) = false := decide_eq_false (by omega)
      by_cases h8 : p.most < 2 * p.step
      · have hS : p.tick = ({ p with step := p.most, left := p.most, rings := p.rings + 1 }, true) := by unfold Pc.tick; rw [if_neg h, if_neg h7, show min (p.step * 2) p.most = p.most by omega]
        have HD : Hid (decide (0 < p.most) = true) := decide_eq_true (by omega)
        rw [hS]; clear hS h
        go_enter Try.func18, Try.ntmps18
        go_wp2
        go_region
        go_wp2
        go_ret
        refine ⟨rfl, ?_, ?_⟩
        · show RefAt _ b { p with step := p.most, left := p.most, rings := p.rings + 1 } (decide (0 < p.most))
          rw [HD.out]
          exact (((H.out.set3 _).set5 _).set2 _).set3 _
        · exact (mod_here (mod_here (mod_here (mod_here (Mod.refl _ _) _ _) _ _) _ _) _ _).drew
      · have hS : p.tick = ({ p with step := 2 * p.step, left := 2 * p.step, rings := p.rings + 1 }, true) := by unfold Pc.tick; rw [if_neg h, if_neg h7, show min (p.step * 2) p.most = 2 * p.step by omega]
        have HD : Hid (decide (0 < 2 * p.step) = true) := decide_eq_true (by omega)
        rw [hS]; clear hS h
        go_enter Try.func18, Try.ntmps18
        go_wp2
        go_quiet (fail)
        go_wp2
        go_ret
        refine ⟨rfl, ?_, ?_⟩
        · show RefAt _ b { p with step := 2 * p.step, left := 2 * p.step, rings := p.rings + 1 } (decide (0 < 2 * p.step))
          rw [HD.out]
          exact (((H.out.set3 _).set5 _).set2 _).set3 _
        · exact mod_here (Mod.drewN (mod_here (mod_here (mod_here (Mod.refl _ _) _ _) _ _) _ _) _) _ _

end Go.Proofs.Ytipnmepalmielaa
