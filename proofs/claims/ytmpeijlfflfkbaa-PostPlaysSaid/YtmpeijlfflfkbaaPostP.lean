/-
  The walk of PostPlays.
-/
import Derived.Test.YtmpeijlfflfkbaaPostO
import Derived.Test.YtmpeijlfflfkbaaElems
import Derived.Outline
import Derived.Deep.RegionHeld3
namespace Go.Proofs.Ytmpeijlfflfkbaa
open Go.RowKit Go.Shoal Go.Conc

/-- An act. -/
structure Act4 where
  op : Int
  box : Int
  to : Int
  v : Int
deriving Inhabited
def Act4.cells (a : Act4) : List Value := [.int .i64 a.op, .int .i64 a.box, .int .i64 a.to, .int .i64 a.v]
def Acts (w : World) (v : Value) (l : List Act4) : Prop := ElemsIn 4 Act4.cells (fun _ => True) w v l

set_option maxRecDepth 100000 in
set_option maxHeartbeats 1000000 in
theorem plays_out (n room : Int) (v : Value) (l : List Act4) (w : World) (hz : Acts w v l) (h : n < 1 ∨ (1 ≤ n ∧ 16 < n) ∨ (1 ≤ n ∧ n ≤ 16 ∧ room < 1) ∨ (1 ≤ n ∧ n ≤ 16 ∧ 1 ≤ room ∧ 64 < room)) :
    Calls Try.prog 6 #[.int .i64 n, .int .i64 room, v] w fun e w' => e = .returned (.bool true) ∧ Below w.heap.size w w' := by
  obtain ⟨A, c, rfl, hl, hz⟩ := hz
  have HN := Lib.hid (fun w => new_no_I n room w (by omega))
  have HA := Lib.hid (awake_any w)
  clear hz hl
  rcases h with h | ⟨h, h1⟩ | ⟨h, h1, h2⟩ | ⟨h, h1, h2, h3⟩
  all_goals
    go_enter Try.func6, Try.ntmps6
    go_wp2_with fail
    refine HA.out.mono ?_
    rintro e w1 ⟨rfl, hm⟩
    have HM := Lib.hid hm
    clear hm
    go_wp2_with fail
    refine (HN.out w1).mono ?_
    rintro e w2 ⟨rfl, rfl⟩
    go_wp2
    go_ret
    exact ⟨rfl, HM.out⟩
set_option maxRecDepth 100000 in
set_option maxHeartbeats 1000000 in
theorem plays_long (n room : Nat) (v : Value) (l : List Act4) (w : World) (hz : Acts w v l) (h1 : 1 ≤ n) (h2 : n ≤ 16) (h3 : 1 ≤ room) (h4 : room ≤ 64) (h : 80 < l.length) :
    Calls Try.prog 6 #[.int .i64 n, .int .i64 room, v] w fun e w' => e = .returned (.bool true) ∧ Below w.heap.size w w' := by
  obtain ⟨A, c, rfl, hl, hz⟩ := hz
  have HA := Lib.hid (awake_any w)
  have HN := Lib.hid (fun w => new_ok_I n room w h1 h2 h3 h4)
  have t1 : decide ((n : Int) < 1) = false := decide_eq_false (by omega)
  have t2 : decide (16 < (n : Int)) = false := decide_eq_false (by omega)
  have t3 : decide ((room : Int) < 1) = false := decide_eq_false (by omega)
  have t4 : decide (64 < (room : Int)) = false := decide_eq_false (by omega)
  have t5 : decide (80 < (l.length : Int)) = true := decide_eq_true (by omega)
  clear hz hl
  go_enter Try.func6, Try.ntmps6
  go_wp2_with fail
  refine HA.out.mono ?_
  rintro e w1 ⟨rfl, hm⟩
  have HM := Lib.hid hm
  clear hm
  go_wp2_with fail
  refine (HN.out w1).mono ?_
  rintro e w2 ⟨rfl, hb, hw⟩
  have HW := Lib.hid hw
  clear hb hw
  go_wp2
  go_ret
  exact ⟨rfl, below_of HM.out HW.out⟩
/-- The two Posts side by side. -/
def Both (w : World) (top p W g n room : Nat) (S : Nat → Prop) (L : Nat → List Int) (wr : World) : Prop :=
  PlotI S wr p n room (valL L) ∧ RefP top wr W g n room L ∧ Below w.heap.size w wr
theorem mkrows (n : Nat) (hn : n ≤ 16) (w : World) : (Instr.makeSlice 47 (.int .i64 n) (.int .i64 n)).run Try.prog w = .ok (.slice (some ⟨w.heap.size, 0, none⟩) n n) (w.alloc (.cells (madeCells #[.slice none 0 0] n) 22)) := by
  have info : (Try.prog.info? 22).map (fun i => (i.zero, i.size, i.bytes)) = some (some (.slice none 0 0), 1, 24) := by kernel_rfl
  obtain ⟨i0, hii, hz0, hz1, hz2⟩ := info_parts info
  have h := run_makeSlice (P := Try.prog) w 47 22 i0 _ Try.underlying47 hii hz0 .i64 .i64 n n (by omega) (by omega) (by rw [hz1]; omega) (by rw [hz2]; omega) (by omega)
  rw [hz1, Int.toNat_natCast, Nat.mul_one] at h
  exact h
theorem RefP.made (n room : Nat) (w : World) : RefP w.heap.size ((w.alloc (.cells (madeCells #[.slice none 0 0] n) 22)).alloc (.cells #[.int .i64 room, .slice (some ⟨w.heap.size, 0, none⟩) n n] 49)) (w.heap.size + 1) w.heap.size n room (fun _ => []) := by
  refine ⟨madeCells #[.slice none 0 0] n, Nat.le_succ _, Nat.le_refl _, ?_, blk_alloc (blk_new w _) _, by simp [madeCells], fun i hi => ⟨.slice none 0 0, ?_, .inl ⟨rfl, rfl⟩⟩⟩
  · rw [← show (w.alloc (.cells (madeCells #[.slice none 0 0] n) 22)).heap.size = w.heap.size + 1 by simp]
    exact blk_new _ _
  · simp [madeCells, hi, Nat.mod_one]
/-- In the midst of an act: both Posts, and the act's own block. -/
def Mid (w : World) (base top p W g n room z : Nat) (a : Act4) (L1 L2 : Nat → List Int) (wr : World) : Prop :=
  PlotI (fun k => base ≤ k ∧ k < top) wr p n room (valL L1) ∧ RefP top wr W g n room L2 ∧ wr.heap[z]? = some (.cells #[.int .i64 a.op, .int .i64 a.box, .int .i64 a.to, .int .i64 a.v] 51 (0, 0)) ∧ Below w.heap.size w wr ∧ top ≤ z ∧ w.heap.size ≤ base ∧ base ≤ top
theorem Mid.prog {w w1 w2 : World} {base top p W g n room z : Nat} {a : Act4} {L1 L2 L3 : Nat → List Int} (h : Mid w base top p W g n room z a L1 L2 w1) (h1 : PlotI (fun k => base ≤ k ∧ k < top) w2 p n room (valL L3)) (hm : Mod (fun k => base ≤ k ∧ k < top) w1 w2) : Mid w base top p W g n room z a L3 L2 w2 := by
  obtain ⟨k1, k2, k3, k4, k5, k6, k7⟩ := h
  exact ⟨h1, k2.mod hm (fun k hk hs => by omega), hm.blk k3 (fun hs => by omega), k4.trans (hm.below (fun i hi hs => by omega) k4.size), k5, k6, k7⟩
theorem Mid.ref {w w1 w2 : World} {base top p W g n room z : Nat} {a : Act4} {L1 L2 L3 : Nat → List Int} (h : Mid w base top p W g n room z a L1 L2 w1) (h1 : RefP top w2 W g n room L3) (hm : Mod (· = g) w1 w2) : Mid w base top p W g n room z a L1 L3 w2 := by
  obtain ⟨k1, k2, k3, k4, k5, k6, k7⟩ := h
  obtain ⟨cells, _, hg, _, hgc, _⟩ := k2
  have hlt : g < w1.heap.size := blk_lt hgc
  exact ⟨k1.below (top := top) (hm.below (fun i hi hs => by omega) (by omega)) (fun k hk => hk.2), h1, hm.blk k3 (blk_ne k3 hgc (show (51 : Nat) ≠ 22 by decide)), k4.trans (hm.below (fun i hi hs => by omega) k4.size), k5, k6, k7⟩
theorem Mid.drew {w w1 : World} {base top p W g n room z : Nat} {a : Act4} {L1 L2 : Nat → List Int} (h : Mid w base top p W g n room z a L1 L2 w1) : Mid w base top p W g n room z a L1 L2 w1.drew :=
  ⟨h.1, h.2.1, h.2.2.1, h.2.2.2.1.drew, h.2.2.2.2⟩
theorem Mid.drewN {w w1 : World} {base top p W g n room z : Nat} {a : Act4} {L1 L2 : Nat → List Int} (h : Mid w base top p W g n room z a L1 L2 w1) (k : Nat) : Mid w base top p W g n room z a L1 L2 (w1.drewN k) :=
  ⟨h.1, h.2.1, h.2.2.1, ⟨h.2.2.2.1.os, h.2.2.2.1.tape, h.2.2.2.1.output, h.2.2.2.1.size, h.2.2.2.1.block⟩, h.2.2.2.2⟩
theorem Mid.start {w wr : World} {base top p W g n room : Nat} {L : Nat → List Int} (a : Act4) (h : Both w top p W g n room (fun k => base ≤ k ∧ k < top) L wr) (hs : w.heap.size ≤ base ∧ base ≤ top) :
    Mid w base top p W g n room wr.heap.size a L L (wr.alloc (.cells #[.int .i64 a.op, .int .i64 a.box, .int .i64 a.to, .int .i64 a.v] 51)) := by
  obtain ⟨h1, h2, h3⟩ := h
  obtain ⟨cells, hW, _, hWc, _⟩ := id h2
  have hlt : W < wr.heap.size := blk_lt hWc
  exact ⟨h1.below (top := top) ((Below.refl _ _).alloc (by omega) _) (fun k hk => hk.2), h2.below ((Below.refl _ _).alloc (Nat.le_refl _) _), blk_new _ _, h3.alloc h3.size _, by omega, hs.1, hs.2⟩
theorem Mid.both {w wr : World} {base top p W g n room z : Nat} {a : Act4} {L : Nat → List Int} (h : Mid w base top p W g n room z a L L wr) : Both w top p W g n room (fun k => base ≤ k ∧ k < top) L wr := ⟨h.1, h.2.1, h.2.2.2.1⟩
theorem Mid.cells {w wr : World} {base top p W g n room z : Nat} {op box to x : Int} {L1 L2 : Nat → List Int} (h : Mid w base top p W g n room z ⟨op, box, to, x⟩ L1 L2 wr) :
    wr.cell? ⟨z, 0, none⟩ = some (.int .i64 op) ∧ wr.cell? ⟨z, 1, none⟩ = some (.int .i64 box) ∧ wr.cell? ⟨z, 2, none⟩ = some (.int .i64 to) ∧ wr.cell? ⟨z, 3, none⟩ = some (.int .i64 x) :=
  ⟨(blk_cell h.2.2.1 0).trans rfl, (blk_cell h.2.2.1 1).trans rfl, (blk_cell h.2.2.1 2).trans rfl, (blk_cell h.2.2.1 3).trans rfl⟩
theorem quiet_kept {P : Program} {f : FuncId} {args : Array Value} {w : World} {n : Nat} {v : Value}
    (h : Calls P f args (w.drewN n) fun e w' => e = .returned v ∧ w.drewN n = w') : Calls P f args (w.drewN n) fun e w'' => e = .returned v ∧ ∃ m, w'' = w.drewN m :=
  h.mono fun _ _ ⟨he, hm⟩ => ⟨he, n, hm.symm⟩
set_option maxRecDepth 100000 in
set_option maxHeartbeats 16000000 in
theorem plays_in (n room : Nat) (v : Value) (l : List Act4) (w : World) (hz : Acts w v l) (h1 : 1 ≤ n) (h2 : n ≤ 16) (h3 : 1 ≤ room) (h4 : room ≤ 64) (h : l.length ≤ 80) :
    Calls Try.prog 6 #[.int .i64 n, .int .i64 room, v] w fun e w' => e = .returned (.bool true) ∧ Below w.heap.size w w' := by
  obtain ⟨A, c, rfl, hl, _, hz⟩ := hz
  have HA := Lib.hid (awake_any w)
  have HN := Lib.hid (fun w => new_ok_I n room w h1 h2 h3 h4)
  have t1 : decide ((n : Int) < 1) = false := decide_eq_false (by omega)
  have t2 : decide (16 < (n : Int)) = false := decide_eq_false (by omega)
  have t3 : decide ((room : Int) < 1) = false := decide_eq_false (by omega)
  have t4 : decide (64 < (room : Int)) = false := decide_eq_false (by omega)
  have t5 : decide (80 < (l.length : Int)) = false := decide_eq_false (by omega)
  have HZ := Lib.hid hz
  have hrow := mkrows n h2
  clear hz hl
  go_enter Try.func6, Try.ntmps6
  go_wp2_with fail
  refine HA.out.mono ?_
  rintro e w1 ⟨rfl, hm⟩
  have HM := Lib.hid hm
  clear hm
  go_wp2_with fail
  refine (HN.out w1).mono ?_
  rintro e w2 ⟨rfl, hb, hw⟩
  have HP := Lib.hid (PlotI.of_boxes hb)
  have HW := Lib.hid (below_of HM.out hw)
  have HR := Lib.hid (RefP.made n room w2)
  have H0 : Hid (Both w w2.heap.size (w1.heap.size + 1) (w2.heap.size + 1) w2.heap.size n room (fun k => w1.heap.size ≤ k ∧ k < w2.heap.size) (fun _ => []) ((w2.alloc (.cells (madeCells #[.slice none 0 0] n) 22)).alloc (.cells #[.int .i64 room, .slice (some ⟨w2.heap.size, 0, none⟩) n n] 49))) :=
    ⟨HP.out.below (((Below.refl _ _).alloc (Nat.le_refl _) _).alloc (by simp) _) (fun k hk => hk.2), HR.out, (HW.out.alloc HW.out.size _).alloc (by have := HW.out.size; simp; omega) _⟩
  have HS : Hid (w.heap.size ≤ w1.heap.size ∧ w1.heap.size ≤ w2.heap.size) := ⟨HM.out.size, hw.size⟩
  clear hb hw HP HR HW HM HN HA
  go_wp2
  clear hrow
  generalize hWW : w2.heap.size + 1 = W at *
  generalize hpp : w1.heap.size + 1 = p at *
  clear hWW hpp
  obtain ⟨g, hg⟩ : ∃ g, g = w2.heap.size := ⟨_, rfl⟩
  obtain ⟨top, htop⟩ : ∃ g, g = w2.heap.size := ⟨_, rfl⟩
  have H1 : Hid (Both w top p W g n room (fun k => w1.heap.size ≤ k ∧ k < top) (fun _ => []) ((w2.alloc (.cells (madeCells #[.slice none 0 0] n) 22)).alloc (.cells #[.int .i64 room, .slice (some ⟨w2.heap.size, 0, none⟩) n n] 49))) := by rw [htop, hg]; exact H0
  rw [← htop] at HS
  clear H0 htop hg
  generalize w1.heap.size = base at *
  go_loopw [10] (fun i wr => ∃ (j : Nat) (L : Nat → List Int), j ≤ l.length ∧ i = .int .i64 j ∧ Hid (Both w top p W g n room (fun k => base ≤ k ∧ k < top) L wr)) (fun i _ => l.length - (intOf i).toNat)
  case atStart => exact ⟨0, _, Nat.zero_le _, rfl, H1⟩
  case round =>
    obtain ⟨j, L, hj, rfl, hR⟩ := hrel
    by_cases hlt : j < l.length
    · obtain ⟨b, o, rfl, hb, hc⟩ := ElemsIn.cell HZ.out hR.out.2.2 j hlt
      have hi : (j : Int) < l.length := by omega
      obtain ⟨op, box, to, x, hq⟩ : ∃ a b c d, l.getD j default = Act4.mk a b c d := ⟨_, _, _, _, rfl⟩
      have k0 := hc 0 (.int .i64 op) (by rw [hq]; rfl)
      have k1 := hc 1 (.int .i64 box) (by rw [hq]; rfl)
      have k2 := hc 2 (.int .i64 to) (by rw [hq]; rfl)
      have k3 := hc 3 (.int .i64 x) (by rw [hq]; rfl)
      have HMS := Lib.hid (Mid.start ⟨op, box, to, x⟩ hR.out HS.out)
      rw [Nat.add_zero] at k0
      clear hc hq hb
      have HPP : Hid (∀ L1 L2 W1, Mid w base top p W g n room wr.heap.size ⟨op, box, to, x⟩ L1 L2 W1 → Calls Try.prog 9 #[.pointer (some ⟨p, 0, none⟩), .int .i64 box, .int .i64 x] W1 fun e W2 => e = .returned (.bool (canPutI n room L1 box)) ∧ Mid w base top p W g n room wr.heap.size ⟨op, box, to, x⟩ (putI n room L1 box x) L2 W2) :=
        fun L1 L2 W1 h => (plot_put _ p n room L1 box x W1 h.1).mono fun e W2 ⟨a1, a2, a3⟩ => ⟨a1, h.prog a2 a3⟩
      have HRP : Hid (∀ L1 L2 W1, Mid w base top p W g n room wr.heap.size ⟨op, box, to, x⟩ L1 L2 W1 → Calls Try.prog 19 #[.pointer (some ⟨W, 0, none⟩), .int .i64 box, .int .i64 x] W1 fun e W2 => e = .returned (.bool (canPutI n room L2 box)) ∧ Mid w base top p W g n room wr.heap.size ⟨op, box, to, x⟩ L1 (putI n room L2 box x) W2) :=
        fun L1 L2 W1 h => (ref_put top W g n room L2 box x W1 h.2.1 h4).mono fun e W2 ⟨a1, a2, a3⟩ => ⟨a1, h.ref a2 a3⟩
      have HPG : Hid (∀ L1 L2 W1, Mid w base top p W g n room wr.heap.size ⟨op, box, to, x⟩ L1 L2 W1 → Calls Try.prog 12 #[.pointer (some ⟨p, 0, none⟩), .int .i64 box] W1 fun e W2 => e = .returned (.tuple #[.int .i64 (gotI n L1 box), .bool (canGetI n L1 box)]) ∧ Mid w base top p W g n room wr.heap.size ⟨op, box, to, x⟩ (getI n L1 box) L2 W2) :=
        fun L1 L2 W1 h => (plot_get _ p n room L1 box W1 h.1).mono fun e W2 ⟨a1, a2, a3⟩ => ⟨a1, h.prog a2 a3⟩
      have HRG : Hid (∀ L1 L2 W1, Mid w base top p W g n room wr.heap.size ⟨op, box, to, x⟩ L1 L2 W1 → Calls Try.prog 20 #[.pointer (some ⟨W, 0, none⟩), .int .i64 box] W1 fun e W2 => e = .returned (.tuple #[.int .i64 (gotI n L2 box), .bool (canGetI n L2 box)]) ∧ Mid w base top p W g n room wr.heap.size ⟨op, box, to, x⟩ L1 (getI n L2 box) W2) :=
        fun L1 L2 W1 h => (ref_get top W g n room L2 box W1 h.2.1).mono fun e W2 ⟨a1, a2, a3⟩ => ⟨a1, h.ref a2 a3⟩
      have HPA : Hid (∀ L1 L2 W1, Mid w base top p W g n room wr.heap.size ⟨op, box, to, x⟩ L1 L2 W1 → Calls Try.prog 10 #[.pointer (some ⟨p, 0, none⟩)] W1 fun e W2 => e = .returned (.tuple #[.int .i64 (anyI L1 n 0).1, .int .i64 (anyI L1 n 0).2.1, .bool (anyI L1 n 0).2.2.1]) ∧ Mid w base top p W g n room wr.heap.size ⟨op, box, to, x⟩ (anyI L1 n 0).2.2.2 L2 W2) :=
        fun L1 L2 W1 h => (plot_any _ p n room L1 W1 h.1 h2).mono fun e W2 ⟨a1, a2, a3⟩ => ⟨a1, h.prog a2 a3⟩
      have HRA : Hid (∀ L1 L2 W1, Mid w base top p W g n room wr.heap.size ⟨op, box, to, x⟩ L1 L2 W1 → Calls Try.prog 21 #[.pointer (some ⟨W, 0, none⟩)] W1 fun e W2 => e = .returned (.tuple #[.int .i64 (anyI L2 n 0).1, .int .i64 (anyI L2 n 0).2.1, .bool (anyI L2 n 0).2.2.1]) ∧ Mid w base top p W g n room wr.heap.size ⟨op, box, to, x⟩ L1 (anyI L2 n 0).2.2.2 W2) :=
        fun L1 L2 W1 h => (ref_any top W g n room L2 W1 h.2.1 h2).mono fun e W2 ⟨a1, a2, a3⟩ => ⟨a1, h.ref a2 a3⟩
      have HPE : Hid (∀ L1 L2 W1, Mid w base top p W g n room wr.heap.size ⟨op, box, to, x⟩ L1 L2 W1 → Calls Try.prog 22 #[.pointer (some ⟨p, 0, none⟩), .int .i64 box, .int .i64 to] W1 fun e W2 => e = .returned (.tuple #[.int .i64 (eithI n L1 box to).1, .int .i64 (eithI n L1 box to).2.1, .bool (eithI n L1 box to).2.2.1]) ∧ Mid w base top p W g n room wr.heap.size ⟨op, box, to, x⟩ (eithI n L1 box to).2.2.2 L2 W2) :=
        fun L1 L2 W1 h => (plot_either _ p n room L1 box to W1 h.1).mono fun e W2 ⟨a1, a2, a3⟩ => ⟨a1, h.prog a2 a3⟩
      have HRE : Hid (∀ L1 L2 W1, Mid w base top p W g n room wr.heap.size ⟨op, box, to, x⟩ L1 L2 W1 → Calls Try.prog 23 #[.pointer (some ⟨W, 0, none⟩), .int .i64 box, .int .i64 to] W1 fun e W2 => e = .returned (.tuple #[.int .i64 (eithI n L2 box to).1, .int .i64 (eithI n L2 box to).2.1, .bool (eithI n L2 box to).2.2.1]) ∧ Mid w base top p W g n room wr.heap.size ⟨op, box, to, x⟩ L1 (eithI n L2 box to).2.2.2 W2) :=
        fun L1 L2 W1 h => (ref_either top W g n room L2 box to W1 h.2.1).mono fun e W2 ⟨a1, a2, a3⟩ => ⟨a1, h.ref a2 a3⟩
      have HLN : Hid (∀ L1 W1 k m, PlotI (fun k => base ≤ k ∧ k < top) W1 p n room (valL L1) → k < n → Calls Try.prog 11 #[.pointer (some ⟨p, 0, none⟩), .int .i64 (k : Nat)] (W1.drewN m) fun e W2 => e = .returned (.int .i64 (L1 k).length) ∧ W1.drewN m = W2) :=
        fun L1 W1 k m h hk => plot_len (fun k => base ≤ k ∧ k < top) p n room L1 k (W1.drewN m) h hk
      by_cases o0 : op = 0
      · subst o0
        have HP := Lib.hid (HPP.out L L)
        have HQ := Lib.hid (HRP.out (putI n room L box x) L)
        clear HPP HRP HPG HRG HPA HRA HPE HRE
        generalize putI n room L box x = L5 at *
        generalize canPutI n room L box = cb at *
        have hM := HMS.out.drew
        go_wp2_with fail
        go_region_held3 (fun w' => w'.cell? ⟨wr.heap.size, 0, none⟩ = some (.int .i64 0) ∧ w'.cell? ⟨wr.heap.size, 1, none⟩ = some (.int .i64 box) ∧ w'.cell? ⟨wr.heap.size, 2, none⟩ = some (.int .i64 to) ∧ w'.cell? ⟨wr.heap.size, 3, none⟩ = some (.int .i64 x)) (first | assumption | exact (Mid.cells (by assumption))) (first | (go_at_call 9; refine (HP.out _ (by assumption)).mono ?_; rintro d w' ⟨rfl, hS⟩) | (go_at_call 19; refine (HQ.out _ (by assumption)).mono ?_; rintro d w' ⟨rfl, hS⟩))
        have HQ : Hid (Mid w base top p W g n room wr.heap.size ⟨0, box, to, x⟩ L5 L5 _) := (by assumption : Mid w base top p W g n room wr.heap.size ⟨0, box, to, x⟩ L5 L5 _)
        clear HMS hM
        generalize wr.heap.size = z at *
        go_wp2
        go_loopw [29] (fun i wr => ∃ k : Nat, k ≤ n ∧ i = .int .i64 k ∧ Hid (Mid w base top p W g n room z ⟨0, box, to, x⟩ L5 L5 wr)) (fun i _ => n - (intOf i).toNat)
        case atStart => exact ⟨0, Nat.zero_le _, rfl, HQ⟩
        case round =>
          obtain ⟨k, hk, rfl, hX⟩ := hrel
          by_cases hkn : k < n
          · have hk1 : (k : Int) < n := by omega
            have hk0 : (0 : Int) ≤ (k : Int) := by omega
            obtain ⟨cells, _, _, hWc, hgc, _, hrows⟩ := hX.out.2.1
            obtain ⟨u, hu, hrow⟩ := hrows k hkn
            obtain ⟨A9, c9, rfl⟩ := hrow.form
            have e1 := (blk_cell hWc 1).trans rfl
            have e2 := (blk_cell hgc k).trans hu
            have HL := Lib.hid (HLN.out L5)
            have q9 : (((L5 k).length : Int) != ((L5 k).length : Int)) = false := by simp
            clear hrows hrow hu hWc hgc
            go_wp2_with fail
            go_quiet ((go_at_call 11; exact quiet_kept (HL.out _ k _ hX.out.1 hkn)))
            go_wp2
            go_roundw
            case rel => exact ⟨k + 1, by omega, by go_num, hX.out.drewN _⟩
            case measure => simp [intOf]; omega
          · have hk1 : decide ((k : Int) < n) = false := decide_eq_false (by omega)
            have HB := Lib.hid hX.out.both
            go_wp2
            go_roundw
            case rel => exact ⟨j + 1, L5, by omega, by go_num, HB⟩
            case measure => simp [intOf]; omega
      by_cases o1 : op = 1
      · subst o1
        have HP := Lib.hid (HPG.out L L)
        have HQ := Lib.hid (HRG.out (getI n L box) L)
        generalize getI n L box = L5 at *
        generalize gotI n L box = gv at *
        generalize canGetI n L box = gb at *
        clear HPP HRP HPG HRG HPA HRA HPE HRE
        go_wp2_with fail
        refine (HP.out _ HMS.out).mono ?_
        rintro e w5 ⟨rfl, hm5⟩
        clear HMS
        generalize wr.heap.size = z at *
        have HM5 := Lib.hid hm5
        obtain ⟨e0, e1, e2, e3⟩ := HM5.out.cells
        clear hm5
        go_wp2_with fail
        refine (HQ.out _ HM5.out).mono ?_
        rintro e w6 ⟨rfl, hm6⟩
        clear e0 e1 e2 e3 HM5 HP HQ
        have HQ := Lib.hid hm6
        clear hm6
        go_wp2
        go_loopw [29] (fun i wr => ∃ k : Nat, k ≤ n ∧ i = .int .i64 k ∧ Hid (Mid w base top p W g n room z ⟨1, box, to, x⟩ L5 L5 wr)) (fun i _ => n - (intOf i).toNat)
        case atStart => exact ⟨0, Nat.zero_le _, rfl, HQ⟩
        case round =>
          obtain ⟨k, hk, rfl, hX⟩ := hrel
          by_cases hkn : k < n
          · have hk1 : (k : Int) < n := by omega
            have hk0 : (0 : Int) ≤ (k : Int) := by omega
            obtain ⟨cells, _, _, hWc, hgc, _, hrows⟩ := hX.out.2.1
            obtain ⟨u, hu, hrow⟩ := hrows k hkn
            obtain ⟨A9, c9, rfl⟩ := hrow.form
            have e1 := (blk_cell hWc 1).trans rfl
            have e2 := (blk_cell hgc k).trans hu
            have HL := Lib.hid (HLN.out L5)
            have q9 : (((L5 k).length : Int) != ((L5 k).length : Int)) = false := by simp
            clear hrows hrow hu hWc hgc
            go_wp2_with fail
            go_quiet ((go_at_call 11; exact quiet_kept (HL.out _ k _ hX.out.1 hkn)))
            go_wp2
            go_roundw
            case rel => exact ⟨k + 1, by omega, by go_num, hX.out.drewN _⟩
            case measure => simp [intOf]; omega
          · have hk1 : decide ((k : Int) < n) = false := decide_eq_false (by omega)
            have HB := Lib.hid hX.out.both
            go_wp2
            go_roundw
            case rel => exact ⟨j + 1, L5, by omega, by go_num, HB⟩
            case measure => simp [intOf]; omega
      by_cases o2 : op = 2
      · subst o2
        have HP := Lib.hid (HPA.out L L)
        have HQ := Lib.hid (HRA.out (anyI L n 0).2.2.2 L)
        generalize anyI L n 0 = r at *
        obtain ⟨r1, r2, r3, L5⟩ := r
        dsimp only at HP HQ
        clear HPP HRP HPG HRG HPA HRA HPE HRE
        go_wp2_with fail
        refine (HP.out _ HMS.out).mono ?_
        rintro e w5 ⟨rfl, hm5⟩
        clear HMS
        generalize wr.heap.size = z at *
        have HM5 := Lib.hid hm5
        obtain ⟨e0, e1, e2, e3⟩ := HM5.out.cells
        clear hm5
        go_wp2_with fail
        refine (HQ.out _ HM5.out).mono ?_
        rintro e w6 ⟨rfl, hm6⟩
        clear e0 e1 e2 e3 HM5 HP HQ
        have HQ := Lib.hid hm6
        clear hm6
        go_wp2
        go_loopw [29] (fun i wr => ∃ k : Nat, k ≤ n ∧ i = .int .i64 k ∧ Hid (Mid w base top p W g n room z ⟨2, box, to, x⟩ L5 L5 wr)) (fun i _ => n - (intOf i).toNat)
        case atStart => exact ⟨0, Nat.zero_le _, rfl, HQ⟩
        case round =>
          obtain ⟨k, hk, rfl, hX⟩ := hrel
          by_cases hkn : k < n
          · have hk1 : (k : Int) < n := by omega
            have hk0 : (0 : Int) ≤ (k : Int) := by omega
            obtain ⟨cells, _, _, hWc, hgc, _, hrows⟩ := hX.out.2.1
            obtain ⟨u, hu, hrow⟩ := hrows k hkn
            obtain ⟨A9, c9, rfl⟩ := hrow.form
            have e1 := (blk_cell hWc 1).trans rfl
            have e2 := (blk_cell hgc k).trans hu
            have HL := Lib.hid (HLN.out L5)
            have q9 : (((L5 k).length : Int) != ((L5 k).length : Int)) = false := by simp
            clear hrows hrow hu hWc hgc
            go_wp2_with fail
            go_quiet ((go_at_call 11; exact quiet_kept (HL.out _ k _ hX.out.1 hkn)))
            go_wp2
            go_roundw
            case rel => exact ⟨k + 1, by omega, by go_num, hX.out.drewN _⟩
            case measure => simp [intOf]; omega
          · have hk1 : decide ((k : Int) < n) = false := decide_eq_false (by omega)
            have HB := Lib.hid hX.out.both
            go_wp2
            go_roundw
            case rel => exact ⟨j + 1, L5, by omega, by go_num, HB⟩
            case measure => simp [intOf]; omega
      · have y0 : (op == 0) = false := beq_eq_false_iff_ne.2 o0
        have y1 : (op == 1) = false := beq_eq_false_iff_ne.2 o1
        have y2 : (op == 2) = false := beq_eq_false_iff_ne.2 o2
        clear o0 o1 o2
        have HP := Lib.hid (HPE.out L L)
        have HQ := Lib.hid (HRE.out (eithI n L box to).2.2.2 L)
        generalize eithI n L box to = r at *
        obtain ⟨r1, r2, r3, L5⟩ := r
        dsimp only at HP HQ
        clear HPP HRP HPG HRG HPA HRA HPE HRE
        go_wp2_with fail
        refine (HP.out _ HMS.out).mono ?_
        rintro e w5 ⟨rfl, hm5⟩
        clear HMS
        generalize wr.heap.size = z at *
        have HM5 := Lib.hid hm5
        obtain ⟨e0, e1, e2, e3⟩ := HM5.out.cells
        clear hm5
        go_wp2_with fail
        refine (HQ.out _ HM5.out).mono ?_
        rintro e w6 ⟨rfl, hm6⟩
        clear e0 e1 e2 e3 HM5 HP HQ
        have HQ := Lib.hid hm6
        clear hm6
        go_wp2
        go_loopw [29] (fun i wr => ∃ k : Nat, k ≤ n ∧ i = .int .i64 k ∧ Hid (Mid w base top p W g n room z ⟨op, box, to, x⟩ L5 L5 wr)) (fun i _ => n - (intOf i).toNat)
        case atStart => exact ⟨0, Nat.zero_le _, rfl, HQ⟩
        case round =>
          obtain ⟨k, hk, rfl, hX⟩ := hrel
          by_cases hkn : k < n
          · have hk1 : (k : Int) < n := by omega
            have hk0 : (0 : Int) ≤ (k : Int) := by omega
            obtain ⟨cells, _, _, hWc, hgc, _, hrows⟩ := hX.out.2.1
            obtain ⟨u, hu, hrow⟩ := hrows k hkn
            obtain ⟨A9, c9, rfl⟩ := hrow.form
            have e1 := (blk_cell hWc 1).trans rfl
            have e2 := (blk_cell hgc k).trans hu
            have HL := Lib.hid (HLN.out L5)
            have q9 : (((L5 k).length : Int) != ((L5 k).length : Int)) = false := by simp
            clear hrows hrow hu hWc hgc
            go_wp2_with fail
            go_quiet ((go_at_call 11; exact quiet_kept (HL.out _ k _ hX.out.1 hkn)))
            go_wp2
            go_roundw
            case rel => exact ⟨k + 1, by omega, by go_num, hX.out.drewN _⟩
            case measure => simp [intOf]; omega
          · have hk1 : decide ((k : Int) < n) = false := decide_eq_false (by omega)
            have HB := Lib.hid hX.out.both
            go_wp2
            go_roundw
            case rel => exact ⟨j + 1, L5, by omega, by go_num, HB⟩
            case measure => simp [intOf]; omega
    · obtain rfl : j = l.length := by omega
      have hi : decide ((l.length : Int) < (l.length : Int)) = false := decide_eq_false (by omega)
      go_wp2
      go_ret
      exact ⟨rfl, hR.out.2.2⟩
theorem plays_any (n room : Int) (v : Value) (l : List Act4) (w : World) (hz : Acts w v l) :
    Calls Try.prog 6 #[.int .i64 n, .int .i64 room, v] w fun e w' => e = .returned (.bool true) ∧ Below w.heap.size w w' := by
  by_cases h : n < 1 ∨ (1 ≤ n ∧ 16 < n) ∨ (1 ≤ n ∧ n ≤ 16 ∧ room < 1) ∨ (1 ≤ n ∧ n ≤ 16 ∧ 1 ≤ room ∧ 64 < room)
  · exact plays_out n room v l w hz h
  · obtain ⟨n', rfl⟩ := Int.eq_ofNat_of_zero_le (show 0 ≤ n by omega)
    obtain ⟨r', rfl⟩ := Int.eq_ofNat_of_zero_le (show 0 ≤ room by omega)
    by_cases hl : l.length ≤ 80
    · exact plays_in n' r' v l w hz (by omega) (by omega) (by omega) (by omega) hl
    · exact plays_long n' r' v l w hz (by omega) (by omega) (by omega) (by omega) (by omega)
end Go.Proofs.Ytmpeijlfflfkbaa
