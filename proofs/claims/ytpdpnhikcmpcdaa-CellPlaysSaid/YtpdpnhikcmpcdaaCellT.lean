/-
  CellPlays.
-/
import Derived.Test.YtpdpnhikcmpcdaaCellS
namespace Go.Proofs.Ytpdpnhikcmpcdaa
open Go.RowKit Go.Shoal

theorem quiet_left {P : Program} {f : FuncId} {args : Array Value} {w : World} {n : Nat} {v : Value}
    (h : Calls P f args (w.drewN n) fun e w' => e = .returned v ∧ w.drewN n = w') : Calls P f args (w.drewN n) fun e w'' => e = .returned v ∧ ∃ m, w'' = w.drewN m :=
  h.mono fun _ _ ⟨he, hm⟩ => ⟨he, n, hm.symm⟩
theorem five_cells {w : World} {z : Nat} {a b c d e : Value} {t : TypeId} (h : w.heap[z]? = some (.cells #[a, b, c, d, e] t (0, 0))) : w.cell? ⟨z, 0, none⟩ = some a ∧ w.cell? ⟨z, 1, none⟩ = some b ∧ w.cell? ⟨z, 2, none⟩ = some c ∧ w.cell? ⟨z, 3, none⟩ = some d ∧ w.cell? ⟨z, 4, none⟩ = some e :=
  ⟨(blk_cell h 0).trans rfl, (blk_cell h 1).trans rfl, (blk_cell h 2).trans rfl, (blk_cell h 3).trans rfl, (blk_cell h 4).trans rfl⟩
theorem four_of {p q r s t : Prop} (h : p ∧ q ∧ r ∧ s ∧ t) : q ∧ r ∧ s ∧ t := h.2
theorem Both.tags {base B vb RB : Nat} {cv rcv : Value} {w0 w : World} {s r : Cl} (h : Both base B vb RB cv rcv w0 s r w) :
    (∀ n, Calls Try.prog 18 #[.pointer (some ⟨B, 0, none⟩)] (w.drewN n) fun e w' => e = .returned (.int .u64 s.tags) ∧ w.drewN n = w') ∧ w.cell? ⟨RB, 10, none⟩ = some (.int .u64 r.tags) := by
  obtain ⟨vv, h2, _⟩ := h.b
  exact ⟨fun n => tags_any B vb cv s _ (h.a.at'.same ((Mod.refl _ _).drewN n)), h2.cells.2.2.2.2⟩
set_option maxRecDepth 100000 in
set_option maxHeartbeats 8000000 in
theorem plays_long (c : Cf) (u : Value) (me : Int) (v : Value) (l : List ActC) (w : World) (hS : SetsIn w u c.vars) (hz : ActsC w v l) (h : 20 < c.vars.length) :
    Calls Try.prog 5 #[c.val u, .int .i64 me, v] w fun e w' => e = .returned (.bool true) ∧ Below w.heap.size w w' := by
  obtain ⟨A, cp, rfl, hl, hfit, hz⟩ := hz
  unfold maxLen at hl
  have HZ := Lib.hid hz
  have HFIT := Lib.hid hfit
  have HW : Hid (∀ t ∈ c.vars, t < 18446744073709551616) := by obtain ⟨_, _, _, _, _, hw⟩ := hS; exact hw
  obtain ⟨A1, c1, rfl⟩ : ∃ A1 c1, u = .slice A1 c.vars.length c1 := by obtain ⟨A1, c1, h, _⟩ := hS; exact ⟨A1, c1, h⟩
  have hb := blk_new w (.cells #[.int .i64 c.n, .slice A1 c.vars.length c1, .int .i64 c.window, .int .i64 c.queue, .int .i64 c.first, .int .i64 c.most, .int .i64 c.body, .int .i64 c.engine] 30)
  have HS1 := Lib.hid (hS.mod (S := fun _ => False) (w' := w.alloc (.cells #[.int .i64 c.n, .slice A1 c.vars.length c1, .int .i64 c.window, .int .i64 c.queue, .int .i64 c.first, .int .i64 c.most, .int .i64 c.body, .int .i64 c.engine] 30)) ((Mod.refl _ _).alloc _) (fun _ _ x => x))
  have HA := Lib.hid (awake_any (w.alloc (.cells #[.int .i64 c.n, .slice A1 c.vars.length c1, .int .i64 c.window, .int .i64 c.queue, .int .i64 c.first, .int .i64 c.most, .int .i64 c.body, .int .i64 c.engine] 30)))
  unfold Cf.val Cf.cells
  have HB := Lib.hid hb
  have t1 : decide ((20 : Int) < (c.vars.length : Int)) = true := decide_eq_true (by omega)
  clear hb hS hz hfit
  go_enter Try.func5, Try.ntmps5
  go_wp2_with fail
  refine HA.out.mono ?_
  rintro e w1 ⟨rfl, hm⟩
  have hm' := Mod.of_below (S := fun _ => False) hm
  have hb1 := hm'.blk HB.out (fun x => x)
  have HB1 := Lib.hid hb1
  obtain ⟨d0, d1, d2, d3, d4, d5, d6, d7⟩ := eight_cells hb1
  have HM1 : Hid (Mod (fun _ => False) w w1) := ((Mod.refl _ w).alloc _).trans hm'
  have HBW1 := Lib.hid HM1.out.none_below
  have HS2 := Lib.hid (HS1.out.mod hm' (fun _ _ x => x))
  clear hm hm' hb1 HA HB HS1
  go_wp2
  go_ret
  exact ⟨rfl, HM1.out.none_below⟩
set_option maxRecDepth 100000 in
set_option maxHeartbeats 8000000 in
theorem plays_bad (c : Cf) (u : Value) (me : Int) (v : Value) (l : List ActC) (w : World) (hS : SetsIn w u c.vars) (hz : ActsC w v l) (h0 : c.vars.length ≤ 20) (hh : ¬ (c.good = true ∧ 0 ≤ me ∧ me < c.n)) :
    Calls Try.prog 5 #[c.val u, .int .i64 me, v] w fun e w' => e = .returned (.bool true) ∧ Below w.heap.size w w' := by
  obtain ⟨A, cp, rfl, hl, hfit, hz⟩ := hz
  unfold maxLen at hl
  have HZ := Lib.hid hz
  have HFIT := Lib.hid hfit
  have HW : Hid (∀ t ∈ c.vars, t < 18446744073709551616) := by obtain ⟨_, _, _, _, _, hw⟩ := hS; exact hw
  obtain ⟨A1, c1, rfl⟩ : ∃ A1 c1, u = .slice A1 c.vars.length c1 := by obtain ⟨A1, c1, h, _⟩ := hS; exact ⟨A1, c1, h⟩
  have hb := blk_new w (.cells #[.int .i64 c.n, .slice A1 c.vars.length c1, .int .i64 c.window, .int .i64 c.queue, .int .i64 c.first, .int .i64 c.most, .int .i64 c.body, .int .i64 c.engine] 30)
  have HS1 := Lib.hid (hS.mod (S := fun _ => False) (w' := w.alloc (.cells #[.int .i64 c.n, .slice A1 c.vars.length c1, .int .i64 c.window, .int .i64 c.queue, .int .i64 c.first, .int .i64 c.most, .int .i64 c.body, .int .i64 c.engine] 30)) ((Mod.refl _ _).alloc _) (fun _ _ x => x))
  have HA := Lib.hid (awake_any (w.alloc (.cells #[.int .i64 c.n, .slice A1 c.vars.length c1, .int .i64 c.window, .int .i64 c.queue, .int .i64 c.first, .int .i64 c.most, .int .i64 c.body, .int .i64 c.engine] 30)))
  unfold Cf.val Cf.cells
  have HB := Lib.hid hb
  have t1 : decide ((20 : Int) < (c.vars.length : Int)) = false := decide_eq_false (by omega)
  clear hb hS hz hfit
  go_enter Try.func5, Try.ntmps5
  go_wp2_with fail
  refine HA.out.mono ?_
  rintro e w1 ⟨rfl, hm⟩
  have hm' := Mod.of_below (S := fun _ => False) hm
  have hb1 := hm'.blk HB.out (fun x => x)
  have HB1 := Lib.hid hb1
  obtain ⟨d0, d1, d2, d3, d4, d5, d6, d7⟩ := eight_cells hb1
  have HM1 : Hid (Mod (fun _ => False) w w1) := ((Mod.refl _ w).alloc _).trans hm'
  have HBW1 := Lib.hid HM1.out.none_below
  have HS2 := Lib.hid (HS1.out.mod hm' (fun _ _ x => x))
  clear hm hm' hb1 HA HB HS1
  have hcases : c.good = false ∨ (c.good = true ∧ me < 0) ∨ (c.good = true ∧ ¬ me < 0 ∧ c.n ≤ me) := by
    cases hg : c.good
    · exact .inl rfl
    · right
      by_cases h1 : me < 0
      · exact .inl ⟨rfl, h1⟩
      · exact .inr ⟨rfl, h1, by
          rcases Int.lt_or_le me c.n with h | h
          · exact absurd ⟨hg, by omega, h⟩ hh
          · exact h⟩
  have HN := Lib.hid (new_no c _ me w1 HS2.out hh)
  unfold Cf.val Cf.cells at HN
  clear hh
  go_wp2_with fail
  refine HN.out.mono ?_
  rintro e w2 ⟨rfl, hm⟩
  have hb2 := hm.blk HB1.out (fun x => x)
  have HB2 := Lib.hid hb2
  have HM2 : Hid (Mod (fun _ => False) w w2) := HM1.out.trans hm
  have hS3 := HS2.out.mod hm (fun _ _ x => x)
  have HS3 := Lib.hid hS3
  have HG := Lib.hid (good_any c _ w2 hS3)
  unfold Cf.val Cf.cells at HG
  clear d0 d1 d2 d3 d4 d5 d6 d7
  obtain ⟨d0, d1, d2, d3, d4, d5, d6, d7⟩ := eight_cells hb2
  clear hm hb2 HB1 HM1 HS2 hS3 HN
  rcases hcases with hg | ⟨hg, h1⟩ | ⟨hg, h1, h2⟩
  all_goals
    rw [hg] at HG
    clear hg
  · go_wp2_with fail
    refine HG.out.mono ?_
    rintro e w3 ⟨rfl, hm⟩
    have HM3 := Lib.hid (HM2.out.trans hm)
    clear hm HG
    go_wp2
    go_ret
    exact ⟨rfl, HM3.out.none_below⟩
  · have t2 : decide (me < 0) = true := decide_eq_true h1
    go_wp2_with fail
    refine HG.out.mono ?_
    rintro e w3 ⟨rfl, hm⟩
    have HM3 := Lib.hid (HM2.out.trans hm)
    clear hm HG
    go_wp2
    go_ret
    exact ⟨rfl, HM3.out.none_below⟩
  · have t2 : decide (me < 0) = false := decide_eq_false (by omega)
    have t3 : decide (c.n ≤ me) = true := decide_eq_true h2
    go_wp2_with fail
    refine HG.out.mono ?_
    rintro e w3 ⟨rfl, hm⟩
    have HM3 := Lib.hid (HM2.out.trans hm)
    have e0 := (blk_cell (hm.blk HB2.out (fun x => x)) 0).trans rfl
    clear hm HG
    go_wp2
    go_ret
    exact ⟨rfl, HM3.out.none_below⟩
set_option maxRecDepth 100000 in
set_option maxHeartbeats 8000000 in
theorem plays_many (c : Cf) (u : Value) (me : Int) (v : Value) (l : List ActC) (w : World) (hS : SetsIn w u c.vars) (hz : ActsC w v l) (h0 : c.vars.length ≤ 20) (hh : c.good = true) (h1 : 0 ≤ me) (h2 : me < c.n) (h3 : 60 < l.length) :
    Calls Try.prog 5 #[c.val u, .int .i64 me, v] w fun e w' => e = .returned (.bool true) ∧ Below w.heap.size w w' := by
  obtain ⟨A, cp, rfl, hl, hfit, hz⟩ := hz
  unfold maxLen at hl
  have HZ := Lib.hid hz
  have HFIT := Lib.hid hfit
  have HW : Hid (∀ t ∈ c.vars, t < 18446744073709551616) := by obtain ⟨_, _, _, _, _, hw⟩ := hS; exact hw
  obtain ⟨A1, c1, rfl⟩ : ∃ A1 c1, u = .slice A1 c.vars.length c1 := by obtain ⟨A1, c1, h, _⟩ := hS; exact ⟨A1, c1, h⟩
  have hb := blk_new w (.cells #[.int .i64 c.n, .slice A1 c.vars.length c1, .int .i64 c.window, .int .i64 c.queue, .int .i64 c.first, .int .i64 c.most, .int .i64 c.body, .int .i64 c.engine] 30)
  have HS1 := Lib.hid (hS.mod (S := fun _ => False) (w' := w.alloc (.cells #[.int .i64 c.n, .slice A1 c.vars.length c1, .int .i64 c.window, .int .i64 c.queue, .int .i64 c.first, .int .i64 c.most, .int .i64 c.body, .int .i64 c.engine] 30)) ((Mod.refl _ _).alloc _) (fun _ _ x => x))
  have HA := Lib.hid (awake_any (w.alloc (.cells #[.int .i64 c.n, .slice A1 c.vars.length c1, .int .i64 c.window, .int .i64 c.queue, .int .i64 c.first, .int .i64 c.most, .int .i64 c.body, .int .i64 c.engine] 30)))
  unfold Cf.val Cf.cells
  have HB := Lib.hid hb
  have t1 : decide ((20 : Int) < (c.vars.length : Int)) = false := decide_eq_false (by omega)
  have t2 : decide (me < 0) = false := decide_eq_false (by omega)
  have t3 : decide (c.n ≤ me) = false := decide_eq_false (by omega)
  have t4 : decide ((60 : Int) < (l.length : Int)) = true := decide_eq_true (by omega)
  clear hb hS hz hfit
  go_enter Try.func5, Try.ntmps5
  go_wp2_with fail
  refine HA.out.mono ?_
  rintro e w1 ⟨rfl, hm⟩
  have hm' := Mod.of_below (S := fun _ => False) hm
  have hb1 := hm'.blk HB.out (fun x => x)
  have HB1 := Lib.hid hb1
  obtain ⟨d0, d1, d2, d3, d4, d5, d6, d7⟩ := eight_cells hb1
  have HM1 : Hid (Mod (fun _ => False) w w1) := ((Mod.refl _ w).alloc _).trans hm'
  have HBW1 := Lib.hid HM1.out.none_below
  have HS2 := Lib.hid (HS1.out.mod hm' (fun _ _ x => x))
  clear hm hm' hb1 HA HB HS1
  have hgood := Lib.hid hh
  have HN := Lib.hid (new_yes c _ me w1 HS2.out hh h1 h2)
  unfold Cf.val Cf.cells at HN
  clear hh h1 h2
  go_wp2_with fail
  refine HN.out.mono ?_
  rintro e w2 hn
  have hm : Mod (fun _ => False) w1 w2 := by obtain ⟨_, _, _, _, _, _, _, _, hm⟩ := hn; exact hm
  obtain ⟨B, vb, cv, rfl, hS⟩ := Sits.new hn
  have HX := Lib.hid hS
  clear hS hn
  have hb2 := hm.blk HB1.out (fun x => x)
  have HB2 := Lib.hid hb2
  have HM2 : Hid (Mod (fun _ => False) w w2) := HM1.out.trans hm
  have hS3 := HS2.out.mod hm (fun _ _ x => x)
  have HS3 := Lib.hid hS3
  have HG := Lib.hid (good_any c _ w2 hS3)
  unfold Cf.val Cf.cells at HG
  clear d0 d1 d2 d3 d4 d5 d6 d7
  obtain ⟨d0, d1, d2, d3, d4, d5, d6, d7⟩ := eight_cells hb2
  clear hm hb2 HB1 HM1 HS2 hS3 HN
  rw [hgood.out] at HG
  go_wp2_with fail
  refine HG.out.mono ?_
  rintro e w3 ⟨rfl, hm⟩
  have HM3 := Lib.hid (HM2.out.trans hm)
  have HX3 := Lib.hid (HX.out.same hm)
  have hb3 := hm.blk HB2.out (fun x => x)
  have HB3 := Lib.hid hb3
  have HS4 := Lib.hid (HS3.out.mod hm (fun _ _ x => x))
  clear d0 d1 d2 d3 d4 d5 d6 d7
  obtain ⟨d0, d1, d2, d3, d4, d5, d6, d7⟩ := eight_cells hb3
  clear hm HG HM2 HX HB2 HS3 hb3
  go_wp2
  go_ret
  exact ⟨rfl, HM3.out.none_below⟩
set_option maxRecDepth 100000 in
set_option maxHeartbeats 8000000 in
theorem plays_in (c : Cf) (u : Value) (me : Int) (v : Value) (l : List ActC) (w : World) (hS : SetsIn w u c.vars) (hz : ActsC w v l) (h0 : c.vars.length ≤ 20) (hh : c.good = true) (h1 : 0 ≤ me) (h2 : me < c.n) (h3 : l.length ≤ 60) :
    Calls Try.prog 5 #[c.val u, .int .i64 me, v] w fun e w' => e = .returned (.bool true) ∧ Below w.heap.size w w' := by
  obtain ⟨A, cp, rfl, hl, hfit, hz⟩ := hz
  unfold maxLen at hl
  have HZ := Lib.hid hz
  have HFIT := Lib.hid hfit
  have HW : Hid (∀ t ∈ c.vars, t < 18446744073709551616) := by obtain ⟨_, _, _, _, _, hw⟩ := hS; exact hw
  obtain ⟨A1, c1, rfl⟩ : ∃ A1 c1, u = .slice A1 c.vars.length c1 := by obtain ⟨A1, c1, h, _⟩ := hS; exact ⟨A1, c1, h⟩
  have hb := blk_new w (.cells #[.int .i64 c.n, .slice A1 c.vars.length c1, .int .i64 c.window, .int .i64 c.queue, .int .i64 c.first, .int .i64 c.most, .int .i64 c.body, .int .i64 c.engine] 30)
  have HS1 := Lib.hid (hS.mod (S := fun _ => False) (w' := w.alloc (.cells #[.int .i64 c.n, .slice A1 c.vars.length c1, .int .i64 c.window, .int .i64 c.queue, .int .i64 c.first, .int .i64 c.most, .int .i64 c.body, .int .i64 c.engine] 30)) ((Mod.refl _ _).alloc _) (fun _ _ x => x))
  have HA := Lib.hid (awake_any (w.alloc (.cells #[.int .i64 c.n, .slice A1 c.vars.length c1, .int .i64 c.window, .int .i64 c.queue, .int .i64 c.first, .int .i64 c.most, .int .i64 c.body, .int .i64 c.engine] 30)))
  unfold Cf.val Cf.cells
  have HB := Lib.hid hb
  have t1 : decide ((20 : Int) < (c.vars.length : Int)) = false := decide_eq_false (by omega)
  have t2 : decide (me < 0) = false := decide_eq_false (by omega)
  have t3 : decide (c.n ≤ me) = false := decide_eq_false (by omega)
  have t4 : decide ((60 : Int) < (l.length : Int)) = false := decide_eq_false (by omega)
  clear hb hS hz hfit
  go_enter Try.func5, Try.ntmps5
  go_wp2_with fail
  refine HA.out.mono ?_
  rintro e w1 ⟨rfl, hm⟩
  have hm' := Mod.of_below (S := fun _ => False) hm
  have hb1 := hm'.blk HB.out (fun x => x)
  have HB1 := Lib.hid hb1
  obtain ⟨d0, d1, d2, d3, d4, d5, d6, d7⟩ := eight_cells hb1
  have HM1 : Hid (Mod (fun _ => False) w w1) := ((Mod.refl _ w).alloc _).trans hm'
  have HBW1 := Lib.hid HM1.out.none_below
  have HS2 := Lib.hid (HS1.out.mod hm' (fun _ _ x => x))
  clear hm hm' hb1 HA HB HS1
  have hgood := Lib.hid hh
  have HN := Lib.hid (new_yes c _ me w1 HS2.out hh h1 h2)
  unfold Cf.val Cf.cells at HN
  clear hh h1 h2
  go_wp2_with fail
  refine HN.out.mono ?_
  rintro e w2 hn
  have hm : Mod (fun _ => False) w1 w2 := by obtain ⟨_, _, _, _, _, _, _, _, hm⟩ := hn; exact hm
  obtain ⟨B, vb, cv, rfl, hS⟩ := Sits.new hn
  have HX := Lib.hid hS
  clear hS hn
  have hb2 := hm.blk HB1.out (fun x => x)
  have HB2 := Lib.hid hb2
  have HM2 : Hid (Mod (fun _ => False) w w2) := HM1.out.trans hm
  have hS3 := HS2.out.mod hm (fun _ _ x => x)
  have HS3 := Lib.hid hS3
  have HG := Lib.hid (good_any c _ w2 hS3)
  unfold Cf.val Cf.cells at HG
  clear d0 d1 d2 d3 d4 d5 d6 d7
  obtain ⟨d0, d1, d2, d3, d4, d5, d6, d7⟩ := eight_cells hb2
  clear hm hb2 HB1 HM1 HS2 hS3 HN
  rw [hgood.out] at HG
  go_wp2_with fail
  refine HG.out.mono ?_
  rintro e w3 ⟨rfl, hm⟩
  have HM3 := Lib.hid (HM2.out.trans hm)
  have HX3 := Lib.hid (HX.out.same hm)
  have hb3 := hm.blk HB2.out (fun x => x)
  have HB3 := Lib.hid hb3
  have HS4 := Lib.hid (HS3.out.mod hm (fun _ _ x => x))
  clear d0 d1 d2 d3 d4 d5 d6 d7
  obtain ⟨d0, d1, d2, d3, d4, d5, d6, d7⟩ := eight_cells hb3
  clear hm HG HM2 HX HB2 HS3 hb3
  have HC := Lib.hid (conf_any c _ w3 HS4.out (by omega))
  unfold Cf.val Cf.cells at HC
  go_wp2_with fail
  refine HC.out.mono ?_
  rintro e w4 ⟨rcv, rfl, hrow, hown, hm⟩
  have HX4 := Lib.hid (HX3.out.same hm)
  have HM4 := Lib.hid (HM3.out.trans hm)
  have hl16 : c.vars.length ≤ 16 := by
    have h := HX3.out.at'.len
    have h' := HX3.out.at'.l16
    have e : (Cl.new c me).c.vars.length = c.vars.length := rfl
    omega
  have HR := Lib.hid (rnew_any c rcv me w4 hrow hl16 HW.out)
  unfold Cf.val Cf.cells at HR
  have HO : Hid (∀ q, rcv.ownBlock = some q → w3.heap.size ≤ q) := hown
  have hz3 : w1.heap.size ≤ w3.heap.size := HX3.out.size
  have hz4 : w3.heap.size ≤ w4.heap.size := hm.size
  clear hrow hown hm HC HX3
  go_wp2_with fail
  refine HR.out.mono ?_
  rintro e w5 ⟨RB, vv, rfl, hR, hRB, hvv, hm⟩
  have HD0 : Hid (Both w1.heap.size B vb RB cv rcv w1 (Cl.new c me) (Cl.new c me) w5) := ⟨HX4.out.same hm, ⟨vv, hR, fun q hq => by have := hvv q hq; omega⟩, by omega, fun q hq => by have := HO.out q hq; omega⟩
  have HSIM0 := Lib.hid (Sim.new (c := c) me hgood.out)
  have HBASE : Hid (w.heap.size ≤ w1.heap.size) := HBW1.out.size
  clear hR hRB hvv hm HX4 HR HO
  generalize w1.heap.size = base at *
  go_wp2
  go_loopw [10] (fun i wr => ∃ (k : Nat) (s r : Cl), k ≤ l.length ∧ s.tags ≤ k ∧ i = .int .i64 k ∧ Hid (Both base B vb RB cv rcv w1 s r wr) ∧ Hid (Sim s r)) (fun i _ => l.length - (intOf i).toNat)
  case atStart => exact ⟨0, _, _, Nat.zero_le _, Nat.le_refl _, rfl, HD0, HSIM0⟩
  case round =>
    obtain ⟨k, s, r, hk, htg, rfl, hD, hSim⟩ := hrel
    have HBW : Hid (Below w.heap.size w wr) := below_of' HBW1.out hD.out.a.bel HBASE.out
    by_cases hlt : k < l.length
    · obtain ⟨bb, o, rfl, hbz, hc⟩ := ElemsIn.cell HZ.out HBW.out k hlt
      have hi : (k : Int) < l.length := by omega
      have hi0 : (0 : Int) ≤ (k : Int) := by omega
      have hft := HFIT.out k hlt
      obtain ⟨op, xv, wt, xx, tg, hq⟩ : ∃ a b c d e, l.getD k default = ActC.mk a b c d e := ⟨_, _, _, _, _, rfl⟩
      have k0 := hc 0 (.int .i64 op) (by rw [hq]; rfl)
      have k1 := hc 1 (.int .i64 xv) (by rw [hq]; rfl)
      have k2 := hc 2 (.int .i64 wt) (by rw [hq]; rfl)
      have k3 := hc 3 (.float .f64 xx) (by rw [hq]; rfl)
      have k4 := hc 4 (.int .u64 tg) (by rw [hq]; rfl)
      rw [Nat.add_zero] at k0
      rw [hq] at hft
      have hfx : xx < B64 := hft
      have HX : Hid ((wr.alloc (.cells #[.int .i64 op, .int .i64 xv, .int .i64 wt, .float .f64 xx, .int .u64 tg] 57)).heap[wr.heap.size]? = some (.cells #[.int .i64 op, .int .i64 xv, .int .i64 wt, .float .f64 xx, .int .u64 tg] 57 (0, 0))) := blk_new wr _
      have hDX := hD.out.same (w' := wr.alloc (.cells #[.int .i64 op, .int .i64 xv, .int .i64 wt, .float .f64 xx, .int .u64 tg] 57)) ((Mod.refl _ _).alloc _)
      have hnx : ¬ Any3 B vb RB wr.heap.size := fun h => by
        have h1 := blk_lt hD.out.a.at'.top
        have h2 := blk_lt hD.out.a.at'.vals
        obtain ⟨_, h3, _⟩ := hD.out.b
        have h3 := blk_lt h3.top
        rcases h with h | h | h <;> omega
      clear hc hbz hft HBW
      by_cases o0 : op = 0
      · subst o0
        clear hlt
        obtain ⟨s1, a, e1, hW⟩ : ∃ s1 a e1, s.putW xv xx = (s1, a, e1) := ⟨_, _, _, rfl⟩
        obtain ⟨r1, b, e2, hV⟩ : ∃ r1 b e2, r.rputW xv xx = (r1, b, e2) := ⟨_, _, _, rfl⟩
        have hP := hSim.out.putW xv hfx
        have hC1 := both_write hDX xv xx (by omega)
        have hC2 := fun (w' : World) (h : Both base B vb RB cv rcv w1 s1 r w') => both_rwrite h xv xx (by rw [hSim.out.tags]; omega)
        rw [hW, hV] at hP
        rw [hW] at hC1
        rw [hV] at hC2
        obtain ⟨hp1, hp2, hp3, hp4, hp5, hp6⟩ := hP

        have e2' : e2 = e1 := hp5
        subst e2'
        have HC1 : Hid (Calls Try.prog 10 #[.pointer (some ⟨B, 0, none⟩), .int .i64 xv, .float .f64 xx] (wr.alloc (.cells #[.int .i64 0, .int .i64 xv, .int .i64 wt, .float .f64 xx, .int .u64 tg] 57)) fun e w' => e = .returned (.tuple #[.agg #[.float .f64 a.x, .int .i64 a.writer, .int .u64 a.tag], .int .i64 e2]) ∧ Both base B vb RB cv rcv w1 s1 r w' ∧ Mod (Any3 B vb RB) (wr.alloc (.cells #[.int .i64 0, .int .i64 xv, .int .i64 wt, .float .f64 xx, .int .u64 tg] 57)) w') := hC1
        have HC2 : Hid (∀ w', Both base B vb RB cv rcv w1 s1 r w' → Calls Try.prog 22 #[.pointer (some ⟨RB, 0, none⟩), .int .i64 xv, .float .f64 xx] w' fun e w'' => e = .returned (.tuple #[.agg #[.float .f64 b.x, .int .i64 b.writer, .int .u64 b.tag], .int .i64 e2]) ∧ Both base B vb RB cv rcv w1 s1 r1 w'' ∧ Mod (Any3 B vb RB) w' w'') := hC2
        have HSIM : Hid (Sim s1 r1) := hp1
        have HTG : Hid (r1.tags = s1.tags) := hp1.tags
        have HSAME := Lib.hid (fun w => same_any a b w hp3 hp4)
        rw [show a.same b = true from hp2] at HSAME
        unfold Vl.val at HSAME
        have hp6' : s1.tags ≤ s.tags + 1 := hp6
        have hT6 : s1.tags ≤ k + 1 := by omega
        clear hC1 hC2 hp1 hp2 hp3 hp4 hp5 hp6 hp6' hW hV hDX hD hSim htg hq hfx
        go_wp2_with fail
        refine HC1.out.mono ?_
        rintro e w2 ⟨rfl, hD2, hm2⟩
        have hx2 := hm2.blk HX.out hnx
        have hzx : wr.heap.size < w2.heap.size := blk_lt hx2
        have HX2 := Lib.hid hx2
        obtain ⟨x0, x1, x2, x3, x4⟩ := five_cells hx2
        have hD3 := hD2.same (w' := w2.alloc (.cells #[.float .f64 a.x, .int .i64 a.writer, .int .u64 a.tag] 35)) ((Mod.refl _ _).alloc _)
        have HC3 := Lib.hid (HC2.out _ hD3)
        have hna : ¬ Any3 B vb RB w2.heap.size := fun h => by
          have h1 := blk_lt hD2.a.at'.top
          have h2 := blk_lt hD2.a.at'.vals
          obtain ⟨_, h3, _⟩ := hD2.b
          have h3 := blk_lt h3.top
          rcases h with h | h | h <;> omega
        have HA2 : Hid ((w2.alloc (.cells #[.float .f64 a.x, .int .i64 a.writer, .int .u64 a.tag] 35)).heap[w2.heap.size]? = some (.cells #[.float .f64 a.x, .int .i64 a.writer, .int .u64 a.tag] 35 (0, 0))) := blk_new w2 _
        have HXA : Hid ((w2.alloc (.cells #[.float .f64 a.x, .int .i64 a.writer, .int .u64 a.tag] 35)).heap[wr.heap.size]? = some (.cells #[.int .i64 0, .int .i64 xv, .int .i64 wt, .float .f64 xx, .int .u64 tg] 57 (0, 0))) := blk_alloc hx2 _
        clear hD2 hm2 hx2 hD3 HC1 HC2 HX HX2
        go_wp2_with fail
        refine HC3.out.mono ?_
        rintro e w4 ⟨rfl, hD4, hm4⟩
        have ha4 := hm4.blk HA2.out hna
        have hza : w2.heap.size < w4.heap.size := blk_lt ha4
        obtain ⟨y0, y1, y2⟩ := three_cells ha4
        have HD5 := Lib.hid (hD4.same (w' := w4.alloc (.cells #[.float .f64 b.x, .int .i64 b.writer, .int .u64 b.tag] 45)) ((Mod.refl _ _).alloc _))
        clear hD4 hm4 ha4 HC3 HA2 HXA x0 x1 x2 x3 x4
        go_wp2_with fail
        refine (HSAME.out _).mono ?_
        rintro e w6 ⟨rfl, hm6⟩
        have hD6 := HD5.out.same hm6
        clear hm6 HD5 HSAME y0 y1 y2

        have HT := Lib.hid hD6.tags.1
        have c10 := hD6.tags.2
        rw [HTG.out] at c10
        have HD6 := Lib.hid hD6
        clear hD6
        go_wp2_with fail
        go_quiet (first | (go_at_call 18; exact quiet_left (HT.out _)))
        have HD7 := Lib.hid (HD6.out.same ((Mod.refl _ _).drewN nq))
        go_wp2
        go_roundw
        case rel => exact ⟨k + 1, s1, r1, by omega, by omega, by go_num, HD7, HSIM⟩
        case measure => simp [intOf]; omega
      by_cases o1 : op = 1
      · subst o1
        have q0 : ((1 : Int) == 0) = false := by decide
        clear hlt o0
        obtain ⟨s1, e1, hW⟩ : ∃ s1 e1, s.putA xv ⟨xx, wt, tg⟩ = (s1, e1) := ⟨_, _, rfl⟩
        obtain ⟨r1, e2, hV⟩ : ∃ r1 e2, r.rputA xv ⟨xx, wt, tg⟩ = (r1, e2) := ⟨_, _, rfl⟩
        have hP := hSim.out.putA xv (y := ⟨xx, wt, tg⟩) hfx
        have hC1 := both_apply (hDX.same ((Mod.refl _ _).drew)) xv ⟨xx, wt, tg⟩
        have hC2 := fun (w' : World) (h : Both base B vb RB cv rcv w1 s1 r w') => both_rapply h xv ⟨xx, wt, tg⟩
        rw [hW, hV] at hP
        rw [hW] at hC1
        rw [hV] at hC2
        obtain ⟨hp1, hp5, hp6⟩ := hP
        have e2' : e2 = e1 := hp5
        subst e2'
        have HC1 : Hid (Calls Try.prog 14 #[.pointer (some ⟨B, 0, none⟩), .int .i64 xv, .agg #[.float .f64 xx, .int .i64 wt, .int .u64 tg]] (wr.alloc (.cells #[.int .i64 1, .int .i64 xv, .int .i64 wt, .float .f64 xx, .int .u64 tg] 57)).drew fun e w' => e = .returned (.int .i64 e2) ∧ Both base B vb RB cv rcv w1 s1 r w' ∧ Mod (Any3 B vb RB) (wr.alloc (.cells #[.int .i64 1, .int .i64 xv, .int .i64 wt, .float .f64 xx, .int .u64 tg] 57)).drew w') := hC1
        have HC2 : Hid (∀ w', Both base B vb RB cv rcv w1 s1 r w' → Calls Try.prog 23 #[.pointer (some ⟨RB, 0, none⟩), .int .i64 xv, .agg #[.float .f64 xx, .int .i64 wt, .int .u64 tg]] w' fun e w'' => e = .returned (.int .i64 e2) ∧ Both base B vb RB cv rcv w1 s1 r1 w'' ∧ Mod (Any3 B vb RB) w' w'') := hC2
        have HSIM : Hid (Sim s1 r1) := hp1
        have HTG : Hid (r1.tags = s1.tags) := hp1.tags
        have hp6' : s1.tags = s.tags := hp6
        have hT6 : s1.tags ≤ k + 1 := by omega
        have HX' : Hid ((wr.alloc (.cells #[.int .i64 1, .int .i64 xv, .int .i64 wt, .float .f64 xx, .int .u64 tg] 57)).drew.heap[wr.heap.size]? = some (.cells #[.int .i64 1, .int .i64 xv, .int .i64 wt, .float .f64 xx, .int .u64 tg] 57 (0, 0))) := HX.out
        clear hC1 hC2 hp1 hp5 hp6 hp6' hW hV hDX hD hSim htg hq hfx
        go_wp2_with fail
        go_region_held3 (fun w' => w'.cell? ⟨wr.heap.size, 1, none⟩ = some (.int .i64 xv) ∧ w'.cell? ⟨wr.heap.size, 2, none⟩ = some (.int .i64 wt) ∧ w'.cell? ⟨wr.heap.size, 3, none⟩ = some (.float .f64 xx) ∧ w'.cell? ⟨wr.heap.size, 4, none⟩ = some (.int .u64 tg)) (first | assumption | exact four_of (five_cells HX'.out) | exact four_of (five_cells hx2) | exact four_of (five_cells hx4)) (first | (go_at_call 14; refine HC1.out.mono ?_; rintro e w2 ⟨rfl, hD2, hm2⟩; have hx2 := hm2.blk HX'.out hnx) | (go_at_call 23; refine (HC2.out _ hD2).mono ?_; rintro e w4 ⟨rfl, hD6, hm4⟩; have hx4 := hm4.blk hx2 hnx))
        have hD6 := hD6.same (w' := w4) (Mod.refl _ _)
        clear hD2 hm2 hx2 hm4 hx4 HC1 HC2 HX HX'

        have HT := Lib.hid hD6.tags.1
        have c10 := hD6.tags.2
        rw [HTG.out] at c10
        have HD6 := Lib.hid hD6
        clear hD6
        go_wp2_with fail
        go_quiet (first | (go_at_call 18; exact quiet_left (HT.out _)))
        have HD7 := Lib.hid (HD6.out.same ((Mod.refl _ _).drewN nq))
        go_wp2
        go_roundw
        case rel => exact ⟨k + 1, s1, r1, by omega, by omega, by go_num, HD7, HSIM⟩
        case measure => simp [intOf]; omega
      have q0 : (op == 0) = false := beq_eq_false_iff_ne.2 o0
      have q1 : (op == 1) = false := beq_eq_false_iff_ne.2 o1
      clear hlt o0 o1
      obtain ⟨s1, hs1⟩ : ∃ s1, s1 = s := ⟨_, rfl⟩
      obtain ⟨r1, hr1⟩ : ∃ r1, r1 = r := ⟨_, rfl⟩
      obtain ⟨a, e1, hW⟩ : ∃ a e1, s.getR xv = (a, e1) := ⟨_, _, rfl⟩
      obtain ⟨b, e2, hV⟩ : ∃ b e2, r.rgetR xv = (b, e2) := ⟨_, _, rfl⟩
      have hP := hSim.out.getR xv
      have hC1 := both_read hDX xv
      have hC2 := fun (w' : World) (h : Both base B vb RB cv rcv w1 s r w') => both_rread h xv
      rw [hW, hV] at hP
      rw [hW] at hC1
      rw [hV] at hC2
      obtain ⟨hp2, hp3, hp4, hp5⟩ := hP
      have hp1 := hSim.out
      have hp6 : s.tags ≤ s.tags + 1 := Nat.le_succ _
      rw [← hs1, ← hr1] at hp1 hC1 hC2
      rw [← hs1] at hp6 hDX htg

      have e2' : e2 = e1 := hp5
      subst e2'
      have HC1 : Hid (Calls Try.prog 11 #[.pointer (some ⟨B, 0, none⟩), .int .i64 xv] (wr.alloc (.cells #[.int .i64 op, .int .i64 xv, .int .i64 wt, .float .f64 xx, .int .u64 tg] 57)) fun e w' => e = .returned (.tuple #[.agg #[.float .f64 a.x, .int .i64 a.writer, .int .u64 a.tag], .int .i64 e2]) ∧ Both base B vb RB cv rcv w1 s1 r1 w' ∧ Mod (Any3 B vb RB) (wr.alloc (.cells #[.int .i64 op, .int .i64 xv, .int .i64 wt, .float .f64 xx, .int .u64 tg] 57)) w') := hC1
      have HC2 : Hid (∀ w', Both base B vb RB cv rcv w1 s1 r1 w' → Calls Try.prog 24 #[.pointer (some ⟨RB, 0, none⟩), .int .i64 xv] w' fun e w'' => e = .returned (.tuple #[.agg #[.float .f64 b.x, .int .i64 b.writer, .int .u64 b.tag], .int .i64 e2]) ∧ Both base B vb RB cv rcv w1 s1 r1 w'' ∧ Mod (Any3 B vb RB) w' w'') := hC2
      have HSIM : Hid (Sim s1 r1) := hp1
      have HTG : Hid (r1.tags = s1.tags) := hp1.tags
      have HSAME := Lib.hid (fun w => same_any a b w hp3 hp4)
      rw [show a.same b = true from hp2] at HSAME
      unfold Vl.val at HSAME
      have hT6 : s1.tags ≤ k + 1 := by omega
      clear hC1 hC2 hp1 hp2 hp3 hp4 hp5 hp6 hW hV hDX hD hSim htg hq hfx
      go_wp2_with fail
      refine HC1.out.mono ?_
      rintro e w2 ⟨rfl, hD2, hm2⟩
      have hx2 := hm2.blk HX.out hnx
      have hzx : wr.heap.size < w2.heap.size := blk_lt hx2
      have HX2 := Lib.hid hx2
      obtain ⟨x0, x1, x2, x3, x4⟩ := five_cells hx2
      have hD3 := hD2.same (w' := w2.alloc (.cells #[.float .f64 a.x, .int .i64 a.writer, .int .u64 a.tag] 35)) ((Mod.refl _ _).alloc _)
      have HC3 := Lib.hid (HC2.out _ hD3)
      have hna : ¬ Any3 B vb RB w2.heap.size := fun h => by
        have h1 := blk_lt hD2.a.at'.top
        have h2 := blk_lt hD2.a.at'.vals
        obtain ⟨_, h3, _⟩ := hD2.b
        have h3 := blk_lt h3.top
        rcases h with h | h | h <;> omega
      have HA2 : Hid ((w2.alloc (.cells #[.float .f64 a.x, .int .i64 a.writer, .int .u64 a.tag] 35)).heap[w2.heap.size]? = some (.cells #[.float .f64 a.x, .int .i64 a.writer, .int .u64 a.tag] 35 (0, 0))) := blk_new w2 _
      have HXA : Hid ((w2.alloc (.cells #[.float .f64 a.x, .int .i64 a.writer, .int .u64 a.tag] 35)).heap[wr.heap.size]? = some (.cells #[.int .i64 op, .int .i64 xv, .int .i64 wt, .float .f64 xx, .int .u64 tg] 57 (0, 0))) := blk_alloc hx2 _
      clear hD2 hm2 hx2 hD3 HC1 HC2 HX HX2
      go_wp2_with fail
      refine HC3.out.mono ?_
      rintro e w4 ⟨rfl, hD4, hm4⟩
      have ha4 := hm4.blk HA2.out hna
      have hza : w2.heap.size < w4.heap.size := blk_lt ha4
      obtain ⟨y0, y1, y2⟩ := three_cells ha4
      have HD5 := Lib.hid (hD4.same (w' := w4.alloc (.cells #[.float .f64 b.x, .int .i64 b.writer, .int .u64 b.tag] 45)) ((Mod.refl _ _).alloc _))
      clear hD4 hm4 ha4 HC3 HA2 HXA x0 x1 x2 x3 x4
      go_wp2_with fail
      refine (HSAME.out _).mono ?_
      rintro e w6 ⟨rfl, hm6⟩
      have hD6 := HD5.out.same hm6
      clear hm6 HD5 HSAME y0 y1 y2

      have HT := Lib.hid hD6.tags.1
      have c10 := hD6.tags.2
      rw [HTG.out] at c10
      have HD6 := Lib.hid hD6
      clear hD6
      go_wp2_with fail
      go_quiet (first | (go_at_call 18; exact quiet_left (HT.out _)))
      have HD7 := Lib.hid (HD6.out.same ((Mod.refl _ _).drewN nq))
      go_wp2
      go_roundw
      case rel => exact ⟨k + 1, s1, r1, by omega, by omega, by go_num, HD7, HSIM⟩
      case measure => simp [intOf]; omega
    · obtain rfl : k = l.length := by omega
      have ti : decide (l.length < l.length) = false := decide_eq_false (by omega)
      go_wp2
      go_ret
      exact ⟨rfl, HBW.out⟩
end Go.Proofs.Ytpdpnhikcmpcdaa
