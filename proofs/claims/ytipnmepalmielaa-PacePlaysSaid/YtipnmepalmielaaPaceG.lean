/-
  The walk of PacePlays.
-/
import Derived.Test.YtipnmepalmielaaPaceF
namespace Go.Proofs.Ytipnmepalmielaa
open Go.RowKit Go.Shoal

set_option maxHeartbeats 1000000 in
theorem plays_out (f m : Int) (v : Value) (zs : List Int) (w : World) (hz : NumsIn .u8 w v zs) (h : f < 1 ∨ (1 ≤ f ∧ m < f) ∨ (1 ≤ f ∧ f ≤ m ∧ 1000 < m)) :
    Calls Try.prog 6 #[.int .i64 f, .int .i64 m, v] w fun e w' => e = .returned (.bool true) ∧ Mod (fun _ => False) w w' := by
  have hn := fun w => new_no f m w (by omega)
  have HN := Lib.hid hn
  obtain ⟨A, c, rfl, hz⟩ := hz
  clear hn hz
  rcases h with h | ⟨h, h1⟩ | ⟨h, h1, h2⟩
  all_goals
    go_enter Try.func6, Try.ntmps6
    go_wp2_with fail
    refine (awake_calls w).mono ?_
    rintro e w1 ⟨rfl, hm⟩
    have HM := Lib.hid hm
    clear hm
    go_wp2_with fail
    refine (HN.out w1).mono ?_
    rintro e w2 ⟨rfl, rfl⟩
    go_wp2
    go_ret
    exact ⟨rfl, HM.out⟩

/-- A contract that leaves the world, met behind draws. -/
theorem quiet_left {P : Program} {f : FuncId} {args : Array Value} {w : World} {n : Nat} {v : Value}
    (h : Calls P f args (w.drewN n) fun e w' => e = .returned v ∧ w.drewN n = w') : Calls P f args (w.drewN n) fun e w'' => e = .returned v ∧ ∃ m, w'' = w.drewN m :=
  h.mono fun _ _ ⟨he, hm⟩ => ⟨he, n, hm.symm⟩
/-- Both sides of the play. -/
def Play (w : World) (a b : Nat) (p : Pc) (wr : World) : Prop := PaceAt wr a p ∧ RefOk wr b p ∧ Mod (fun k => k = a ∨ k = b) w wr
theorem Play.both {w wr w1 w2 : World} {a b : Nat} {p q : Pc} (h : Play w a b p wr) (hab : a ≠ b) (h1 : PaceAt w1 a q) (m1 : Mod (· = a) wr w1) (h2 : RefOk w2 b q) (m2 : Mod (· = b) w1 w2) : Play w a b q w2 :=
  ⟨m2.blk h1 hab, h2, (h.2.2.trans' m1 (fun _ _ e => .inl e)).trans' m2 (fun _ _ e => .inr e)⟩
theorem start_rings (p : Pc) : p.start.rings = p.rings := by unfold Pc.start; split <;> rfl

set_option maxHeartbeats 2000000 in
theorem plays_long (f m : Int) (v : Value) (zs : List Int) (w : World) (hz : NumsIn .u8 w v zs) (h1 : 1 ≤ f) (h2 : f ≤ m) (h3 : m ≤ 1000) (h4 : 200 < zs.length) :
    Calls Try.prog 6 #[.int .i64 f, .int .i64 m, v] w fun e w' => e = .returned (.bool true) ∧ Mod (fun _ => False) w w' := by
  obtain ⟨A, c, rfl, hl, hz⟩ := hz
  unfold maxLen at hl
  have t1 : decide (200 < (zs.length : Int)) = true := decide_eq_true (by omega)
  clear hz
  go_enter Try.func6, Try.ntmps6
  go_wp2_with fail
  refine (awake_calls w).mono ?_
  rintro e w1 ⟨rfl, hm⟩
  have HM := Lib.hid hm
  clear hm
  go_wp2_with fail
  refine (new_ok f m w1 h1 h2 h3).mono ?_
  rintro e w2 ⟨rfl, hp2, hm2, hs2⟩
  have HM2 := Lib.hid hm2
  clear hm2 hp2 hs2
  go_wp2
  go_ret
  exact ⟨rfl, HM.out.trans HM2.out⟩

set_option maxRecDepth 100000 in
set_option maxHeartbeats 4000000 in
theorem plays_in (f m : Int) (v : Value) (zs : List Int) (w : World) (hz : NumsIn .u8 w v zs) (h1 : 1 ≤ f) (h2 : f ≤ m) (h3 : m ≤ 1000) (h4 : zs.length ≤ 200) :
    Calls Try.prog 6 #[.int .i64 f, .int .i64 m, v] w fun e w' => e = .returned (.bool true) ∧ Mod (fun _ => False) w w' := by
  obtain ⟨A, c, rfl, hl, hz, hwf⟩ := hz
  have t1 : decide (200 < (zs.length : Int)) = false := decide_eq_false (by omega)
  have HZ := Lib.hid hz
  clear hz hl hwf
  go_enter Try.func6, Try.ntmps6
  go_wp2_with fail
  refine (awake_calls w).mono ?_
  rintro e w1 ⟨rfl, hm⟩
  have HM := Lib.hid hm
  clear hm
  go_wp2_with fail
  refine (new_ok f m w1 h1 h2 h3).mono ?_
  rintro e w2 ⟨rfl, hp2, hm2, hs2⟩
  have HM2 := Lib.hid hm2
  have HP2 := Lib.hid hp2
  have HS2 := Lib.hid hs2
  clear hm2 hp2 hs2
  go_wp2_with fail
  refine (ref_new f m w2).mono ?_
  rintro e w3 ⟨rfl, hp3, hm3⟩
  have hab : w1.heap.size ≠ w2.heap.size := by have := HS2.out; omega
  have H0 : Hid (Play w1 w1.heap.size w2.heap.size ⟨f, m, f, 0, 0⟩ w3) :=
    ⟨hm3.blk HP2.out (fun x => x), hp3, (HM2.out.mono (fun _ _ x => x.elim)).trans' hm3 (fun _ _ x => x.elim)⟩
  have HF : Hid (∀ i, i < w.heap.size → ¬ (i = w1.heap.size ∨ i = w2.heap.size)) := fun i hi h => by have := HS2.out; have := HM.out.size; omega
  have HAB := Lib.hid hab
  generalize w1.heap.size = a at H0 HAB HF
  generalize w2.heap.size = b at H0 HAB HF
  clear hm3 hp3 HM2 HP2 HS2 hab
  go_wp2
  go_loopw [10] (fun i wr => ∃ j : Nat, ∃ p : Pc, j ≤ zs.length ∧ i = .int .i64 j ∧ Hid (p.Ok) ∧ Hid (0 ≤ p.rings ∧ p.rings ≤ j) ∧ Hid (Play w1 a b p wr)) (fun i _ => zs.length - (intOf i).toNat)
  case atStart => exact ⟨0, ⟨f, m, f, 0, 0⟩, Nat.zero_le _, rfl, ⟨h1, Int.le_refl _, h2, h3, Int.le_refl _, by show 0 ≤ f; omega⟩, ⟨Int.le_refl _, Int.le_refl _⟩, H0⟩
  case round =>
    obtain ⟨j, p, hj, rfl, hok, hrg, hR⟩ := hrel
    by_cases hlt : j < zs.length
    · obtain ⟨bs, os, rfl, hbs, hcs⟩ := HZ.out.resolve_left (fun e => by rw [e] at hlt; simp at hlt)
      have hc0 : w.cell? ⟨bs, os + j, none⟩ = some (.int .u8 (zs.getD j 0)) := hcs j hlt
      have hc : wr.cell? ⟨bs, os + j, none⟩ = some (.int .u8 (zs.getD j 0)) := by
        rw [World.cell?_of_block (w := w1) (hR.out.2.2.block _ (Nat.lt_of_lt_of_le hbs HM.out.size) (HF.out _ hbs)), World.cell?_of_block (w := w) (HM.out.block _ hbs (fun x => x))]
        exact hc0
      have hi : (j : Int) < zs.length := by omega
      generalize zs.getD j 0 = x at hc
      clear hc0 hcs
      have HOK : Hid (∀ q : Pc, q.rings ≤ p.rings + 1 → p.rings ≤ q.rings → 0 ≤ q.rings ∧ q.rings ≤ ((j + 1 : Nat) : Int)) := fun q e1 e2 => by have := hrg.out; omega
      have hrg2 : 0 ≤ p.rings ∧ p.rings ≤ 1000000 := by have := hrg.out; omega
      have HR2 := Lib.hid hrg2
      clear hrg2
      by_cases x1 : x = 1
      · subst x1
        go_wp2_with fail
        refine (start_any wr a p hR.out.1).mono ?_
        rintro e w5 ⟨rfl, hp5, hm5⟩
        have HP5 := Lib.hid hp5
        have HM5 := Lib.hid hm5
        clear hp5 hm5
        go_wp2_with fail
        refine (ref_start w5 b p (HM5.out.blk hR.out.2.1 (fun e => HAB.out e.symm)) hok.out.l0 (by have := hok.out.f1; have := hok.out.fs; omega)).mono ?_
        rintro e w6 ⟨rfl, hp6, hm6⟩
        have HQ := Lib.hid (hR.out.both HAB.out HP5.out HM5.out hp6 hm6)
        have HO := Lib.hid (Pc.start_ok hok.out)
        have HG := Lib.hid (HOK.out p.start (by rw [start_rings]; omega) (by rw [start_rings]; exact Int.le_refl _))
        clear hp6 hm6 HP5 HM5
        generalize p.start = q at HQ HO HG
        go_wp2_with fail
        refine (left_any w6 a q HQ.out.1).mono ?_
        rintro e w7 ⟨rfl, n7, hw7⟩
        have HQ7 : Hid (Play w1 a b q w7) := by subst hw7; exact ⟨HQ.out.1, HQ.out.2.1, HQ.out.2.2.drewN _⟩
        clear hw7 HQ
        have c2 := (blk_cell HQ7.out.2.1 2).trans rfl
        have c3 := (blk_cell HQ7.out.2.1 3).trans rfl
        have c4 := (blk_cell HQ7.out.2.1 4).trans rfl
        have c5 := (blk_cell HQ7.out.2.1 5).trans rfl
        go_wp2_with fail
        go_quiet (first | (go_at_call 10; exact quiet_left (step_any _ a q HQ7.out.1)) | (go_at_call 14; exact quiet_left (rings_any _ a q HQ7.out.1)))
        go_wp2
        go_roundw
        case rel => exact ⟨j + 1, q, by omega, by go_num, HO, HG, ⟨HQ7.out.1, HQ7.out.2.1, HQ7.out.2.2.drewN _⟩⟩
        case measure => simp [intOf]; omega
      by_cases x2 : x = 2
      · subst x2
        clear x1
        go_wp2_with fail
        refine (stop_any wr a p hR.out.1).mono ?_
        rintro e w5 ⟨rfl, hp5, hm5⟩
        have HP5 := Lib.hid hp5
        have HM5 := Lib.hid hm5
        clear hp5 hm5
        go_wp2_with fail
        refine (ref_stop w5 b p (HM5.out.blk hR.out.2.1 (fun e => HAB.out e.symm))).mono ?_
        rintro e w6 ⟨rfl, hp6, hm6⟩
        have HQ := Lib.hid (hR.out.both HAB.out HP5.out HM5.out hp6 hm6)
        have HO := Lib.hid (Pc.stop_ok hok.out)
        have HG := Lib.hid (HOK.out p.stop (by show p.rings ≤ _; omega) (Int.le_refl _))
        clear hp6 hm6 HP5 HM5
        generalize p.stop = q at HQ HO HG
        go_wp2_with fail
        refine (left_any w6 a q HQ.out.1).mono ?_
        rintro e w7 ⟨rfl, n7, hw7⟩
        have HQ7 : Hid (Play w1 a b q w7) := by subst hw7; exact ⟨HQ.out.1, HQ.out.2.1, HQ.out.2.2.drewN _⟩
        clear hw7 HQ
        have c2 := (blk_cell HQ7.out.2.1 2).trans rfl
        have c3 := (blk_cell HQ7.out.2.1 3).trans rfl
        have c4 := (blk_cell HQ7.out.2.1 4).trans rfl
        have c5 := (blk_cell HQ7.out.2.1 5).trans rfl
        go_wp2_with fail
        go_quiet (first | (go_at_call 10; exact quiet_left (step_any _ a q HQ7.out.1)) | (go_at_call 14; exact quiet_left (rings_any _ a q HQ7.out.1)))
        go_wp2
        go_roundw
        case rel => exact ⟨j + 1, q, by omega, by go_num, HO, HG, ⟨HQ7.out.1, HQ7.out.2.1, HQ7.out.2.2.drewN _⟩⟩
        case measure => simp [intOf]; omega
      · have y1 : (x == 1) = false := by simp [x1]
        have y2 : (x == 2) = false := by simp [x2]
        have tr := @tick_rings p
        have HO := Lib.hid (Pc.tick_ok hok.out)
        have HG := Lib.hid (HOK.out p.tick.1 tr.2 tr.1)
        clear x1 x2 tr
        go_wp2_with fail
        refine (tick_any wr a p hR.out.1 hok.out HR2.out).mono ?_
        rintro e w5 ⟨rfl, hp5, hm5⟩
        have HP5 := Lib.hid hp5
        have HM5 := Lib.hid hm5
        clear hp5 hm5
        go_wp2_with fail
        refine (ref_tick w5 b p (HM5.out.blk hR.out.2.1 (fun e => HAB.out e.symm)) hok.out HR2.out).mono ?_
        rintro e w6 ⟨rfl, hp6, hm6⟩
        have HQ := Lib.hid (hR.out.both HAB.out HP5.out HM5.out hp6 hm6)
        clear hp6 hm6 HP5 HM5
        generalize p.tick.2 = rt
        generalize p.tick.1 = q at HQ HO HG
        go_wp2_with fail
        refine (left_any w6 a q HQ.out.1).mono ?_
        rintro e w7 ⟨rfl, n7, hw7⟩
        have HQ7 : Hid (Play w1 a b q w7) := by subst hw7; exact ⟨HQ.out.1, HQ.out.2.1, HQ.out.2.2.drewN _⟩
        clear hw7 HQ
        have c2 := (blk_cell HQ7.out.2.1 2).trans rfl
        have c3 := (blk_cell HQ7.out.2.1 3).trans rfl
        have c4 := (blk_cell HQ7.out.2.1 4).trans rfl
        have c5 := (blk_cell HQ7.out.2.1 5).trans rfl
        go_wp2_with fail
        go_quiet (first | (go_at_call 10; exact quiet_left (step_any _ a q HQ7.out.1)) | (go_at_call 14; exact quiet_left (rings_any _ a q HQ7.out.1)))
        go_wp2
        go_roundw
        case rel => exact ⟨j + 1, q, by omega, by go_num, HO, HG, ⟨HQ7.out.1, HQ7.out.2.1, HQ7.out.2.2.drewN _⟩⟩
        case measure => simp [intOf]; omega
    · go_wp2
      go_ret
      exact ⟨rfl, HM.out.trans' hR.out.2.2 (fun i hi h => HF.out i hi h)⟩

theorem plays_any (f m : Int) (v : Value) (zs : List Int) (w : World) (hz : NumsIn .u8 w v zs) :
    Calls Try.prog 6 #[.int .i64 f, .int .i64 m, v] w fun e w' => e = .returned (.bool true) ∧ Below w.heap.size w w' := by
  by_cases h : f < 1 ∨ (1 ≤ f ∧ m < f) ∨ (1 ≤ f ∧ f ≤ m ∧ 1000 < m)
  · exact (plays_out f m v zs w hz h).mono fun e w' ⟨h1, h2⟩ => ⟨h1, h2.none_below⟩
  · by_cases h4 : zs.length ≤ 200
    · exact (plays_in f m v zs w hz (by omega) (by omega) (by omega) h4).mono fun e w' ⟨h1, h2⟩ => ⟨h1, h2.none_below⟩
    · exact (plays_long f m v zs w hz (by omega) (by omega) (by omega) (by omega)).mono fun e w' ⟨h1, h2⟩ => ⟨h1, h2.none_below⟩
theorem Try.cells5 : Try.prog.cellsOf 5 = 1 := by kernel_rfl
theorem plays_walk {H : Type} {enc : TypeId × Value → H} {b0 : Nat} {d : DataW H} {ps : List MemPlace} (f m : Int) (v : Value) (W : World) (hok : Value.okWide Try.prog W .any b0 33 v)
    (h : DataW.Trod enc Try.prog W 0 (fun _ => true) true 33 v d ps) : Calls Try.prog 6 #[.int .i64 f, .int .i64 m, v] W fun e w' => e = .returned (.bool true) ∧ Below W.heap.size W w' := by
  obtain ⟨zs, hz⟩ := open_nums Try.underlying33 Try.underlying5 Try.cells5 hok h
  exact plays_any f m v zs W hz
end Go.Proofs.Ytipnmepalmielaa

