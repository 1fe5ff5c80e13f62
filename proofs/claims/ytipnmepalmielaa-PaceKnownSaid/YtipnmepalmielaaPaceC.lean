/-
  The walk of PaceSteps.
-/
import Derived.Test.YtipnmepalmielaaPaceB
namespace Go.Proofs.Ytipnmepalmielaa
open Go.RowKit Go.Shoal

theorem tick_low {w : World} {b : Nat} {f m s l r : Int} (hp : PaceAt w b ⟨f, m, s, l, r⟩) (ok : Pc.Ok ⟨f, m, s, l, r⟩) (hr : 0 ≤ r ∧ r ≤ 1000000) (h : 1 < l) :
    Calls Try.prog 11 #[.pointer (some ⟨b, 0, none⟩)] w (Does w b ⟨f, m, s, l - 1, r⟩ (.bool false)) := by
  have t := tick_any w b _ hp ok hr
  have e : Pc.tick ⟨f, m, s, l, r⟩ = (⟨f, m, s, l - 1, r⟩, false) := by unfold Pc.tick; rw [if_neg (by show ¬ l = 0; omega), if_pos (by show 1 < l; exact h)]
  unfold Ticks at t
  rw [e] at t
  exact t
theorem tick_ring {w : World} {b : Nat} {f m s r : Int} (hp : PaceAt w b ⟨f, m, s, 1, r⟩) (ok : Pc.Ok ⟨f, m, s, 1, r⟩) (hr : 0 ≤ r ∧ r ≤ 1000000) :
    Calls Try.prog 11 #[.pointer (some ⟨b, 0, none⟩)] w (Does w b ⟨f, m, min (s * 2) m, min (s * 2) m, r + 1⟩ (.bool true)) := tick_any w b _ hp ok hr

theorem steps_out (f m n : Int) (w : World) (h : f < 1 ∨ (1 ≤ f ∧ m < f) ∨ (1 ≤ f ∧ f ≤ m ∧ 100 < m) ∨ (1 ≤ f ∧ f ≤ m ∧ m ≤ 100 ∧ n < 0) ∨ (1 ≤ f ∧ f ≤ m ∧ m ≤ 100 ∧ 0 ≤ n ∧ 300 < n)) :
    Calls Try.prog 3 #[.int .i64 f, .int .i64 m, .int .i64 n] w fun e w' => e = .returned (.bool true) ∧ Mod (fun _ => False) w w' := by
  rcases h with h | ⟨h, h1⟩ | ⟨h, h1, h2⟩ | ⟨h, h1, h2, h3⟩ | ⟨h, h1, h2, h3, h4⟩
  all_goals
    go_enter Try.func3, Try.ntmps3
    go_wp2_with fail
    refine (awake_calls w).mono ?_
    rintro e w1 ⟨rfl, hm⟩
    have HM := Lib.hid hm
    clear hm
    go_wp2
    go_ret
    exact ⟨rfl, HM.out⟩

/-- What the loop of PaceSteps holds. -/
def StepRel (w : World) (f m s l r : Int) (wr : World) : Prop := PaceAt wr w.heap.size ⟨f, m, s, l, r⟩ ∧ Mod (fun _ => False) w wr ∧ w.heap.size < wr.heap.size

set_option maxHeartbeats 2000000 in
theorem steps_in (f m : Int) (n : Nat) (w : World) (h1 : 1 ≤ f) (h2 : f ≤ m) (h3 : m ≤ 100) (h4 : n ≤ 300) :
    Calls Try.prog 3 #[.int .i64 f, .int .i64 m, .int .i64 n] w fun e w' => e = .returned (.bool true) ∧ Mod (fun _ => False) w w' := by
  have hn0 : decide ((n : Int) < 0) = false := decide_eq_false (by omega)
  have hn1 : decide (300 < (n : Int)) = false := decide_eq_false (by omega)
  go_enter Try.func3, Try.ntmps3
  go_wp2_with fail
  refine (awake_calls w).mono ?_
  rintro e w1 ⟨rfl, hm⟩
  have HM := Lib.hid hm
  clear hm
  go_wp2_with fail
  refine (new_ok f m w1 (by omega) (by omega) (by omega)).mono ?_
  rintro e w2 ⟨rfl, hp2, hm2, hs2⟩
  have HM2 := Lib.hid hm2
  have HP2 := Lib.hid hp2
  have HS2 := Lib.hid hs2
  clear hm2 hp2 hs2
  go_wp2_with fail
  refine (start_any w2 _ _ HP2.out).mono ?_
  rintro e w3 ⟨rfl, hp3, hm3⟩
  have HP3 : Hid (PaceAt w3 w1.heap.size ⟨f, m, f, f, 0⟩) := hp3
  have HR : Hid (StepRel w1 f m f f 0 w3) := ⟨hp3, HM2.out.trans' hm3 (fun i hi h => by omega), by have := hm3.size; have := HS2.out; omega⟩
  clear hp3 hm3 HP2 HP3 HM2 HS2
  go_wp2
  go_loopw [9, 10, 11] (fun q y i wr => ∃ k : Nat, ∃ s l r z : Int, k ≤ n ∧ i = .int .i64 k ∧ q = .int .i64 (s - l) ∧ y = .int .i64 z ∧ f ≤ s ∧ s ≤ m ∧ 1 ≤ l ∧ l ≤ s ∧ 0 ≤ r ∧ r ≤ k ∧ 0 ≤ z ∧ z ≤ s ∧ Hid (StepRel w1 f m s l r wr)) (fun _ _ i _ => n - (intOf i).toNat)
  case atStart => exact ⟨0, f, f, 0, 0, Nat.zero_le _, rfl, by rw [Int.sub_self], rfl, by omega, by omega, by omega, by omega, by omega, by omega, by omega, by omega, HR⟩
  case round =>
    obtain ⟨k, s, l, r, z, hk, rfl, rfl, rfl, g1, g2, g3, g4, g5, g6, g7, g8, hR⟩ := hrel
    have t1 : decide (s < z) = false := by simp; omega
    have t2 : decide (m < s) = false := by simp; omega
    have t3 : decide (s < f) = false := by simp; omega
    by_cases hlt : k < n
    · by_cases hl : 1 < l
      · have HT := Lib.hid (tick_low hR.out.1 ⟨h1, g1, g2, by show m ≤ 1000; omega, by show 0 ≤ l; omega, g4⟩ (by omega) hl)
        have HS := Lib.hid (step_any wr _ _ hR.out.1)
        go_wp2_with fail
        refine HS.out.mono ?_
        rintro e w4 ⟨rfl, rfl⟩
        go_wp2_with fail
        refine HT.out.mono ?_
        rintro e w5 ⟨rfl, hp5, hm5⟩
        have HR5 : Hid (StepRel w1 f m s (l - 1) r w5) := ⟨hp5, hR.out.2.1.trans' hm5 (fun i hi h => by omega), Nat.lt_of_lt_of_le hR.out.2.2 hm5.size⟩
        clear hp5 hm5
        go_wp2
        go_roundw
        case rel => exact ⟨k + 1, s, l - 1, r, s, by omega, by go_num, by congr 1; omega, rfl, g1, g2, by omega, by omega, by omega, by omega, by omega, by omega, HR5⟩
        case measure => simp [intOf]; omega
      · obtain rfl : l = 1 := by omega
        have HT := Lib.hid (tick_ring hR.out.1 ⟨h1, g1, g2, by show m ≤ 1000; omega, by show (0 : Int) ≤ 1; omega, g4⟩ (by omega))
        have HS := Lib.hid (step_any wr _ _ hR.out.1)
        have hmin : s ≤ min (s * 2) m ∧ min (s * 2) m ≤ m := by omega
        generalize hs' : min (s * 2) m = s' at HT hmin
        clear hs'
        go_wp2_with fail
        refine HS.out.mono ?_
        rintro e w4 ⟨rfl, rfl⟩
        go_wp2_with fail
        refine HT.out.mono ?_
        rintro e w5 ⟨rfl, hp5, hm5⟩
        have HR5 : Hid (StepRel w1 f m s' s' (r + 1) w5) := ⟨hp5, hR.out.2.1.trans' hm5 (fun i hi h => by omega), Nat.lt_of_lt_of_le hR.out.2.2 hm5.size⟩
        clear hp5 hm5
        go_wp2
        go_roundw
        case rel => exact ⟨k + 1, s', s', r + 1, s, by omega, by go_num, by rw [Int.sub_self], rfl, by omega, by omega, by omega, by omega, by omega, by omega, by omega, by omega, HR5⟩
        case measure => simp [intOf]; omega
    · have t4 : decide (s - l < m) = true := by simp; omega
      go_wp2
      go_ret
      exact ⟨rfl, HM.out.trans hR.out.2.1⟩

theorem steps_any (f m n : Int) (w : World) : Calls Try.prog 3 #[.int .i64 f, .int .i64 m, .int .i64 n] w fun e w' => e = .returned (.bool true) ∧ Below w.heap.size w w' := by
  by_cases h : f < 1 ∨ (1 ≤ f ∧ m < f) ∨ (1 ≤ f ∧ f ≤ m ∧ 100 < m) ∨ (1 ≤ f ∧ f ≤ m ∧ m ≤ 100 ∧ n < 0) ∨ (1 ≤ f ∧ f ≤ m ∧ m ≤ 100 ∧ 0 ≤ n ∧ 300 < n)
  · exact (steps_out f m n w h).mono fun e w' ⟨h1, h2⟩ => ⟨h1, h2.none_below⟩
  · obtain ⟨k, rfl⟩ := Int.eq_ofNat_of_zero_le (show 0 ≤ n by omega)
    exact (steps_in f m k w (by omega) (by omega) (by omega) (by omega)).mono fun e w' ⟨h1, h2⟩ => ⟨h1, h2.none_below⟩

end Go.Proofs.Ytipnmepalmielaa
