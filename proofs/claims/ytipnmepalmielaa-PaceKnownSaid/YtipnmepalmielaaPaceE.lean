/-
  The walk of PaceKnown.
-/
import Derived.Test.YtipnmepalmielaaPaceC
namespace Go.Proofs.Ytipnmepalmielaa
open Go.RowKit Go.Shoal

set_option maxHeartbeats 2000000 in
theorem known_any (w : World) : Calls Try.prog 5 #[] w fun e w' => e = .returned (.bool true) ∧ Below w.heap.size w w' := by
  go_enter Try.func5, Try.ntmps5
  go_wp2_with fail
  refine (awake_calls w).mono ?_
  rintro e w1 ⟨rfl, hm⟩
  have HM := Lib.hid hm
  clear hm
  go_wp2_with fail
  refine (new_no 0 1 w1 (by omega)).mono ?_
  rintro e w2 ⟨rfl, rfl⟩
  go_wp2_with fail
  refine (new_no 2 1 w1 (by omega)).mono ?_
  rintro e w2 ⟨rfl, rfl⟩
  go_wp2_with fail
  refine (new_no 1 1001 w1 (by omega)).mono ?_
  rintro e w2 ⟨rfl, rfl⟩
  go_wp2_with fail
  refine (new_ok 3 5 w1 (by omega) (by omega) (by omega)).mono ?_
  rintro e w2 ⟨rfl, hp2, hm2, hs2⟩
  have HM2 := Lib.hid hm2
  have HP2 := Lib.hid hp2
  clear hm2 hp2 hs2
  have HB : Hid (∀ i, i < w1.heap.size → ¬ i = w1.heap.size) := fun i h e => by omega
  have HW : Hid (w.heap.size ≤ w1.heap.size) := HM.out.size
  generalize w1.heap.size = b at HP2 HB HW
  go_wp2_with fail
  refine (tick_any w2 b _ HP2.out ⟨by decide, by decide, by decide, by decide, by decide, by decide⟩ (by decide)).mono ?_
  rintro e w3 ⟨rfl, hp3, hm3⟩
  have HP3 : Hid (PaceAt w3 b ⟨3, 5, 3, 0, 0⟩) := hp3
  have HM3 := Lib.hid hm3
  clear hm3 hp3
  rw [show (Pc.tick ⟨3, 5, 3, 0, 0⟩).2 = false from rfl]
  go_wp2_with fail
  refine (left_any w3 b _ HP3.out).mono ?_
  rintro e w4 ⟨rfl, n4, rfl⟩
  go_wp2_with fail
  refine (start_any (w3.drewN n4) b _ HP3.out).mono ?_
  rintro e w5 ⟨rfl, hp5, hm5⟩
  have HP5 : Hid (PaceAt w5 b ⟨3, 5, 3, 3, 0⟩) := hp5
  have HM5 : Hid (Mod (· = b) w3 w5) := ((Mod.refl _ _).drewN _).trans hm5
  clear hm5 hp5
  go_wp2_with fail
  refine (tick_any w5 b _ HP5.out ⟨by decide, by decide, by decide, by decide, by decide, by decide⟩ (by decide)).mono ?_
  rintro e w6 ⟨rfl, hp6, hm6⟩
  have HP6 : Hid (PaceAt w6 b ⟨3, 5, 3, 2, 0⟩) := hp6
  have HM6 := Lib.hid (HM5.out.trans hm6)
  clear hm6 hp6
  go_wp2_with fail
  refine (start_any w6 b _ HP6.out).mono ?_
  rintro e w7 ⟨rfl, hp7, hm7⟩
  have HP7 : Hid (PaceAt w7 b ⟨3, 5, 3, 2, 0⟩) := hp7
  have HM7 := Lib.hid (HM6.out.trans hm7)
  clear hm7 hp7
  go_wp2_with fail
  refine (left_any w7 b _ HP7.out).mono ?_
  rintro e w8 ⟨rfl, n8, rfl⟩
  go_wp2_with fail
  refine (tick_any (w7.drewN n8) b _ HP7.out ⟨by decide, by decide, by decide, by decide, by decide, by decide⟩ (by decide)).mono ?_
  rintro e w9 ⟨rfl, hp9, hm9⟩
  have HP9 : Hid (PaceAt w9 b ⟨3, 5, 3, 1, 0⟩) := hp9
  have HM9 := Lib.hid ((HM7.out.drewN n8).trans hm9)
  clear hm9 hp9
  go_wp2_with fail
  refine (tick_any w9 b _ HP9.out ⟨by decide, by decide, by decide, by decide, by decide, by decide⟩ (by decide)).mono ?_
  rintro e w10 ⟨rfl, hp10, hm10⟩
  have HP10 : Hid (PaceAt w10 b ⟨3, 5, 5, 5, 1⟩) := hp10
  have HM10 := Lib.hid (HM9.out.trans hm10)
  clear hm10 hp10
  rw [show (Pc.tick ⟨3, 5, 3, 1, 0⟩).2 = true from rfl]
  go_wp2_with fail
  refine (step_any w10 b _ HP10.out).mono ?_
  rintro e w11 ⟨rfl, rfl⟩
  go_wp2_with fail
  refine (stop_any w10 b _ HP10.out).mono ?_
  rintro e w12 ⟨rfl, hp12, hm12⟩
  have HP12 : Hid (PaceAt w12 b ⟨3, 5, 3, 0, 1⟩) := hp12
  have HM12 := Lib.hid (HM10.out.trans hm12)
  clear hm12 hp12
  go_wp2_with fail
  refine (tick_any w12 b _ HP12.out ⟨by decide, by decide, by decide, by decide, by decide, by decide⟩ (by decide)).mono ?_
  rintro e w13 ⟨rfl, hp13, hm13⟩
  have HP13 : Hid (PaceAt w13 b ⟨3, 5, 3, 0, 1⟩) := hp13
  have HM13 := Lib.hid (HM12.out.trans hm13)
  clear hm13 hp13
  rw [show (Pc.tick ⟨3, 5, 3, 0, 1⟩).2 = false from rfl]
  go_wp2_with fail
  refine (step_any w13 b _ HP13.out).mono ?_
  rintro e w14 ⟨rfl, rfl⟩
  go_wp2_with fail
  refine (rings_any w13 b _ HP13.out).mono ?_
  rintro e w14 ⟨rfl, rfl⟩
  go_wp2
  go_ret
  exact ⟨rfl, (((HM.out.trans HM2.out).trans' HM3.out (fun i h e => HB.out i (Nat.lt_of_lt_of_le h HW.out) e)).trans' HM13.out (fun i h e => HB.out i (Nat.lt_of_lt_of_le h HW.out) e)).none_below⟩
end Go.Proofs.Ytipnmepalmielaa
