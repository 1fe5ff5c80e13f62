/-
  Awake, walked.
-/
import Derived.Test.YtpjlplkoiedhjaaMetJ
namespace Go.Proofs.Ytpjlplkoiedhjaa
open Go.RowKit Go.Shoal

theorem awake_any (w : World) : Calls Try.prog 8 #[] w fun e w' => e = .returned (.bool true) ∧ Mod (fun _ => False) w w' := by
  have t1 : (FloatKind.f64.format.order 4611686018427387904 4611686018427387904 == some Ordering.eq) = true := by kernel_rfl
  have t2 : (FloatKind.f64.format.order 4608308318706860032 4608308318706860032 == some Ordering.eq) = true := by kernel_rfl
  go_enter Try.func8, Try.ntmps8
  go_wp2_with fail
  refine (new_any _).mono ?_
  rintro e w1 ⟨rfl, hat, hm⟩
  have HA0 := Lib.hid hat
  have HM0 := Lib.hid hm
  clear hat hm
  go_wp2_with fail
  refine (add_any _ _ newMt 4607182418800017408 _ HA0.out newMt_ok (by decide) (by decide)).mono ?_
  rintro e w2 ⟨rfl, m1, ha1, v1, hat1, hv1, hm1⟩
  have HA1 := Lib.hid (And.intro ha1 hat1)
  have HM1 := Lib.hid (And.intro hv1 hm1)
  clear ha1 hat1 hv1 hm1
  go_wp2_with fail
  refine (add_any _ _ m1 4613937818241073152 _ HA1.out.2 (HA1.out.1.ok newMt_ok (by decide)) (by decide) (by rw [(wake_one HA1.out.1).1]; decide)).mono ?_
  rintro e w3 ⟨rfl, m2, ha2, v2, hat2, hv2, hm2⟩
  have HA2 := Lib.hid (And.intro ha2 hat2)
  have HM2 := Lib.hid hm2
  have HO2 : Hid m2.Ok := Lib.hid (ha2.ok (HA1.out.1.ok newMt_ok (by decide)) (by decide))
  have HW := Lib.hid (wake_two HA1.out.1 ha2)
  clear ha2 hat2 hv2 hm2
  go_wp2_with fail
  refine (mean_any _ _ m2 _ HA2.out.2).mono ?_
  rintro e w4 ⟨⟨r, rfl, hr⟩, n4, rfl⟩
  obtain rfl := wake_mean hr HW.out.2.1 HW.out.2.2.1
  clear hr
  go_wp2_with fail
  refine (smooth_any _ _ m2 _ (show MAt (World.drewN _ _) _ _ _ from HA2.out.2)).mono ?_
  rintro e w5 ⟨rfl, rfl⟩
  rw [HW.out.2.2.2]
  go_wp2_with fail
  refine (rank_any _ _ m2 4611686018427387904 _ (show MAt (World.drewN _ _) _ _ _ from HA2.out.2) HO2.out (by decide) (by rw [HA2.out.1.1, ins_len, (wake_one HA1.out.1).1]; decide)).mono ?_
  rintro e w6 ⟨rfl, n6, rfl⟩
  rw [HW.out.1]
  go_wp2
  go_ret
  have h1 := HM0.out.trans' HM1.out.2 (T := fun k => k = w.heap.size ∨ (Value.slice none 0 0).ownBlock = some k) (fun i hi hs => by
    rcases hs with rfl | hs
    · omega
    · cases hs)
  have h2 := h1.trans' HM2.out (fun i hi hs => by
    rcases hs with rfl | hs
    · omega
    · rcases HM1.out.1 with e | e
      · rw [e] at hs; cases hs
      · have := e i hs
        have := HM0.out.size
        omega)
  refine ⟨rfl, ?_⟩
  first | exact h2.drewN _ | exact (h2.drewN _).drewN _
end Go.Proofs.Ytpjlplkoiedhjaa
