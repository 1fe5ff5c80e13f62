/-
  The law's awake.
-/
import Derived.Test.YtgpjipgbighplaaDoorFlF
namespace Go.Proofs.YtgpjipgbighplaaDoor
open Go.RowKit Go.Shoal

theorem quiet_left {P : Program} {f : FuncId} {args : Array Value} {w : World} {n : Nat} {v : Value}
    (h : Calls P f args (w.drewN n) fun e w' => e = .returned v ∧ w.drewN n = w') : Calls P f args (w.drewN n) fun e w'' => e = .returned v ∧ ∃ m, w'' = w.drewN m :=
  h.mono fun _ _ ⟨he, hm⟩ => ⟨he, n, hm.symm⟩
set_option maxRecDepth 100000 in
set_option maxHeartbeats 4000000 in
theorem awake_any (w : World) (hT : Tab w) : Calls Tryd.prog 10 #[] w fun e w' => e = .returned (.bool true) ∧ Mod (fun _ => False) w w' := by
  have HK : Hid (∀ w, Calls Tryd.prog 19 #[.float .f64 4607182418800017408] w fun e w' => e = .returned (.int .u64 13830554455654793216) ∧ w = w') := fun w => key_any 4607182418800017408 w (by decide)
  have HO : Hid (∀ w, Calls Tryd.prog 16 #[.int .u64 13830554455654793216] w fun e w' => e = .returned (.tuple #[.float .f64 4607182418800017408, .bool true]) ∧ w = w') := fun w => of_any 13830554455654793216 w (by decide)
  have HS : Hid (∀ w, Calls Tryd.prog 14 #[.float .f64 0, .float .f64 13830554455654793216] w fun e w' => e = .returned (.float .f64 9223372036854775808) ∧ w = w') := fun w => copysign_any 0 13830554455654793216 (by decide) (by decide) w
  have HC : Hid (∀ w, Calls Tryd.prog 11 #[.float .f64 9223372036854775808, .float .f64 0] w fun e w' => e = .returned (.int .i64 (-1)) ∧ w = w') := fun w => cmp_any 9223372036854775808 0 w (by decide) (by decide)
  have HL : Hid (∀ w, Calls Tryd.prog 13 #[.float .f64 4607182418800017408] w fun e w' => e = .returned (.int .i64 5) ∧ w = w') := fun w => class_any 4607182418800017408 w (by decide)
  have HW : Hid (∀ w, Tab w → Calls Tryd.prog 21 #[.float .f64 4607182418800017408] w fun e w' => e = .returned (.string ⟨#[51, 102, 102, 48, 48, 48, 48, 48, 48, 48, 48, 48, 48, 48, 48, 48]⟩) ∧ Mod (fun _ => False) w w') := fun w => show_any 4607182418800017408 (by decide) w
  have q1 : (FloatKind.f64.format.order 4607182418800017408 4607182418800017408 == some Ordering.eq) = true := by decide +kernel
  have HT := Lib.hid hT
  clear hT
  go_enter Tryd.func10, Tryd.ntmps10
  go_wp2_with fail
  refine (HK.out _).mono ?_
  rintro e w1 ⟨rfl, rfl⟩
  go_wp2_with fail
  refine (HO.out _).mono ?_
  rintro e w1 ⟨rfl, rfl⟩
  go_wp2_with fail
  refine (HS.out _).mono ?_
  rintro e w1 ⟨rfl, rfl⟩
  go_wp2_with fail
  refine (HC.out _).mono ?_
  rintro e w1 ⟨rfl, rfl⟩
  go_wp2_with fail
  refine (HW.out _ HT.out).mono ?_
  rintro e w1 ⟨rfl, hm⟩
  have HM := Lib.hid hm
  clear hm
  go_wp2_with fail
  refine (HL.out _).mono ?_
  rintro e w1 ⟨rfl, rfl⟩
  go_wp2
  go_ret
  exact ⟨rfl, HM.out⟩
end Go.Proofs.YtgpjipgbighplaaDoor
