/-
  One number, or none both.
-/
import Derived.Test.YtpjlplkoiedhjaaMetK
namespace Go.Proofs.Ytpjlplkoiedhjaa
open Go.RowKit Go.Shoal

def sameB (a b : Nat) : Bool := decide (a = b) || (isN a && isN b)
theorem same_any (a b : Nat) (w : World) : Calls Try.prog 11 #[.float .f64 a, .float .f64 b] w fun e w' => e = .returned (.bool (sameB a b)) ∧ w = w' := by
  have o1 := order_self a
  have o2 := order_self b
  by_cases hab : a = b
  · subst hab
    have t1 : ((a : Int) == (a : Int)) = true := by simp
    have HE : Hid (sameB a a = true) := Lib.hid (by simp [sameB])
    go_enter Try.func11, Try.ntmps11
    go_wp2
    go_ret
    exact ⟨by rw [HE.out]; rfl, rfl⟩
  · have t1 : ((a : Int) == (b : Int)) = false := by rw [beq_eq_false_iff_ne]; omega
    have t2 : ¬ ((a : Int) = (b : Int)) := by omega
    cases ha : isN a
    · rw [ha] at o1
      have HE : Hid (sameB a b = false) := Lib.hid (by simp [sameB, hab, ha])
      clear ha hab
      go_enter Try.func11, Try.ntmps11
      go_wp2
      go_ret
      exact ⟨by rw [HE.out]; rfl, rfl⟩
    · rw [ha] at o1
      have HE : Hid (sameB a b = isN b) := Lib.hid (by simp [sameB, hab, ha])
      clear ha hab
      go_enter Try.func11, Try.ntmps11
      go_wp2
      go_ret
      exact ⟨by rw [HE.out]; first | rfl | exact ret_bool o2, rfl⟩
end Go.Proofs.Ytpjlplkoiedhjaa
