/-
  The contracts of package dset that place reaches.
-/
import Derived.Test.YtpdpnhikcmpcdaaBase
import Derived.Test.YtpdpnhikcmpcdaaSets
import Derived.Test.YtpdpnhikcmpcdaaChecked
namespace Go.Proofs.Ytpdpnhikcmpcdaa
open Go.RowKit Go.Shoal

set_option maxHeartbeats 400000 in
theorem all_any (n : Int) (w : World) : Calls Try.prog 27 #[.int .i64 n] w fun e w' => e = .returned (.int .u64 ((allOf n : Nat) : Int)) ∧ w = w' := by
  by_cases h1 : n < 0
  · have HE := Lib.hid (allOf_neg h1)
    go_enter Try.func27, Try.ntmps27
    go_wp2
    go_ret
    exact ⟨by rw [HE.out]; rfl, rfl⟩
  · by_cases h2 : n ≤ 64
    · have HE := Lib.hid (allOf_mid (by omega) h2)
      go_enter Try.func27, Try.ntmps27
      go_wp2
      go_ret
      exact ⟨by rw [← HE.out]; rfl, rfl⟩
    · have HE := Lib.hid (allOf_high (n := n) (by omega))
      go_enter Try.func27, Try.ntmps27
      go_wp2
      go_ret
      exact ⟨by rw [HE.out]; rfl, rfl⟩
set_option maxHeartbeats 400000 in
theorem has_any (s : Nat) (p : Int) (w : World) (hs : s < 18446744073709551616) : Calls Try.prog 47 #[.int .u64 s, .int .i64 p] w fun e w' => e = .returned (.bool (inSet s p)) ∧ w = w' := by
  by_cases h1 : 0 ≤ p
  · by_cases h2 : p < 64
    · have HE := Lib.hid (has_bits s p hs h1 h2)
      go_enter Try.func47, Try.ntmps47
      go_wp2
      go_ret
      exact ⟨by rw [← HE.out]; rfl, rfl⟩
    · have HE : Hid (inSet s p = false) := by show inSet s p = false; unfold inSet; rw [decide_eq_false h2, Bool.and_false, Bool.false_and]
      go_enter Try.func47, Try.ntmps47
      go_wp2
      go_ret
      exact ⟨by rw [HE.out]; rfl, rfl⟩
  · have HE : Hid (inSet s p = false) := by show inSet s p = false; unfold inSet; rw [decide_eq_false h1, Bool.false_and, Bool.false_and]
    go_enter Try.func47, Try.ntmps47
    go_wp2
    go_ret
    exact ⟨by rw [HE.out]; rfl, rfl⟩
set_option maxHeartbeats 400000 in
theorem within_any (s t : Nat) (w : World) (hs : s < 18446744073709551616) (ht : t < 18446744073709551616) : Calls Try.prog 43 #[.int .u64 s, .int .u64 t] w fun e w' => e = .returned (.bool (decide (lessOf s t = 0))) ∧ w = w' := by
  have HE := Lib.hid (within_bits s t hs ht)
  go_enter Try.func43, Try.ntmps43
  go_wp2
  go_ret
  exact ⟨by rw [← HE.out]; rfl, rfl⟩
end Go.Proofs.Ytpdpnhikcmpcdaa
