/-
  The reference's sets.
-/
import Derived.Test.YtkmfbddiebigfaaDoorDsA
namespace Go.Proofs.YtkmfbddiebigfaaDoor
open Go.RowKit Go.Shoal

theorem allOf_snoc (k : Nat) (h : k < 64) : allOf ((k : Int) + 1) = allOf k ||| oneOf k := by
  refine set_ext (allOf_lt _) (or_lt (allOf_lt _) (oneOf_lt _)) (fun i hi => ?_)
  rw [Nat.testBit_or, testBit_allOf, testBit_allOf, testBit_oneOf, Bool.eq_iff_iff]
  simp only [Bool.or_eq_true, decide_eq_true_eq]
  omega
theorem allOf_min (n : Int) (k : Nat) (h : (n ≤ k ∧ k ≤ n) ∨ (n ≤ 0 ∧ k = 0) ∨ (64 ≤ n ∧ k = 64)) : allOf k = allOf n := by
  unfold allOf
  rw [show (min (max (k : Int) 0) 64).toNat = (min (max n 0) 64).toNat by omega]
set_option maxHeartbeats 1000000 in
theorem rall_any (n : Int) (w : World) : Calls Tryd.prog 19 #[.int .i64 n] w fun e w' => e = .returned (.int .u64 ((allOf n : Nat) : Int)) ∧ w = w' := by
  go_enter Tryd.func19, Tryd.ntmps19
  go_wp2
  go_loop [3, 4] (fun s i => ∃ k : Nat, k ≤ 64 ∧ ((k : Int) ≤ n ∨ k = 0) ∧ i = .int .i64 k ∧ s = .int .u64 ((allOf k : Nat) : Int)) (fun _ i => 64 - (intOf i).toNat)
  case atStart => exact ⟨0, by omega, .inr rfl, rfl, rfl⟩
  case round =>
    obtain ⟨k, hk, hn, rfl, rfl⟩ := hrel
    by_cases h1 : (k : Int) < n
    · by_cases h2 : k < 64
      · have hs := allOf_lt k
        have hn0 : 0 ≤ ((allOf k : Nat) : Int) := by omega
        have h3 : (k : Int) < 64 := by omega
        have h4 : IntKind.u64.wrap (k : Int) = (k : Int) := by rw [IntKind.wrap_u64]; omega
        have HO := Lib.hid (oneOf_bits (p := (k : Int)) (by omega) h3)
        have HB := Lib.hid (or_bits (allOf k) (oneOf k) hs (oneOf_lt k))
        have HN := Lib.hid (allOf_snoc k h2)
        generalize allOf (k : Int) = s at *
        go_wp2
        go_round
        case rel => exact ⟨k + 1, by omega, .inl (by omega), by go_num, by rw [show ((k + 1 : Nat) : Int) = (k : Int) + 1 by omega, HN.out, ← HB.out, ← HO.out]; simp⟩
        case measure => simp [intOf]; omega
      · have hke : Hid (allOf k = allOf n) := allOf_min n k (by omega)
        have h3 : ¬ (k : Int) < 64 := by omega
        generalize allOf (k : Int) = s at *
        go_wp2
        go_ret
        exact ⟨by rw [hke.out]; rfl, rfl⟩
    · have hke : Hid (allOf k = allOf n) := allOf_min n k (by omega)
      generalize allOf (k : Int) = s at *
      go_wp2
      go_ret
      exact ⟨by rw [hke.out]; rfl, rfl⟩
set_option maxHeartbeats 400000 in
theorem rin_any (s : Nat) (p : Int) (w : World) (hs : s < 18446744073709551616) : Calls Tryd.prog 20 #[.int .u64 s, .int .i64 p] w fun e w' => e = .returned (.bool (inSet s p)) ∧ w = w' := by
  by_cases h1 : 0 ≤ p
  · by_cases h2 : p ≤ 63
    · have HE := Lib.hid (has_bits s p hs h1 (by omega))
      have h4 : IntKind.u64.wrap p = p := by rw [IntKind.wrap_u64]; omega
      go_enter Tryd.func20, Tryd.ntmps20
      go_wp2
      go_ret
      exact ⟨by rw [← HE.out]; rfl, rfl⟩
    · have HE : Hid (inSet s p = false) := by show inSet s p = false; unfold inSet; rw [decide_eq_false (show ¬ p < 64 by omega), Bool.and_false, Bool.false_and]
      go_enter Tryd.func20, Tryd.ntmps20
      go_wp2
      go_ret
      exact ⟨by rw [HE.out]; rfl, rfl⟩
  · have HE : Hid (inSet s p = false) := by show inSet s p = false; unfold inSet; rw [decide_eq_false h1, Bool.false_and, Bool.false_and]
    go_enter Tryd.func20, Tryd.ntmps20
    go_wp2
    go_ret
    exact ⟨by rw [HE.out]; rfl, rfl⟩
end Go.Proofs.YtkmfbddiebigfaaDoor
