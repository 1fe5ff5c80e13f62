/-
  The contracts of package dset that place reaches.
-/
import Derived.Test.YteicceikaecfcaaBase
import Derived.Test.YteicceikaecfcaaSets
import Derived.Test.YteicceikaecfcaaChecked
namespace Go.Proofs.Yteicceikaecfcaa
open Go.RowKit Go.Shoal

set_option maxHeartbeats 400000 in
theorem all_any (n : Int) (w : World) : Calls Try.prog 17 #[.int .i64 n] w fun e w' => e = .returned (.int .u64 ((allOf n : Nat) : Int)) ∧ w = w' := by
  by_cases h1 : n < 0
  · have HE := Lib.hid (allOf_neg h1)
    go_enter Try.func17, Try.ntmps17
    go_wp2
    go_ret
    exact ⟨by rw [HE.out]; rfl, rfl⟩
  · by_cases h2 : n ≤ 64
    · have HE := Lib.hid (allOf_mid (by omega) h2)
      go_enter Try.func17, Try.ntmps17
      go_wp2
      go_ret
      exact ⟨by rw [← HE.out]; rfl, rfl⟩
    · have HE := Lib.hid (allOf_high (n := n) (by omega))
      go_enter Try.func17, Try.ntmps17
      go_wp2
      go_ret
      exact ⟨by rw [HE.out]; rfl, rfl⟩
set_option maxHeartbeats 400000 in
theorem has_any (s : Nat) (p : Int) (w : World) (hs : s < 18446744073709551616) : Calls Try.prog 19 #[.int .u64 s, .int .i64 p] w fun e w' => e = .returned (.bool (inSet s p)) ∧ w = w' := by
  by_cases h1 : 0 ≤ p
  · by_cases h2 : p < 64
    · have HE := Lib.hid (has_bits s p hs h1 h2)
      go_enter Try.func19, Try.ntmps19
      go_wp2
      go_ret
      exact ⟨by rw [← HE.out]; rfl, rfl⟩
    · have HE : Hid (inSet s p = false) := by show inSet s p = false; unfold inSet; rw [decide_eq_false h2, Bool.and_false, Bool.false_and]
      go_enter Try.func19, Try.ntmps19
      go_wp2
      go_ret
      exact ⟨by rw [HE.out]; rfl, rfl⟩
  · have HE : Hid (inSet s p = false) := by show inSet s p = false; unfold inSet; rw [decide_eq_false h1, Bool.false_and, Bool.false_and]
    go_enter Try.func19, Try.ntmps19
    go_wp2
    go_ret
    exact ⟨by rw [HE.out]; rfl, rfl⟩
set_option maxHeartbeats 400000 in
theorem within_any (s t : Nat) (w : World) (hs : s < 18446744073709551616) (ht : t < 18446744073709551616) : Calls Try.prog 28 #[.int .u64 s, .int .u64 t] w fun e w' => e = .returned (.bool (decide (lessOf s t = 0))) ∧ w = w' := by
  have HE := Lib.hid (within_bits s t hs ht)
  go_enter Try.func28, Try.ntmps28
  go_wp2
  go_ret
  exact ⟨by rw [← HE.out]; rfl, rfl⟩
set_option maxHeartbeats 1000000 in
theorem of_any (v : Value) (l : List Int) (w : World) (h : Ints w v l) (hl : l.length ≤ 1000000) : Calls Try.prog 14 #[v] w fun e w' => e = .returned (.int .u64 ((setOf l : Nat) : Int)) ∧ w = w' := by
  obtain ⟨A, c, rfl, h⟩ := h
  have H := Lib.hid h
  clear h
  go_enter Try.func14, Try.ntmps14
  go_wp2
  go_loop [3, 8] (fun s i => ∃ k : Nat, k ≤ l.length ∧ i = .int .i64 k ∧ s = .int .u64 ((setOf (l.take k) : Nat) : Int)) (fun _ i => l.length - (intOf i).toNat)
  case atStart => exact ⟨0, Nat.zero_le _, rfl, rfl⟩
  case round =>
    obtain ⟨k, hk, rfl, rfl⟩ := hrel
    by_cases hlt : k < l.length
    · obtain ⟨b, o, rfl, hc⟩ := H.out.resolve_left (fun e => by rw [e] at hlt; simp at hlt)
      have hck := hc k hlt
      clear hc
      have HT : Hid (l.take (k + 1) = l.take k ++ [l.getD k 0]) := by
        show _ = _
        rw [List.take_succ_eq_append_getElem hlt, List.getD_eq_getElem?_getD, List.getElem?_eq_getElem hlt]; rfl
      have hi : (k : Int) < l.length := by omega
      have hs := setOf_lt (l.take k)
      generalize l.getD k 0 = p at hck HT
      have hn0 : 0 ≤ ((setOf (l.take k) : Nat) : Int) := by omega
      by_cases h1 : 0 ≤ p
      · by_cases h2 : p < 64
        · have HO := Lib.hid (oneOf_bits h1 h2)
          have HB := Lib.hid (or_bits (setOf (l.take k)) (oneOf p) hs (oneOf_lt p))
          have HN : Hid (setOf (l.take (k + 1)) = setOf (l.take k) ||| oneOf p) := by show _ = _; rw [HT.out, setOf_snoc]
          generalize setOf (l.take k) = s at *
          go_wp2
          go_round
          case rel => exact ⟨k + 1, by omega, by go_num, by rw [HN.out, ← HB.out, ← HO.out]⟩
          case measure => simp [intOf]; omega
        · have HN : Hid (setOf (l.take (k + 1)) = setOf (l.take k)) := by show _ = _; rw [HT.out, setOf_snoc, show oneOf p = 0 by unfold oneOf; rw [if_neg (by omega)], Nat.or_zero]
          generalize setOf (l.take k) = s at *
          go_wp2
          go_round
          case rel => exact ⟨k + 1, by omega, by go_num, by rw [HN.out]⟩
          case measure => simp [intOf]; omega
      · have HN : Hid (setOf (l.take (k + 1)) = setOf (l.take k)) := by show _ = _; rw [HT.out, setOf_snoc, show oneOf p = 0 by unfold oneOf; rw [if_neg (by omega)], Nat.or_zero]
        generalize setOf (l.take k) = s at *
        go_wp2
        go_round
        case rel => exact ⟨k + 1, by omega, by go_num, by rw [HN.out]⟩
        case measure => simp [intOf]; omega
    · have hke : Hid (k = l.length) := by show _ = _; omega
      go_wp2
      go_ret
      exact ⟨by rw [hke.out, List.take_length]; rfl, rfl⟩
end Go.Proofs.Yteicceikaecfcaa
