/-
  The reference's Of, Min, Max, Show.
-/
import Derived.Test.YtgpjipgbighplaaDoorFlN
namespace Go.Proofs.YtgpjipgbighplaaDoor
open Go.RowKit Go.Shoal

theorem top_is {k : Nat} (hk : k < B64) : isNeg k = !decide (k < B63) := by
  rcases Nat.lt_or_ge k B63 with h | h
  · rw [isNeg_low h, decide_eq_true h]; rfl
  · rw [isNeg_high h hk, decide_eq_false (by omega)]; rfl
set_option maxRecDepth 100000 in
set_option maxHeartbeats 2000000 in
theorem rof_any (k : Nat) (w : World) (hk : k < B64) : Calls Tryd.prog 25 #[.int .u64 k] w fun e w' => e = .returned (pairF (ofW k)) ∧ w = w' := by
  by_cases h0 : k = 18446744073709551615
  · have t0 : ((k : Int) == 18446744073709551615) = true := by rw [beq_iff_eq]; omega
    have HE : Hid (ofW k = (nanW, true)) := if_pos h0
    have HN := Lib.hid (nan_any w)
    clear hk h0
    go_enter Tryd.func25, Tryd.ntmps25
    go_wp2_with fail
    refine HN.out.mono ?_
    rintro e w1 ⟨rfl, rfl⟩
    go_wp2
    go_ret2
    exact ⟨by rw [HE.out]; rfl, rfl⟩
  have t0 : ((k : Int) == 18446744073709551615) = false := by rw [beq_eq_false_iff_ne]; omega
  have HX := Lib.hid (not_bits k hk)
  have t2 := low_bits k hk
  have t1 := top_bit k hk
  rw [top_is hk] at t1
  have hkb : keyBits k < B64 := by
    have := b63_two
    have : 0 < B63 := by decide
    unfold keyBits
    split <;> omega
  have HC := Lib.hid (rclass_any (keyBits k) w hkb)
  have kz := classW_zero (keyBits k)
  have HE : Hid (ofW k = if isN (keyBits k) then (0, false) else (keyBits k, true)) := if_neg h0
  by_cases hl : k < B63
  · have HK : Hid (keyBits k = B64 - 1 - k) := if_pos hl
    rw [decide_eq_true hl] at t1
    have hx2 : bits .xor .u64 IntKind.u64.max (k : Int) = ((keyBits k : Nat) : Int) := by rw [HK.out]; exact HX.out
    clear hk h0 hl t2 HX HK hkb
    generalize classW (keyBits k) = c at *
    generalize keyBits k = b at *
    generalize ofW k = r at *
    generalize isN b = n at *
    cases n
    all_goals
      go_enter Tryd.func25, Tryd.ntmps25
      go_wp2_with fail
      refine HC.out.mono ?_
      rintro e w1 ⟨rfl, rfl⟩
      go_wp2
      go_ret2
      exact ⟨by rw [HE.out]; rfl, rfl⟩
  · have HK : Hid (keyBits k = k - B63) := if_neg hl
    rw [mod_top k hk hl, ← HK.out] at t2
    rw [decide_eq_false hl] at t1
    clear hk h0 hl HX HK hkb
    generalize classW (keyBits k) = c at *
    generalize keyBits k = b at *
    generalize ofW k = r at *
    generalize isN b = n at *
    cases n
    all_goals
      go_enter Tryd.func25, Tryd.ntmps25
      go_wp2_with fail
      refine HC.out.mono ?_
      rintro e w1 ⟨rfl, rfl⟩
      go_wp2
      go_ret2
      exact ⟨by rw [HE.out]; rfl, rfl⟩
set_option maxHeartbeats 2000000 in
theorem best_any (first : Nat) (hf : first < B64) (v : Value) (l : List Nat) (way : Int) (w : World) (hl : Flts w v l) : Calls Tryd.prog 42 #[v, .int .i64 way, .float .f64 first] w fun e w' => e = .returned (.float .f64 (pickF way first l)) ∧ w = w' := by
  obtain ⟨A, c, rfl, hm, hfit, hz⟩ := hl
  unfold maxLen at hm
  have HZ := Lib.hid hz
  have HF := Lib.hid hfit
  have HFI := Lib.hid hf
  clear hz hfit hf
  have HP0 : Hid (pickF way first l = pickF way first (l.drop 0)) := rfl
  go_enter Tryd.func42, Tryd.ntmps42
  go_wp2
  go_loop [7, 8] (fun q i => ∃ (k b : Nat), k ≤ l.length ∧ b < B64 ∧ i = .int .i64 k ∧ q = .float .f64 b ∧ Hid (pickF way first l = pickF way b (l.drop k))) (fun _ i => l.length - (intOf i).toNat)
  case atStart => exact ⟨0, first, Nat.zero_le _, HFI.out, rfl, rfl, HP0⟩
  case round =>
    obtain ⟨k, b, hk, hb, rfl, rfl, hp⟩ := hrel
    by_cases hlt : k < l.length
    · obtain ⟨bb, o, rfl, _, hc⟩ := ElemsIn.cell HZ.out (Mod.refl (fun _ => False) w).none_below k hlt
      have hi : (k : Int) < l.length := by omega
      have hi0 : (0 : Int) ≤ (k : Int) := by omega
      have k0 := hc 0 (.float .f64 (l.getD k 0)) rfl
      rw [Nat.mul_one, Nat.add_zero] at k0
      have hx := HF.out k hlt
      have hx : l.getD k 0 < B64 := hx
      have hd := drop_cons l k hlt
      obtain ⟨x, hxe⟩ : ∃ x, x = l.getD k 0 := ⟨_, rfl⟩
      rw [← hxe] at k0 hx hd
      have H1 := Lib.hid (rclass_any x w hx)
      have H2 := Lib.hid (nan_any w)
      have H3 := Lib.hid (rcmp_any x b w hx hb)
      have kz := classW_zero x
      have hp' := hp.out
      rw [hd] at hp'
      clear hc hd hxe
      cases hn : isN x
      · rw [hn] at kz
        cases hq : (cmpW x b == way)
        · have HP := Lib.hid (hp'.trans (pickF_no way b x _ hn hq))
          clear hp' hp hn
          generalize cmpW x b = q at *
          generalize classW x = cx at *
          go_wp2_with fail
          refine H1.out.mono ?_
          rintro e w1 ⟨rfl, rfl⟩
          go_wp2_with fail
          refine H3.out.mono ?_
          rintro e w1 ⟨rfl, rfl⟩
          go_wp2
          go_round
          case rel => exact ⟨k + 1, b, by omega, hb, by go_num, rfl, HP⟩
          case measure => simp [intOf]; omega
        · have HP := Lib.hid (hp'.trans (pickF_yes way b x _ hn hq))
          clear hp' hp hn
          generalize cmpW x b = q at *
          generalize classW x = cx at *
          go_wp2_with fail
          refine H1.out.mono ?_
          rintro e w1 ⟨rfl, rfl⟩
          go_wp2_with fail
          refine H3.out.mono ?_
          rintro e w1 ⟨rfl, rfl⟩
          go_wp2
          go_round
          case rel => exact ⟨k + 1, x, by omega, hx, by go_num, rfl, HP⟩
          case measure => simp [intOf]; omega
      · rw [hn] at kz
        have HP := Lib.hid (hp'.trans (pickF_nan way b x _ hn))
        clear hp' hp hn
        generalize classW x = cx at *
        go_wp2_with fail
        refine H1.out.mono ?_
        rintro e w1 ⟨rfl, rfl⟩
        go_wp2_with fail
        refine H2.out.mono ?_
        rintro e w1 ⟨rfl, rfl⟩
        go_wp2
        go_ret
        exact ⟨by rw [HP.out]; rfl, rfl⟩
    · obtain rfl : k = l.length := by omega
      have HP : Hid (pickF way first l = b) := by
        have h := hp.out
        rw [List.drop_length] at h
        exact h
      have ti : decide (l.length < l.length) = false := decide_eq_false (by omega)
      clear hp
      go_wp2
      go_ret
      exact ⟨by rw [HP.out]; rfl, rfl⟩
theorem rmin_any (v : Value) (l : List Nat) (w : World) (hl : Flts w v l) : Calls Tryd.prog 32 #[v] w fun e w' => e = .returned (.float .f64 (minF l)) ∧ w = w' := by
  have H1 := Lib.hid (inf_any w)
  have H2 := Lib.hid (best_any INF (by decide) v l (-1) w hl)
  have HE : Hid (minF l = pickF (-1) INF l) := rfl
  clear hl
  generalize pickF (-1) INF l = r at *
  go_enter Tryd.func32, Tryd.ntmps32
  go_wp2_with fail
  refine H1.out.mono ?_
  rintro e w1 ⟨rfl, rfl⟩
  go_wp2_with fail
  refine H2.out.mono ?_
  rintro e w1 ⟨rfl, rfl⟩
  go_wp2
  go_ret
  exact ⟨by rw [HE.out]; rfl, rfl⟩
theorem rmax_any (v : Value) (l : List Nat) (w : World) (hl : Flts w v l) : Calls Tryd.prog 33 #[v] w fun e w' => e = .returned (.float .f64 (maxF l)) ∧ w = w' := by
  have H1 := Lib.hid (minf_any w)
  have H2 := Lib.hid (best_any (INF + B63) (by decide) v l 1 w hl)
  have HE : Hid (maxF l = pickF 1 (INF + B63) l) := rfl
  clear hl
  generalize pickF 1 (INF + B63) l = r at *
  go_enter Tryd.func33, Tryd.ntmps33
  go_wp2_with fail
  refine H1.out.mono ?_
  rintro e w1 ⟨rfl, rfl⟩
  go_wp2_with fail
  refine H2.out.mono ?_
  rintro e w1 ⟨rfl, rfl⟩
  go_wp2
  go_ret
  exact ⟨by rw [HE.out]; rfl, rfl⟩
end Go.Proofs.YtgpjipgbighplaaDoor
