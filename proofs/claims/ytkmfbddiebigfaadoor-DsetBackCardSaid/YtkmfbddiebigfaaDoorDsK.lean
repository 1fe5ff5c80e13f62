/-
  DsetBack's walk.
-/
import Derived.Test.YtkmfbddiebigfaaDoorDsI
namespace Go.Proofs.YtkmfbddiebigfaaDoor
open Go.RowKit Go.Shoal

theorem bits_rise (s : Nat) {j : Nat} (h : j + 1 < (bitsOf s).length) : (bitsOf s).getD j 0 < (bitsOf s).getD (j + 1) 0 := by
  have hp := bitsFrom_rise s 64 0
  unfold bitsOf at h ⊢
  rw [List.getD_eq_getElem?_getD, List.getD_eq_getElem?_getD, List.getElem?_eq_getElem h, List.getElem?_eq_getElem (show j < (bitsFrom s 0 64).length by omega)]
  exact List.pairwise_iff_getElem.1 hp j (j + 1) (by omega) h (by omega)
theorem less_self (s : Nat) (hs : s < 18446744073709551616) : lessOf s s = 0 := (less_zero hs hs).2 fun _ _ h => h
set_option maxHeartbeats 4000000 in
theorem back_any (s : Nat) (w : World) (hs : s < 18446744073709551616) (hT : Tab w) (hE : Errs w) :
    Calls Tryd.prog 6 #[.int .u64 s] w fun e w' => e = .returned (.bool true) ∧ Mod (fun _ => False) w w' := by
  have HA := Lib.hid (awake_any w hT hE)
  have HT : Hid (∀ W, Mod (fun _ => False) w W → Tab W) := fun W hW => hT.mod hW (fun h => h)
  have HE : Hid (∀ W, Mod (fun _ => False) w W → Errs W) := fun W hW => hE.mod hW
  have HL : Hid (∀ W, Mod (fun _ => False) w W → Calls Tryd.prog 22 #[.int .u64 s] W (NGave W (bitsOf s))) := fun W hW => list_any s W hs (HT.out W hW)
  have HS : Hid (∀ W, Mod (fun _ => False) w W → Calls Tryd.prog 23 #[.int .u64 s] W (Shown W s)) := fun W hW => show_any s W hs (HT.out W hW)
  have HP : Hid (∀ W, Mod (fun _ => False) w W → Calls Tryd.prog 9 #[.string (showS s)] W fun e w' => e = .returned (.tuple #[.int .u64 s, .bool true]) ∧ Mod (fun _ => False) W w') := fun W hW => by
    have hl : (showL s).length ≤ 100000 := by
      have h1 := joinL_len (bitsOf s) (bits_small s)
      have h2 := bitsOf_len s
      show (joinL (bitsOf s) ++ [125]).length + 1 ≤ _
      rw [List.length_append]
      show (joinL (bitsOf s)).length + 1 + 1 ≤ _
      omega
    have h := parse_any (showL s) hl W (HT.out W hW) (HE.out W hW)
    rw [parse_show s hs] at h
    exact h
  have HO : Hid (∀ W v, Ints W v ((bitsOf s).map fun k : Nat => (k : Int)) → Calls Tryd.prog 11 #[v] W fun e w' => e = .returned (.int .u64 (s : Int)) ∧ W = w') := fun W v hv => by
    have hb := bitsOf_len s
    have h := of_any v _ W hv (by rw [List.length_map]; omega)
    rw [setOf_bits s hs] at h
    exact h
  have HC : Hid (∀ W, Calls Tryd.prog 14 #[.int .u64 s] W fun e w' => e = .returned (.int .i64 ((bitsOf s).length : Int)) ∧ W = w') := fun W => count_any s W hs
  have HWI : Hid (∀ W, Calls Tryd.prog 15 #[.int .u64 s, .int .u64 s] W fun e w' => e = .returned (.bool true) ∧ W = w') := fun W => by
    have h := within_any s s W hs hs
    rw [less_self s hs, decide_eq_true rfl] at h
    exact h
  have HRI : Hid (∀ j, j + 1 < (bitsOf s).length → (bitsOf s).getD j 0 < (bitsOf s).getD (j + 1) 0) := fun j hj => bits_rise s hj
  have hl64 := bitsOf_len s
  generalize bitsOf s = l at *
  clear hT hE hs
  go_enter Tryd.func6, Tryd.ntmps6
  go_wp2_with fail
  refine HA.out.mono ?_
  rintro e w1 ⟨rfl, hm⟩
  have HM := Lib.hid hm
  have HL1 := Lib.hid (HL.out w1 hm)
  clear hm HA
  go_wp2_with fail
  refine HL1.out.mono ?_
  rintro e w2 ⟨v, rfl, hv, hm⟩
  have HV := Lib.hid hv
  have HM2 : Hid (Mod (fun _ => False) w w2) := HM.out.trans hm
  have HS2 := Lib.hid (HS.out w2 HM2.out)
  clear hv hm HL1 HL HM
  go_wp2_with fail
  refine HS2.out.mono ?_
  rintro e w3 ⟨rfl, hm⟩
  have HV3 : Hid (Nats w3 v l) := RowOf.mod HV.out hm (fun _ _ x => x)
  have HM3 : Hid (Mod (fun _ => False) w w3) := HM2.out.trans hm
  have HP3 := Lib.hid (HP.out w3 HM3.out)
  clear hm HS2 HS HM2 HV
  go_wp2_with fail
  refine HP3.out.mono ?_
  rintro e w4 ⟨rfl, hm⟩
  have HV4 : Hid (Nats w4 v l) := RowOf.mod HV3.out hm (fun _ _ x => x)
  have HM4 : Hid (Mod (fun _ => False) w w4) := HM3.out.trans hm
  clear hm HP3 HP HM3 HV3
  obtain ⟨A, c, rfl⟩ := RowOf.form HV4.out
  go_wp2
  go_loopw [7] (fun i wr => ∃ j : Nat, j ≤ l.length ∧ i = .int .i64 ((j : Int) + 1) ∧ Hid (∃ m, wr = w4.drewN m)) (fun i _ => l.length + 1 - (intOf i).toNat)
  case atStart => exact ⟨0, Nat.zero_le _, rfl, ⟨0, rfl⟩⟩
  case round =>
    obtain ⟨j, hj, rfl, hD⟩ := hrel
    obtain ⟨m, hm⟩ := hD.out
    by_cases hlt : j + 1 < l.length
    · have hN : Nats wr (.slice A l.length c) l := by rw [hm]; exact RowOf.mod HV4.out ((Mod.refl _ _).drewN m) (fun _ _ x => x)
      obtain ⟨b, o, rfl, _, k0⟩ := Nats.cell hN (show j < l.length by omega)
      obtain ⟨b', o', e, _, k1⟩ := Nats.cell hN hlt
      cases e
      have hr := HRI.out j hlt
      have hi : ((j : Int) + 1) < l.length := by omega
      have hi0 : (0 : Int) ≤ (j : Int) + 1 := by omega
      have hi1 : (j : Int) < l.length := by omega
      have hi2 : (0 : Int) ≤ (j : Int) := by omega
      have hjs : (j : Int) + 1 - 1 = (j : Int) := by omega
      have hjl : (j : Int) ≤ 64 := by omega
      have ht : decide (((l.getD (j + 1) 0 : Nat) : Int) ≤ ((l.getD j 0 : Nat) : Int)) = false := decide_eq_false (by omega)
      have ht' : decide ((l.getD (j + 1) 0 : Nat) ≤ (l.getD j 0 : Nat)) = false := decide_eq_false (by omega)
      have k1' : wr.cell? ⟨b, o + ((j : Int) + 1).toNat, none⟩ = some (.int .i64 ((l.getD (j + 1) 0 : Nat) : Int)) := by rw [show ((j : Int) + 1).toNat = j + 1 by omega]; exact k1
      have HW : Hid (∀ q, ∃ m, wr.drewN q = w4.drewN m) := fun q => ⟨m + q, by rw [hm, World.drewN_drewN]⟩
      clear hm hN hD
      generalize l.getD (j + 1) 0 = y at *
      generalize l.getD j 0 = x at *
      clear hr
      go_wp2_with fail
      go_quiet (fail)
      go_wp2
      go_roundw
      case rel => exact ⟨j + 1, by omega, by go_num, HW.out _⟩
      case measure => simp [intOf]; omega
    · have ht : decide ((j : Int) + 1 < (l.length : Int)) = false := decide_eq_false (by omega)
      have HMW : Hid (Mod (fun _ => False) w wr) := by
        show Mod _ _ _
        rw [hm]
        exact HM4.out.drewN m
      have HOW : Hid (Calls Tryd.prog 11 #[.slice A l.length c] wr fun e w' => e = .returned (.int .u64 (s : Int)) ∧ wr = w') := HO.out wr _ (by
        rw [hm]
        exact Nats.ints (RowOf.mod HV4.out ((Mod.refl _ _).drewN m) (fun _ _ x => x)))
      clear hm hD hlt hj HO HV4
      go_wp2_with fail
      refine HOW.out.mono ?_
      rintro e w5 ⟨rfl, rfl⟩
      go_wp2_with fail
      refine (HC.out _).mono ?_
      rintro e w5 ⟨rfl, rfl⟩
      go_wp2_with fail
      refine (HWI.out _).mono ?_
      rintro e w5 ⟨rfl, rfl⟩
      go_wp2
      go_ret
      exact ⟨rfl, HMW.out⟩
theorem back_walk (W : World) (hL : Tab W ∧ Errs W) (s : Int) (hs : (Lit.int .u64 s).wf = true) : Calls Tryd.prog 6 #[.int .u64 s] W fun e w' => e = .returned (.bool true) ∧ Below W.heap.size W w' := by
  obtain ⟨h1, h2⟩ := wf_u64 hs
  obtain ⟨s, rfl⟩ := Int.eq_ofNat_of_zero_le h1
  exact (back_any s W (by omega) hL.1 hL.2).mono fun _ _ ⟨x, y⟩ => ⟨x, y.none_below⟩
end Go.Proofs.YtkmfbddiebigfaaDoor
