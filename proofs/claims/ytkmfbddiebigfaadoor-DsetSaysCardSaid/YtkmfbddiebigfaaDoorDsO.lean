/-
  DsetSays: any set, any numbers, any text, against the reference.
-/
import Derived.Test.YtkmfbddiebigfaaDoorDsN
namespace Go.Proofs.YtkmfbddiebigfaaDoor
open Go.RowKit Go.Shoal

theorem bits_head (s : Nat) (hs : s < 18446744073709551616) (h0 : s ≠ 0) : 0 < (bitsOf s).length ∧ (bitsOf s).getD 0 0 = Lib.ctz 64 s := by
  rw [(bits_step s hs h0).1]
  exact ⟨Nat.succ_pos _, rfl⟩
abbrev ArgsS (s t : Nat) (v : Value) (p : Int) (T : List UInt8) : Array Value := #[.int .u64 s, .int .u64 t, v, .int .i64 p, .string ⟨T.toArray⟩]
set_option maxHeartbeats 4000000 in
theorem says_out (s t : Nat) (v : Value) (l : List Int) (p : Int) (T : List UInt8) (w : World) (h : Ints w v l) (hT : Tab w) (hE : Errs w) (hb : 80 < l.length ∨ 250 < T.length) :
    Calls Tryd.prog 4 #[.int .u64 s, .int .u64 t, v, .int .i64 p, .string ⟨T.toArray⟩] w fun e w' => e = .returned (.bool true) ∧ Mod (fun _ => False) w w' := by
  have HA := Lib.hid (awake_any w hT hE)
  obtain ⟨A0, c0, rfl, -⟩ := h
  clear hT hE
  have hsz : (⟨T.toArray⟩ : ByteArray).size = T.length := rfl
  by_cases h80 : 80 < l.length
  · have t80 : decide (80 < (l.length : Int)) = true := decide_eq_true (by omega)
    clear hb h80
    generalize (⟨T.toArray⟩ : ByteArray) = TB at *
    go_enter Tryd.func4, Tryd.ntmps4
    go_wp2_with fail
    refine HA.out.mono ?_
    rintro e w1 ⟨rfl, hm⟩
    have HM := Lib.hid hm
    clear hm
    go_wp2
    go_ret
    exact ⟨rfl, HM.out⟩
  · have t80 : decide (80 < (l.length : Int)) = false := decide_eq_false (by omega)
    have t250 : decide (250 < ((⟨T.toArray⟩ : ByteArray).size : Int)) = true := decide_eq_true (by omega)
    clear hb h80 hsz
    generalize (⟨T.toArray⟩ : ByteArray) = TB at *
    go_enter Tryd.func4, Tryd.ntmps4
    go_wp2_with fail
    refine HA.out.mono ?_
    rintro e w1 ⟨rfl, hm⟩
    have HM := Lib.hid hm
    clear hm
    go_wp2
    go_ret
    exact ⟨rfl, HM.out⟩
set_option maxRecDepth 100000 in
set_option maxHeartbeats 16000000 in
theorem says_in (s t : Nat) (v : Value) (l : List Int) (p : Int) (T : List UInt8) (w : World) (h : Ints w v l) (hT : Tab w) (hE : Errs w) (hs : s < 18446744073709551616) (ht : t < 18446744073709551616) (hl : l.length ≤ 80) (hl2 : T.length ≤ 250) :
    Calls Tryd.prog 4 #[.int .u64 s, .int .u64 t, v, .int .i64 p, .string ⟨T.toArray⟩] w fun e w' => e = .returned (.bool true) ∧ Mod (fun _ => False) w w' := by
  have HA := Lib.hid (awake_any w hT hE)
  have HT : Hid (∀ W, Mod (fun _ => False) w W → Tab W) := fun W hW => hT.mod hW (fun h => h)
  have HE : Hid (∀ W, Mod (fun _ => False) w W → Errs W) := fun W hW => hE.mod hW
  have HI := Lib.hid h
  obtain ⟨A0, c0, rfl, -⟩ := h
  have HOF : Hid (∀ W, Mod (fun _ => False) w W → Calls Tryd.prog 11 #[.slice A0 l.length c0] W fun e w' => e = .returned (.int .u64 ((setOf l : Nat) : Int)) ∧ W = w') := fun W hW => of_any _ l W (HI.out.mod hW (fun _ _ h => h)) (by omega)
  have HSO : Hid (∀ W, Mod (fun _ => False) w W → Calls Tryd.prog 18 #[.slice A0 l.length c0] W fun e w' => e = .returned (.int .u64 ((setOf l : Nat) : Int)) ∧ W = w') := fun W hW => rsetof_any _ l W (HI.out.mod hW (fun _ _ h => h)) (by omega)
  have HAL : Hid (∀ W, Calls Tryd.prog 12 #[.int .i64 p] W fun e w' => e = .returned (.int .u64 ((allOf p : Nat) : Int)) ∧ W = w') := fun W => all_any p W
  have HRA : Hid (∀ W, Calls Tryd.prog 19 #[.int .i64 p] W fun e w' => e = .returned (.int .u64 ((allOf p : Nat) : Int)) ∧ W = w') := fun W => rall_any p W
  have HHA : Hid (∀ W, Calls Tryd.prog 13 #[.int .u64 s, .int .i64 p] W fun e w' => e = .returned (.bool (inSet s p)) ∧ W = w') := fun W => has_any s p W hs
  have HRI : Hid (∀ W, Calls Tryd.prog 20 #[.int .u64 s, .int .i64 p] W fun e w' => e = .returned (.bool (inSet s p)) ∧ W = w') := fun W => rin_any s p W hs
  have HLI : Hid (∀ W, Mod (fun _ => False) w W → Calls Tryd.prog 22 #[.int .u64 s] W (NGave W (bitsOf s))) := fun W hW => list_any s W hs (HT.out W hW)
  have HRL : Hid (∀ W, Calls Tryd.prog 17 #[.int .u64 s] W (NGave W (bitsOf s))) := fun W => rlist_any s W hs
  have HIN : Hid (∀ W va vb, Nats W va (bitsOf s) → Nats W vb (bitsOf s) → Calls Tryd.prog 21 #[va, vb] W fun e w' => e = .returned (.bool true) ∧ ∃ n, w' = W.drewN n) := fun W va vb h1 h2 => by
    have hb := bitsOf_len s
    have h := ints_any va vb _ _ W h1.ints h2.ints (by rw [List.length_map]; omega)
    rw [decide_eq_true rfl] at h
    exact h
  have HCO : Hid (∀ W, Calls Tryd.prog 14 #[.int .u64 s] W fun e w' => e = .returned (.int .i64 ((bitsOf s).length : Int)) ∧ W = w') := fun W => count_any s W hs
  have HWI : Hid (∀ W, Calls Tryd.prog 15 #[.int .u64 s, .int .u64 t] W fun e w' => e = .returned (.bool (decide (lessOf s t = 0))) ∧ W = w') := fun W => within_any s t W hs ht
  have hwb := within_bits s t hs ht
  have HSH : Hid (∀ W, Mod (fun _ => False) w W → Calls Tryd.prog 23 #[.int .u64 s] W fun e w' => e = .returned (.string ⟨(showL s).toArray⟩) ∧ Mod (fun _ => False) W w') := fun W hW => show_any s W hs (HT.out W hW)
  have HRS : Hid (∀ W, Calls Tryd.prog 24 #[.int .u64 s] W fun e w' => e = .returned (.string ⟨(showL s).toArray⟩) ∧ Mod (fun _ => False) W w') := fun W => rshow_any s W hs
  have HPA : Hid (∀ W, Mod (fun _ => False) w W → Calls Tryd.prog 9 #[.string ⟨T.toArray⟩] W fun e w' => e = .returned (.tuple #[.int .u64 (((parseX T).1 : Nat) : Int), .bool (parseX T).2]) ∧ Mod (fun _ => False) W w') := fun W hW => parse_any T (by omega) W (HT.out W hW) (HE.out W hW)
  have HRP : Hid (∀ W, Calls Tryd.prog 16 #[.string ⟨T.toArray⟩] W fun e w' => e = .returned (.tuple #[.int .u64 ((pscan T : Nat) : Int), .bool (parseX T).2]) ∧ Mod (fun _ => False) W w') := fun W => by
    have h := rparse_any T (by omega) W
    rw [(parse_alike T).1] at h
    exact h
  have HPE : Hid ((parseX T).2 = true → pscan T = (parseX T).1) := (parse_alike T).2
  have HPN : Hid ((parseX T).2 = false → (parseX T).1 = 0) := parse_not T
  have HF0 : Hid (s = 0 → ∀ W, Mod (fun _ => False) w W → Calls Tryd.prog 10 #[.int .u64 s] W fun e w' => e = .returned (.tuple #[.int .i64 0, .bool false]) ∧ W = w') := fun h0 W hW => by
    have h := first_any s W hs (HT.out W hW)
    unfold firstOf at h
    rw [if_pos h0] at h
    exact h
  have HF1 : Hid (s ≠ 0 → ∀ W, Mod (fun _ => False) w W → Calls Tryd.prog 10 #[.int .u64 s] W fun e w' => e = .returned (.tuple #[.int .i64 (((bitsOf s).getD 0 0 : Nat) : Int), .bool true]) ∧ W = w') := fun h0 W hW => by
    have h := first_any s W hs (HT.out W hW)
    unfold firstOf at h
    rw [if_neg h0, ← (bits_head s hs h0).2] at h
    exact h
  have HB0 : Hid (s = 0 → bitsOf s = []) := fun h0 => by rw [h0]; rfl
  have HB1 : Hid (s ≠ 0 → 0 < (bitsOf s).length) := fun h0 => (bits_head s hs h0).1
  have t80 : decide (80 < (l.length : Int)) = false := decide_eq_false (by omega)
  have t250 : decide (250 < ((⟨T.toArray⟩ : ByteArray).size : Int)) = false := decide_eq_false (by show ¬ 250 < ((T.length : Nat) : Int); omega)
  generalize (⟨T.toArray⟩ : ByteArray) = TB at *
  generalize hbl : bitsOf s = L at *
  have hL64 : L.length ≤ 64 := by rw [← hbl]; exact bitsOf_len s
  generalize showL s = sx at *
  generalize setOf l = so at *
  generalize allOf p = ap at *
  generalize inSet s p = ip at *
  generalize decide (lessOf s t = 0) = wi at *
  generalize pscan T = ps at *
  generalize hPX : parseX T = PX at *
  obtain ⟨px, fine⟩ := PX
  clear hPX
  dsimp only at HPA HRP HPE HPN
  have e1 : (sx == sx) = true := beq_self_eq_true _
  have e2 : (ip == ip) = true := beq_self_eq_true _
  have e3 : (wi == wi) = true := beq_self_eq_true _
  clear hT hE hs ht hl hl2 HI hbl
  by_cases h0 : s = 0
  · obtain rfl := HB0.out h0
    have HFX := HF0.out h0
    clear h0 HB0 HB1 HF0 HF1
    have HFX := HFX
    cases fine with
    | true =>
      obtain rfl := HPE.out rfl
      clear HPE HPN
      go_enter Tryd.func4, Tryd.ntmps4
      go_wp2_with fail
      refine HA.out.mono ?_
      rintro e w1 ⟨rfl, hm⟩
      have HM := Lib.hid hm
      clear hm HA
      have HF := Lib.hid (HFX w1 HM.out)
      have HPA1 := Lib.hid (HPA.out w1 HM.out)
      go_wp2_with fail
      refine HF.out.mono ?_
      rintro e w2 ⟨rfl, rfl⟩
      go_wp2_with fail
      refine HPA1.out.mono ?_
      rintro e w2 ⟨rfl, hm⟩
      have HM2 : Hid (Mod (fun _ => False) w w2) := HM.out.trans hm
      clear hm HF HPA1 HM
      go_wp2_with fail
      refine (HRP.out _).mono ?_
      rintro e w3 ⟨rfl, hm⟩
      have HM3 : Hid (Mod (fun _ => False) w w3) := HM2.out.trans hm
      clear hm HM2
      go_wp2_with fail
      refine (HRL.out _).mono ?_
      rintro e w4 ⟨vw, rfl, hv, hm⟩
      have HM4 : Hid (Mod (fun _ => False) w w4) := HM3.out.trans hm
      have HV := Lib.hid hv
      obtain ⟨A1, c1, rfl⟩ := RowOf.form hv

      have HOF4 := Lib.hid (HOF.out w4 HM4.out)
      have HSO4 := Lib.hid (HSO.out w4 HM4.out)
      have HLI4 := Lib.hid (HLI.out w4 HM4.out)
      clear hv hm HM3
      go_wp2_with fail
      refine HOF4.out.mono ?_
      rintro e w5 ⟨rfl, rfl⟩
      go_wp2_with fail
      refine HSO4.out.mono ?_
      rintro e w5 ⟨rfl, rfl⟩
      go_wp2_with fail
      refine (HAL.out _).mono ?_
      rintro e w5 ⟨rfl, rfl⟩
      go_wp2_with fail
      refine (HRA.out _).mono ?_
      rintro e w5 ⟨rfl, rfl⟩
      go_wp2_with fail
      refine (HHA.out _).mono ?_
      rintro e w5 ⟨rfl, rfl⟩
      go_wp2_with fail
      refine (HRI.out _).mono ?_
      rintro e w5 ⟨rfl, rfl⟩
      go_wp2_with fail
      refine HLI4.out.mono ?_
      rintro e w5 ⟨vx, rfl, hv5, hm⟩
      have HM5 : Hid (Mod (fun _ => False) w w5) := HM4.out.trans hm
      have HIN5 := Lib.hid (HIN.out w5 _ _ hv5 (RowOf.mod HV.out hm (fun _ _ x => x)))
      clear hm hv5 HM4 HV HLI4 HOF4 HSO4
      go_wp2_with fail
      refine HIN5.out.mono ?_
      rintro e w6 ⟨rfl, n6, rfl⟩
      have HM6 : Hid (Mod (fun _ => False) w (w5.drewN n6)) := HM5.out.drewN n6
      clear HIN5 HM5
      generalize w5.drewN n6 = w6 at *
      have HSH6 := Lib.hid (HSH.out w6 HM6.out)
      go_wp2_with fail
      refine (HCO.out _).mono ?_
      rintro e w7 ⟨rfl, rfl⟩
      go_wp2_with fail
      refine (HWI.out _).mono ?_
      rintro e w7 ⟨rfl, rfl⟩
      go_wp2_with fail
      refine HSH6.out.mono ?_
      rintro e w7 ⟨rfl, hm⟩
      have HM7 : Hid (Mod (fun _ => False) w w7) := HM6.out.trans hm
      clear hm HSH6 HM6
      go_wp2_with fail
      refine (HRS.out _).mono ?_
      rintro e w8 ⟨rfl, hm⟩
      have HM8 : Hid (Mod (fun _ => False) w w8) := HM7.out.trans hm
      clear hm HM7
      go_wp2
      go_ret
      exact ⟨rfl, HM8.out⟩
    | false =>
      obtain rfl := HPN.out rfl
      clear HPE HPN
      go_enter Tryd.func4, Tryd.ntmps4
      go_wp2_with fail
      refine HA.out.mono ?_
      rintro e w1 ⟨rfl, hm⟩
      have HM := Lib.hid hm
      clear hm HA
      have HF := Lib.hid (HFX w1 HM.out)
      have HPA1 := Lib.hid (HPA.out w1 HM.out)
      go_wp2_with fail
      refine HF.out.mono ?_
      rintro e w2 ⟨rfl, rfl⟩
      go_wp2_with fail
      refine HPA1.out.mono ?_
      rintro e w2 ⟨rfl, hm⟩
      have HM2 : Hid (Mod (fun _ => False) w w2) := HM.out.trans hm
      clear hm HF HPA1 HM
      go_wp2_with fail
      refine (HRP.out _).mono ?_
      rintro e w3 ⟨rfl, hm⟩
      have HM3 : Hid (Mod (fun _ => False) w w3) := HM2.out.trans hm
      clear hm HM2
      go_wp2_with fail
      refine (HRL.out _).mono ?_
      rintro e w4 ⟨vw, rfl, hv, hm⟩
      have HM4 : Hid (Mod (fun _ => False) w w4) := HM3.out.trans hm
      have HV := Lib.hid hv
      obtain ⟨A1, c1, rfl⟩ := RowOf.form hv

      have HOF4 := Lib.hid (HOF.out w4 HM4.out)
      have HSO4 := Lib.hid (HSO.out w4 HM4.out)
      have HLI4 := Lib.hid (HLI.out w4 HM4.out)
      clear hv hm HM3
      go_wp2_with fail
      refine HOF4.out.mono ?_
      rintro e w5 ⟨rfl, rfl⟩
      go_wp2_with fail
      refine HSO4.out.mono ?_
      rintro e w5 ⟨rfl, rfl⟩
      go_wp2_with fail
      refine (HAL.out _).mono ?_
      rintro e w5 ⟨rfl, rfl⟩
      go_wp2_with fail
      refine (HRA.out _).mono ?_
      rintro e w5 ⟨rfl, rfl⟩
      go_wp2_with fail
      refine (HHA.out _).mono ?_
      rintro e w5 ⟨rfl, rfl⟩
      go_wp2_with fail
      refine (HRI.out _).mono ?_
      rintro e w5 ⟨rfl, rfl⟩
      go_wp2_with fail
      refine HLI4.out.mono ?_
      rintro e w5 ⟨vx, rfl, hv5, hm⟩
      have HM5 : Hid (Mod (fun _ => False) w w5) := HM4.out.trans hm
      have HIN5 := Lib.hid (HIN.out w5 _ _ hv5 (RowOf.mod HV.out hm (fun _ _ x => x)))
      clear hm hv5 HM4 HV HLI4 HOF4 HSO4
      go_wp2_with fail
      refine HIN5.out.mono ?_
      rintro e w6 ⟨rfl, n6, rfl⟩
      have HM6 : Hid (Mod (fun _ => False) w (w5.drewN n6)) := HM5.out.drewN n6
      clear HIN5 HM5
      generalize w5.drewN n6 = w6 at *
      have HSH6 := Lib.hid (HSH.out w6 HM6.out)
      go_wp2_with fail
      refine (HCO.out _).mono ?_
      rintro e w7 ⟨rfl, rfl⟩
      go_wp2_with fail
      refine (HWI.out _).mono ?_
      rintro e w7 ⟨rfl, rfl⟩
      go_wp2_with fail
      refine HSH6.out.mono ?_
      rintro e w7 ⟨rfl, hm⟩
      have HM7 : Hid (Mod (fun _ => False) w w7) := HM6.out.trans hm
      clear hm HSH6 HM6
      go_wp2_with fail
      refine (HRS.out _).mono ?_
      rintro e w8 ⟨rfl, hm⟩
      have HM8 : Hid (Mod (fun _ => False) w w8) := HM7.out.trans hm
      clear hm HM7
      go_wp2
      go_ret
      exact ⟨rfl, HM8.out⟩
  · have HB1N := HB1.out h0
    have HFX := HF1.out h0
    clear h0 HB0 HB1 HF0 HF1
    cases fine with
    | true =>
      obtain rfl := HPE.out rfl
      clear HPE HPN
      go_enter Tryd.func4, Tryd.ntmps4
      go_wp2_with fail
      refine HA.out.mono ?_
      rintro e w1 ⟨rfl, hm⟩
      have HM := Lib.hid hm
      clear hm HA
      have HF := Lib.hid (HFX w1 HM.out)
      have HPA1 := Lib.hid (HPA.out w1 HM.out)
      go_wp2_with fail
      refine HF.out.mono ?_
      rintro e w2 ⟨rfl, rfl⟩
      go_wp2_with fail
      refine HPA1.out.mono ?_
      rintro e w2 ⟨rfl, hm⟩
      have HM2 : Hid (Mod (fun _ => False) w w2) := HM.out.trans hm
      clear hm HF HPA1 HM
      go_wp2_with fail
      refine (HRP.out _).mono ?_
      rintro e w3 ⟨rfl, hm⟩
      have HM3 : Hid (Mod (fun _ => False) w w3) := HM2.out.trans hm
      clear hm HM2
      go_wp2_with fail
      refine (HRL.out _).mono ?_
      rintro e w4 ⟨vw, rfl, hv, hm⟩
      have HM4 : Hid (Mod (fun _ => False) w w4) := HM3.out.trans hm
      have HV := Lib.hid hv
      obtain ⟨A1, c1, rfl⟩ := RowOf.form hv

      obtain ⟨b, o, rfl, _, k0⟩ := Nats.cell hv (k := 0) HB1N
      rw [Nat.add_zero] at k0
      have tl : decide (0 < (L.length : Int)) = true := decide_eq_true (by omega)
      have tl' : decide (0 < L.length) = true := decide_eq_true HB1N

      have HOF4 := Lib.hid (HOF.out w4 HM4.out)
      have HSO4 := Lib.hid (HSO.out w4 HM4.out)
      have HLI4 := Lib.hid (HLI.out w4 HM4.out)
      clear hv hm HM3
      go_wp2_with fail
      refine HOF4.out.mono ?_
      rintro e w5 ⟨rfl, rfl⟩
      go_wp2_with fail
      refine HSO4.out.mono ?_
      rintro e w5 ⟨rfl, rfl⟩
      go_wp2_with fail
      refine (HAL.out _).mono ?_
      rintro e w5 ⟨rfl, rfl⟩
      go_wp2_with fail
      refine (HRA.out _).mono ?_
      rintro e w5 ⟨rfl, rfl⟩
      go_wp2_with fail
      refine (HHA.out _).mono ?_
      rintro e w5 ⟨rfl, rfl⟩
      go_wp2_with fail
      refine (HRI.out _).mono ?_
      rintro e w5 ⟨rfl, rfl⟩
      go_wp2_with fail
      refine HLI4.out.mono ?_
      rintro e w5 ⟨vx, rfl, hv5, hm⟩
      have HM5 : Hid (Mod (fun _ => False) w w5) := HM4.out.trans hm
      have HIN5 := Lib.hid (HIN.out w5 _ _ hv5 (RowOf.mod HV.out hm (fun _ _ x => x)))
      clear hm hv5 HM4 HV HLI4 HOF4 HSO4
      go_wp2_with fail
      refine HIN5.out.mono ?_
      rintro e w6 ⟨rfl, n6, rfl⟩
      have HM6 : Hid (Mod (fun _ => False) w (w5.drewN n6)) := HM5.out.drewN n6
      clear HIN5 HM5
      generalize w5.drewN n6 = w6 at *
      have HSH6 := Lib.hid (HSH.out w6 HM6.out)
      go_wp2_with fail
      refine (HCO.out _).mono ?_
      rintro e w7 ⟨rfl, rfl⟩
      go_wp2_with fail
      refine (HWI.out _).mono ?_
      rintro e w7 ⟨rfl, rfl⟩
      go_wp2_with fail
      refine HSH6.out.mono ?_
      rintro e w7 ⟨rfl, hm⟩
      have HM7 : Hid (Mod (fun _ => False) w w7) := HM6.out.trans hm
      clear hm HSH6 HM6
      go_wp2_with fail
      refine (HRS.out _).mono ?_
      rintro e w8 ⟨rfl, hm⟩
      have HM8 : Hid (Mod (fun _ => False) w w8) := HM7.out.trans hm
      clear hm HM7
      go_wp2
      go_ret
      exact ⟨rfl, HM8.out⟩
    | false =>
      obtain rfl := HPN.out rfl
      clear HPE HPN
      go_enter Tryd.func4, Tryd.ntmps4
      go_wp2_with fail
      refine HA.out.mono ?_
      rintro e w1 ⟨rfl, hm⟩
      have HM := Lib.hid hm
      clear hm HA
      have HF := Lib.hid (HFX w1 HM.out)
      have HPA1 := Lib.hid (HPA.out w1 HM.out)
      go_wp2_with fail
      refine HF.out.mono ?_
      rintro e w2 ⟨rfl, rfl⟩
      go_wp2_with fail
      refine HPA1.out.mono ?_
      rintro e w2 ⟨rfl, hm⟩
      have HM2 : Hid (Mod (fun _ => False) w w2) := HM.out.trans hm
      clear hm HF HPA1 HM
      go_wp2_with fail
      refine (HRP.out _).mono ?_
      rintro e w3 ⟨rfl, hm⟩
      have HM3 : Hid (Mod (fun _ => False) w w3) := HM2.out.trans hm
      clear hm HM2
      go_wp2_with fail
      refine (HRL.out _).mono ?_
      rintro e w4 ⟨vw, rfl, hv, hm⟩
      have HM4 : Hid (Mod (fun _ => False) w w4) := HM3.out.trans hm
      have HV := Lib.hid hv
      obtain ⟨A1, c1, rfl⟩ := RowOf.form hv

      obtain ⟨b, o, rfl, _, k0⟩ := Nats.cell hv (k := 0) HB1N
      rw [Nat.add_zero] at k0
      have tl : decide (0 < (L.length : Int)) = true := decide_eq_true (by omega)
      have tl' : decide (0 < L.length) = true := decide_eq_true HB1N

      have HOF4 := Lib.hid (HOF.out w4 HM4.out)
      have HSO4 := Lib.hid (HSO.out w4 HM4.out)
      have HLI4 := Lib.hid (HLI.out w4 HM4.out)
      clear hv hm HM3
      go_wp2_with fail
      refine HOF4.out.mono ?_
      rintro e w5 ⟨rfl, rfl⟩
      go_wp2_with fail
      refine HSO4.out.mono ?_
      rintro e w5 ⟨rfl, rfl⟩
      go_wp2_with fail
      refine (HAL.out _).mono ?_
      rintro e w5 ⟨rfl, rfl⟩
      go_wp2_with fail
      refine (HRA.out _).mono ?_
      rintro e w5 ⟨rfl, rfl⟩
      go_wp2_with fail
      refine (HHA.out _).mono ?_
      rintro e w5 ⟨rfl, rfl⟩
      go_wp2_with fail
      refine (HRI.out _).mono ?_
      rintro e w5 ⟨rfl, rfl⟩
      go_wp2_with fail
      refine HLI4.out.mono ?_
      rintro e w5 ⟨vx, rfl, hv5, hm⟩
      have HM5 : Hid (Mod (fun _ => False) w w5) := HM4.out.trans hm
      have HIN5 := Lib.hid (HIN.out w5 _ _ hv5 (RowOf.mod HV.out hm (fun _ _ x => x)))
      clear hm hv5 HM4 HV HLI4 HOF4 HSO4
      go_wp2_with fail
      refine HIN5.out.mono ?_
      rintro e w6 ⟨rfl, n6, rfl⟩
      have HM6 : Hid (Mod (fun _ => False) w (w5.drewN n6)) := HM5.out.drewN n6
      clear HIN5 HM5
      generalize w5.drewN n6 = w6 at *
      have HSH6 := Lib.hid (HSH.out w6 HM6.out)
      go_wp2_with fail
      refine (HCO.out _).mono ?_
      rintro e w7 ⟨rfl, rfl⟩
      go_wp2_with fail
      refine (HWI.out _).mono ?_
      rintro e w7 ⟨rfl, rfl⟩
      go_wp2_with fail
      refine HSH6.out.mono ?_
      rintro e w7 ⟨rfl, hm⟩
      have HM7 : Hid (Mod (fun _ => False) w w7) := HM6.out.trans hm
      clear hm HSH6 HM6
      go_wp2_with fail
      refine (HRS.out _).mono ?_
      rintro e w8 ⟨rfl, hm⟩
      have HM8 : Hid (Mod (fun _ => False) w w8) := HM7.out.trans hm
      clear hm HM7
      go_wp2
      go_ret
      exact ⟨rfl, HM8.out⟩
set_option maxRecDepth 100000 in
theorem says_walk {H : Type} {enc : TypeId × Value → H} {b0 : Nat} {d : DataW H} {ps : List MemPlace} (W : World) (hL : Tab W ∧ Errs W) (s : Int) (hs : (Lit.int .u64 s).wf = true) (t : Int) (ht : (Lit.int .u64 t).wf = true) (v : Value) (hok : Value.okWide Tryd.prog W .any b0 35 v)
    (h : DataW.Trod enc Tryd.prog W 0 (fun _ => true) true 35 v d ps) (p : Int) (_ : (Lit.int .i64 p).wf = true) (x : ByteArray) (_ : x.size ≤ maxLen) :
    Calls Tryd.prog 4 #[.int .u64 s, .int .u64 t, v, .int .i64 p, .string x] W fun e w' => e = .returned (.bool true) ∧ Below W.heap.size W w' := by
  obtain ⟨h1, h2⟩ := wf_u64 hs
  obtain ⟨h3, h4⟩ := wf_u64 ht
  obtain ⟨s, rfl⟩ := Int.eq_ofNat_of_zero_le h1
  obtain ⟨t, rfl⟩ := Int.eq_ofNat_of_zero_le h3
  obtain ⟨l, hz⟩ := open_nums (k := .i64) Tryd.underlying35 Tryd.underlying3 cellsInt hok h
  have hx : x = ⟨x.data.toList.toArray⟩ := by cases x; simp
  rw [hx]
  by_cases hb : 80 < l.length ∨ 250 < x.data.toList.length
  · exact (says_out s t v l p x.data.toList W (nums_ints hz) hL.1 hL.2 hb).mono fun _ _ ⟨x, y⟩ => ⟨x, y.none_below⟩
  · exact (says_in s t v l p x.data.toList W (nums_ints hz) hL.1 hL.2 (by omega) (by omega) (by omega) (by omega)).mono fun _ _ ⟨x, y⟩ => ⟨x, y.none_below⟩
end Go.Proofs.YtkmfbddiebigfaaDoor
