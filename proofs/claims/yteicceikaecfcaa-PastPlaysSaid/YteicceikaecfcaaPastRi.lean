/-
  PastPlays.
-/
import Derived.Test.YteicceikaecfcaaPastRh
import Derived.BigQuiet
import Derived.Deep.DeepCutAuto
import Derived.Deep.RegionHeld3
namespace Go.Proofs.Yteicceikaecfcaa
open Go.RowKit Go.Shoal Go.Maps

/-- While the acts run. -/
def PlyRel (w : World) (B R n k : Nat) (wr : World) : Prop := ∃ s r, Duo w B R s r wr ∧ s.n = n ∧ s.all.length ≤ k
theorem quiet_same {P : Program} {f : FuncId} {args : Array Value} {w : World} {n : Nat} {v : Value}
    (h : Calls P f args (w.drewN n) fun e w' => e = .returned v ∧ w.drewN n = w') : Calls P f args (w.drewN n) fun e w'' => e = .returned v ∧ ∃ m, w'' = w.drewN m :=
  h.mono fun _ _ ⟨he, hm⟩ => ⟨he, n, hm.symm⟩
theorem andnot_bits (s t : Nat) (hs : s < 18446744073709551616) (ht : t < 18446744073709551616) : (bits .andNot .u64 (s : Int) (t : Int) != 0) = !decide (lessOf s t = 0) := by
  rw [← within_bits s t hs ht]
  rfl
theorem Duo.got_le {w0 w : World} {B R : Nat} {s : Pa} {r : Re} (h : Duo w0 B R s r w) (q : Nat) : (s.got q).length ≤ 1000 := by
  have := h.lv.at'.got_le q
  unfold Pa.names at this
  rwa [List.length_map] at this
/-- A message's cells in the reference, wherever nothing turned. -/
theorem rat_cells {w : World} {R : Nat} {r : Re} {s : Pa} (h : RAt w R r s) {k : Nat} {m : Ms} (hk : s.all[k]? = some m) :
    ∃ b o cap, r.mv = .slice (some ⟨b, o, none⟩) s.all.length cap ∧ ∀ W, Mod (fun _ => False) w W → W.cell? ⟨R, 1, none⟩ = some (.slice (some ⟨b, o, none⟩) s.all.length cap) ∧ W.cell? ⟨b, o + k * 4, none⟩ = some (.int .i64 (m.frm : Int)) ∧ W.cell? ⟨b, o + k * 4 + 1, none⟩ = some (.int .u64 (m.num : Int)) ∧ W.cell? ⟨b, o + k * 4 + 2, none⟩ = some (.int .u64 (m.to : Int)) := by
  obtain ⟨b, o, cap, v, e, _⟩ := h.elem hk
  refine ⟨b, o, cap, e, fun W hm => ?_⟩
  obtain ⟨_, d1, _, _⟩ := (h.same hm).cells
  obtain ⟨b', o', cap', v', e', c0, c1, c2, _⟩ := (h.same hm).elem hk
  rw [e] at d1 e'
  cases e'
  exact ⟨d1, c0, c1, c2⟩
/-- Take on the reference's side; what else is kept. -/
theorem duo_rtake2 {w0 w : World} {B R : Nat} {s : Pa} {r : Re} {m : Ms} {k p : Nat} {v : Value} (hl : Lives w0 B (s.took m k p v) w) (hr : RAt w R r s) (ab : ∀ b, RMut R r b → w0.heap.size ≤ b) (ok : s.Ok) (hp : p < s.n) (hk : s.all[k]? = some m) (hg : (s.got p).length ≤ 1000) (ho : s.open m k p = true) (hlen : s.all.length < 1000) :
    Calls Try.prog 25 #[.pointer (some ⟨R, 0, none⟩), .int .i64 p, .int .i64 k] w fun e w' => e = .returned (.bool true) ∧ (∃ r', Duo w0 B R (s.took m k p v) r' w') ∧ ∀ q cs ty, Held q (.cells cs ty (0, 0)) B (s.took m k p v) w → ¬ RefT ty → Held q (.cells cs ty (0, 0)) B (s.took m k p v) w' :=
  (rtake_yes R r s p k m v w hr ok hp hk hg ho hlen).mono fun _ _ ⟨he, r', h1, h2, h3⟩ => ⟨he, ⟨r', hl.other h2 (mut_far hl hr) ab, h1, fun b hb => ab b (h3 b hb)⟩, fun _ _ _ hq ht => ⟨mut_keep hr h2 hq.here ht, hq.away⟩⟩
theorem three_of {B xb ib : Nat} {s s' : Pa} {w : World} {a b c d f g : Value} {t1 t2 : Nat} (hx : Held xb (.cells #[a, b, c, d] t1 (0, 0)) B s w) (hi : Held ib (.cells #[f, g] t2 (0, 0)) B s' w) :
    w.cell? ⟨xb, 1, none⟩ = some b ∧ w.cell? ⟨ib, 0, none⟩ = some f ∧ w.cell? ⟨ib, 1, none⟩ = some g := ⟨(four_cells hx.here).2.1, (two_cells hi.here).1, (two_cells hi.here).2⟩
/-- While the law looks. -/
structure Lu (w : World) (B R : Nat) (s : Pa) (r : Re) (A : Option Addr) (c : Nat) (wr : World) : Prop where
  duo : Duo w B R s r wr
  nm : Names wr (.slice A s.all.length c) s.allNames
section
variable {w wr w' : World} {B R c : Nat} {s : Pa} {r : Re} {A : Option Addr}
theorem Lu.quiet (h : Lu w B R s r A c wr) (hm : Mod (fun _ => False) wr w') : Lu w B R s r A c w' := ⟨h.duo.quiet hm, h.nm.quiet hm⟩
theorem Lu.cells (h : Lu w B R s r A c wr) {i : Nat} {m : Ms} (hi : s.all[i]? = some m) :
    ∃ b o, A = some ⟨b, o, none⟩ ∧ ∀ W, Mod (fun _ => False) wr W → W.cell? ⟨b, o + i * 2, none⟩ = some (.int .i64 (m.frm : Int)) ∧ W.cell? ⟨b, o + i * 2 + 1, none⟩ = some (.int .u64 (m.num : Int)) := by
  have hn : s.allNames[i]? = some (m.frm, m.num) := by unfold Pa.allNames; rw [List.getElem?_map, hi]; rfl
  have hnl : s.allNames.length = s.all.length := List.length_map ..
  obtain ⟨b, o, cap, he, hb, c0, c1⟩ := h.nm.elem hn
  rw [hnl] at he
  cases he
  refine ⟨b, o, rfl, fun W hm => ?_⟩
  obtain ⟨b', o', cap', he, hb', c0', c1'⟩ := (h.nm.quiet hm).elem hn
  rw [hnl] at he
  cases he
  exact ⟨c0', c1'⟩
theorem Lu.to (h : Lu w B R s r A c wr) (i : Nat) (m : Ms) (hi : s.all[i]? = some m) : ∀ W, Mod (fun _ => False) wr W → Calls Try.prog 18 #[.pointer (some ⟨B, 0, none⟩), .agg #[.int .i64 (m.frm : Int), .int .u64 (m.num : Int)]] W fun e w' => e = .returned (.int .u64 (m.to : Int)) ∧ Mod (fun _ => False) wr w' := fun W hm =>
  (to_at B s i m W (h.quiet hm).duo.lv.at' hi).mono fun _ _ ⟨h1, h2⟩ => ⟨h1, hm.trans h2⟩
theorem Lu.ahead (h : Lu w B R s r A c wr) (i k : Nat) (m m' : Ms) (hi : s.all[i]? = some m) (hk : s.all[k]? = some m') (x : Bool) (hx : m'.ahead i = x) :
    ∀ W, Mod (fun _ => False) wr W → Calls Try.prog 13 #[.pointer (some ⟨B, 0, none⟩), .agg #[.int .i64 (m.frm : Int), .int .u64 (m.num : Int)], .agg #[.int .i64 (m'.frm : Int), .int .u64 (m'.num : Int)]] W fun e w' => e = .returned (.bool x) ∧ Mod (fun _ => False) wr w' := fun W hm => by
  subst hx
  exact (ahead_at B s i k m m' W (h.quiet hm).duo.lv.at' hi hk).mono fun _ _ ⟨h1, h2⟩ => ⟨h1, hm.trans h2⟩
theorem Lu.before (h : Lu w B R s r A c wr) (i k : Nat) (m' : Ms) (hk : s.all[k]? = some m') (x : Bool) (hx : m'.ahead i = x) :
    ∀ W, Mod (fun _ => False) wr W → Calls Try.prog 26 #[.pointer (some ⟨R, 0, none⟩), .int .i64 i, .int .i64 k] W fun e w' => e = .returned (.bool x) ∧ W = w' := fun W hm => by
  subst hx
  exact rbefore_any R r s i k m' W (h.quiet hm).duo.rf hk (h.duo.lv.at'.ok.alt k m' i hk) h.duo.lv.at'.ok.len
theorem nameAt_of {l : List Ms} {k : Nat} {m : Ms} (h : l[k]? = some m) : nameAt l k = (m.frm, m.num) := by
  unfold nameAt
  rw [List.getD_eq_getElem?_getD, h]
  rfl
end
set_option maxRecDepth 100000 in
set_option maxHeartbeats 64000000 in
theorem plays_in (n : Nat) (v : Value) (l : List ActP) (w : World) (hz : ActsP w v l) (h1 : 1 ≤ n) (h2 : n ≤ 16) (hl : l.length ≤ 40) :
    Calls Try.prog 7 #[.int .i64 n, v] w fun e w' => e = .returned (.bool true) ∧ Below w.heap.size w w' := by
  obtain ⟨A, c, rfl, hlm, hfit, hcs⟩ := hz
  have HA := Lib.hid (awake_any w)
  have HF := Lib.hid hfit
  have HCS := Lib.hid hcs
  have tl : decide (40 < (l.length : Int)) = false := decide_eq_false (by omega)
  have tn1 : decide ((n : Int) < 1) = false := decide_eq_false (by omega)
  have tn2 : decide (16 < (n : Int)) = false := decide_eq_false (by omega)
  have H16 := Lib.hid h2
  clear hfit hcs hlm
  go_enter Try.func7, Try.ntmps7
  go_wp2_with fail
  refine HA.out.mono ?_
  rintro e w1 ⟨rfl, hb⟩
  have HB1 := Lib.hid hb
  have HN := Lib.hid (lives_new n w1 h1 h2)
  clear hb HA
  go_wp2_with fail
  refine HN.out.mono ?_
  rintro e w2 ⟨B, kB, cB, tB, hB, kb, rfl, hL⟩
  have HLV := Lib.hid (hL.base HB1.out)
  have HRN := Lib.hid (rnew_any n (Pa.born n kB cB tB hB kb) w2 h2 rfl rfl rfl rfl)
  clear hL HN HB1
  go_wp2_with fail
  refine HRN.out.mono ?_
  rintro e w3 ⟨R, r0, rfl, hra, hm3, hab⟩
  have H0 : Hid (PlyRel w B R n 0 w3) := ⟨_, r0, ⟨HLV.out.quiet hm3, hra, fun b hb => Nat.le_trans HLV.out.low.size (hab b hb)⟩, rfl, Nat.le_refl _⟩
  clear hra hm3 hab HRN HLV h1 h2
  go_wp2
  go_loopw [8] (fun i wr => ∃ k : Nat, k ≤ l.length ∧ i = .int .i64 k ∧ Hid (PlyRel w B R n k wr)) (fun i _ => l.length - (intOf i).toNat)
  case atStart => exact ⟨0, Nat.zero_le _, rfl, H0⟩
  case round =>
    obtain ⟨k, hk, rfl, hR⟩ := hrel
    obtain ⟨s, r, hD, hsn, hsl⟩ := hR.out
    clear hR
    by_cases hlt : k < l.length
    · obtain ⟨b, o, rfl, hbz, hcell⟩ := ElemsIn.cell HCS.out hD.lv.low k hlt
      have hft := HF.out k hlt
      have hi0 : (0 : Int) ≤ (k : Int) := by omega
      have hi1 : (k : Int) < (l.length : Int) := by omega
      have tk : decide (k < l.length) = true := decide_eq_true hlt
      have hkb : (k : Int) < 40 := by omega
      generalize l.getD k default = x at hcell hft
      obtain ⟨op, px, kx, t⟩ := x
      have k0 : wr.cell? ⟨b, o + k * 4, none⟩ = some (.int .i64 op) := hcell 0 _ rfl
      have k1 : wr.cell? ⟨b, o + k * 4 + 1, none⟩ = some (.int .i64 px) := hcell 1 _ rfl
      have k2 : wr.cell? ⟨b, o + k * 4 + 2, none⟩ = some (.int .i64 kx) := hcell 2 _ rfl
      have k3 : wr.cell? ⟨b, o + k * 4 + 3, none⟩ = some (.int .u64 (t : Int)) := hcell 3 _ rfl
      have hft : t < 18446744073709551616 := hft
      have HFT := Lib.hid hft
      have hXN := Held.new hD.lv (.cells #[.int .i64 op, .int .i64 px, .int .i64 kx, .int .u64 (t : Int)] 32)
      have hDX := hD.quiet (((Mod.refl (fun _ => False) wr).alloc (.cells #[.int .i64 op, .int .i64 px, .int .i64 kx, .int .u64 (t : Int)] 32)))
      have HXN := Lib.hid hXN
      have HDX := Lib.hid hDX
      have HSN := Lib.hid hsn
      obtain ⟨q0, q1, q2, q3⟩ := four_cells hXN.here
      have hsl40 : (s.all.length : Int) ≤ 40 := by omega
      have HSL : Hid (s.all.length ≤ k) := hsl
      have HKL : Hid (k < l.length) := hlt
      have hs9 : s.all.length < 1000 := by omega
      have htz : (0 : Int) ≤ (t : Int) := by omega
      clear hcell hft hD hbz hXN hDX hsl hsn hlt
      cases hop : (op == 0)
      · skip
        as_aux_lemma =>
          have HRu : Hid (∀ q, PlyRel w B R n (k + 1) ((wr.alloc (.cells #[.int .i64 op, .int .i64 px, .int .i64 kx, .int .u64 (t : Int)] 32)).drewN q)) := fun q => ⟨s, r, HDX.out.quiet ((Mod.refl _ _).drewN q), HSN.out, by have := HSL.out; omega⟩
          by_cases hA : 0 ≤ px
          · by_cases hB : px < (n : Int)
            · by_cases hC : 0 ≤ kx
              · by_cases hD : kx < (s.all.length : Int)
                · skip
                  obtain ⟨p, rfl⟩ : ∃ p : Nat, px = p := ⟨px.toNat, by omega⟩
                  obtain ⟨j, rfl⟩ : ∃ j : Nat, kx = j := ⟨kx.toNat, by omega⟩
                  obtain ⟨m, hm, _⟩ := get_name (s := s) (k := j) (by omega)
                  have HM := Lib.hid hm
                  have HPN : Hid (p < s.n) := by have e2 := HSN.out; show _ < _; omega
                  have a1 : decide (0 ≤ (p : Int)) = true := decide_eq_true (by omega)
                  have a2 : decide (p < n) = true := decide_eq_true (by omega)
                  have a3 : decide ((p : Int) < (n : Int)) = true := decide_eq_true (by omega)
                  have a4 : decide (0 ≤ (j : Int)) = true := decide_eq_true (by omega)
                  have a5 : decide (j < s.all.length) = true := decide_eq_true (by omega)
                  have a6 : decide ((j : Int) < (s.all.length : Int)) = true := decide_eq_true (by omega)
                  have j0 : (0 : Int) ≤ (j : Int) := by omega
                  have j1 : (j : Int) < (s.all.length : Int) := by omega
                  have j2 : j < s.all.length := by omega
                  obtain ⟨b7, o7, cap7, hmv, hrc⟩ := rat_cells HDX.out.rf hm
                  obtain ⟨d1, e0, e1, e2⟩ := hrc _ (Mod.refl _ _)
                  have HRC := Lib.hid hrc
                  clear hm hrc hmv hA hB hC hD HRu
                  go_wp2_with fail
                  go_quiet (fail)
                  have HD6 := Lib.hid (HDX.out.quiet ((Mod.refl (fun _ => False) _).drewN nq))
                  have HX6 := Lib.hid (HXN.out.quiet ((Mod.refl (fun _ => False) _).drewN nq))
                  have HRC6 : Hid (∀ W, Mod (fun _ => False) (World.drewN (wr.alloc (.cells #[.int .i64 op, .int .i64 (p : Int), .int .i64 (j : Int), .int .u64 (t : Int)] 32)) nq) W → _) := fun W hW => HRC.out W (((Mod.refl _ _).drewN nq).trans hW)
                  have HZ6 : Hid ((World.drewN (wr.alloc (.cells #[.int .i64 op, .int .i64 (p : Int), .int .i64 (j : Int), .int .u64 (t : Int)] 32)) nq).heap.size = wr.heap.size + 1) := by show _ = _; simp
                  clear HRC HDX HXN d1 e0 e1 e2 k0 k1 k2 k3
                  generalize World.drewN (wr.alloc (.cells #[.int .i64 op, .int .i64 (p : Int), .int .i64 (j : Int), .int .u64 (t : Int)] 32)) nq = wX at *
                  generalize wr.heap.size = xb at *
                  obtain ⟨q0, q1, q2, q3⟩ := four_cells HX6.out.here
                  obtain ⟨d1, e0, e1, e2⟩ := HRC6.out wX (Mod.refl _ _)
                  as_aux_lemma =>
                    go_wp2_with fail
                    have HK28 : Hid (∀ W, Mod (fun _ => False) wX W → W.cell? ⟨R, 1, none⟩ = some (.slice (some ⟨b7, o7, none⟩) s.all.length cap7) ∧ W.cell? ⟨b7, o7 + j * 4, none⟩ = some (.int .i64 (m.frm : Int)) ∧ W.cell? ⟨b7, o7 + j * 4 + 1, none⟩ = some (.int .u64 (m.num : Int)) ∧ Mod (fun _ => False) wX W) := fun W hW => ⟨(HRC6.out W hW).1, (HRC6.out W hW).2.1, (HRC6.out W hW).2.2.1, hW⟩
                    go_region_held3 (fun W => W.cell? ⟨R, 1, none⟩ = some (.slice (some ⟨b7, o7, none⟩) s.all.length cap7) ∧ W.cell? ⟨b7, o7 + j * 4, none⟩ = some (.int .i64 (m.frm : Int)) ∧ W.cell? ⟨b7, o7 + j * 4 + 1, none⟩ = some (.int .u64 (m.num : Int)) ∧ Mod (fun _ => False) wX W) (first | assumption | exact HK28.out _ (Mod.refl _ _) | exact HK28.out _ (Mod.refl _ _).drew | exact HK28.out _ ((Mod.refl _ _).alloc _) | exact HK28.out _ ((Mod.refl _ _).drew.alloc _)) (first | fail)
                    have HDd := Lib.hid (((HD6.out.quiet ((Mod.refl _ _).alloc (.cells #[.int .i64 (m.frm : Int), .int .u64 (m.num : Int)] 34))).quiet (Mod.refl _ _).drew).quiet (Mod.refl _ _).drew)
                    have HXd := Lib.hid ((HX6.out.alloc (.cells #[.int .i64 (m.frm : Int), .int .u64 (m.num : Int)] 34)).drew.drew)
                    have HId := Lib.hid ((Held.new HD6.out.lv (.cells #[.int .i64 (m.frm : Int), .int .u64 (m.num : Int)] 34)).drew.drew)
                    have HAB : Hid (∀ b, RMut R r b → w.heap.size ≤ b) := HD6.out.ab
                    have HOK := Lib.hid HD6.out.lv.at'.ok
                    have HGL := Lib.hid (HD6.out.got_le p)
                    rename_i hHz
                    clear hHz HK28 HD6 HX6 HRC6 d1 e0 e1 e2 q0 q1 q2 q3 HZ6
                    generalize World.drew (wX.alloc (.cells #[.int .i64 (m.frm : Int), .int .u64 (m.num : Int)] 34)) = wY at *
                    generalize wX.heap.size = ib at *
                    have HC1 := Lib.hid (can_any B s p j m wY.drew HDd.out.lv.at' HPN.out HM.out)
                    have tc : (s.can m j p != s.can m j p) = false := by simp
                    cases ho : s.open m j p
                    · have HO := Lib.hid ho
                      clear ho
                      as_aux_lemma =>
                        go_wp2_with fail
                        go_region_held3 (fun W => W.cell? ⟨xb, 1, none⟩ = some (.int .i64 (p : Int)) ∧ W.cell? ⟨ib, 0, none⟩ = some (.int .i64 (m.frm : Int)) ∧ W.cell? ⟨ib, 1, none⟩ = some (.int .u64 (m.num : Int))) (first | assumption | exact three_of HXd.out HId.out | exact three_of HX8.out HI8.out | exact three_of HX9.out HI9.out | exact three_of HXz.out HIz.out) (first | (go_at_call 15; refine HC1.out.mono ?_; rintro e w5 ⟨rfl, hm5⟩; have HD8 := Lib.hid (HDd.out.quiet hm5); have HX8 := Lib.hid (HXd.out.quiet hm5); have HI8 := Lib.hid (HId.out.quiet hm5); clear hm5) | (go_at_call 24; refine (rcan_any R r s p j m _ HD8.out.rf HOK.out HPN.out HM.out HGL.out).mono ?_; rintro e w6 ⟨rfl, rfl⟩) | (go_at_call 12; refine (take_not B s p j m _ HD8.out.lv.at' HPN.out HM.out HO.out).mono ?_; rintro e w7 ⟨rfl, hm7⟩; have HDz := Lib.hid (HD8.out.quiet hm7); have HX9 := Lib.hid (HX8.out.quiet hm7); have HI9 := Lib.hid (HI8.out.quiet hm7); clear hm7) | (go_at_call 25; refine (rtake_not R r s p j m _ HDz.out.rf HOK.out HPN.out HM.out HGL.out HO.out).mono ?_; rintro e w8 ⟨rfl, rfl⟩))
                        have HRz : Hid (PlyRel w B R n (k + 1) _) := ⟨s, r, HDz.out, HSN.out, by have := HSL.out; omega⟩
                        clear HDz HX9 HI9 HD8 HX8 HI8 HXd HId HDd HC1
                        go_wp2
                        go_roundw
                        case rel => exact ⟨k + 1, by omega, by go_num, HRz⟩
                        case measure => simp [intOf]; omega
                    · have HO := Lib.hid ho
                      clear ho
                      as_aux_lemma =>
                        go_wp2_with fail
                        go_region_held3 (fun W => W.cell? ⟨xb, 1, none⟩ = some (.int .i64 (p : Int)) ∧ W.cell? ⟨ib, 0, none⟩ = some (.int .i64 (m.frm : Int)) ∧ W.cell? ⟨ib, 1, none⟩ = some (.int .u64 (m.num : Int))) (first | assumption | exact three_of HXd.out HId.out | exact three_of HX8.out HI8.out | exact three_of HX9.out HI9.out | exact three_of HXz.out HIz.out) (first | (go_at_call 15; refine HC1.out.mono ?_; rintro e w5 ⟨rfl, hm5⟩; have HD8 := Lib.hid (HDd.out.quiet hm5); have HX8 := Lib.hid (HXd.out.quiet hm5); have HI8 := Lib.hid (HId.out.quiet hm5); clear hm5) | (go_at_call 24; refine (rcan_any R r s p j m _ HD8.out.rf HOK.out HPN.out HM.out HGL.out).mono ?_; rintro e w6 ⟨rfl, rfl⟩) | (go_at_call 12; refine (duo_ptake HD8.out p j m HPN.out HM.out HO.out).mono ?_; rintro e w7 ⟨v, rfl, hlv, hra, hheld⟩; have HL9 := Lib.hid hlv; have HR9 := Lib.hid hra; have HX9 := Lib.hid (hheld _ _ HX8.out); have HI9 := Lib.hid (hheld _ _ HI8.out); clear hlv hra hheld) | (go_at_call 25; refine (duo_rtake2 HL9.out HR9.out HAB.out HOK.out HPN.out HM.out HGL.out HO.out hs9).mono ?_; rintro e w8 ⟨rfl, ⟨r2, hD2⟩, hk2⟩; have HDz := Lib.hid hD2; have HXz := Lib.hid (hk2 _ _ _ HX9.out (by unfold RefT; decide)); have HIz := Lib.hid (hk2 _ _ _ HI9.out (by unfold RefT; decide)); clear hD2 hk2))
                        have HRz : Hid (PlyRel w B R n (k + 1) _) := ⟨_, r2, HDz.out, HSN.out, by have := HSL.out; show s.all.length ≤ _; omega⟩
                        clear HDz HX9 HI9 HD8 HX8 HI8 HXz HIz HXd HId HDd HC1 HL9 HR9
                        go_wp2
                        go_roundw
                        case rel => exact ⟨k + 1, by omega, by go_num, HRz⟩
                        case measure => simp [intOf]; omega
                · skip
                  have t0 : decide (0 ≤ px) = true := decide_eq_true hA
                  have t1 : decide (px < (n : Int)) = true := decide_eq_true hB
                  have t2 : decide (0 ≤ kx) = true := decide_eq_true hC
                  have t3 : decide (kx < (s.all.length : Int)) = false := decide_eq_false hD
                  obtain ⟨A7, c7, hmv⟩ := HDX.out.rf.form
                  obtain ⟨_, d1, _, _⟩ := HDX.out.rf.cells
                  rw [hmv] at d1
                  clear HXN HDX
                  go_wp2_with fail
                  go_quiet (fail)
                  go_wp2
                  go_roundw
                  case rel => exact ⟨k + 1, by omega, by go_num, HRu.out _⟩
                  case measure => simp [intOf]; omega
              · skip
                have t0 : decide (0 ≤ px) = true := decide_eq_true hA
                have t1 : decide (px < (n : Int)) = true := decide_eq_true hB
                have t2 : decide (0 ≤ kx) = false := decide_eq_false hC
                clear HXN HDX
                go_wp2_with fail
                go_quiet (fail)
                go_wp2
                go_roundw
                case rel => exact ⟨k + 1, by omega, by go_num, HRu.out _⟩
                case measure => simp [intOf]; omega
            · skip
              have t0 : decide (0 ≤ px) = true := decide_eq_true hA
              have t1 : decide (px < (n : Int)) = false := decide_eq_false hB
              clear HXN HDX
              go_wp2_with fail
              go_quiet (fail)
              go_wp2
              go_roundw
              case rel => exact ⟨k + 1, by omega, by go_num, HRu.out _⟩
              case measure => simp [intOf]; omega
          · skip
            have t0 : decide (0 ≤ px) = false := decide_eq_false hA
            clear HXN HDX
            go_wp2_with fail
            go_quiet (fail)
            go_wp2
            go_roundw
            case rel => exact ⟨k + 1, by omega, by go_num, HRu.out _⟩
            case measure => simp [intOf]; omega
      · clear q0
        cases hth : s.there px
        · skip
          as_aux_lemma =>
            have HS0 := Lib.hid (send_arg B s px t _ HDX.out.lv.at' hth)
            have HS : Hid (Calls Try.prog 11 #[.pointer (some ⟨B, 0, none⟩), .int .i64 px, .int .u64 t] (wr.alloc (.cells #[.int .i64 op, .int .i64 px, .int .i64 kx, .int .u64 (t : Int)] 32)) (Told (wr.alloc (.cells #[.int .i64 op, .int .i64 px, .int .i64 kx, .int .u64 (t : Int)] 32)) (.tuple #[.agg #[.int .i64 0, .int .u64 0], .int .i64 1]))) := HS0.out
            have HTH : Hid (¬ (0 ≤ px ∧ px < (n : Int))) := fun ⟨ha, hb⟩ => by
              unfold Pa.there at hth
              have e := HSN.out
              rw [decide_eq_true ha, decide_eq_true (show px < (s.n : Int) by omega)] at hth
              cases hth
            clear HS0 hth
            go_wp2_with fail
            refine HS.out.mono ?_
            rintro e u ⟨rfl, hm⟩
            have HXu := Lib.hid ((HXN.out.quiet hm).alloc (.cells #[.int .i64 0, .int .u64 0] 34))
            have HRu : Hid (PlyRel w B R n (k + 1) (u.alloc (.cells #[.int .i64 0, .int .u64 0] 34))) := ⟨s, r, (HDX.out.quiet hm).quiet ((Mod.refl _ _).alloc _), HSN.out, by have := HSL.out; omega⟩
            obtain ⟨q0, q1, q2, q3⟩ := four_cells (HXN.out.quiet hm).here
            have hxl := (HXN.out.quiet hm).lt
            clear hm HS HXN HDX k0 k1 k2 k3 hop
            generalize wr.heap.size = xb at *
            by_cases hp0 : px < 0
            · have tp : decide (px < 0) = true := decide_eq_true hp0
              clear hp0
              go_wp2
              go_roundw
              case rel => exact ⟨k + 1, by omega, by go_num, HRu⟩
              case measure => simp [intOf]; omega
            · have tp : decide (px < 0) = false := decide_eq_false hp0
              have tp2 : decide ((n : Int) ≤ px) = true := decide_eq_true (by have := HTH.out; omega)
              clear hp0
              go_wp2
              go_roundw
              case rel => exact ⟨k + 1, by omega, by go_num, HRu⟩
              case measure => simp [intOf]; omega
        · obtain ⟨f, rfl⟩ : ∃ f : Nat, px = f := ⟨px.toNat, by unfold Pa.there at hth; simp at hth; omega⟩
          have hfn : f < n := by
            rw [Pa.there_nat] at hth
            have e1 := of_decide_eq_true hth
            have e2 := HSN.out
            omega
          have HFN : Hid (f < s.n) := by have e2 := HSN.out; show _ < _; omega
          have tp : decide ((f : Int) < 0) = false := decide_eq_false (by omega)
          have tp2 : decide (n ≤ f) = false := decide_eq_false (by omega)
          have tp3 : decide ((n : Int) ≤ (f : Int)) = false := decide_eq_false (by omega)
          clear hth
          have HQ1 : Hid (∀ W, Calls Try.prog 21 #[.int .i64 n] W fun e w' => e = .returned (.int .u64 ((allOf n : Nat) : Int)) ∧ W = w') := fun W => rall_any n W
          have HQ2 : Hid (∀ W, Calls Try.prog 22 #[.int .u64 t, .int .i64 f] W fun e w' => e = .returned (.bool (inSet t (f : Int))) ∧ W = w') := fun W => rin_any t f W HFT.out
          have hab := andnot_bits t (allOf n) HFT.out (allOf_lt _)
          have HGE : Hid (s.goodTo f t = (!(t == 0) && !inSet t (f : Int) && decide (lessOf t (allOf n) = 0))) := by
            show _ = _
            unfold Pa.goodTo
            rw [HSN.out]
          have haz : 0 ≤ ((allOf n : Nat) : Int) := by omega
          have HAL := Lib.hid (allOf_lt (n : Int))
          cases hg : s.goodTo f t
          · skip
            as_aux_lemma =>
              have HS0 := Lib.hid (send_bad B s f t _ HDX.out.lv.at' HFN.out HFT.out hg)
              have HS : Hid (Calls Try.prog 11 #[.pointer (some ⟨B, 0, none⟩), .int .i64 f, .int .u64 t] (wr.alloc (.cells #[.int .i64 op, .int .i64 (f : Int), .int .i64 kx, .int .u64 (t : Int)] 32)) (Told (wr.alloc (.cells #[.int .i64 op, .int .i64 (f : Int), .int .i64 kx, .int .u64 (t : Int)] 32)) (.tuple #[.agg #[.int .i64 0, .int .u64 0], .int .i64 4]))) := HS0.out
              have HBAD : Hid ((!(t == 0) && !inSet t (f : Int) && decide (lessOf t (allOf n) = 0)) = false) := by show _ = _; rw [← HGE.out]; exact hg
              clear HS0 hg HGE
              go_wp2_with fail
              refine HS.out.mono ?_
              rintro e u ⟨rfl, hm⟩
              have HXu := Lib.hid ((HXN.out.quiet hm).alloc (.cells #[.int .i64 0, .int .u64 0] 34))
              have HRu : Hid (∀ q, PlyRel w B R n (k + 1) ((u.alloc (.cells #[.int .i64 0, .int .u64 0] 34)).drewN q)) := fun q => ⟨s, r, ((HDX.out.quiet hm).quiet ((Mod.refl _ _).alloc _)).quiet ((Mod.refl _ _).drewN q), HSN.out, by have := HSL.out; omega⟩
              obtain ⟨q0, q1, q2, q3⟩ := four_cells (HXN.out.quiet hm).here
              have hxl := (HXN.out.quiet hm).lt
              clear hm HS HXN HDX k0 k1 k2 k3 hop
              generalize wr.heap.size = xb at *
              generalize allOf (n : Int) = an at *
              go_wp2_with fail
              by_cases ht0 : t = 0
              · have z1 : ((t : Int) == 0) = true := beq_iff_eq.2 (by omega)
                have z2 : (t == 0) = true := beq_iff_eq.2 ht0
                clear ht0 HBAD
                go_quiet (first | (go_at_call 21; exact quiet_same (HQ1.out _)) | (go_at_call 22; exact quiet_same (HQ2.out _)))
                go_wp2
                go_roundw
                case rel => exact ⟨k + 1, by omega, by go_num, HRu.out _⟩
                case measure => simp [intOf]; omega
              · have z1 : ((t : Int) == 0) = false := beq_eq_false_iff_ne.2 (by omega)
                have z2 : (t == 0) = false := beq_eq_false_iff_ne.2 ht0
                cases hx : decide (lessOf t an = 0)
                · rw [hx] at hab
                  have hab : (bits .andNot .u64 (t : Int) (an : Int) != 0) = true := hab
                  clear ht0 HBAD hx
                  go_quiet (first | (go_at_call 21; exact quiet_same (HQ1.out _)) | (go_at_call 22; exact quiet_same (HQ2.out _)))
                  go_wp2
                  go_roundw
                  case rel => exact ⟨k + 1, by omega, by go_num, HRu.out _⟩
                  case measure => simp [intOf]; omega
                · rw [hx] at hab
                  have hab : (bits .andNot .u64 (t : Int) (an : Int) != 0) = false := hab
                  have hin : inSet t (f : Int) = true := by
                    have hb := HBAD.out
                    rw [z2, hx] at hb
                    cases hy : inSet t (f : Int) with
                    | true => rfl
                    | false => rw [hy] at hb; cases hb
                  rw [hin] at HQ2
                  clear ht0 HBAD hx hin
                  go_quiet (first | (go_at_call 21; exact quiet_same (HQ1.out _)) | (go_at_call 22; exact quiet_same (HQ2.out _)))
                  go_wp2
                  go_roundw
                  case rel => exact ⟨k + 1, by omega, by go_num, HRu.out _⟩
                  case measure => simp [intOf]; omega
          · skip
            as_aux_lemma =>
              obtain ⟨⟨z2, hin⟩, hx⟩ : ((t == 0) = false ∧ inSet t (f : Int) = false) ∧ decide (lessOf t (allOf n) = 0) = true := by
                have he := HGE.out
                rw [hg] at he
                simpa using he.symm
              rw [hin] at HQ2
              rw [hx] at hab
              have hab : (bits .andNot .u64 (t : Int) ((allOf (n : Int) : Nat) : Int) != 0) = false := hab
              have hne : t ≠ 0 := beq_eq_false_iff_ne.1 z2
              have z1 : ((t : Int) == 0) = false := beq_eq_false_iff_ne.2 (by omega)
              have HS := Lib.hid (duo_psend HDX.out f t HFN.out HFT.out hg hs9)
              obtain ⟨N1, hN1⟩ : ∃ N1, N1 = cnt s.all f + 1 := ⟨_, rfl⟩
              rw [← hN1] at HS
              have HN1 := Lib.hid hN1
              have hn16 : s.n ≤ 16 := by rw [HSN.out]; exact H16.out
              have hsn : s.n = n := HSN.out
              clear hg HGE hin hx hne hN1
              go_wp2_with fail
              refine HS.out.mono ?_
              rintro e u ⟨M, av, rfl, hlv, hra, hheld⟩
              have hxu := hheld _ _ HXN.out
              have HL5 := Lib.hid (hlv.alloc (.cells #[.int .i64 (f : Int), .int .u64 (N1 : Int)] 34))
              have HR5 := Lib.hid (hra.same ((Mod.refl _ _).alloc (.cells #[.int .i64 (f : Int), .int .u64 (N1 : Int)] 34)))
              have HI5 := Lib.hid (Held.new hlv (.cells #[.int .i64 (f : Int), .int .u64 (N1 : Int)] 34))
              have HX5 := Lib.hid (hxu.alloc (.cells #[.int .i64 (f : Int), .int .u64 (N1 : Int)] 34))
              have HRS := Lib.hid (fun q => duo_rsend (f := f) (t := t) (M := M) (av := av) (HL5.out.quiet ((Mod.refl _ _).drewN q)) (HR5.out.same ((Mod.refl _ _).drewN q)) HDX.out.ab HFN.out hn16 hs9)
              obtain ⟨q0, q1, q2, q3⟩ := four_cells hxu.here
              have hxl := hxu.lt
              obtain ⟨L1, hL1⟩ : ∃ L1, L1 = (s.sent f t M av).all.length := ⟨_, rfl⟩
              have hL2 : L1 = s.all.length + 1 := by rw [hL1]; show (s.all ++ [_]).length = _; simp
              have HL1 := Lib.hid hL1
              have HL2 := Lib.hid hL2
              have hgt : (s.sent f t M av).all[s.all.length]? = some ⟨f, N1, t, s.knows f, M⟩ := by
                rw [HN1.out]
                show (s.all ++ [_])[s.all.length]? = some _
                simp
              have HGT := Lib.hid hgt
              clear hlv hra hheld hxu HS HXN HDX k0 k1 k2 k3 hop hL1 hL2 hgt hsn hn16 HL5 HR5
              generalize wr.heap.size = xb at *
              generalize allOf (n : Int) = an at *
              go_wp2_with fail
              go_quiet (first | (go_at_call 21; exact quiet_same (HQ1.out _)) | (go_at_call 22; exact quiet_same (HQ2.out _)))
              go_wp2_with fail
              refine (HRS.out _).mono ?_
              rintro e w4 ⟨rfl, ⟨r', hD4⟩, hk4⟩
              have HX6 := hk4 _ _ _ (HX5.out.quiet ((Mod.refl _ _).drewN _)) (by unfold RefT; decide)
              have HI6 := hk4 _ _ _ (HI5.out.quiet ((Mod.refl _ _).drewN _)) (by unfold RefT; decide)
              obtain ⟨x0, x1, x2, x3⟩ := four_cells HX6.here
              obtain ⟨i0, i1⟩ := two_cells HI6.here
              obtain ⟨b7, o7, cap7, hmv, hrc⟩ := rat_cells hD4.rf HGT.out
              obtain ⟨d1, e0, e1, e2⟩ := hrc _ (Mod.refl _ _)
              rw [← HL1.out] at d1
              have hi0 : (0 : Int) ≤ (s.all.length : Int) := by omega
              have hi1 : (s.all.length : Int) < (L1 : Int) := by have := HL2.out; omega
              have hi2 : s.all.length < L1 := by have := HL2.out; omega
              have HRu : Hid (∀ q, PlyRel w B R n (k + 1) (w4.drewN q)) := fun q => ⟨_, r', hD4.quiet ((Mod.refl _ _).drewN q), HSN.out, by rw [← HL1.out]; have := HL2.out; have := HSL.out; omega⟩
              clear hrc hmv hD4 hk4 HX6 HI6 HRS HI5 HX5 HL1 HL2 HGT HQ1 HQ2 q0 q1 q2 q3 hxl
              generalize s.all.length = sl at *
              generalize u.heap.size = ib at *
              as_aux_lemma =>
                go_wp2_with fail
                go_quiet (fail)
                go_wp2
                go_roundw
                case rel => exact ⟨k + 1, by omega, by go_num, HRu.out _⟩
                case measure => simp [intOf]; omega
    · skip
      as_aux_lemma =>
        have HAll := Lib.hid (all_past B s wr hD.lv.at')
        have hge : ¬ (k : Int) < (l.length : Int) := by omega
        have tge : decide (k < l.length) = false := decide_eq_false hlt
        go_wp2_with fail
        refine HAll.out.mono ?_
        rintro e u ⟨v9, rfl, hn, hm, _⟩
        have hnl : s.allNames.length = s.all.length := List.length_map ..
        obtain ⟨A9, c9, hv9⟩ := RowOf.form hn
        rw [hnl] at hv9
        subst hv9
        have HLU : Hid (Lu w B R s r A9 c9 u) := ⟨hD.quiet hm, hn⟩
        obtain ⟨A7, c7, hmv⟩ := (hD.quiet hm).rf.form
        obtain ⟨_, d1, _, _⟩ := (hD.quiet hm).rf.cells
        rw [hmv] at d1
        have hsl40 : s.all.length ≤ 40 := by omega
        have HSN := Lib.hid hsn
        have tn : ((s.all.length : Int) != (s.all.length : Int)) = false := by simp
        clear hn hm HAll hD hsl hsn hlt hnl hmv
        go_wp2
        clear d1
        go_loopw [17] (fun i wr => ∃ a : Nat, a ≤ s.all.length ∧ i = .int .i64 a ∧ Hid (Lu w B R s r A9 c9 wr)) (fun i _ => s.all.length - (intOf i).toNat)
        case atStart => exact ⟨0, Nat.zero_le _, rfl, HLU⟩
        case round =>
          obtain ⟨a, ha, rfl, hRa⟩ := hrel
          by_cases hla : a < s.all.length
          · obtain ⟨ma, hma, _⟩ := get_name hla
            have HMA := Lib.hid hma
            obtain ⟨b9, o9, rfl, hca⟩ := hRa.out.cells hma
            obtain ⟨b7, o7, cap7, _, hrc⟩ := rat_cells hRa.out.duo.rf hma
            have HK : Hid (∀ W, Mod (fun _ => False) wr W → W.cell? ⟨b9, o9 + a * 2, none⟩ = some (.int .i64 (ma.frm : Int)) ∧ W.cell? ⟨b9, o9 + a * 2 + 1, none⟩ = some (.int .u64 (ma.num : Int)) ∧ W.cell? ⟨R, 1, none⟩ = some (.slice (some ⟨b7, o7, none⟩) s.all.length cap7) ∧ W.cell? ⟨b7, o7 + a * 4, none⟩ = some (.int .i64 (ma.frm : Int)) ∧ W.cell? ⟨b7, o7 + a * 4 + 1, none⟩ = some (.int .u64 (ma.num : Int)) ∧ W.cell? ⟨b7, o7 + a * 4 + 2, none⟩ = some (.int .u64 (ma.to : Int)) ∧ Mod (fun _ => False) wr W) := fun W hm => ⟨(hca W hm).1, (hca W hm).2, (hrc W hm).1, (hrc W hm).2.1, (hrc W hm).2.2.1, (hrc W hm).2.2.2, hm⟩
            have hto := hRa.out.to a ma hma
            have HC : Hid (∀ W, (W.cell? ⟨b9, o9 + a * 2, none⟩ = some (.int .i64 (ma.frm : Int)) ∧ W.cell? ⟨b9, o9 + a * 2 + 1, none⟩ = some (.int .u64 (ma.num : Int)) ∧ W.cell? ⟨R, 1, none⟩ = some (.slice (some ⟨b7, o7, none⟩) s.all.length cap7) ∧ W.cell? ⟨b7, o7 + a * 4, none⟩ = some (.int .i64 (ma.frm : Int)) ∧ W.cell? ⟨b7, o7 + a * 4 + 1, none⟩ = some (.int .u64 (ma.num : Int)) ∧ W.cell? ⟨b7, o7 + a * 4 + 2, none⟩ = some (.int .u64 (ma.to : Int)) ∧ Mod (fun _ => False) wr W) → Calls Try.prog 18 #[.pointer (some ⟨B, 0, none⟩), .agg #[.int .i64 (ma.frm : Int), .int .u64 (ma.num : Int)]] W fun e W => e = .returned (.int .u64 (ma.to : Int)) ∧ (W.cell? ⟨b9, o9 + a * 2, none⟩ = some (.int .i64 (ma.frm : Int)) ∧ W.cell? ⟨b9, o9 + a * 2 + 1, none⟩ = some (.int .u64 (ma.num : Int)) ∧ W.cell? ⟨R, 1, none⟩ = some (.slice (some ⟨b7, o7, none⟩) s.all.length cap7) ∧ W.cell? ⟨b7, o7 + a * 4, none⟩ = some (.int .i64 (ma.frm : Int)) ∧ W.cell? ⟨b7, o7 + a * 4 + 1, none⟩ = some (.int .u64 (ma.num : Int)) ∧ W.cell? ⟨b7, o7 + a * 4 + 2, none⟩ = some (.int .u64 (ma.to : Int)) ∧ Mod (fun _ => False) wr W)) := fun W hS => (hto W hS.2.2.2.2.2.2).mono fun _ _ ⟨h1, h2⟩ => ⟨h1, HK.out _ h2⟩
            have ha0 : (0 : Int) ≤ (a : Int) := by omega
            have ha1 : (a : Int) < (s.all.length : Int) := by omega
            have ta : decide (a < s.all.length) = true := decide_eq_true hla
            have t1 : ((ma.frm : Int) != (ma.frm : Int)) = false := by simp
            have t2 : ((ma.num : Int) != (ma.num : Int)) = false := by simp
            have t3 : ((ma.to : Int) != (ma.to : Int)) = false := by simp
            clear hca hrc hto hma
            as_aux_lemma =>
              go_wp2_with fail
              go_region_held3 (fun W => W.cell? ⟨b9, o9 + a * 2, none⟩ = some (.int .i64 (ma.frm : Int)) ∧ W.cell? ⟨b9, o9 + a * 2 + 1, none⟩ = some (.int .u64 (ma.num : Int)) ∧ W.cell? ⟨R, 1, none⟩ = some (.slice (some ⟨b7, o7, none⟩) s.all.length cap7) ∧ W.cell? ⟨b7, o7 + a * 4, none⟩ = some (.int .i64 (ma.frm : Int)) ∧ W.cell? ⟨b7, o7 + a * 4 + 1, none⟩ = some (.int .u64 (ma.num : Int)) ∧ W.cell? ⟨b7, o7 + a * 4 + 2, none⟩ = some (.int .u64 (ma.to : Int)) ∧ Mod (fun _ => False) wr W) (first | assumption | exact HK.out _ (Mod.refl _ _).drew) (first | (go_at_call 18; (with_reducible refine (HC.out _ (by assumption)).mono ?_); rintro e w5 ⟨rfl, hS5⟩))
              have HRb := Lib.hid (hRa.out.quiet hS5.2.2.2.2.2.2)
              have HOK := Lib.hid hRa.out.duo.lv.at'.ok
              rename_i hHz
              clear hHz hS5 HC HK t1 t2 t3 hRa
              as_aux_lemma =>
                go_wp2
                go_loopw [18] (fun i wr => ∃ c : Nat, c ≤ s.all.length ∧ i = .int .i64 c ∧ Hid (Lu w B R s r (some ⟨b9, o9, none⟩) c9 wr)) (fun i _ => s.all.length - (intOf i).toNat)
                case atStart => exact ⟨0, Nat.zero_le _, rfl, HRb⟩
                case round =>
                  obtain ⟨c, hc, rfl, hRc⟩ := hrel
                  clear HRb
                  by_cases hlc : c < s.all.length
                  · obtain ⟨mc, hmc, _⟩ := get_name hlc
                    obtain ⟨_, _, hec, hcc⟩ := hRc.out.cells hmc
                    cases hec
                    obtain ⟨_, _, hea, hca⟩ := hRc.out.cells HMA.out
                    cases hea
                    obtain ⟨x, hx⟩ : ∃ x, ma.ahead c = x := ⟨_, rfl⟩
                    have hA := hRc.out.ahead c a mc ma hmc HMA.out x hx
                    have hB := hRc.out.before c a ma HMA.out x hx
                    have HK : Hid (∀ W, Mod (fun _ => False) wr W → W.cell? ⟨b9, o9 + a * 2, none⟩ = some (.int .i64 (ma.frm : Int)) ∧ W.cell? ⟨b9, o9 + a * 2 + 1, none⟩ = some (.int .u64 (ma.num : Int)) ∧ W.cell? ⟨b9, o9 + c * 2, none⟩ = some (.int .i64 (mc.frm : Int)) ∧ W.cell? ⟨b9, o9 + c * 2 + 1, none⟩ = some (.int .u64 (mc.num : Int)) ∧ Mod (fun _ => False) wr W) := fun W hm => ⟨(hca W hm).1, (hca W hm).2, (hcc W hm).1, (hcc W hm).2, hm⟩
                    have HC1 : Hid (∀ W, (W.cell? ⟨b9, o9 + a * 2, none⟩ = some (.int .i64 (ma.frm : Int)) ∧ W.cell? ⟨b9, o9 + a * 2 + 1, none⟩ = some (.int .u64 (ma.num : Int)) ∧ W.cell? ⟨b9, o9 + c * 2, none⟩ = some (.int .i64 (mc.frm : Int)) ∧ W.cell? ⟨b9, o9 + c * 2 + 1, none⟩ = some (.int .u64 (mc.num : Int)) ∧ Mod (fun _ => False) wr W) → Calls Try.prog 13 #[.pointer (some ⟨B, 0, none⟩), .agg #[.int .i64 (mc.frm : Int), .int .u64 (mc.num : Int)], .agg #[.int .i64 (ma.frm : Int), .int .u64 (ma.num : Int)]] W fun e W => e = .returned (.bool x) ∧ (W.cell? ⟨b9, o9 + a * 2, none⟩ = some (.int .i64 (ma.frm : Int)) ∧ W.cell? ⟨b9, o9 + a * 2 + 1, none⟩ = some (.int .u64 (ma.num : Int)) ∧ W.cell? ⟨b9, o9 + c * 2, none⟩ = some (.int .i64 (mc.frm : Int)) ∧ W.cell? ⟨b9, o9 + c * 2 + 1, none⟩ = some (.int .u64 (mc.num : Int)) ∧ Mod (fun _ => False) wr W)) := fun W hS => (hA W hS.2.2.2.2).mono fun _ _ ⟨h1, h2⟩ => ⟨h1, HK.out _ h2⟩
                    have HC2 : Hid (∀ W, (W.cell? ⟨b9, o9 + a * 2, none⟩ = some (.int .i64 (ma.frm : Int)) ∧ W.cell? ⟨b9, o9 + a * 2 + 1, none⟩ = some (.int .u64 (ma.num : Int)) ∧ W.cell? ⟨b9, o9 + c * 2, none⟩ = some (.int .i64 (mc.frm : Int)) ∧ W.cell? ⟨b9, o9 + c * 2 + 1, none⟩ = some (.int .u64 (mc.num : Int)) ∧ Mod (fun _ => False) wr W) → Calls Try.prog 26 #[.pointer (some ⟨R, 0, none⟩), .int .i64 c, .int .i64 a] W fun e W => e = .returned (.bool x) ∧ (W.cell? ⟨b9, o9 + a * 2, none⟩ = some (.int .i64 (ma.frm : Int)) ∧ W.cell? ⟨b9, o9 + a * 2 + 1, none⟩ = some (.int .u64 (ma.num : Int)) ∧ W.cell? ⟨b9, o9 + c * 2, none⟩ = some (.int .i64 (mc.frm : Int)) ∧ W.cell? ⟨b9, o9 + c * 2 + 1, none⟩ = some (.int .u64 (mc.num : Int)) ∧ Mod (fun _ => False) wr W)) := fun W hS => (hB W hS.2.2.2.2).mono fun _ _ ⟨h1, h2⟩ => ⟨h1, h2 ▸ hS⟩
                    have hc0 : (0 : Int) ≤ (c : Int) := by omega
                    have hc1 : (c : Int) < (s.all.length : Int) := by omega
                    have tcc : decide (c < s.all.length) = true := decide_eq_true hlc
                    have tx : (x != x) = false := by simp
                    clear hca hcc hA hB hmc hx
                    as_aux_lemma =>
                      go_wp2_with fail
                      go_region_held3 (fun W => W.cell? ⟨b9, o9 + a * 2, none⟩ = some (.int .i64 (ma.frm : Int)) ∧ W.cell? ⟨b9, o9 + a * 2 + 1, none⟩ = some (.int .u64 (ma.num : Int)) ∧ W.cell? ⟨b9, o9 + c * 2, none⟩ = some (.int .i64 (mc.frm : Int)) ∧ W.cell? ⟨b9, o9 + c * 2 + 1, none⟩ = some (.int .u64 (mc.num : Int)) ∧ Mod (fun _ => False) wr W) (first | assumption | exact HK.out _ (Mod.refl _ _).drew) (first | (go_at_call 13; (with_reducible refine (HC1.out _ (by assumption)).mono ?_); rintro e w5 ⟨rfl, hS5⟩) | (go_at_call 26; (with_reducible refine (HC2.out _ (by assumption)).mono ?_); rintro e w6 ⟨rfl, hS6⟩))
                      have HRd := Lib.hid (hRc.out.quiet hS6.2.2.2.2)
                      rename_i hHz
                      clear hHz hS5 hS6 HC1 HC2 HK tx hRc
                      go_wp2
                      go_roundw
                      case rel => exact ⟨c + 1, by omega, by go_num, HRd⟩
                      case measure => simp [intOf]; omega
                  · have hgc : ¬ (c : Int) < (s.all.length : Int) := by omega
                    have tgc : decide (c < s.all.length) = false := decide_eq_false hlc
                    go_wp2
                    go_roundw
                    case rel => exact ⟨a + 1, by omega, by go_num, hRc⟩
                    case measure => simp [intOf]; omega
          · have hga : ¬ (a : Int) < (s.all.length : Int) := by omega
            have tga : decide (a < s.all.length) = false := decide_eq_false hla
            as_aux_lemma =>
              go_wp2
              go_loopw [19] (fun i wr => ∃ q : Nat, q ≤ n ∧ i = .int .i64 q ∧ Hid (Lu w B R s r A9 c9 wr)) (fun i _ => n - (intOf i).toNat)
              case atStart => exact ⟨0, Nat.zero_le _, rfl, hRa⟩
              case round =>
                obtain ⟨q, hq, rfl, hRq⟩ := hrel
                clear hRa
                by_cases hlq : q < n
                · have hqn : q < s.n := by rw [HSN.out]; exact hlq
                  have HT := Lib.hid (taken_at B s q wr hRq.out.duo.lv.at' hqn)
                  have tq : decide (q < n) = true := decide_eq_true hlq
                  have hqi : (q : Int) < (n : Int) := by omega
                  have hq0 : (0 : Int) ≤ (q : Int) := by omega
                  go_wp2_with fail
                  refine HT.out.mono ?_
                  rintro e u5 ⟨v20, rfl, hn5, hm5, _⟩
                  have hnl5 : (s.names q).length = (s.got q).length := List.length_map ..
                  obtain ⟨A5, c5, hv5⟩ := RowOf.form hn5
                  rw [hnl5] at hv5
                  subst hv5
                  have hRu := hRq.out.quiet hm5
                  have HRu := Lib.hid hRu
                  have HN5 := Lib.hid hn5
                  obtain ⟨_, _, _, d3⟩ := hRu.duo.rf.cells
                  have g0 := hRu.duo.rf.gcell hqn
                  have hgs := hRu.duo.rf.gs q hqn
                  obtain ⟨A6, c6, hv6⟩ := RowOf.form hgs
                  rw [hv6] at g0 hgs
                  rw [HSN.out] at d3
                  have HGS := Lib.hid hgs
                  have tg : (((s.got q).length : Int) != ((s.got q).length : Int)) = false := by simp
                  have hgb : (s.got q).length ≤ 1000 := hRu.duo.got_le q
                  have HOK := Lib.hid hRu.duo.lv.at'.ok
                  have HNL5 := Lib.hid hnl5
                  have hqb : (q : Int) < 20 := by have := H16.out; omega
                  clear hn5 hm5 hRu hgs hv6 HT hnl5 hRq
                  go_wp2
                  go_loopw [21] (fun i wr => ∃ c : Nat, c ≤ (s.got q).length ∧ i = .int .i64 c ∧ Hid (∃ m, wr = u5.drewN m)) (fun i _ => (s.got q).length - (intOf i).toNat)
                  case atStart => exact ⟨0, Nat.zero_le _, rfl, ⟨0, rfl⟩⟩
                  case round =>
                    obtain ⟨c, hc, rfl, hRc⟩ := hrel
                    obtain ⟨m9, hm9⟩ := hRc.out
                    subst hm9
                    by_cases hlc : c < (s.got q).length
                    · obtain ⟨jj, hjj⟩ : ∃ jj, (s.got q)[c]? = some jj := ⟨_, List.getElem?_eq_getElem hlc⟩
                      have hjl : jj < s.all.length := HOK.out.glt q jj (List.mem_of_getElem? hjj)
                      obtain ⟨mj, hmj, _⟩ := get_name hjl
                      have hnj : (s.names q)[c]? = some (mj.frm, mj.num) := by
                        unfold Pa.names
                        rw [List.getElem?_map, hjj]
                        show some (nameAt s.all jj) = _
                        rw [nameAt_of hmj]
                      obtain ⟨b5, o5, cap5, he5, _, n0, n1⟩ := HN5.out.elem hnj
                      rw [HNL5.out] at he5
                      cases he5
                      obtain ⟨b9, o9, rfl, hca⟩ := HRu.out.cells hmj
                      obtain ⟨a0, a1⟩ := hca _ (Mod.refl _ _)
                      obtain ⟨b6, o6, cap6, cur, he6, hb6, _, _⟩ := HGS.out.at (by omega)
                      cases he6
                      have k0 : u5.cell? ⟨b6, o6 + c, none⟩ = some (.int .i64 (jj : Int)) := by
                        rw [RowOf.cell HGS.out c (by omega), List.getElem?_map, hjj]
                        rfl
                      have hc0 : (0 : Int) ≤ (c : Int) := by omega
                      have hc1 : (c : Int) < ((s.got q).length : Int) := by omega
                      have tcc : decide (c < (s.got q).length) = true := decide_eq_true hlc
                      have hj0 : (0 : Int) ≤ (jj : Int) := by omega
                      have hj1 : (jj : Int) < (s.all.length : Int) := by omega
                      have hcb : (c : Int) < 1001 := by omega
                      have heq := eql_id (mj.frm : Int) (mj.num : Int) (mj.frm : Int) (mj.num : Int)
                      have hgd := guard_id
                      clear hca hjj hmj hnj hb6
                      as_aux_lemma =>
                        go_wp2_with fail
                        go_quiet (fail)
                        go_wp2
                        go_roundw
                        case rel => exact ⟨c + 1, by omega, by go_num, ⟨_, rfl⟩⟩
                        case measure => simp [intOf]; omega
                    · have hgc : ¬ (c : Int) < ((s.got q).length : Int) := by omega
                      have tgc : decide (c < (s.got q).length) = false := decide_eq_false hlc
                      have HRw := Lib.hid (HRu.out.quiet ((Mod.refl _ _).drewN m9))
                      clear HRu HN5 HGS d3 g0
                      go_wp2
                      go_roundw
                      case rel => exact ⟨q + 1, by omega, by go_num, HRw⟩
                      case measure => simp [intOf]; omega
                · have hgq : ¬ (q : Int) < (n : Int) := by omega
                  have tgq : decide (q < n) = false := decide_eq_false hlq
                  have HE : Hid (Below w.heap.size w _) := hRq.out.duo.lv.low
                  go_wp2
                  go_ret
                  exact ⟨rfl, HE.out⟩
end Go.Proofs.Yteicceikaecfcaa
