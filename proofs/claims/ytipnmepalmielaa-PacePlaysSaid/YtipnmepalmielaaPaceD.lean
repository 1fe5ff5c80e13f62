/-
  The walk of PaceStops.
-/
import Derived.Test.YtipnmepalmielaaPaceC
namespace Go.Proofs.Ytipnmepalmielaa
open Go.RowKit Go.Shoal

theorem stops_out (f m n k : Int) (w : World) (h : f < 1 ∨ (1 ≤ f ∧ m < f) ∨ (1 ≤ f ∧ f ≤ m ∧ 60 < m) ∨ (1 ≤ f ∧ f ≤ m ∧ m ≤ 60 ∧ n < 0) ∨ (1 ≤ f ∧ f ≤ m ∧ m ≤ 60 ∧ 0 ≤ n ∧ 100 < n) ∨
      (1 ≤ f ∧ f ≤ m ∧ m ≤ 60 ∧ 0 ≤ n ∧ n ≤ 100 ∧ k < 0) ∨ (1 ≤ f ∧ f ≤ m ∧ m ≤ 60 ∧ 0 ≤ n ∧ n ≤ 100 ∧ 0 ≤ k ∧ 100 < k)) :
    Calls Try.prog 4 #[.int .i64 f, .int .i64 m, .int .i64 n, .int .i64 k] w fun e w' => e = .returned (.bool true) ∧ Mod (fun _ => False) w w' := by
  rcases h with h | ⟨h, h1⟩ | ⟨h, h1, h2⟩ | ⟨h, h1, h2, h3⟩ | ⟨h, h1, h2, h3, h4⟩ | ⟨h, h1, h2, h3, h4, h5⟩ | ⟨h, h1, h2, h3, h4, h5, h6⟩
  all_goals
    go_enter Try.func4, Try.ntmps4
    go_wp2_with fail
    refine (awake_calls w).mono ?_
    rintro e w1 ⟨rfl, hm⟩
    have HM := Lib.hid hm
    clear hm
    go_wp2
    go_ret
    exact ⟨rfl, HM.out⟩

/-- Two paces side by side. -/
def Two (w : World) (a b : Nat) (p q : Pc) (wr : World) : Prop := PaceAt wr a p ∧ PaceAt wr b q ∧ Mod (fun k => k = a ∨ k = b) w wr
theorem Two.left {w wr w1 : World} {a b : Nat} {p q p1 : Pc} (h : Two w a b p q wr) (hab : a ≠ b) (h1 : PaceAt w1 a p1) (hm : Mod (· = a) wr w1) : Two w a b p1 q w1 :=
  ⟨h1, hm.blk h.2.1 (fun e => hab e.symm), h.2.2.trans' hm (fun _ _ e => .inl e)⟩
theorem Two.right {w wr w1 : World} {a b : Nat} {p q q1 : Pc} (h : Two w a b p q wr) (hab : a ≠ b) (h1 : PaceAt w1 b q1) (hm : Mod (· = b) wr w1) : Two w a b p q1 w1 :=
  ⟨hm.blk h.1 hab, h1, h.2.2.trans' hm (fun _ _ e => .inr e)⟩
/-- Within what New makes, and alike but for the rings. -/
def Alike (p q : Pc) : Prop := p.first = q.first ∧ p.most = q.most ∧ p.step = q.step ∧ p.left = q.left
theorem Alike.tick {p q : Pc} (h : Alike p q) : Alike p.tick.1 q.tick.1 ∧ p.tick.2 = q.tick.2 := by
  obtain ⟨h1, h2, h3, h4⟩ := h
  unfold Pc.tick
  rw [h4, h3, h2]
  split
  · exact ⟨⟨h1, h2, h3, h4⟩, rfl⟩
  · split
    · exact ⟨⟨h1, rfl, rfl, rfl⟩, rfl⟩
    · exact ⟨⟨h1, rfl, rfl, rfl⟩, rfl⟩
theorem stop_start (p : Pc) : p.stop.start = ⟨p.first, p.most, p.first, p.first, p.rings⟩ := by unfold Pc.start; exact if_pos rfl
theorem new_start (f m r : Int) : Pc.start ⟨f, m, f, 0, r⟩ = ⟨f, m, f, f, r⟩ := by unfold Pc.start; exact if_pos rfl
/-- The first loop: the one pace is any. -/
def StopRel1 (w : World) (a b : Nat) (f m : Int) (j : Nat) (wr : World) : Prop := ∃ p : Pc, p.Ok ∧ p.first = f ∧ p.most = m ∧ 0 ≤ p.rings ∧ p.rings ≤ j ∧ Two w a b p ⟨f, m, f, 0, 0⟩ wr
/-- The second loop: both are alike. -/
def StopRel2 (w : World) (a b : Nat) (j : Nat) (wr : World) : Prop := ∃ p q : Pc, p.Ok ∧ q.Ok ∧ Alike p q ∧ 0 ≤ p.rings ∧ p.rings ≤ 100 + j ∧ 0 ≤ q.rings ∧ q.rings ≤ j ∧ Two w a b p q wr
theorem tick_most (p : Pc) : p.tick.1.most = p.most := by
  unfold Pc.tick
  split
  · rfl
  · split <;> rfl
theorem tick_first (p : Pc) : p.tick.1.first = p.first := by
  unfold Pc.tick
  split
  · rfl
  · split <;> rfl

set_option maxHeartbeats 2000000 in
theorem stops_in (f m : Int) (n k : Nat) (w : World) (h1 : 1 ≤ f) (h2 : f ≤ m) (h3 : m ≤ 60) (h4 : n ≤ 100) (h5 : k ≤ 100) :
    Calls Try.prog 4 #[.int .i64 f, .int .i64 m, .int .i64 n, .int .i64 k] w fun e w' => e = .returned (.bool true) ∧ Mod (fun _ => False) w w' := by
  have hn0 : decide ((n : Int) < 0) = false := decide_eq_false (by omega)
  have hn1 : decide (100 < (n : Int)) = false := decide_eq_false (by omega)
  have hk0 : decide ((k : Int) < 0) = false := decide_eq_false (by omega)
  have hk1 : decide (100 < (k : Int)) = false := decide_eq_false (by omega)
  go_enter Try.func4, Try.ntmps4
  go_wp2_with fail
  refine (awake_calls w).mono ?_
  rintro e w1 ⟨rfl, hm⟩
  have HM := Lib.hid hm
  clear hm
  go_wp2_with fail
  refine (new_ok f m w1 (by omega) (by omega) (by omega)).mono ?_
  rintro e w2 ⟨rfl, hp2, hm2, hs2⟩
  have HM2 := Lib.hid hm2
  have HP2 := Lib.hid hp2
  have HS2 := Lib.hid hs2
  clear hm2 hp2 hs2
  go_wp2_with fail
  refine (new_ok f m w2 (by omega) (by omega) (by omega)).mono ?_
  rintro e w3 ⟨rfl, hp3, hm3, hs3⟩
  have hab : w1.heap.size ≠ w2.heap.size := by have := HS2.out; omega
  have H0 : Hid (Two w1 w1.heap.size w2.heap.size ⟨f, m, f, 0, 0⟩ ⟨f, m, f, 0, 0⟩ w3) :=
    ⟨hm3.blk HP2.out (fun x => x), hp3, (HM2.out.mono (fun _ _ x => x.elim)).trans' hm3 (fun _ _ x => x.elim)⟩
  have HF : Hid (∀ i, i < w1.heap.size → ¬ (i = w1.heap.size ∨ i = w2.heap.size)) := fun i hi h => by have := HS2.out; omega
  have HAB := Lib.hid hab
  have HW : Hid (w.heap.size ≤ w1.heap.size) := HM.out.size
  generalize w1.heap.size = a at H0 HAB HF HW
  generalize w2.heap.size = b at H0 HAB HF
  clear hm3 hp3 hs3 HM2 HP2 HS2 hab
  go_wp2_with fail
  refine (start_any w3 a _ H0.out.1).mono ?_
  rintro e w4 ⟨rfl, hp4, hm4⟩
  have HA : Hid (StopRel1 w1 a b f m 0 w4) :=
    ⟨_, Pc.start_ok ⟨h1, Int.le_refl _, h2, by show m ≤ 1000; omega, Int.le_refl _, by show 0 ≤ f; omega⟩, rfl, rfl, Int.le_refl _, Int.le_refl _, H0.out.left HAB.out hp4 hm4⟩
  clear hp4 hm4 H0
  go_wp2
  go_loopw [13] (fun i wr => ∃ j : Nat, j ≤ n ∧ i = .int .i64 j ∧ Hid (StopRel1 w1 a b f m j wr)) (fun i _ => n - (intOf i).toNat)
  case atStart => exact ⟨0, Nat.zero_le _, rfl, HA⟩
  case round =>
    obtain ⟨j, hj, rfl, hR⟩ := hrel
    by_cases hlt : j < n
    · obtain ⟨p, ok, e1, e2, r0, r1, ht⟩ := hR.out
      have HT := Lib.hid (tick_any wr a p ht.1 ok ⟨r0, by omega⟩)
      have HK : Hid (∀ w5, PaceAt w5 a p.tick.1 → Mod (· = a) wr w5 → StopRel1 w1 a b f m (j + 1) w5) := fun w5 hp hm =>
        ⟨_, Pc.tick_ok ok, (tick_first p).trans e1, (tick_most p).trans e2, by have := @tick_rings p; omega, by have := @tick_rings p; omega, ht.left HAB.out hp hm⟩
      clear e1 e2 ht ok r0 r1
      go_wp2_with fail
      refine HT.out.mono ?_
      rintro e w5 ⟨rfl, hp5, hm5⟩
      have HR5 := Lib.hid (HK.out w5 hp5 hm5)
      clear hp5 hm5
      go_wp2
      go_roundw
      case rel => exact ⟨j + 1, by omega, by go_num, HR5⟩
      case measure => simp [intOf]; omega
    · obtain ⟨p, ok, e1, e2, r0, r1, ht⟩ := hR.out
      have HT := Lib.hid ht
      have HO := Lib.hid ok
      have HE1 := Lib.hid e1
      have HE2 := Lib.hid e2
      have HR0 : Hid (0 ≤ p.rings ∧ p.rings ≤ 100) := ⟨r0, by omega⟩
      clear ht ok e1 e2 r0 r1
      go_wp2_with fail
      refine (stop_any wr a p HT.out.1).mono ?_
      rintro e w5 ⟨rfl, hp5, hm5⟩
      have HT5 := Lib.hid (HT.out.left HAB.out hp5 hm5)
      clear hp5 hm5
      go_wp2_with fail
      refine (start_any w5 a _ HT5.out.1).mono ?_
      rintro e w6 ⟨rfl, hp6, hm6⟩
      rw [stop_start] at hp6
      have HT6 := Lib.hid (HT5.out.left HAB.out hp6 hm6)
      clear hp6 hm6
      go_wp2_with fail
      refine (start_any w6 b _ HT6.out.2.1).mono ?_
      rintro e w7 ⟨rfl, hp7, hm7⟩
      rw [new_start] at hp7
      have HT7 := Lib.hid (HT6.out.right HAB.out hp7 hm7)
      have HB : Hid (StopRel2 w1 a b 0 w7) := ⟨⟨p.first, p.most, p.first, p.first, p.rings⟩, ⟨f, m, f, f, 0⟩, by have h := Pc.start_ok (Pc.stop_ok HO.out); rw [stop_start] at h; exact h,
        ⟨h1, Int.le_refl _, h2, by show m ≤ 1000; omega, by show 0 ≤ f; omega, Int.le_refl _⟩,
        ⟨HE1.out, HE2.out, HE1.out, HE1.out⟩, HR0.out.1, by have := HR0.out.2; simpa using this, Int.le_refl _, Int.le_refl _, HT7.out⟩
      clear hp7 hm7 HT7 HT6 HT5 HT HR0 HO HE1 HE2
      go_wp2
      go_loopw [14] (fun i wr => ∃ j : Nat, j ≤ k ∧ i = .int .i64 j ∧ Hid (StopRel2 w1 a b j wr)) (fun i _ => k - (intOf i).toNat)
      case atStart => exact ⟨0, Nat.zero_le _, rfl, HB⟩
      case round =>
        obtain ⟨j, hj, rfl, hR⟩ := hrel
        by_cases hlt : j < k
        · obtain ⟨p, q, okp, okq, al, r0, r1, z0, z1, ht⟩ := hR.out
          have HT := Lib.hid (tick_any wr a p ht.1 okp ⟨r0, by omega⟩)
          have HK : Hid (∀ w5, PaceAt w5 a p.tick.1 → Mod (· = a) wr w5 → Two w1 a b p.tick.1 q w5) := fun w5 hp hm => ht.left HAB.out hp hm
          have HU : Hid (∀ w5, Two w1 a b p.tick.1 q w5 → Calls Try.prog 11 #[.pointer (some ⟨b, 0, none⟩)] w5 (Ticks w5 b q)) := fun w5 h => tick_any w5 b q h.2.1 okq ⟨z0, by omega⟩
          have HV : Hid (∀ w5 w6, Two w1 a b p.tick.1 q w5 → PaceAt w6 b q.tick.1 → Mod (· = b) w5 w6 → Two w1 a b p.tick.1 q.tick.1 w6) := fun w5 w6 h hp hm => h.right HAB.out hp hm
          have HZ : Hid (∀ w6, Two w1 a b p.tick.1 q.tick.1 w6 → StopRel2 w1 a b (j + 1) w6) := fun w6 h =>
            ⟨_, _, Pc.tick_ok okp, Pc.tick_ok okq, al.tick.1, by have := @tick_rings p; omega, by have := @tick_rings p; omega, by have := @tick_rings q; omega, by have := @tick_rings q; omega, h⟩
          have hb := al.tick.2
          have HS : Hid (q.tick.1.step = p.tick.1.step) := al.tick.1.2.2.1.symm
          clear al ht okp okq r0 r1 z0 z1
          unfold Ticks at HT HU
          generalize p.tick.1 = p' at *
          generalize q.tick.1 = q' at *
          generalize p.tick.2 = bp at *
          generalize q.tick.2 = bq at *
          subst hb
          go_wp2_with fail
          refine HT.out.mono ?_
          rintro e w5 ⟨rfl, hp5, hm5⟩
          have H5 := Lib.hid (HK.out w5 hp5 hm5)
          clear hp5 hm5
          go_wp2_with fail
          refine (HU.out w5 H5.out).mono ?_
          rintro e w6 ⟨rfl, hp6, hm6⟩
          have H6 := Lib.hid (HV.out w5 w6 H5.out hp6 hm6)
          clear hp6 hm6
          go_wp2_with fail
          refine (step_any w6 a _ H6.out.1).mono ?_
          rintro e w7 ⟨rfl, rfl⟩
          go_wp2_with fail
          have hq := step_any w6 b _ H6.out.2.1
          rw [HS.out] at hq
          refine hq.mono ?_
          clear hq
          rintro e w7 ⟨rfl, rfl⟩
          have H7 := Lib.hid (HZ.out w6 H6.out)
          go_wp2
          go_roundw
          case rel => exact ⟨j + 1, by omega, by go_num, H7⟩
          case measure => simp [intOf]; omega
        · obtain ⟨p, q, okp, okq, al, r0, r1, z0, z1, ht⟩ := hR.out
          have HT := Lib.hid ht
          clear ht r0 r1 z0 z1 al okp okq
          go_wp2
          go_ret
          exact ⟨rfl, HM.out.trans' HT.out.2.2 (fun i hi h => HF.out i (Nat.lt_of_lt_of_le hi HW.out) h)⟩

theorem stops_any (f m n k : Int) (w : World) : Calls Try.prog 4 #[.int .i64 f, .int .i64 m, .int .i64 n, .int .i64 k] w fun e w' => e = .returned (.bool true) ∧ Below w.heap.size w w' := by
  by_cases h : f < 1 ∨ (1 ≤ f ∧ m < f) ∨ (1 ≤ f ∧ f ≤ m ∧ 60 < m) ∨ (1 ≤ f ∧ f ≤ m ∧ m ≤ 60 ∧ n < 0) ∨ (1 ≤ f ∧ f ≤ m ∧ m ≤ 60 ∧ 0 ≤ n ∧ 100 < n) ∨
      (1 ≤ f ∧ f ≤ m ∧ m ≤ 60 ∧ 0 ≤ n ∧ n ≤ 100 ∧ k < 0) ∨ (1 ≤ f ∧ f ≤ m ∧ m ≤ 60 ∧ 0 ≤ n ∧ n ≤ 100 ∧ 0 ≤ k ∧ 100 < k)
  · exact (stops_out f m n k w h).mono fun e w' ⟨h1, h2⟩ => ⟨h1, h2.none_below⟩
  · obtain ⟨n', rfl⟩ := Int.eq_ofNat_of_zero_le (show 0 ≤ n by omega)
    obtain ⟨k', rfl⟩ := Int.eq_ofNat_of_zero_le (show 0 ≤ k by omega)
    exact (stops_in f m n' k' w (by omega) (by omega) (by omega) (by omega) (by omega)).mono fun e w' ⟨h1, h2⟩ => ⟨h1, h2.none_below⟩
end Go.Proofs.Ytipnmepalmielaa
