/-
  dset.List, dset.Count.
-/
import Derived.Test.YtkmfbddiebigfaaDoorDsB
import Derived.Test.YtkmfbddiebigfaaDoorDsP
import Derived.Test.YtkmfbddiebigfaaDoorRowOf
import Derived.Laws.Bits128
namespace Go.Proofs.YtkmfbddiebigfaaDoor
open Go.RowKit Go.Shoal

/-! The lowest bit is struck. -/
theorem low_struck (k m : Nat) (x : Nat) : ((2 ^ k * (2 * m + 1)) &&& (2 ^ k * (2 * m + 1) - 1)).testBit x = ((2 ^ k * (2 * m + 1)).testBit x && decide (x ≠ k)) := by
  have hp := Nat.two_pow_pos k
  have e1 : 2 ^ k * (2 * m + 1) = 2 ^ k * (2 * m + 1) + 0 := rfl
  have e2 : 2 ^ k * (2 * m + 1) - 1 = 2 ^ k * (2 * m) + (2 ^ k - 1) := by rw [Nat.mul_add, Nat.mul_one]; omega
  rw [Nat.testBit_and, e2]
  have h1 : (2 ^ k * (2 * m + 1)).testBit x = if x < k then false else (2 * m + 1).testBit (x - k) := by
    have := Nat.testBit_two_pow_mul_add (2 * m + 1) (b := 0) (i := k) hp x
    rw [Nat.add_zero] at this
    rw [this]
    simp
  rw [h1, Nat.testBit_two_pow_mul_add _ (by omega)]
  by_cases h : x < k
  · simp [h]
  · simp only [h, if_false]
    by_cases e : x = k
    · subst e
      rw [Nat.sub_self]
      simp
    · obtain ⟨y, hy⟩ : ∃ y, x - k = y + 1 := ⟨x - k - 1, by omega⟩
      rw [hy, Nat.testBit_succ, Nat.testBit_succ, show (2 * m + 1) / 2 = m by omega, show 2 * m / 2 = m by omega]
      simp [e]
theorem bits_step (t : Nat) (ht : t < 18446744073709551616) (h0 : t ≠ 0) : bitsOf t = Lib.ctz 64 t :: bitsOf (t &&& (t - 1)) ∧ Lib.ctz 64 t < 64 := by
  obtain ⟨m, hm, hk⟩ := Lib.ctzFrom_spec 64 t (by omega) ht
  have hc : Lib.ctz 64 t = Lib.ctzFrom 64 t := by unfold Lib.ctz; rw [if_neg h0]
  rw [hc]
  generalize Lib.ctzFrom 64 t = k at *
  refine ⟨?_, hk⟩
  unfold bitsOf
  refine bitsFrom_first t (t &&& (t - 1)) k 64 0 (Nat.zero_le _) (by omega) (fun x hx => ?_) ?_ (fun x => ?_)
  · have := Nat.testBit_two_pow_mul_add (2 * m + 1) (b := 0) (i := k) (Nat.two_pow_pos k) x
    rw [Nat.add_zero] at this
    rw [hm, this, if_pos hx]
    simp
  · have := Nat.testBit_two_pow_mul_add (2 * m + 1) (b := 0) (i := k) (Nat.two_pow_pos k) k
    rw [Nat.add_zero] at this
    rw [hm, this, if_neg (Nat.lt_irrefl _), Nat.sub_self]
    simp
  · rw [hm]
    exact low_struck k m x
theorem Tryd.infoInt : (Tryd.prog.info? 3).map (fun i => (i.zero, i.size, i.bytes)) = some (some (.int .i64 0), 1, 8) := by kernel_rfl
def natV (l : List Nat) : List Value := l.map fun k : Nat => Value.int .i64 (k : Int)
theorem natV_one (l : List Nat) : ∀ u ∈ natV l, u.oneCell' = true := by
  intro u hu
  obtain ⟨k, _, rfl⟩ := List.mem_map.1 hu
  rfl
/-- A slice of ints, none below 0. -/
def Nats (w : World) (v : Value) (l : List Nat) : Prop := RowOf w 3 1 v l.length (natV l)
def NGave (w : World) (l : List Nat) (e : Ending) (w' : World) : Prop := ∃ v, e = .returned v ∧ Nats w' v l ∧ Mod (fun _ => False) w w'
def NRel (w : World) (l : List Nat) (v : Value) (wr : World) : Prop := Nats wr v l ∧ Mod (fun _ => False) w wr ∧ ∀ q, v.ownBlock = some q → w.heap.size ≤ q
theorem NRel.put {w wr w' : World} {l : List Nat} {v v' : Value} {x : Nat} (h : NRel w l v wr) (hr : RowOf w' 3 1 v' (l.length + 1) (natV l ++ [.int .i64 (x : Int)])) (hg : (wr.alloc (.cells #[.int .i64 (x : Int)] 3)).grownBy w' v.ownBlock)
    (ho : v'.ownBlock = v.ownBlock ∨ v'.ownBlock = some (wr.heap.size + 1)) : NRel w (l ++ [x]) v' w' := by
  refine ⟨?_, (h.2.1.alloc _).grown hg (fun k hk => h.2.2 k hk), fun q hq => ?_⟩
  · have e1 : (l ++ [x]).length = l.length + 1 := by simp
    have e2 : natV (l ++ [x]) = natV l ++ [.int .i64 (x : Int)] := by simp [natV]
    unfold Nats
    rw [e1, e2]
    exact hr
  · have := h.2.1.size
    rcases ho with ho | ho
    · exact h.2.2 q (ho ▸ hq)
    · rw [ho] at hq
      have := Option.some.inj hq
      omega
theorem and_less (t : Nat) (ht : t < 18446744073709551616) (h0 : t ≠ 0) : bits .and .u64 (t : Int) ((t : Int) - 1) = ((t &&& (t - 1) : Nat) : Int) := by
  have h := bits_and_u64_nat t (t - 1) ht (by omega)
  rw [show ((t - 1 : Nat) : Int) = (t : Int) - 1 by omega] at h
  exact h
set_option maxHeartbeats 2000000 in
theorem list_any (s : Nat) (w : World) (hs : s < 18446744073709551616) (hT : Tab w) : Calls Tryd.prog 22 #[.int .u64 s] w (NGave w (bitsOf s)) := by
  obtain ⟨i0, hii, hz0, hz1, hz2⟩ := info_parts Tryd.infoInt
  have HT := Lib.hid hT
  have HR0 : Hid (NRel w [] (.slice none 0 0) w) := ⟨RowOf.nil _ _ _, Mod.refl _ _, fun q hq => by cases hq⟩
  have hl64 := bitsOf_len s
  clear hT
  go_enter Tryd.func22, Tryd.ntmps22
  go_wp2
  go_loopg [0, 3] (bitsOf s).length (fun g q acc wr => ∃ (t : Nat) (done : List Nat) (v : Value), t < 18446744073709551616 ∧ g = (bitsOf t).length ∧ q = .int .u64 (t : Int) ∧ v = acc ∧ Hid (bitsOf s = done ++ bitsOf t ∧ NRel w done v wr))
  case atStart => exact ⟨s, [], _, hs, rfl, rfl, rfl, ⟨rfl, HR0⟩⟩
  case round =>
    obtain ⟨t, done, v, ht, rfl, rfl, rfl, hD⟩ := hrel
    obtain ⟨hb, hR⟩ := hD.out
    by_cases h0 : t = 0
    · subst h0
      have HE : Hid (NGave w (bitsOf s) (.returned v) wr) := by
        have e : bitsOf 0 = [] := rfl
        rw [e, List.append_nil] at hb
        exact ⟨v, rfl, by rw [hb]; exact hR.1, hR.2.1⟩
      clear hb hR hD
      go_wp2
      go_ret
      exact HE.out
    · obtain ⟨hst, hk⟩ := bits_step t ht h0
      have hal := and_less t ht h0
      have t0 : ((t : Int) != 0) = true := by rw [bne_iff_ne]; omega
      have HTZ := Lib.hid (tz_any t wr ht h0 (HT.out.mod hR.2.1 (fun x => x)))
      have ht1 : (1 : Int) ≤ (t : Int) := by omega
      have ht2 : (t : Int) ≤ 18446744073709551615 := by omega
      have hdl : done.length ≤ 64 := by
        have := congrArg List.length hb
        rw [List.length_append] at this
        omega
      have hlt' : t &&& (t - 1) < 18446744073709551616 := Nat.lt_of_le_of_lt Nat.and_le_left ht
      have HB : Hid (bitsOf s = (done ++ [Lib.ctz 64 t]) ++ bitsOf (t &&& (t - 1))) := by
        show _ = _
        rw [hb, hst]
        simp
      have HL : Hid ((bitsOf t).length = (bitsOf (t &&& (t - 1))).length + 1) := by show _ = _; rw [hst]; rfl
      have HR := Lib.hid hR
      clear hb hR hD hst h0
      generalize t &&& (t - 1) = t' at *
      generalize Lib.ctz 64 t = k at *
      have HRW : Hid (RowOf (wr.alloc (.cells #[.int .i64 (k : Int)] 3)) 3 1 v done.length (natV done)) := RowOf.alloc HR.out.1 _
      have HX : Hid (SrcOk (wr.alloc (.cells #[.int .i64 (k : Int)] 3)) (.slice (some ⟨wr.heap.size, 0, none⟩) 1 1) 1 1 [.int .i64 (k : Int)]) := SrcOk.block (blk_new wr _) rfl (fun j u hu => by rw [Nat.zero_add]; simpa using hu) (by simp [Value.oneCell'])
      have HDL := Lib.hid hdl
      clear hdl
      go_wp2_with fail
      refine HTZ.out.mono ?_
      rintro e w1 ⟨rfl, rfl⟩
      go_wp2_with (at_builtin; refine wpList_append_row (by rfl) _ _ 35 (by rfl) i0 (.int .i64 0) 8 Tryd.underlying35 hii hz0 hz1 hz2 (by rfl) (by omega) (by rfl) HRW.out (natV_one _) _ 1 [.int .i64 (k : Int)] (by rfl) HX.out (by have := HDL.out; unfold maxLen; omega) (by have := HDL.out; omega) ?_)
      intro v' w' hv1 hv2 hv3
      have HE : Hid (bitsOf s = (done ++ [k]) ++ bitsOf t' ∧ NRel w (done ++ [k]) v' w') := ⟨HB.out, HR.out.put hv1 hv2 (by simpa using hv3)⟩
      clear hv1 hv2 hv3 HRW HX HR HB
      go_wp2
      go_roundg (bitsOf t').length
      case measure => have := HL.out; omega
      case rel => exact ⟨t', done ++ [k], v', hlt', rfl, rfl, rfl, HE⟩
/-! Count. -/
theorem and_shr (x m : Nat) (d : Nat) (hx : x < 18446744073709551616) (hm : m < 18446744073709551616) : bits .and .u64 ((x : Int) / (d : Int)) (m : Int) = ((x / d &&& m : Nat) : Int) := by
  have h := bits_and_u64_nat (x / d) m (Nat.lt_of_le_of_lt (Nat.div_le_self _ _) hx) hm
  rw [Int.natCast_ediv] at h
  exact h
theorem rep85 : rep 85 8 = 6148914691236517205 := by decide
theorem rep51 : rep 51 8 = 3689348814741910323 := by decide
theorem rep15 : rep 15 8 = 1085102592571150095 := by decide
theorem and_i127 (f : Nat) : bits .and .i64 (f : Int) 127 = ((f % 128 : Nat) : Int) := by
  rw [i64_and127]
  omega
set_option maxHeartbeats 1000000 in
theorem ones_any (x : Nat) (w : World) (hx : x < 18446744073709551616) : Calls Tryd.prog 30 #[.int .u64 x] w fun e w' => e = .returned (.int .i64 ((bitsOf x).length : Int)) ∧ w = w' := by
  obtain ⟨p1, hp1⟩ : ∃ p, p = (x / 2 &&& rep 85 8) := ⟨_, rfl⟩
  obtain ⟨q1, hq1⟩ : ∃ p, p = (x &&& rep 85 8) := ⟨_, rfl⟩
  have e1 : bits .and .u64 ((x : Int) / 2) 6148914691236517205 = (p1 : Int) := by rw [hp1, rep85]; exact and_shr x 6148914691236517205 2 hx (by decide)
  have e2 : bits .and .u64 (x : Int) 6148914691236517205 = (q1 : Int) := by rw [hq1, rep85]; exact bits_and_u64_nat x 6148914691236517205 hx (by decide)
  have b1 : (p1 : Int) ≤ 6148914691236517205 := by have := @Nat.and_le_right (x / 2) (rep 85 8); rw [← hp1, rep85] at this; omega
  have b2 : (q1 : Int) ≤ 6148914691236517205 := by have := @Nat.and_le_right x (rep 85 8); rw [← hq1, rep85] at this; omega
  obtain ⟨a, ha⟩ : ∃ a, a = p1 + q1 := ⟨_, rfl⟩
  have e3 : (p1 : Int) + (q1 : Int) = (a : Int) := by omega
  have ha64 : a < 18446744073709551616 := by omega
  obtain ⟨p2, hp2⟩ : ∃ p, p = (a / 4 &&& rep 51 8) := ⟨_, rfl⟩
  obtain ⟨q2, hq2⟩ : ∃ p, p = (a &&& rep 51 8) := ⟨_, rfl⟩
  have e4 : bits .and .u64 ((a : Int) / 4) 3689348814741910323 = (p2 : Int) := by rw [hp2, rep51]; exact and_shr a 3689348814741910323 4 ha64 (by decide)
  have e5 : bits .and .u64 (a : Int) 3689348814741910323 = (q2 : Int) := by rw [hq2, rep51]; exact bits_and_u64_nat a 3689348814741910323 ha64 (by decide)
  have b3 : (p2 : Int) ≤ 3689348814741910323 := by have := @Nat.and_le_right (a / 4) (rep 51 8); rw [← hp2, rep51] at this; omega
  have b4 : (q2 : Int) ≤ 3689348814741910323 := by have := @Nat.and_le_right a (rep 51 8); rw [← hq2, rep51] at this; omega
  obtain ⟨b, hb⟩ : ∃ b, b = p2 + q2 := ⟨_, rfl⟩
  have e6 : (p2 : Int) + (q2 : Int) = (b : Int) := by omega
  have b5 : (b : Int) ≤ 7378697629483820646 := by omega
  obtain ⟨c, hc⟩ : ∃ c, c = (b / 16 + b &&& rep 15 8) := ⟨_, rfl⟩
  have e7 : bits .and .u64 ((b : Int) / 16 + (b : Int)) 1085102592571150095 = (c : Int) := by
    have h := bits_and_u64_nat (b / 16 + b) 1085102592571150095 (by omega) (by decide)
    rw [hc, rep15]
    rw [Int.natCast_add, Int.natCast_ediv] at h
    exact h
  have b6 : (c : Int) ≤ 1085102592571150095 := by have := @Nat.and_le_right (b / 16 + b) (rep 15 8); rw [← hc, rep15] at this; omega
  obtain ⟨d, hd⟩ : ∃ d, d = c + c / 256 := ⟨_, rfl⟩
  have e8 : (c : Int) + (c : Int) / 256 = (d : Int) := by omega
  have b7 : (d : Int) ≤ 1200000000000000000 := by omega
  obtain ⟨e', he⟩ : ∃ e, e = d + d / 65536 := ⟨_, rfl⟩
  have e9 : (d : Int) + (d : Int) / 65536 = (e' : Int) := by omega
  have b8 : (e' : Int) ≤ 1300000000000000000 := by omega
  obtain ⟨f, hf⟩ : ∃ f, f = e' + e' / 4294967296 := ⟨_, rfl⟩
  have e10 : (e' : Int) + (e' : Int) / 4294967296 = (f : Int) := by omega
  have b9 : (f : Int) ≤ 1400000000000000000 := by omega
  have e11 := and_i127 f
  have hfin := count_steps x a b c d e' f (by rw [ha, hp1, hq1]; rfl) (by rw [hb, hp2, hq2]; rfl) hc hd he hf
  rw [hfin] at e11
  have x1 : (0 : Int) ≤ (x : Int) := by omega
  have x2 : (x : Int) ≤ 18446744073709551615 := by omega
  generalize (bitsOf x).length = r at *
  clear hp1 hq1 hp2 hq2 ha hb hc hd he hf hfin hx ha64
  go_enter Tryd.func30, Tryd.ntmps30
  go_wp2
  go_ret
  exact ⟨rfl, rfl⟩
theorem count_any (s : Nat) (w : World) (hs : s < 18446744073709551616) : Calls Tryd.prog 14 #[.int .u64 s] w fun e w' => e = .returned (.int .i64 ((bitsOf s).length : Int)) ∧ w = w' := by
  have HO := Lib.hid (ones_any s w hs)
  generalize (bitsOf s).length = r at *
  go_enter Tryd.func14, Tryd.ntmps14
  go_wp2_with fail
  refine HO.out.mono ?_
  rintro e w1 ⟨rfl, rfl⟩
  go_wp2
  go_ret
  exact ⟨rfl, rfl⟩
end Go.Proofs.YtkmfbddiebigfaaDoor
