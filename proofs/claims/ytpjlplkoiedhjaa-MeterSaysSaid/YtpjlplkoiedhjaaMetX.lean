/-
  MeterSays.
-/
import Derived.Test.YtpjlplkoiedhjaaMetW
namespace Go.Proofs.Ytpjlplkoiedhjaa
open Go.RowKit Go.Shoal Go.ChangeShapes Go.WideShapes Go.ChangeAt Go.Deep

/-- Both meters. -/
structure BothV (w0 : World) (g : Nat) (v : Value) (m : Mt) (rb : Nat) (vr : Value) (L : List Nat) (w : World) : Prop where
  sit : SitV w0 g v m w
  ref : RMAt w rb vr L
  own : w0.heap.size ≤ rb
  row : ∀ b, vr.ownBlock = some b → w0.heap.size ≤ b
  mt : MtFor L m
  lt : ∀ x ∈ L, x < B64
def Both (w0 : World) (g : Nat) (m : Mt) (rb : Nat) (L : List Nat) (w : World) : Prop := ∃ v vr, BothV w0 g v m rb vr L w
section
variable {w0 w w' : World} {g rb : Nat} {m : Mt} {L : List Nat}
theorem Both.same (h : Both w0 g m rb L w) (hm : Mod (fun _ => False) w w') : Both w0 g m rb L w' := by
  obtain ⟨v, vr, h⟩ := h
  exact ⟨v, vr, ⟨h.sit.here.keep hm (fun x => x) (fun _ _ x => x), h.sit.ok, h.sit.own, h.sit.row, hm.then_below h.sit.bel (fun _ x => x.elim) h.sit.base⟩, h.ref.same hm, h.own, h.row, h.mt, h.lt⟩
theorem Both.drewN (h : Both w0 g m rb L w) (n : Nat) : Both w0 g m rb L (w.drewN n) := h.same ((Mod.refl _ _).drewN n)
theorem Both.st (h : Both w0 g m rb L w) : Sit w0 g m w := by
  obtain ⟨v, vr, h⟩ := h
  exact ⟨v, h.sit⟩
theorem Both.mt (h : Both w0 g m rb L w) : MtFor L m := by
  obtain ⟨v, vr, h⟩ := h
  exact h.mt
theorem Both.lt (h : Both w0 g m rb L w) : ∀ x ∈ L, x < B64 := by
  obtain ⟨v, vr, h⟩ := h
  exact h.lt
/-- The program's Add is made, the reference's is not yet. -/
def Half (w0 : World) (g : Nat) (m : Mt) (rb : Nat) (L : List Nat) (x : Nat) (w : World) : Prop :=
  ∃ v vr, SitV w0 g v m w ∧ RMAt w rb vr L ∧ w0.heap.size ≤ rb ∧ (∀ b, vr.ownBlock = some b → w0.heap.size ≤ b) ∧ MtFor (L ++ [x]) m ∧ ∀ y ∈ L ++ [x], y < B64
def HalfAdded (w0 : World) (g rb : Nat) (L : List Nat) (x : Nat) (e : Ending) (w' : World) : Prop := e = .returned (.tuple #[]) ∧ ∃ m', Half w0 g m' rb L x w'
theorem both_add {x : Nat} (h : Both w0 g m rb L w) (hx : x < B64) (hl : L.length ≤ 1000) : Calls Try.prog 10 #[.pointer (some ⟨g, 0, none⟩), .float .f64 x] w (HalfAdded w0 g rb L x) := by
  obtain ⟨v, vr, h⟩ := h
  refine (add_any g v m x w h.sit.here h.sit.ok hx (by rw [h.mt.len]; exact hl)).mono fun e w' ⟨he, m', ha, hs⟩ => ?_
  obtain ⟨v', h1, h2, h3⟩ := h.sit.step ha hx hs
  refine ⟨he, m', v', vr, h1, h.ref.keep h3 (fun e => ?_) (fun b hb e => ?_), h.own, h.row, h.mt.step h.sit.ok ha, fun y hy => ?_⟩
  · rcases e with e | e
    · exact blk_ne h.ref.1 h.sit.here.1 (by decide) e
    · obtain ⟨cur, hc⟩ := RowOf.block h.sit.here.2.1 e
      exact blk_ne hc h.ref.1 (by decide) rfl
  · obtain ⟨cur, hc⟩ := RowOf.block h.ref.2 hb
    rcases e with e | e
    · exact blk_ne hc h.sit.here.1 (by decide) e
    · obtain ⟨cur', hc'⟩ := RowOf.block h.sit.here.2.1 e
      exact blk_ne hc hc' (by decide) rfl
  · rcases List.mem_append.1 hy with hy | hy
    · exact h.lt y hy
    · rw [List.mem_singleton.1 hy]; exact hx
def BothAdded (w0 : World) (g : Nat) (m : Mt) (rb : Nat) (L : List Nat) (e : Ending) (w' : World) : Prop := e = .returned (.tuple #[]) ∧ Both w0 g m rb L w'
theorem half_add {x : Nat} (h : Half w0 g m rb L x w) (hl : L.length ≤ 1000) : Calls Try.prog 20 #[.pointer (some ⟨rb, 0, none⟩), .float .f64 x] w (BothAdded w0 g m rb (L ++ [x])) := by
  obtain ⟨v, vr, hs, hr, ho, hv, hm, hb⟩ := h
  refine (radd_any rb vr L x w hr hl).mono fun e w' ⟨he, v', h1, h2, h3⟩ => ?_
  refine ⟨he, v, v', ⟨hs.here.keep h3 (fun e => blk_ne hs.here.1 hr.1 (by decide) e) (fun b hb e => ?_), hs.ok, hs.own, hs.row, h3.then_below hs.bel (fun i hi => by rw [hi]; exact ho) hs.base⟩, h1, ho, fun b hb => Nat.le_trans hs.base (h2 b hb), hm, hb⟩
  obtain ⟨cur, hc⟩ := RowOf.block hs.here.2.1 hb
  exact blk_ne hc hr.1 (by decide) e
def Keeps (w0 : World) (g : Nat) (m : Mt) (rb : Nat) (L : List Nat) (v : Value) (e : Ending) (w' : World) : Prop := e = .returned v ∧ Both w0 g m rb L w'
theorem both_count (h : Both w0 g m rb L w) : Calls Try.prog 21 #[.pointer (some ⟨g, 0, none⟩)] w (Keeps w0 g m rb L (.tuple #[.int .i64 (L.length : Int), .int .i64 ((nums L).length : Int), .int .i64 ((fins L).length : Int)])) := by
  have := sit_count h.st
  rw [h.mt.len, h.mt.n, h.mt.f] at this
  exact this.mono fun e w' ⟨he, n, hw⟩ => ⟨he, hw ▸ h.drewN n⟩
def Rows (w0 : World) (g : Nat) (m : Mt) (rb : Nat) (L l : List Nat) (e : Ending) (w' : World) : Prop := ∃ v, e = .returned v ∧ Fls w' v l ∧ Both w0 g m rb L w'
theorem both_numbers (h : Both w0 g m rb L w) (hl : L.length ≤ 1000) : Calls Try.prog 22 #[.pointer (some ⟨rb, 0, none⟩)] w (Rows w0 g m rb L (nums L)) := by
  obtain ⟨v, vr, k⟩ := h
  exact (rnumbers_any rb vr L w k.ref hl k.lt).mono fun e w' ⟨v', he, hf, hm⟩ => ⟨v', he, hf, Both.same ⟨v, vr, k⟩ hm⟩
theorem both_finite (h : Both w0 g m rb L w) (hl : L.length ≤ 1000) : Calls Try.prog 23 #[.pointer (some ⟨rb, 0, none⟩)] w (Rows w0 g m rb L (fins L)) := by
  obtain ⟨v, vr, k⟩ := h
  exact (rfinite_any rb vr L w k.ref hl k.lt).mono fun e w' ⟨v', he, hf, hm⟩ => ⟨v', he, hf, Both.same ⟨v, vr, k⟩ hm⟩
/-- A number is told that is the other's. -/
def Tells (w0 : World) (g : Nat) (m : Mt) (rb : Nat) (L : List Nat) (a : Nat) (e : Ending) (w' : World) : Prop := ∃ s, e = .returned (.float .f64 s) ∧ s < B64 ∧ sameW a s = true ∧ Both w0 g m rb L w'
theorem both_rsum (h : Both w0 g m rb L w) (hl : L.length ≤ 1000) : Calls Try.prog 25 #[.pointer (some ⟨rb, 0, none⟩)] w (Tells w0 g m rb L m.s) := by
  obtain ⟨v, vr, k⟩ := h
  exact (rsum_any rb vr L w k.ref hl k.lt).mono fun e w' ⟨s, he, h1, h2, hm⟩ => ⟨s, he, h1, (SumR.same k.mt.s h2).key, Both.same ⟨v, vr, k⟩ hm⟩
theorem both_rsmooth (h : Both w0 g m rb L w) (hl : L.length ≤ 1000) : Calls Try.prog 29 #[.pointer (some ⟨rb, 0, none⟩)] w (Tells w0 g m rb L m.sm) := by
  obtain ⟨v, vr, k⟩ := h
  exact (rsmooth_any rb vr L w k.ref hl k.lt).mono fun e w' ⟨s, he, h1, h2, hm⟩ => ⟨s, he, h1, (SmR.same k.mt.sm h2).key, Both.same ⟨v, vr, k⟩ hm⟩
theorem mean_same {a b : Nat} (h : MtFor L m) (ha : MeanOf m a) (hb : RMean (nums L) b) : SameN a b := by
  have hn := h.n
  rcases ha with ⟨h1, h2⟩ | ⟨h1, h2⟩ <;> rcases hb with ⟨k1, k2⟩ | ⟨k1, s, k2, k3⟩
  · rw [h2, k2]; exact .refl _
  · exact absurd (List.eq_nil_of_length_eq_zero (by omega)) k1
  · rw [k1] at hn
    exact absurd hn h1
  · rw [hn] at h2
    exact arith_same (.inr (.inr rfl)) h2 k3 (SumR.same h.s k2) (.refl _)
def Means (w0 : World) (g : Nat) (m : Mt) (rb : Nat) (L : List Nat) (e : Ending) (w' : World) : Prop := ∃ a, e = .returned (.float .f64 a) ∧ MeanOf m a ∧ Both w0 g m rb L w'
theorem both_mean (h : Both w0 g m rb L w) : Calls Try.prog 16 #[.pointer (some ⟨g, 0, none⟩)] w (Means w0 g m rb L) :=
  (sit_mean h.st).mono fun _ _ ⟨⟨a, he, ha⟩, n, hw⟩ => ⟨a, he, ha, hw ▸ h.drewN n⟩
theorem both_rmean {a : Nat} (h : Both w0 g m rb L w) (hl : L.length ≤ 1000) (ha : MeanOf m a) : Calls Try.prog 26 #[.pointer (some ⟨rb, 0, none⟩)] w (Tells w0 g m rb L a) := by
  obtain ⟨v, vr, k⟩ := h
  exact (rmean_any rb vr L w k.ref hl k.lt).mono fun e w' ⟨s, he, h1, h2, hm⟩ => ⟨s, he, h1, (mean_same k.mt ha h2).key, Both.same ⟨v, vr, k⟩ hm⟩
theorem mean_lt {a : Nat} (ha : MeanOf m a) : a < B64 := by
  rcases ha with ⟨_, rfl⟩ | ⟨_, h⟩
  · exact nan_w.1
  · exact h.1
theorem both_rank (h : Both w0 g m rb L w) (hl : L.length ≤ 1000) (x : Nat) (hx : x < B64) : Calls Try.prog 15 #[.pointer (some ⟨g, 0, none⟩), .float .f64 x] w (Keeps w0 g m rb L (.int .i64 (below L x : Int))) := by
  have := sit_rank h.st x hx (by rw [h.mt.len]; omega)
  rw [h.mt.rk] at this
  exact this.mono fun e w' ⟨he, n, hw⟩ => ⟨he, hw ▸ h.drewN n⟩
theorem both_rrank (h : Both w0 g m rb L w) (hl : L.length ≤ 1000) (x : Nat) (hx : x < B64) : Calls Try.prog 30 #[.pointer (some ⟨rb, 0, none⟩), .float .f64 x] w fun e w' => e = .returned (.int .i64 (below L x : Int)) ∧ w = w' := by
  obtain ⟨v, vr, k⟩ := h
  exact rrank_any rb vr L x w k.ref hl k.lt hx
theorem both_rmin (h : Both w0 g m rb L w) (hl : L.length ≤ 1000) {v : Value} (hv : Fls w v (nums L)) : Calls Try.prog 27 #[v] w fun e w' => e = .returned (.float .f64 m.le) ∧ w = w' := by
  rw [h.mt.le]
  exact rmin_any v (nums L) w (hv.flts (Nat.le_trans (List.length_filter_le _ _) hl) (nums_lt h.lt))
theorem both_rmax (h : Both w0 g m rb L w) (hl : L.length ≤ 1000) {v : Value} (hv : Fls w v (nums L)) : Calls Try.prog 28 #[v] w fun e w' => e = .returned (.float .f64 m.mo) ∧ w = w' := by
  rw [h.mt.mo]
  exact rmax_any v (nums L) w (hv.flts (Nat.le_trans (List.length_filter_le _ _) hl) (nums_lt h.lt))
theorem rsame_yes {a b : Nat} (h : sameW a b = true) (ha : a < B64) (hb : b < B64) (w : World) : Calls Try.prog 24 #[.float .f64 a, .float .f64 b] w fun e w' => e = .returned (.bool true) ∧ w = w' := by
  have := rsame_any a b w ha hb
  rw [h] at this
  exact this
end
theorem says_out (v : Value) (l : List Nat) (x : Nat) (w : World) (hz : Flts w v l) (h : 60 < l.length) :
    Calls Try.prog 5 #[v, .float .f64 x] w fun e w' => e = .returned (.bool true) ∧ Below w.heap.size w w' := by
  obtain ⟨A, c, rfl, hl, _⟩ := hz
  unfold maxLen at hl
  have HA := Lib.hid (awake_any w)
  have t1 : decide ((60 : Int) < (l.length : Int)) = true := decide_eq_true (by omega)
  go_enter Try.func5, Try.ntmps5
  go_wp2_with fail
  refine HA.out.mono ?_
  rintro e w1 ⟨rfl, hm⟩
  have HM := Lib.hid hm.none_below
  clear hm
  go_wp2
  go_ret
  exact ⟨rfl, HM.out⟩
set_option maxRecDepth 100000 in
set_option maxHeartbeats 8000000 in
theorem says_in (v : Value) (l : List Nat) (x : Nat) (w : World) (hz : Flts w v l) (hx : x < B64) (h : l.length ≤ 60) :
    Calls Try.prog 5 #[v, .float .f64 x] w fun e w' => e = .returned (.bool true) ∧ Below w.heap.size w w' := by
  obtain ⟨A, c, rfl⟩ : ∃ A c, v = .slice A l.length c := by obtain ⟨A, c, h, _⟩ := hz; exact ⟨A, c, h⟩
  have HZ := Lib.hid hz
  have HX : Hid (x < B64) := hx
  have HA := Lib.hid (awake_any w)
  have t1 : decide ((60 : Int) < (l.length : Int)) = false := decide_eq_false (by omega)
  clear hz hx
  go_enter Try.func5, Try.ntmps5
  go_wp2_with fail
  refine HA.out.mono ?_
  rintro e w1 ⟨rfl, hm⟩
  have HM1 := Lib.hid hm.none_below
  clear hm HA
  go_wp2_with fail
  refine (new_any _).mono ?_
  intro e w2 hn
  have HB0 : Hid (Both w w1.heap.size newMt w2.heap.size [] (w2.alloc (.cells #[.slice none 0 0] 39))) := by
    obtain ⟨v, hs⟩ := (Sit.new hn HM1.out).2
    have hm : Mod (fun _ => False) w2 (w2.alloc (.cells #[.slice none 0 0] 39)) := (Mod.refl _ _).alloc _
    exact ⟨v, .slice none 0 0, ⟨hs.here.keep hm (fun x => x) (fun _ _ x => x), hs.ok, hs.own, hs.row, hm.then_below hs.bel (fun _ x => x.elim) hs.base⟩, ⟨blk_new _ _, RowOf.nil _ _ _⟩, hs.base, fun b hb => (by cases hb), MtFor.new, fun y hy => by cases hy⟩
  obtain ⟨rfl, -, -⟩ := hn
  clear HM1
  generalize w1.heap.size = g at *
  go_wp2
  generalize w2.heap.size = rb at *
  go_loopw [7] (fun i wr => ∃ k : Nat, k ≤ l.length ∧ i = .int .i64 k ∧ Hid (∃ m, Both w g m rb (l.take k) wr)) (fun i _ => l.length - (intOf i).toNat)
  case atStart => exact ⟨0, Nat.zero_le _, rfl, ⟨_, HB0.out⟩⟩
  case round =>
    obtain ⟨k, hk, rfl, hD⟩ := hrel
    obtain ⟨m0, hB⟩ := hD.out
    have HB := Lib.hid hB
    clear hB hD
    by_cases hlt : k < l.length
    · obtain ⟨b, o, rfl, hy, hc⟩ := flts_cell HZ.out k hlt
      have HC := Lib.hid hc
      have HTS := Lib.hid (take_snoc hlt)
      have hi : (k : Int) < l.length := by omega
      have hi0 : (0 : Int) ≤ (k : Int) := by omega
      have tk : decide (k < l.length) = true := decide_eq_true hlt
      have hlk : (l.take k).length ≤ 1000 := by rw [List.length_take]; omega
      have HLK : Hid ((l.take k).length ≤ 1000) := hlk
      have HLK1 : Hid ((l.take (k + 1)).length ≤ 1000) := by show _ ≤ _; rw [List.length_take]; omega
      have HLE : Hid ((l.take (k + 1)).length = k + 1) := by show _ = _; rw [List.length_take]; omega
      generalize l.getD k 0 = y at *
      have k0 := HC.out wr HB.out.st.bel
      have HAD := Lib.hid (both_add HB.out hy hlk)
      clear hc hy hlk HB
      go_wp2_with fail
      refine HAD.out.mono ?_
      rintro e w4 ⟨rfl, m, hH⟩
      have HH := Lib.hid hH
      have k1 := HC.out w4 (by obtain ⟨_, _, hs, _⟩ := hH; exact hs.bel)
      clear hH HAD k0
      go_wp2_with fail
      refine (half_add HH.out HLK.out).mono ?_
      rintro e w5 ⟨rfl, hB⟩
      rw [← HTS.out] at hB
      have HB5 := Lib.hid hB
      clear hB HH k1 HTS HC HLK
      generalize hLL : l.take (k + 1) = L at *
      have HLL := Lib.hid hLL
      clear hLL
      have HCT := both_count HB5.out
      rw [HLE.out] at HCT
      have HCT := Lib.hid HCT
      go_wp2_with fail
      refine HCT.out.mono ?_
      rintro e w6 ⟨rfl, hB⟩
      have HB6 := Lib.hid hB
      have hn1 : (nums L).length ≤ 1000 := Nat.le_trans (List.length_filter_le _ _) HLK1.out
      have hn2 : (fins L).length ≤ 1000 := Nat.le_trans (List.length_filter_le _ _) HLK1.out
      have HL1 := HLK1
      clear hB HB5 HCT HLE
      go_wp2_with fail
      refine (both_numbers HB6.out HLK1.out).mono ?_
      rintro e w7 ⟨v7, rfl, hf, hB⟩
      have HB7 := Lib.hid hB
      obtain ⟨A7, c7, rfl⟩ := RowOf.form hf
      clear hf hB HB6
      go_wp2_with fail
      refine (both_finite HB7.out HLK1.out).mono ?_
      rintro e w8 ⟨v8, rfl, hf, hB⟩
      have HB8 := Lib.hid hB
      obtain ⟨A8, c8, rfl⟩ := RowOf.form hf
      clear hf hB HB7
      go_wp2_with fail
      refine (sit_sum HB8.out.st).mono ?_
      rintro e wx ⟨rfl, rfl⟩
      go_wp2_with fail
      refine (both_rsum HB8.out HLK1.out).mono ?_
      rintro e w9 ⟨s, rfl, hs1, hs2, hB⟩
      have HB9 := Lib.hid hB
      have HS := Lib.hid (fun W => rsame_yes hs2 HB9.out.st.ok.hs hs1 W)
      clear hs1 hs2 hB HB8
      go_wp2_with fail
      refine (HS.out _).mono ?_
      rintro e wx ⟨rfl, rfl⟩
      clear HS
      go_wp2_with fail
      refine (both_mean HB9.out).mono ?_
      rintro e w10 ⟨a, rfl, ha, hB⟩
      have HB10 := Lib.hid hB
      have HAM := Lib.hid ha
      clear ha hB HB9
      go_wp2_with fail
      refine (both_rmean HB10.out HLK1.out HAM.out).mono ?_
      rintro e w11 ⟨s, rfl, hs1, hs2, hB⟩
      have HB11 := Lib.hid hB
      have HS := Lib.hid (fun W => rsame_yes hs2 (mean_lt HAM.out) hs1 W)
      clear hs1 hs2 hB HB10
      go_wp2_with fail
      refine (HS.out _).mono ?_
      rintro e wx ⟨rfl, rfl⟩
      clear HS HAM
      go_wp2_with fail
      refine (sit_least HB11.out.st).mono ?_
      rintro e wx ⟨rfl, rfl⟩
      go_wp2_with fail
      refine (both_numbers HB11.out HLK1.out).mono ?_
      rintro e w12 ⟨v12, rfl, hf, hB⟩
      have HB12 := Lib.hid hB
      have HMIN := Lib.hid (both_rmin hB HLK1.out hf)
      clear hf hB HB11
      go_wp2_with fail
      refine HMIN.out.mono ?_
      rintro e wx ⟨rfl, rfl⟩
      go_wp2_with fail
      refine (rsame_yes (SameN.key (.refl _)) HB12.out.st.ok.hle HB12.out.st.ok.hle _).mono ?_
      rintro e wx ⟨rfl, rfl⟩
      clear HMIN
      go_wp2_with fail
      refine (sit_most HB12.out.st).mono ?_
      rintro e wx ⟨rfl, rfl⟩
      go_wp2_with fail
      refine (both_numbers HB12.out HLK1.out).mono ?_
      rintro e w13 ⟨v13, rfl, hf, hB⟩
      have HB13 := Lib.hid hB
      have HMAX := Lib.hid (both_rmax hB HLK1.out hf)
      clear hf hB HB12
      go_wp2_with fail
      refine HMAX.out.mono ?_
      rintro e wx ⟨rfl, rfl⟩
      go_wp2_with fail
      refine (rsame_yes (SameN.key (.refl _)) HB13.out.st.ok.hmo HB13.out.st.ok.hmo _).mono ?_
      rintro e wx ⟨rfl, rfl⟩
      clear HMAX
      go_wp2_with fail
      refine (sit_smooth HB13.out.st).mono ?_
      rintro e wx ⟨rfl, rfl⟩
      go_wp2_with fail
      refine (both_rsmooth HB13.out HLK1.out).mono ?_
      rintro e w14 ⟨s, rfl, hs1, hs2, hB⟩
      have HB14 := Lib.hid hB
      have HS := Lib.hid (fun W => rsame_yes hs2 HB14.out.st.ok.hsm hs1 W)
      clear hs1 hs2 hB HB13
      go_wp2_with fail
      refine (HS.out _).mono ?_
      rintro e wx ⟨rfl, rfl⟩
      clear HS
      go_wp2_with fail
      refine (both_rank HB14.out HLK1.out x HX.out).mono ?_
      rintro e w15 ⟨rfl, hB⟩
      have HB15 := Lib.hid hB
      clear hB HB14
      go_wp2_with fail
      refine (both_rrank HB15.out HLK1.out x HX.out).mono ?_
      rintro e wx ⟨rfl, rfl⟩
      have HE : Hid (∃ m, Both w g m rb (l.take (k + 1)) w15) := by
        show ∃ m, _
        rw [HLL.out]
        exact ⟨m, HB15.out⟩
      clear HB15 HLK1 HL1 HLL
      go_wp2
      go_roundw
      case rel => exact ⟨k + 1, by omega, by go_num, HE⟩
      case measure => simp [intOf]; omega
    · obtain rfl : k = l.length := by omega
      have ti : decide (l.length < l.length) = false := decide_eq_false (by omega)
      have HE : Hid (Below w.heap.size w wr) := HB.out.st.bel
      clear HB hlt
      go_wp2
      go_ret
      exact ⟨rfl, HE.out⟩
theorem says_walk {H : Type} {enc : TypeId × Value → H} {b0 : Nat} {d : DataW H} {ps : List MemPlace} (W : World) (v : Value) (hok : Value.okWide Try.prog W .any b0 36 v)
    (h : DataW.Trod enc Try.prog W 0 (fun _ => true) true 36 v d ps) (x : Nat) (hx : (Lit.float .f64 x).wf = true) : Calls Try.prog 5 #[v, .float .f64 x] W fun e w' => e = .returned (.bool true) ∧ Below W.heap.size W w' := by
  obtain ⟨l, hz⟩ := open_rows (C := 1) (cells := fltCells) (fit := fun b => b < B64) Try.underlying36 (show Try.prog.cellsOf 22 = 1 by kernel_rfl) (by decide) flt_of hok h
  by_cases h : 60 < l.length
  · exact says_out v l x W hz h
  · exact says_in v l x W hz (flt_lt hx) (by omega)
end Go.Proofs.Ytpjlplkoiedhjaa
