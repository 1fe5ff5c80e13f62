/-
  What the reference's meter tells, walked; both meters.
-/
import Derived.Test.YtpjlplkoiedhjaaMetV
namespace Go.Proofs.Ytpjlplkoiedhjaa
open Go.RowKit Go.Shoal

/-- What a call that tells a number leaves. -/
def FTold (w : World) (R : Nat → Prop) (e : Ending) (w' : World) : Prop := ∃ s, e = .returned (.float .f64 s) ∧ s < B64 ∧ R s ∧ Mod (fun _ => False) w w'
theorem SumR.lt : ∀ {l : List Nat} {s : Nat}, SumR l s → s < B64
  | [], s, h => by
    have h : s = 0 := h
    rw [h]; decide
  | _ :: _, _, ⟨_, _, h⟩ => h.1
theorem SmR.lt : ∀ {l : List Nat} {s : Nat}, SmR l s → (∀ x ∈ l, x < B64) → s < B64
  | [], s, h, _ => by
    have h : s = 0 := h
    rw [h]; decide
  | x :: _, _, h, hl => by
    rcases h with ⟨_, e⟩ | ⟨_, _, _, _, _, _, _, h⟩
    · rw [e]; exact hl x (List.mem_cons_self ..)
    · exact h.1
theorem take_snoc {L : List Nat} {k : Nat} (h : k < L.length) : L.take (k + 1) = L.take k ++ [L.getD k 0] := by
  rw [List.take_succ_eq_append_getElem h, List.getD_eq_getElem?_getD, List.getElem?_eq_getElem h]; rfl
set_option maxHeartbeats 2000000 in
theorem rsum_any (r : Nat) (v : Value) (L : List Nat) (w : World) (h : RMAt w r v L) (hl : L.length ≤ 1000) (hb : ∀ x ∈ L, x < B64) :
    Calls Try.prog 25 #[.pointer (some ⟨r, 0, none⟩)] w (FTold w (SumOf (nums L))) := by
  have HN := Lib.hid (rnumbers_any r v L w h hl hb)
  clear h hb
  go_enter Try.func25, Try.ntmps25
  go_wp2_with fail
  refine HN.out.mono ?_
  rintro e w1 ⟨v1, rfl, hv, hm⟩
  have HV := Lib.hid hv
  have HM := Lib.hid hm
  have hln : (nums L).length ≤ 1000 := Nat.le_trans (List.length_filter_le _ _) hl
  generalize nums L = l at *
  obtain ⟨A, c, rfl⟩ := RowOf.form hv
  clear hv hm HN
  go_wp2
  go_loopw [3, 5] (fun q i wr => ∃ (k s : Nat), k ≤ l.length ∧ i = .int .i64 k ∧ q = .float .f64 s ∧ Hid (SumOf (l.take k) s ∧ ∃ n, wr = w1.drewN n)) (fun _ i _ => l.length - (intOf i).toNat)
  case atStart => exact ⟨0, 0, Nat.zero_le _, rfl, rfl, ⟨rfl, 0, rfl⟩⟩
  case round =>
    obtain ⟨k, s, hk, rfl, rfl, hD⟩ := hrel
    obtain ⟨n, hn⟩ := hD.out.2
    by_cases hlt : k < l.length
    · have hV : Fls wr (.slice A l.length c) l := by rw [hn]; exact HV.out
      obtain ⟨b, o, rfl, _, hc⟩ := Fls.cell hV hlt
      have HTS := Lib.hid (take_snoc hlt)
      have hi : (k : Int) < l.length := by omega
      have hi0 : (0 : Int) ≤ (k : Int) := by omega
      have tk : decide (k < l.length) = true := decide_eq_true hlt
      generalize l.getD k 0 = x at *
      obtain ⟨s', kk, hrun, ha⟩ := arith_run (P := Try.prog) .add (.inl rfl) 22 s x wr
      have HE : Hid (SumOf (l.take (k + 1)) s' ∧ ∃ n, wr.drewN kk = w1.drewN n) := ⟨by rw [HTS.out]; exact hD.out.1.snoc ha, n + kk, by rw [hn, World.drewN_drewN]⟩
      clear hV hn ha hD
      go_wp2
      go_roundw
      case rel => exact ⟨k + 1, s', by omega, by go_num, rfl, HE⟩
      case measure => simp [intOf]; omega
    · obtain rfl : k = l.length := by omega
      have ti : decide (l.length < l.length) = false := decide_eq_false (by omega)
      have HE : Hid (FTold w (SumOf l) (.returned (.float .f64 s)) wr) := by
        have h1 := hD.out.1
        rw [List.take_length] at h1
        exact ⟨s, rfl, SumR.lt h1, h1, by rw [hn]; exact HM.out.drewN n⟩
      clear hn hD hlt
      go_wp2
      go_ret
      exact HE.out
def RMean (l : List Nat) (r : Nat) : Prop := (l = [] ∧ r = nanW) ∨ (l ≠ [] ∧ ∃ s, SumOf l s ∧ Arith .quo s (floatOfInt .f64 (l.length : Int)) r)
set_option maxHeartbeats 2000000 in
theorem rmean_any (r : Nat) (v : Value) (L : List Nat) (w : World) (h : RMAt w r v L) (hl : L.length ≤ 1000) (hb : ∀ x ∈ L, x < B64) :
    Calls Try.prog 26 #[.pointer (some ⟨r, 0, none⟩)] w (FTold w (RMean (nums L))) := by
  have HN := Lib.hid (rnumbers_any r v L w h hl hb)
  have HS : Hid (∀ w1, Mod (fun _ => False) w w1 → Calls Try.prog 25 #[.pointer (some ⟨r, 0, none⟩)] w1 (FTold w1 (SumOf (nums L)))) := Lib.hid fun w1 hm => rsum_any r v L w1 (h.same hm) hl hb
  have hln : (nums L).length ≤ 1000 := Nat.le_trans (List.length_filter_le _ _) hl
  clear h hb
  generalize nums L = l at *
  go_enter Try.func26, Try.ntmps26
  go_wp2_with fail
  refine HN.out.mono ?_
  rintro e w1 ⟨v1, rfl, hv, hm⟩
  have HM := Lib.hid hm
  obtain ⟨A, c, rfl⟩ := RowOf.form hv
  clear hv hm HN
  by_cases h0 : l = []
  · have HE : Hid (RMean l nanW) := Lib.hid (.inl ⟨h0, rfl⟩)
    have t1 : ((l.length : Int) == 0) = true := by rw [h0]; rfl
    have t2 : (l.length : Int) = 0 := by rw [h0]; rfl
    have HNAN := Lib.hid (nan_any w1)
    clear h0
    go_wp2_with fail
    refine HNAN.out.mono ?_
    rintro e w2 ⟨rfl, rfl⟩
    go_wp2
    go_ret
    exact ⟨nanW, rfl, nan_w.1, HE.out, HM.out⟩
  · have hpos : 0 < l.length := List.length_pos_iff.2 h0
    have t1 : ((l.length : Int) == 0) = false := by rw [beq_eq_false_iff_ne]; omega
    have t2 : ¬ ((l.length : Int) = 0) := by omega
    have HNE := Lib.hid h0
    have HSU := Lib.hid (HS.out w1 HM.out)
    clear h0 HS
    go_wp2_with fail
    refine HSU.out.mono ?_
    rintro e w2 ⟨s, rfl, hs64, hs, hm2⟩
    obtain ⟨q, kk, hrun, ha⟩ := arith_run (P := Try.prog) .quo (.inr (.inr rfl)) 22 s (floatOfInt .f64 (l.length : Int)) w2
    have HE : Hid (FTold w (RMean l) (.returned (.float .f64 q)) (w2.drewN kk)) := ⟨q, rfl, ha.1, .inr ⟨HNE.out, s, hs, ha⟩, (HM.out.trans hm2).drewN kk⟩
    clear hs64 hs hm2 ha HSU
    go_wp2
    go_ret
    exact HE.out
set_option maxHeartbeats 2000000 in
theorem rsmooth_any (r : Nat) (v : Value) (L : List Nat) (w : World) (h : RMAt w r v L) (hl : L.length ≤ 1000) (hb : ∀ x ∈ L, x < B64) :
    Calls Try.prog 29 #[.pointer (some ⟨r, 0, none⟩)] w (FTold w (SmOf (fins L))) := by
  have HN := Lib.hid (rfinite_any r v L w h hl hb)
  have HLT := Lib.hid (fins_lt hb)
  clear h hb
  go_enter Try.func29, Try.ntmps29
  go_wp2_with fail
  refine HN.out.mono ?_
  rintro e w1 ⟨v1, rfl, hv, hm⟩
  have HV := Lib.hid hv
  have HM := Lib.hid hm
  have hln : (fins L).length ≤ 1000 := Nat.le_trans (List.length_filter_le _ _) hl
  generalize fins L = l at *
  obtain ⟨A, c, rfl⟩ := RowOf.form hv
  clear hv hm HN
  go_wp2
  go_loopw [4, 5] (fun q i wr => ∃ (k s : Nat), k ≤ l.length ∧ i = .int .i64 k ∧ q = .float .f64 s ∧ Hid (SmOf (l.take k) s ∧ ∃ n, wr = w1.drewN n)) (fun _ i _ => l.length - (intOf i).toNat)
  case atStart => exact ⟨0, 0, Nat.zero_le _, rfl, rfl, ⟨rfl, 0, rfl⟩⟩
  case round =>
    obtain ⟨k, s, hk, rfl, rfl, hD⟩ := hrel
    obtain ⟨n, hn⟩ := hD.out.2
    by_cases hlt : k < l.length
    · have hV : Fls wr (.slice A l.length c) l := by rw [hn]; exact HV.out
      obtain ⟨b, o, rfl, _, hc⟩ := Fls.cell hV hlt
      have HTS := Lib.hid (take_snoc hlt)
      have hi : (k : Int) < l.length := by omega
      have hi0 : (0 : Int) ≤ (k : Int) := by omega
      have tk : decide (k < l.length) = true := decide_eq_true hlt
      generalize l.getD k 0 = x at *
      by_cases h0 : k = 0
      · subst h0
        have HE : Hid (SmOf (l.take (0 + 1)) x ∧ ∃ n, wr = w1.drewN n) := ⟨by rw [HTS.out]; exact SmOf.one x, n, hn⟩
        rw [Nat.add_zero] at hc
        clear hV hn hD
        go_wp2
        go_roundw
        case rel => exact ⟨0 + 1, x, by omega, by go_num, rfl, HE⟩
        case measure => simp [intOf]; omega
      · have t0 : ((k : Int) == 0) = false := by rw [beq_eq_false_iff_ne]; omega
        have t0' : ¬ ((k : Int) = 0) := by omega
        have HNE : Hid (l.take k ≠ []) := Lib.hid fun e => by
          have h9 : (l.take k).length = 0 := by rw [e]; rfl
          rw [List.length_take] at h9
          omega
        obtain ⟨d, k1, hr1, ha1⟩ := arith_run (P := Try.prog) .sub (.inr (.inl rfl)) 22 x s wr
        obtain ⟨q, k2, hr2, ha2⟩ := arith_run (P := Try.prog) .quo (.inr (.inr rfl)) 22 d 4620693217682128896 (wr.drewN k1)
        obtain ⟨z, k3, hr3, ha3⟩ := arith_run (P := Try.prog) .add (.inl rfl) 22 s q (wr.drewN (k1 + k2))
        have HE : Hid (SmOf (l.take (k + 1)) z ∧ ∃ n, wr.drewN (k1 + k2 + k3) = w1.drewN n) := ⟨by rw [HTS.out]; exact hD.out.1.snoc HNE.out ha1 ha2 ha3, n + (k1 + k2 + k3), by rw [hn, World.drewN_drewN]⟩
        clear hV hn ha1 ha2 ha3 hD h0
        go_wp2
        go_roundw
        case rel => exact ⟨k + 1, z, by omega, by go_num, rfl, HE⟩
        case measure => simp [intOf]; omega
    · obtain rfl : k = l.length := by omega
      have ti : decide (l.length < l.length) = false := decide_eq_false (by omega)
      have HE : Hid (FTold w (SmOf l) (.returned (.float .f64 s)) wr) := by
        have h1 := hD.out.1
        rw [List.take_length] at h1
        exact ⟨s, rfl, SmR.lt h1 (fun x hx => HLT.out x (List.mem_reverse.1 hx)), h1, by rw [hn]; exact HM.out.drewN n⟩
      clear hn hD hlt
      go_wp2
      go_ret
      exact HE.out
theorem below_snoc {L : List Nat} {k : Nat} (h : k < L.length) (x : Nat) : below (L.take (k + 1)) x = below (L.take k) x + if fkey (L.getD k 0) < fkey x then 1 else 0 := by
  unfold below
  rw [take_snoc h, List.filter_append, List.length_append]
  by_cases hk : fkey (L.getD k 0) < fkey x
  · rw [if_pos hk, List.filter_cons, if_pos (by simpa using hk)]; rfl
  · rw [if_neg hk, List.filter_cons, if_neg (by simpa using hk)]; rfl
theorem below_le (L : List Nat) (k x : Nat) : below (L.take k) x ≤ k := Nat.le_trans (List.length_filter_le _ _) (List.length_take_le _ _)
set_option maxHeartbeats 2000000 in
theorem rrank_any (r : Nat) (v : Value) (L : List Nat) (x : Nat) (w : World) (h : RMAt w r v L) (hl : L.length ≤ 1000) (hb : ∀ x ∈ L, x < B64) (hx : x < B64) :
    Calls Try.prog 30 #[.pointer (some ⟨r, 0, none⟩), .float .f64 x] w fun e w' => e = .returned (.int .i64 (below L x : Int)) ∧ w = w' := by
  have HB := Lib.hid hb
  have HX : Hid (x < B64) := hx
  have HH := Lib.hid h
  obtain ⟨A, c, rfl⟩ := RowOf.form h.2
  have c0 : w.cell? ⟨r, 0, none⟩ = some (.slice A L.length c) := (blk_cell h.1 0).trans rfl
  clear h hb hx
  go_enter Try.func30, Try.ntmps30
  go_wp2
  go_loop [5, 6] (fun q i => ∃ (k : Nat) (g : Nat), k ≤ L.length ∧ g ≤ k ∧ i = .int .i64 k ∧ q = .int .i64 g ∧ Hid (g = below (L.take k) x)) (fun _ i => L.length - (intOf i).toNat)
  case atStart => exact ⟨0, 0, Nat.zero_le _, Nat.le_refl _, rfl, rfl, rfl⟩
  case round =>
    obtain ⟨k, g, hk, hg, rfl, rfl, hD⟩ := hrel
    by_cases hlt : k < L.length
    · obtain ⟨b, o, rfl, _, hc⟩ := Fls.cell HH.out.2 hlt
      have hy : L.getD k 0 < B64 := by
        rw [List.getD_eq_getElem?_getD, List.getElem?_eq_getElem hlt]
        exact HB.out _ (List.getElem_mem hlt)
      have HBS := Lib.hid (below_snoc hlt x)
      have hi : (k : Int) < L.length := by omega
      have hi0 : (0 : Int) ≤ (k : Int) := by omega
      have tk : decide (k < L.length) = true := decide_eq_true hlt
      generalize L.getD k 0 = y at *
      have HC := Lib.hid (rcmp_any y x w hy HX.out)
      have tc := cmp_lt y x
      by_cases hq : fkey y < fkey x
      · rw [decide_eq_true hq] at tc
        have HE : Hid (g + 1 = below (L.take (k + 1)) x) := by
          show _ = _
          rw [HBS.out, if_pos hq, hD.out]
        generalize cmpW y x = cm at *
        clear hq hy
        go_wp2_with fail
        refine HC.out.mono ?_
        rintro e w1 ⟨rfl, rfl⟩
        go_wp2
        go_round
        case rel => exact ⟨k + 1, g + 1, by omega, by omega, by go_num, by go_num, HE⟩
        case measure => simp [intOf]; omega
      · rw [decide_eq_false hq] at tc
        have HE : Hid (g = below (L.take (k + 1)) x) := by
          show _ = _
          rw [HBS.out, if_neg hq, Nat.add_zero, hD.out]
        generalize cmpW y x = cm at *
        clear hq hy
        go_wp2_with fail
        refine HC.out.mono ?_
        rintro e w1 ⟨rfl, rfl⟩
        go_wp2
        go_round
        case rel => exact ⟨k + 1, g, by omega, by omega, by go_num, rfl, HE⟩
        case measure => simp [intOf]; omega
    · obtain rfl : k = L.length := by omega
      have ti : decide (L.length < L.length) = false := decide_eq_false (by omega)
      have HE : Hid (g = below L x) := by
        have h1 := hD.out
        rw [List.take_length] at h1
        exact h1
      clear hD hlt
      go_wp2
      go_ret
      exact ⟨by rw [HE.out]; rfl, rfl⟩
end Go.Proofs.Ytpjlplkoiedhjaa
