/-
  dset.Parse.
-/
import Derived.Test.YtkmfbddiebigfaaDoorDsD
import Derived.Lib.SplitLaws
namespace Go.Proofs.YtkmfbddiebigfaaDoor
open Go.RowKit Go.Shoal

/-- What Split and Atoi want of memory: the greatest row of bytes, the two errors. -/
def Errs (w : World) : Prop := 3 < w.heap.size ∧ (∃ ev, w.cell? ⟨1, 0, none⟩ = some ev ∧ (ev = .nilIface ∨ ∃ te pe, ev = .iface te pe)) ∧ (∃ ev, w.cell? ⟨2, 0, none⟩ = some ev ∧ (ev = .nilIface ∨ ∃ te pe, ev = .iface te pe)) ∧ ∃ m : Int, w.cell? ⟨3, 0, none⟩ = some (.int .i64 m)
theorem Errs.mod {w w' : World} (h : Errs w) (hm : Mod (fun _ => False) w w') : Errs w' := by
  obtain ⟨h1, h2, h3, h4⟩ := h
  have c : ∀ q, q < 4 → w'.cell? ⟨q, 0, none⟩ = w.cell? ⟨q, 0, none⟩ := fun q hq => World.cell?_of_block (hm.block q (by omega) (fun x => x))
  refine ⟨Nat.lt_of_lt_of_le h1 hm.size, ?_, ?_, ?_⟩
  · rw [c 1 (by omega)]; exact h2
  · rw [c 2 (by omega)]; exact h3
  · rw [c 3 (by omega)]; exact h4

def atoiV (l : List UInt8) : Option Int := match Lib.atoiAll l with | .ok v => some v | _ => none
theorem atoi_some (s : ByteArray) (hs : s.size ≤ 1000000) (v : Int) (h : atoiV s.data.toList = some v) (w : World) :
    Calls Tryd.prog 28 #[.string s] w fun e w' => e = .returned (.tuple #[.int .i64 v, .nilIface]) ∧ Mod (fun _ => False) w w' := by
  have h' : Lib.atoiAll s.data.toList = .ok v := by
    unfold atoiV at h
    cases hq : Lib.atoiAll s.data.toList with
    | ok u => rw [hq] at h; cases h; rfl
    | «syntax» => rw [hq] at h; cases h
    | range => rw [hq] at h; cases h
  refine (Tryd.strconv_Atoi_ok s (by omega) v h' w).mono fun e w' ⟨h1, h2⟩ => ⟨h1, ?_⟩
  rcases h2 with rfl | ⟨t, rfl⟩
  · exact Mod.refl _ _
  · exact Mod.of_below (Lib.bytesWorld_below w _ t)
theorem atoi_none (s : ByteArray) (hs : s.size ≤ 1000000) (h : atoiV s.data.toList = none) (w : World) (hE : Errs w) :
    Calls Tryd.prog 28 #[.string s] w fun e w' => (∃ (v : Int) (N : Nat), e = .returned (.tuple #[.int .i64 v, .iface 76 (.pointer (some ⟨N, 0, none⟩))])) ∧ Mod (fun _ => False) w w' := by
  obtain ⟨_, ⟨e1, hc1, hf1⟩, ⟨e2, hc2, hf2⟩, _⟩ := hE
  unfold atoiV at h
  cases hq : Lib.atoiAll s.data.toList with
  | ok u => rw [hq] at h; cases h
  | «syntax» =>
    exact (Tryd.strconv_Atoi_syntax s (by omega) hq e1 w hc1 hf1).mono fun e w' ⟨N, h1, _, _, h2⟩ => ⟨⟨_, N, h1⟩, Mod.of_below h2⟩
  | range =>
    exact (Tryd.strconv_Atoi_range s (by omega) hq e2 w hc2 hf2).mono fun e w' ⟨N, h1, _, _, h2⟩ => ⟨⟨_, N, h1⟩, Mod.of_below h2⟩

def putA (x : Nat) (p : List UInt8) : Nat := match atoiV p with | some v => x ||| setOf [v] | none => x
def putsA (l : List (List UInt8)) : Nat := l.foldl putA 0
theorem or_lt64 {a b : Nat} (ha : a < 18446744073709551616) (hb : b < 18446744073709551616) : a ||| b < 18446744073709551616 := by
  have := Nat.or_lt_two_pow (n := 64) (x := a) (y := b) (by omega) (by omega)
  omega
theorem putA_lt {x : Nat} (p : List UInt8) (hx : x < 18446744073709551616) : putA x p < 18446744073709551616 := by
  unfold putA
  cases atoiV p with
  | none => exact hx
  | some v => exact or_lt64 hx (setOf_lt _)
theorem putsA_snoc (l : List (List UInt8)) (p : List UInt8) : putsA (l ++ [p]) = putA (putsA l) p := by simp [putsA, List.foldl_append]
theorem putsA_lt (l : List (List UInt8)) : putsA l < 18446744073709551616 := by
  have : ∀ (l : List (List UInt8)) (x : Nat), x < 18446744073709551616 → l.foldl putA x < 18446744073709551616 := by
    intro l
    induction l with
    | nil => exact fun x hx => hx
    | cons p r ih => exact fun x hx => ih _ (putA_lt p hx)
  exact this l 0 (by decide)
/-- What stands between the brackets. -/
def bodyOf (s : List UInt8) : List UInt8 := Lib.trimSuffix (Lib.trimPrefix s [123]) [125]
def formed (s : List UInt8) : Bool := Lib.hasPrefix s [123] && Lib.hasSuffix (Lib.trimPrefix s [123]) [125]
def parseX (s : List UInt8) : Nat × Bool :=
  if formed s = true then (if showL (putsA (Lib.split (bodyOf s) [44])) = s then (putsA (Lib.split (bodyOf s) [44]), true) else (0, false)) else (0, false)
def pairU (x : Nat × Bool) : Value := .tuple #[.int .u64 x.1, .bool x.2]
theorem trim_len (s : List UInt8) : (bodyOf s).length ≤ s.length := by
  unfold bodyOf Lib.trimSuffix Lib.trimPrefix
  split <;> split <;> simp [List.length_take] <;> omega
theorem splitB_small (b : ByteArray) : ∀ (k : Nat) (s : ByteArray), ∀ x ∈ Lib.splitB b 0 k s, x.size ≤ s.size
  | 0, s, x, h => by
    rw [Lib.splitB_zero] at h
    cases List.mem_singleton.1 h
    exact Nat.le_refl _
  | k + 1, s, x, h => by
    unfold Lib.splitB at h
    split at h
    · cases List.mem_singleton.1 h
      exact Nat.le_refl _
    · rcases List.mem_cons.1 h with rfl | h
      · rw [ByteArray.size_extract]; omega
      · have := splitB_small b k _ x h
        rw [ByteArray.size_extract] at this
        omega

theorem partsV_at (l : List ByteArray) (w : World) {w' : World} (hm : Mod (fun _ => False) (w.alloc (.cells (l.map Value.string).toArray 9)) w') {k : Nat} (hk : k < l.length) :
    w'.cell? ⟨w.heap.size, k, none⟩ = some (.string (l.getD k ByteArray.empty)) := by
  have hb : w'.heap[w.heap.size]? = some (.cells (l.map Value.string).toArray 9 (0, 0)) := by
    rw [hm.block _ (by rw [World.size_alloc]; omega) (fun x => x)]
    exact blk_new w _
  rw [blk_cell hb]
  rw [List.getElem?_toArray, List.getElem?_map, List.getD_eq_getElem?_getD, List.getElem?_eq_getElem hk]
  rfl

set_option maxHeartbeats 4000000 in
theorem parse_parts (s : List UInt8) (hs : s.length ≤ 100000) (w : World) (hT : Tab w) (hE : Errs w) (hf : formed s = true) :
    Calls Tryd.prog 9 #[.string ⟨s.toArray⟩] w fun e w' => e = .returned (pairU (if showL (putsA (Lib.split (bodyOf s) [44])) = s then (putsA (Lib.split (bodyOf s) [44]), true) else (0, false))) ∧ Mod (fun _ => False) w w' := by
  unfold formed at hf
  obtain ⟨f1, f2⟩ := Bool.and_eq_true_iff.1 hf
  have H1 := Lib.hid (Tryd.strings_CutPrefix ⟨s.toArray⟩ ⟨#[123]⟩ w)
  have hz1 : (Lib.trimPrefix s [123]).length ≤ s.length := by
    show _ ≤ s.length
    unfold Lib.trimPrefix; split <;> simp
  have H2 := Lib.hid (Tryd.strings_CutSuffix ⟨(Lib.trimPrefix s [123]).toArray⟩ ⟨#[125]⟩ w (by show (Lib.trimPrefix s [123]).length ≤ _; omega))
  have hbl : (⟨(bodyOf s).toArray⟩ : ByteArray).size ≤ s.length := trim_len s
  obtain ⟨_, _, _, m, hm⟩ := id hE
  have H3 := Lib.hid (Tryd.strings_Split ⟨(bodyOf s).toArray⟩ ⟨#[44]⟩ m w (by omega) hm (by decide))
  have HPD := Lib.splitB_data ⟨#[44]⟩ 0 (Lib.countB ⟨(bodyOf s).toArray⟩ ⟨#[44]⟩) ⟨(bodyOf s).toArray⟩
  have HLN := Lib.splitB_all ⟨#[44]⟩ (by decide) 0 _ ⟨(bodyOf s).toArray⟩ rfl
  have HSM : ∀ x ∈ Lib.splitB ⟨#[44]⟩ 0 (Lib.countB ⟨(bodyOf s).toArray⟩ ⟨#[44]⟩) ⟨(bodyOf s).toArray⟩, x.size ≤ 1000000 := fun x hx => by
    have := splitB_small ⟨#[44]⟩ _ _ x hx
    omega
  have HCL := Lib.countB_le ⟨#[44]⟩ (by decide) _ ⟨(bodyOf s).toArray⟩ (Nat.le_refl _)
  have HSP : Lib.split (bodyOf s) [44] = (Lib.splitB ⟨#[44]⟩ 0 (Lib.countB ⟨(bodyOf s).toArray⟩ ⟨#[44]⟩) ⟨(bodyOf s).toArray⟩).map (·.data.toList) := by
    rw [HPD]; rfl
  rw [HSP]
  clear HSP HPD
  generalize Lib.splitB ⟨#[44]⟩ 0 (Lib.countB ⟨(bodyOf s).toArray⟩ ⟨#[44]⟩) ⟨(bodyOf s).toArray⟩ = l at *
  have hll : l.length ≤ 100001 := by omega
  rw [← HLN] at H3
  have HSMH := Lib.hid HSM
  clear HSM HLN HCL hm hf
  unfold bodyOf at *
  have H2' : Hid (Calls Tryd.prog 26 #[.string ⟨(Lib.trimPrefix s [123]).toArray⟩, .string ⟨#[125]⟩] w fun e w' => e = .returned (.tuple #[.string ⟨(Lib.trimSuffix (Lib.trimPrefix s [123]) [125]).toArray⟩, .bool true]) ∧ w' = w) := by
    have h := H2.out
    rw [show (⟨(Lib.trimPrefix s [123]).toArray⟩ : ByteArray).data.toList = Lib.trimPrefix s [123] from rfl] at h
    rw [show (⟨#[125]⟩ : ByteArray).data.toList = [125] from rfl] at h
    rw [f2] at h
    exact h
  have H1' : Hid (Calls Tryd.prog 25 #[.string ⟨s.toArray⟩, .string ⟨#[123]⟩] w fun e w' => e = .returned (.tuple #[.string ⟨(Lib.trimPrefix s [123]).toArray⟩, .bool true]) ∧ w' = w) := by
    have h := H1.out
    rw [show (⟨#[123]⟩ : ByteArray).data.toList = [123] from rfl, show (⟨s.toArray⟩ : ByteArray).data.toList = s from rfl] at h
    rw [f1] at h
    exact h
  clear H1 H2
  generalize Lib.trimSuffix (Lib.trimPrefix s [123]) [125] = body at *
  generalize Lib.trimPrefix s [123] = pre at *
  clear f1 f2 hz1 hbl
  generalize hRE : (if showL (putsA (l.map (·.data.toList))) = s then (putsA (l.map (·.data.toList)), true) else ((0 : Nat), false)) = R
  have HRE := Lib.hid hRE
  clear hRE
  have HT := Lib.hid hT
  have HER := Lib.hid hE
  clear hT hE
  go_enter Tryd.func9, Tryd.ntmps9
  go_wp2_with fail
  refine H1'.out.mono ?_
  rintro e w1 ⟨rfl, rfl⟩
  go_wp2_with fail
  refine H2'.out.mono ?_
  rintro e w2 ⟨rfl, rfl⟩
  go_wp2_with fail
  refine H3.out.mono ?_
  rintro e w3 ⟨rfl, rfl⟩
  have HW : ∀ w', Mod (fun _ => False) (w2.alloc (.cells (l.map Value.string).toArray 9)) w' → Mod (fun _ => False) w2 w' := fun w' h => ((Mod.refl _ _).alloc _).trans h
  have HWH := Lib.hid HW
  have HC := Lib.hid (fun w' h k hk => partsV_at l w2 (w' := w') h (k := k) hk)
  have H0 : Hid (Mod (fun _ => False) (w2.alloc (.cells (l.map Value.string).toArray 9)) (w2.alloc (.cells (l.map Value.string).toArray 9))) := Mod.refl _ _
  clear HW H1' H2' H3
  generalize w2.alloc (.cells (l.map Value.string).toArray 9) = W at *
  generalize w2.heap.size = B at *
  go_wp2
  go_loopw [7, 31] (fun x i wr => ∃ k : Nat, k ≤ l.length ∧ i = .int .i64 k ∧ x = .int .u64 ((putsA ((l.take k).map (·.data.toList)) : Nat) : Int) ∧ Hid (Mod (fun _ => False) W wr)) (fun _ i _ => l.length - (intOf i).toNat)
  case atStart => exact ⟨0, Nat.zero_le _, rfl, rfl, H0⟩
  case round =>
    obtain ⟨k, hk, rfl, rfl, hD⟩ := hrel
    by_cases hlt : k < l.length
    · have hc := HC.out wr hD.out k hlt
      have hi : (k : Int) < l.length := by omega
      have hi0 : (0 : Int) ≤ (k : Int) := by omega
      have tk : decide (k < l.length) = true := decide_eq_true hlt
      have hx1 : (l.getD k ByteArray.empty).size ≤ 1000000 := by
        rw [List.getD_eq_getElem?_getD, List.getElem?_eq_getElem hlt]
        exact HSMH.out _ (List.getElem_mem hlt)
      have hls := putsA_lt ((l.take k).map (·.data.toList))
      have HTS : Hid (putsA ((l.take (k + 1)).map (·.data.toList)) = putA (putsA ((l.take k).map (·.data.toList))) (l.getD k ByteArray.empty).data.toList) := by
        show _ = _
        rw [List.take_succ_eq_append_getElem hlt, List.map_append, List.getD_eq_getElem?_getD, List.getElem?_eq_getElem hlt]
        exact putsA_snoc _ _
      generalize l.getD k ByteArray.empty = p at *
      generalize putsA ((l.take k).map (·.data.toList)) = x at *
      have hbz : B < wr.heap.size := Classical.byContradiction fun hh => by
        unfold World.cell? at hc
        rw [Array.getElem?_eq_none (show wr.heap.size ≤ B by omega)] at hc
        cases hc
      cases ha : atoiV p.data.toList with
      | none =>
        have HA := Lib.hid (atoi_none p hx1 ha wr (HER.out.mod (HWH.out _ hD.out)))
        have HN : Hid (putsA ((l.take (k + 1)).map (·.data.toList)) = x) := by
          show _ = _
          rw [HTS.out]; unfold putA; rw [ha]
        clear ha
        go_wp2_with fail
        refine HA.out.mono ?_
        rintro e w4 ⟨⟨v, N, rfl⟩, hm⟩
        have HD4 : Hid (Mod (fun _ => False) W w4) := hD.out.trans hm
        clear hm HA hD hc
        go_wp2
        go_roundw
        case rel => exact ⟨k + 1, by omega, by go_num, by rw [HN.out], HD4⟩
        case measure => simp [intOf]; omega
      | some v =>
        have HA := Lib.hid (atoi_some p hx1 v ha wr)
        have HB := Lib.hid (or_bits x (setOf [v]) hls (setOf_lt _))
        have HN : Hid (putsA ((l.take (k + 1)).map (·.data.toList)) = x ||| setOf [v]) := by
          show _ = _
          rw [HTS.out]; unfold putA; rw [ha]
        clear ha
        go_wp2_with fail
        refine HA.out.mono ?_
        rintro e w4 ⟨rfl, hm⟩
        have HD4 : Hid (Mod (fun _ => False) W (w4.alloc (.cells #[.int .i64 v] 3))) := (hD.out.trans hm).alloc _
        clear hm HA hD hc
        have HI : Ints (w4.alloc (.cells #[.int .i64 v] 3)) (.slice (some ⟨w4.heap.size, 0, none⟩) 1 1) [v] := ⟨_, _, rfl, .inr ⟨_, _, rfl, fun i hi => by
          have : i = 0 := by simpa using hi
          subst this
          rw [blk_cell (blk_new w4 _)]
          rfl⟩⟩
        have HO := Lib.hid (of_any _ [v] _ HI (Nat.le_of_ble_eq_true rfl))
        clear HI
        generalize setOf [v] = sv at *
        go_wp2_with fail
        refine HO.out.mono ?_
        rintro e w5 ⟨rfl, rfl⟩
        go_wp2
        go_roundw
        case rel => exact ⟨k + 1, by omega, by go_num, by rw [HN.out, ← HB.out], HD4⟩
        case measure => simp [intOf]; omega
    · obtain rfl : k = l.length := by omega
      have ti : decide (l.length < l.length) = false := decide_eq_false (by omega)
      rw [List.take_length]
      have hxl := putsA_lt (l.map (·.data.toList))
      generalize putsA (l.map (·.data.toList)) = x at *
      have HMX : Hid (Mod (fun _ => False) w2 wr) := HWH.out _ hD.out
      have HS := Lib.hid (show_any x wr hxl (HT.out.mod HMX.out (fun h => h)))
      unfold Shown showS at HS
      by_cases hq : showL x = s
      · have HE2 : Hid (R = (x, true)) := by
          show _ = _
          rw [← HRE.out, if_pos hq]
        have tq : (showL x == s) = true := beq_iff_eq.2 hq
        clear hq
        generalize showL x = sx at *
        go_wp2_with fail
        refine HS.out.mono ?_
        rintro e w6 ⟨rfl, hm⟩
        have HM6 : Hid (Mod (fun _ => False) w2 w6) := HMX.out.trans hm
        clear hm
        go_wp2
        go_ret2
        exact ⟨by rw [HE2.out]; rfl, HM6.out⟩
      · have HE2 : Hid (R = (0, false)) := by
          show _ = _
          rw [← HRE.out, if_neg hq]
        have tq : (showL x == s) = false := beq_eq_false_iff_ne.2 hq
        clear hq
        generalize showL x = sx at *
        go_wp2_with fail
        refine HS.out.mono ?_
        rintro e w6 ⟨rfl, hm⟩
        have HM6 : Hid (Mod (fun _ => False) w2 w6) := HMX.out.trans hm
        clear hm
        go_wp2
        go_ret2
        exact ⟨by rw [HE2.out]; rfl, HM6.out⟩
end Go.Proofs.YtkmfbddiebigfaaDoor
