/-
  FloSays.
-/
import Derived.Test.YtgpjipgbighplaaDoorFlU
import Derived.Stop.LaidErr
namespace Go.Proofs.YtgpjipgbighplaaDoor
open Go.RowKit Go.Shoal Go.WideShapes

theorem says_out (a b k : Nat) (s : List UInt8) (v : Value) (l : List Nat) (w : World) (hz : Flts w v l) (hT : Tab w) (hs : s.length ≤ 9223372036854775807) (h : 40 < s.length ∨ 40 < l.length) :
    Calls Tryd.prog 9 #[.float .f64 a, .float .f64 b, .int .u64 k, .string ⟨s.toArray⟩, v] w fun e w' => e = .returned (.bool true) ∧ Mod (fun _ => False) w w' := by
  obtain ⟨A, c, rfl, hl, _⟩ := hz
  unfold maxLen at hl
  have HA := Lib.hid (awake_any w hT)
  clear hT
  by_cases h1 : 40 < s.length
  · have t1 : decide ((40 : Int) < (s.length : Int)) = true := decide_eq_true (by omega)
    go_enter Tryd.func9, Tryd.ntmps9
    go_wp2_with fail
    refine HA.out.mono ?_
    rintro e w1 ⟨rfl, hm⟩
    have HM := Lib.hid hm
    clear hm
    go_wp2
    go_ret
    exact ⟨rfl, HM.out⟩
  · have t1 : decide ((40 : Int) < (s.length : Int)) = false := decide_eq_false (by omega)
    have t2 : decide ((40 : Int) < (l.length : Int)) = true := decide_eq_true (by omega)
    go_enter Tryd.func9, Tryd.ntmps9
    go_wp2_with fail
    refine HA.out.mono ?_
    rintro e w1 ⟨rfl, hm⟩
    have HM := Lib.hid hm
    clear hm
    go_wp2
    go_ret
    exact ⟨rfl, HM.out⟩
theorem parseW_lt (s : List UInt8) : (parseW s).1 < B64 := by
  have hL : s.length = 16 → (parseL s).1 < B64 := fun h16 => by
    unfold parseL
    cases ha : s.all lowX
    · show 0 < B64; decide
    · rw [if_pos rfl]
      split
      · rw [b64_is]
        exact puX_lt s 0 _ (by decide) (low_val s h16 ha)
      · show 0 < B64; decide
  unfold parseW
  split
  · show nanW < B64; decide
  · split
    · show INF < B64; decide
    · split
      · show INF + B63 < B64; decide
      · split
        · rename_i h16; exact hL h16
        · show 0 < B64; decide
theorem ofW_lt {k : Nat} (hk : k < B64) : (ofW k).1 < B64 := by
  cases h : (ofW k).2
  · unfold ofW at h ⊢
    split at h
    · cases h
    · rename_i h0
      rw [if_neg h0]
      split at h
      · rename_i h1
        rw [if_pos h1]
        show 0 < B64
        decide
      · cases h
  · exact (of_key hk h).2
theorem same_self (a : Nat) : sameW a a = true := beq_iff_eq.2 rfl
set_option maxRecDepth 100000 in
set_option maxHeartbeats 20000000 in
theorem says_in (a b k : Nat) (s : List UInt8) (v : Value) (l : List Nat) (w : World) (ha : a < B64) (hb : b < B64) (hk : k < B64) (hz : Flts w v l) (hT : Tab w) (hE : Errs w) (hs : s.length ≤ 40) (h : l.length ≤ 40) :
    Calls Tryd.prog 9 #[.float .f64 a, .float .f64 b, .int .u64 k, .string ⟨s.toArray⟩, v] w fun e w' => e = .returned (.bool true) ∧ Mod (fun _ => False) w w' := by
  have HV := Lib.hid hz
  have hfit' : ∀ x ∈ l, x < B64 := fun x hx => by
    obtain ⟨_, _, _, _, hfit, _⟩ := hz
    obtain ⟨i, hi, rfl⟩ := List.mem_iff_getElem.1 hx
    have := hfit i hi
    rw [List.getD_eq_getElem?_getD, List.getElem?_eq_getElem hi] at this
    exact this
  have HLB : minF l < B64 := pickF_lt _ _ _ (by decide) hfit'
  have HMB : maxF l < B64 := pickF_lt _ _ _ (by decide) hfit'
  obtain ⟨A, c, rfl, _⟩ := hz
  have t1 : decide ((40 : Int) < (s.length : Int)) = false := decide_eq_false (by omega)
  have t2 : decide ((40 : Int) < (l.length : Int)) = false := decide_eq_false (by omega)
  have HA := Lib.hid (awake_any w hT)
  have HT := Lib.hid hT
  have HE := Lib.hid hE
  have K1 := Lib.hid (fun w => of_any k w hk)
  have K2 := Lib.hid (fun w => rof_any k w hk)
  have K3 := Lib.hid (fun w hT hE => parse_any s hs w hT hE)
  have K4 := Lib.hid (fun w => rparse_any s w)
  have K5 := Lib.hid (fun w => class_any a w ha)
  have K6 := Lib.hid (fun w => rclass_any a w ha)
  have K7 := Lib.hid (fun w => key_any a w ha)
  have K8 := Lib.hid (fun w => rkey_any a w ha)
  have K9 := Lib.hid (fun w => cmp_any a b w ha hb)
  have K10 := Lib.hid (fun w => rcmp_any a b w ha hb)
  have K11 := Lib.hid (fun w => same_any a b w ha hb)
  have K12 := Lib.hid (fun w => rsame_any a b w ha hb)
  have K13 := Lib.hid (fun w hT => show_any a ha w hT)
  have K14 := Lib.hid (fun w => rshow_any a ha w)
  have K15 := Lib.hid (fun w => rsame_any (ofW k).1 (ofW k).1 w (ofW_lt hk) (ofW_lt hk))
  have K16 := Lib.hid (fun w => rsame_any (parseW s).1 (parseW s).1 w (parseW_lt s) (parseW_lt s))
  have K17 := Lib.hid (fun w hz => min_any (.slice A l.length c) l w hz)
  have K18 := Lib.hid (fun w hz => rmin_any (.slice A l.length c) l w hz)
  have K19 := Lib.hid (fun w => rsame_any (minF l) (minF l) w HLB HLB)
  have K20 := Lib.hid (fun w hz => max_any (.slice A l.length c) l w hz)
  have K21 := Lib.hid (fun w hz => rmax_any (.slice A l.length c) l w hz)
  have K22 := Lib.hid (fun w => rsame_any (maxF l) (maxF l) w HMB HMB)
  rw [same_self] at K15 K16 K19 K22
  unfold pairF at K1 K2 K3 K4
  clear ha hb hk hT hE hfit' HLB HMB
  generalize parseW s = p at *
  generalize ofW k = q at *
  obtain ⟨p1, p2⟩ := p
  obtain ⟨q1, q2⟩ := q
  generalize classW a = cx at *
  generalize fkey a = kx at *
  generalize cmpW a b = cb at *
  generalize sameW a b = sb at *
  generalize showW a = z at *
  generalize minF l = mn at *
  generalize maxF l = mx at *
  go_enter Tryd.func9, Tryd.ntmps9
  go_wp2_with fail
  refine HA.out.mono ?_
  rintro e w1 ⟨rfl, hm⟩
  have HM := Lib.hid hm
  have HT0 := Lib.hid (HT.out.mod hm (fun x => x))
  have HE0 := Lib.hid (HE.out.mod hm)
  clear hm HA
  go_wp2_with fail
  refine (K1.out _).mono ?_
  rintro e w2 ⟨rfl, rfl⟩
  go_wp2_with fail
  refine (K2.out _).mono ?_
  rintro e w2 ⟨rfl, rfl⟩
  go_wp2_with fail
  refine (K3.out _ HT0.out HE0.out).mono ?_
  rintro e w2 ⟨rfl, hm⟩
  have HM1 := Lib.hid (HM.out.trans hm)
  have HT1 := Lib.hid (HT0.out.mod hm (fun x => x))
  have HE1 := Lib.hid (HE0.out.mod hm)
  clear hm HM HT0 HE0
  have HM := HM1
  have HT0 := HT1
  have HE0 := HE1
  clear HM1 HT1 HE1
  go_wp2_with fail
  refine (K4.out _).mono ?_
  rintro e w2 ⟨rfl, rfl⟩
  go_wp2_with fail
  refine (K5.out _).mono ?_
  rintro e w2 ⟨rfl, rfl⟩
  go_wp2_with fail
  refine (K6.out _).mono ?_
  rintro e w2 ⟨rfl, rfl⟩
  go_wp2_with fail
  refine (K7.out _).mono ?_
  rintro e w2 ⟨rfl, rfl⟩
  go_wp2_with fail
  refine (K8.out _).mono ?_
  rintro e w2 ⟨rfl, rfl⟩
  go_wp2_with fail
  refine (K9.out _).mono ?_
  rintro e w2 ⟨rfl, rfl⟩
  go_wp2_with fail
  refine (K10.out _).mono ?_
  rintro e w2 ⟨rfl, rfl⟩
  go_wp2_with fail
  refine (K11.out _).mono ?_
  rintro e w2 ⟨rfl, rfl⟩
  go_wp2_with fail
  refine (K12.out _).mono ?_
  rintro e w2 ⟨rfl, rfl⟩
  go_wp2_with fail
  refine (K13.out _ HT0.out).mono ?_
  rintro e w2 ⟨rfl, hm⟩
  have HM1 := Lib.hid (HM.out.trans hm)
  have HT1 := Lib.hid (HT0.out.mod hm (fun x => x))
  have HE1 := Lib.hid (HE0.out.mod hm)
  clear hm HM HT0 HE0
  have HM := HM1
  have HT0 := HT1
  have HE0 := HE1
  clear HM1 HT1 HE1
  go_wp2_with fail
  refine (K14.out _).mono ?_
  rintro e w2 ⟨rfl, rfl⟩
  go_wp2_with fail
  refine (K15.out _).mono ?_
  rintro e w2 ⟨rfl, rfl⟩
  go_wp2_with fail
  refine (K16.out _).mono ?_
  rintro e w2 ⟨rfl, rfl⟩
  have HV1 := Lib.hid (flts_below HV.out HM.out.none_below)
  go_wp2_with fail
  refine (K17.out _ HV1.out).mono ?_
  rintro e w2 ⟨rfl, rfl⟩
  go_wp2_with fail
  refine (K18.out _ HV1.out).mono ?_
  rintro e w2 ⟨rfl, rfl⟩
  go_wp2_with fail
  refine (K19.out _).mono ?_
  rintro e w2 ⟨rfl, rfl⟩
  go_wp2_with fail
  refine (K20.out _ HV1.out).mono ?_
  rintro e w2 ⟨rfl, rfl⟩
  go_wp2_with fail
  refine (K21.out _ HV1.out).mono ?_
  rintro e w2 ⟨rfl, rfl⟩
  go_wp2_with fail
  refine (K22.out _).mono ?_
  rintro e w2 ⟨rfl, rfl⟩
  go_wp2
  go_ret
  exact ⟨rfl, HM.out⟩
theorem star : "*" ++ "errors.errorString" = "*errors.errorString" := by decide
theorem rowErr (u : TypeId) (h : Tryd.prog.typeName? 3 u = some "*errors.errorString") : u = 103 :=
  typeName_ptr_named (nm := "errors.errorString") (by rw [star]; kernel_rfl) (by kernel_rfl) (by decide) u (by rw [star]; exact h)
theorem gSyn : Tryd.prog.globalNamed "strconv.ErrSyntax" = some 1 := by kernel_rfl
theorem gRan : Tryd.prog.globalNamed "strconv.ErrRange" = some 2 := by kernel_rfl
theorem gSynT : (Tryd.prog.globals[1]?).map (·.type) = some 50 := by kernel_rfl
theorem gRanT : (Tryd.prog.globals[2]?).map (·.type) = some 50 := by kernel_rfl
theorem cellsErr : Tryd.prog.cellsOf 105 = 1 := by kernel_rfl
theorem cellsStr : Tryd.prog.cellsOf 9 = 1 := by kernel_rfl
theorem laid_says {W : World} (h : laidMetH Tryd.prog Rows.floSaysRow.laid W) : Tab W ∧ Errs W := by
  refine ⟨tab_one (h.filter (fun x => x.1 == "math/bits.deBruijn64tab")), ?_⟩
  have hs : laidMet Tryd.prog [("strconv.ErrSyntax", Rows.laid_strconv_ErrSyntax)] W := (laidMetH_iff.1 (h.filter (fun x => x.1 == "strconv.ErrSyntax"))).1
  have hr : laidMet Tryd.prog [("strconv.ErrRange", Rows.laid_strconv_ErrRange)] W := (laidMetH_iff.1 (h.filter (fun x => x.1 == "strconv.ErrRange"))).1
  obtain ⟨a0, s0, hv0, _, _, _⟩ := laid_sentinel hs gSyn gSynT Tryd.underlying50 rowErr Tryd.underlying103 Tryd.underlying105 rfl rfl Tryd.underlying9 cellsErr cellsStr
  obtain ⟨a1, s1, hv1, _, _, _⟩ := laid_sentinel hr gRan gRanT Tryd.underlying50 rowErr Tryd.underlying103 Tryd.underlying105 rfl rfl Tryd.underlying9 cellsErr cellsStr
  have hg0 : W.cell? ⟨1, 0, none⟩ = some (.iface 103 (.pointer (some a0))) := by simpa using World.var?_cell gSyn hv0 0
  have hg1 : W.cell? ⟨2, 0, none⟩ = some (.iface 103 (.pointer (some a1))) := by simpa using World.var?_cell gRan hv1 0
  exact ⟨World.block_lt_of_cell? W _ hg1, ⟨_, hg0, .inr ⟨_, _, rfl⟩⟩, ⟨_, hg1, .inr ⟨_, _, rfl⟩⟩⟩
set_option maxRecDepth 100000 in
theorem says_walk {H : Type} {enc : TypeId × Value → H} {b0 : Nat} {d : DataW H} {ps : List MemPlace} (W : World) (hL : Tab W ∧ Errs W) (a : Nat) (ha : (Lit.float .f64 a).wf = true) (b : Nat) (hb : (Lit.float .f64 b).wf = true) (k : Int) (hk : (Lit.int .u64 k).wf = true) (s : ByteArray) (hs : s.size ≤ maxLen)
    (v : Value) (hok : Value.okWide Tryd.prog W .any b0 34 v) (h : DataW.Trod enc Tryd.prog W 0 (fun _ => true) true 34 v d ps) :
    Calls Tryd.prog 9 #[.float .f64 a, .float .f64 b, .int .u64 k, .string s, v] W fun e w' => e = .returned (.bool true) ∧ Below W.heap.size W w' := by
  have h64 := b64_is
  obtain ⟨h1, h2⟩ := wf_u64 hk
  obtain ⟨k, rfl⟩ := Int.eq_ofNat_of_zero_le h1
  obtain ⟨l, hz⟩ := open_rows (C := 1) (cells := fltCells) (fit := fun b => b < B64) Tryd.underlying34 (show Tryd.prog.cellsOf 22 = 1 by kernel_rfl) (by decide) flt_of hok h
  obtain ⟨⟨sl⟩⟩ := s
  have hs' : sl.length ≤ maxLen := hs
  unfold maxLen at hs'
  by_cases h : 40 < sl.length ∨ 40 < l.length
  · exact (says_out a b k sl v l W hz hL.1 (by omega) h).mono fun _ _ ⟨x, y⟩ => ⟨x, y.none_below⟩
  · exact (says_in a b k sl v l W (wf_f64 ha) (wf_f64 hb) (by omega) hz hL.1 hL.2 (by omega) (by omega)).mono fun _ _ ⟨x, y⟩ => ⟨x, y.none_below⟩
end Go.Proofs.YtgpjipgbighplaaDoor
