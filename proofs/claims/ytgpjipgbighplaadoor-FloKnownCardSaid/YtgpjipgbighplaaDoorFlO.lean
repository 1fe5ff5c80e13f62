/-
  FloKnown.
-/
import Derived.Test.YtgpjipgbighplaaDoorFlN
namespace Go.Proofs.YtgpjipgbighplaaDoor
open Go.RowKit Go.Shoal

theorem flts_nil (w : World) : Flts w (.slice none 0 0) [] := ⟨none, 0, rfl, Nat.zero_le _, fun i hi => absurd hi (Nat.not_lt_zero i), .inl rfl⟩
theorem flts_two {w : World} {Z T : Nat} {a b : Nat} (ha : a < B64) (hb : b < B64) (h : w.heap[Z]? = some (.cells #[.float .f64 a, .float .f64 b] T (0, 0))) : Flts w (.slice (some ⟨Z, 0, none⟩) 2 2) [a, b] := by
  refine ⟨some ⟨Z, 0, none⟩, 2, rfl, (show 2 ≤ maxLen by decide), fun i hi => ?_, .inr ⟨Z, 0, rfl, blk_lt h, fun i j u hi hu => ?_⟩⟩
  · match i, hi with
    | 0, _ => exact ha
    | 1, _ => exact hb
  · match i, hi with
    | 0, _ =>
      match j with
      | 0 => cases hu; exact (blk_cell h 0).trans rfl
      | j + 1 => cases hu
    | 1, _ =>
      match j with
      | 0 => cases hu; exact (blk_cell h 1).trans rfl
      | j + 1 => cases hu
set_option maxRecDepth 100000
theorem parse_bad {s : List UInt8} {n : Nat} (hl : s.length = 16) (hn : n < B64) (hp : puX 0 s = .ok n) (hs : showW n ≠ s) (w : World) (hT : Tab w) :
    Calls Tryd.prog 20 #[.string ⟨s.toArray⟩] w fun e w' => e = .returned (.tuple #[.float .f64 0, .bool false]) ∧ Mod (fun _ => False) w w' := by
  have h := parse_ok s n hl hn hp w hT
  rw [if_neg hs] at h
  exact h
theorem parse_good {s : List UInt8} {n : Nat} (hl : s.length = 16) (hn : n < B64) (hp : puX 0 s = .ok n) (hs : showW n = s) (w : World) (hT : Tab w) :
    Calls Tryd.prog 20 #[.string ⟨s.toArray⟩] w fun e w' => e = .returned (.tuple #[.float .f64 n, .bool true]) ∧ Mod (fun _ => False) w w' := by
  have h := parse_ok s n hl hn hp w hT
  rw [if_pos hs] at h
  exact h
set_option maxHeartbeats 20000000 in
theorem known_any (w : World) (hT : Tab w) : Calls Tryd.prog 8 #[] w fun e w' => e = .returned (.bool true) ∧ Mod (fun _ => False) w w' := by
  have HA := Lib.hid (awake_any w hT)
  have HT := Lib.hid hT
  have K0 : Hid (∀ w, Calls Tryd.prog 22 #[] w fun e w' => e = .returned (.float .f64 9221120237041090561) ∧ w = w') := fun w => nan_any w
  have K1 : Hid (∀ w, Calls Tryd.prog 23 #[.int .i64 1] w fun e w' => e = .returned (.float .f64 9218868437227405312) ∧ w = w') := fun w => inf_any w
  have K2 : Hid (∀ w, Calls Tryd.prog 16 #[.int .u64 18446744073709551615] w fun e w' => e = .returned (.tuple #[.float .f64 9221120237041090561, .bool true]) ∧ w = w') := fun w => of_any 18446744073709551615 w (by decide)
  have K3 : Hid (∀ w, Calls Tryd.prog 16 #[.int .u64 0] w fun e w' => e = .returned (.tuple #[.float .f64 0, .bool false]) ∧ w = w') := fun w => of_any 0 w (by decide)
  have K4 : Hid (∀ w, Calls Tryd.prog 20 #[.string ⟨#[45, 105, 110, 102]⟩] w fun e w' => e = .returned (.tuple #[.float .f64 18442240474082181120, .bool true]) ∧ w = w') := fun w => parse_minf w
  have K5 : Hid (∀ w, Tab w → Calls Tryd.prog 20 #[.string ⟨#[55, 102, 102, 48, 48, 48, 48, 48, 48, 48, 48, 48, 48, 48, 48, 48]⟩] w fun e w' => e = .returned (.tuple #[.float .f64 0, .bool false]) ∧ Mod (fun _ => False) w w') := fun w hT => parse_bad (s := [55, 102, 102, 48, 48, 48, 48, 48, 48, 48, 48, 48, 48, 48, 48, 48]) (n := 9218868437227405312) (by decide) (by decide) (by decide) (by decide) w hT
  have K6 : Hid (∀ w, Tab w → Calls Tryd.prog 20 #[.string ⟨#[55, 102, 102, 56, 48, 48, 48, 48, 48, 48, 48, 48, 48, 48, 48, 49]⟩] w fun e w' => e = .returned (.tuple #[.float .f64 0, .bool false]) ∧ Mod (fun _ => False) w w') := fun w hT => parse_bad (s := [55, 102, 102, 56, 48, 48, 48, 48, 48, 48, 48, 48, 48, 48, 48, 49]) (n := 9221120237041090561) (by decide) (by decide) (by decide) (by decide) w hT
  have K7 : Hid (∀ w, Tab w → Calls Tryd.prog 20 #[.string ⟨#[51, 70, 70, 48, 48, 48, 48, 48, 48, 48, 48, 48, 48, 48, 48, 48]⟩] w fun e w' => e = .returned (.tuple #[.float .f64 0, .bool false]) ∧ Mod (fun _ => False) w w') := fun w hT => parse_bad (s := [51, 70, 70, 48, 48, 48, 48, 48, 48, 48, 48, 48, 48, 48, 48, 48]) (n := 4607182418800017408) (by decide) (by decide) (by decide) (by decide) w hT
  have K8 : Hid (∀ w, Tab w → Calls Tryd.prog 20 #[.string ⟨#[56, 48, 48, 48, 48, 48, 48, 48, 48, 48, 48, 48, 48, 48, 48, 48]⟩] w fun e w' => e = .returned (.tuple #[.float .f64 9223372036854775808, .bool true]) ∧ Mod (fun _ => False) w w') := fun w hT => parse_good (s := [56, 48, 48, 48, 48, 48, 48, 48, 48, 48, 48, 48, 48, 48, 48, 48]) (n := 9223372036854775808) (by decide) (by decide) (by decide) (by decide) w hT
  have K9 : Hid (∀ w, Calls Tryd.prog 13 #[.float .f64 9221120237041090561] w fun e w' => e = .returned (.int .i64 0) ∧ w = w') := fun w => class_any 9221120237041090561 w (by decide)
  have K10 : Hid (∀ w, Calls Tryd.prog 13 #[.float .f64 18442240474082181125] w fun e w' => e = .returned (.int .i64 0) ∧ w = w') := fun w => class_any 18442240474082181125 w (by decide)
  have K11 : Hid (∀ w, Calls Tryd.prog 13 #[.float .f64 18442240474082181120] w fun e w' => e = .returned (.int .i64 1) ∧ w = w') := fun w => class_any 18442240474082181120 w (by decide)
  have K12 : Hid (∀ w, Calls Tryd.prog 13 #[.float .f64 13830554455654793216] w fun e w' => e = .returned (.int .i64 2) ∧ w = w') := fun w => class_any 13830554455654793216 w (by decide)
  have K13 : Hid (∀ w, Calls Tryd.prog 14 #[.float .f64 0, .float .f64 13830554455654793216] w fun e w' => e = .returned (.float .f64 9223372036854775808) ∧ w = w') := fun w => copysign_any 0 13830554455654793216 (by decide) (by decide) w
  have K14 : Hid (∀ w, Calls Tryd.prog 13 #[.float .f64 9223372036854775808] w fun e w' => e = .returned (.int .i64 3) ∧ w = w') := fun w => class_any 9223372036854775808 w (by decide)
  have K15 : Hid (∀ w, Calls Tryd.prog 13 #[.float .f64 0] w fun e w' => e = .returned (.int .i64 4) ∧ w = w') := fun w => class_any 0 w (by decide)
  have K16 : Hid (∀ w, Calls Tryd.prog 13 #[.float .f64 9218868437227405312] w fun e w' => e = .returned (.int .i64 6) ∧ w = w') := fun w => class_any 9218868437227405312 w (by decide)
  have K17 : Hid (∀ w, Calls Tryd.prog 13 #[.float .f64 1] w fun e w' => e = .returned (.int .i64 5) ∧ w = w') := fun w => class_any 1 w (by decide)
  have K18 : Hid (∀ w, Calls Tryd.prog 12 #[.float .f64 9221120237041090561, .float .f64 18442240474082181125] w fun e w' => e = .returned (.bool true) ∧ w = w') := fun w => same_any 9221120237041090561 18442240474082181125 w (by decide) (by decide)
  have K19 : Hid (∀ w, Calls Tryd.prog 19 #[.float .f64 18442240474082181125] w fun e w' => e = .returned (.int .u64 18446744073709551615) ∧ w = w') := fun w => key_any 18442240474082181125 w (by decide)
  have K20 : Hid (∀ w, Calls Tryd.prog 11 #[.float .f64 9221120237041090561, .float .f64 9218868437227405312] w fun e w' => e = .returned (.int .i64 1) ∧ w = w') := fun w => cmp_any 9221120237041090561 9218868437227405312 w (by decide) (by decide)
  have K21 : Hid (∀ w, Tab w → Calls Tryd.prog 21 #[.float .f64 18442240474082181125] w fun e w' => e = .returned (.string ⟨#[110, 97, 110]⟩) ∧ Mod (fun _ => False) w w') := fun w hT => show_any 18442240474082181125 (by decide) w hT
  have K22 : Hid (∀ w, Calls Tryd.prog 17 #[.slice none 0 0] w fun e w' => e = .returned (.float .f64 9218868437227405312) ∧ w = w') := fun w => min_any _ [] w (flts_nil w)
  have K23 : Hid (∀ w, Calls Tryd.prog 18 #[.slice none 0 0] w fun e w' => e = .returned (.float .f64 18442240474082181120) ∧ w = w') := fun w => max_any _ [] w (flts_nil w)
  have K24 : Hid (∀ w : World, Calls Tryd.prog 17 #[.slice (some ⟨w.heap.size, 0, none⟩) 2 2] (w.alloc (.cells #[.float .f64 4607182418800017408, .float .f64 9221120237041090561] 22)) fun e w' => e = .returned (.float .f64 9221120237041090561) ∧ (w.alloc (.cells #[.float .f64 4607182418800017408, .float .f64 9221120237041090561] 22)) = w') := fun w => min_any _ [4607182418800017408, 9221120237041090561] _ (flts_two (by decide) (by decide) (blk_new w _))
  have K25 : Hid (∀ w : World, Calls Tryd.prog 18 #[.slice (some ⟨w.heap.size, 0, none⟩) 2 2] (w.alloc (.cells #[.float .f64 0, .float .f64 9223372036854775808] 22)) fun e w' => e = .returned (.float .f64 0) ∧ (w.alloc (.cells #[.float .f64 0, .float .f64 9223372036854775808] 22)) = w') := fun w => max_any _ [0, 9223372036854775808] _ (flts_two (by decide) (by decide) (blk_new w _))
  have K26 : Hid (∀ w : World, Calls Tryd.prog 17 #[.slice (some ⟨w.heap.size, 0, none⟩) 2 2] (w.alloc (.cells #[.float .f64 0, .float .f64 9223372036854775808] 22)) fun e w' => e = .returned (.float .f64 9223372036854775808) ∧ (w.alloc (.cells #[.float .f64 0, .float .f64 9223372036854775808] 22)) = w') := fun w => min_any _ [0, 9223372036854775808] _ (flts_two (by decide) (by decide) (blk_new w _))
  have K27 : Hid (∀ w, Calls Tryd.prog 19 #[.float .f64 0] w fun e w' => e = .returned (.int .u64 9223372036854775808) ∧ w = w') := fun w => key_any 0 w (by decide)
  have K28 : Hid (∀ w, Calls Tryd.prog 19 #[.float .f64 9223372036854775808] w fun e w' => e = .returned (.int .u64 9223372036854775807) ∧ w = w') := fun w => key_any 9223372036854775808 w (by decide)
  have qn : Op.negFloat .f64 9218868437227405312 = 18442240474082181120 := by decide
  clear hT
  go_enter Tryd.func8, Tryd.ntmps8
  go_wp2_with fail
  refine HA.out.mono ?_
  rintro e w0 ⟨rfl, hm⟩
  have HM := Lib.hid hm
  have HT0 := Lib.hid (HT.out.mod hm (fun x => x))
  clear hm HA HT
  go_wp2_with fail
  refine (K0.out _).mono ?_
  rintro e w1 ⟨rfl, rfl⟩
  go_wp2_with fail
  refine (K1.out _).mono ?_
  rintro e w1 ⟨rfl, rfl⟩
  go_wp2_with fail
  refine (K2.out _).mono ?_
  rintro e w1 ⟨rfl, rfl⟩
  go_wp2_with fail
  refine (K3.out _).mono ?_
  rintro e w1 ⟨rfl, rfl⟩
  go_wp2_with fail
  refine (K4.out _).mono ?_
  rintro e w1 ⟨rfl, rfl⟩
  go_wp2_with fail
  refine (K5.out _ HT0.out).mono ?_
  rintro e w1 ⟨rfl, hm⟩
  have HM1 := Lib.hid (HM.out.trans hm)
  have HT1 := Lib.hid (HT0.out.mod hm (fun x => x))
  clear hm HM HT0
  have HM := HM1
  have HT0 := HT1
  clear HM1 HT1
  go_wp2_with fail
  refine (K6.out _ HT0.out).mono ?_
  rintro e w1 ⟨rfl, hm⟩
  have HM1 := Lib.hid (HM.out.trans hm)
  have HT1 := Lib.hid (HT0.out.mod hm (fun x => x))
  clear hm HM HT0
  have HM := HM1
  have HT0 := HT1
  clear HM1 HT1
  go_wp2_with fail
  refine (K7.out _ HT0.out).mono ?_
  rintro e w1 ⟨rfl, hm⟩
  have HM1 := Lib.hid (HM.out.trans hm)
  have HT1 := Lib.hid (HT0.out.mod hm (fun x => x))
  clear hm HM HT0
  have HM := HM1
  have HT0 := HT1
  clear HM1 HT1
  go_wp2_with fail
  refine (K8.out _ HT0.out).mono ?_
  rintro e w1 ⟨rfl, hm⟩
  have HM1 := Lib.hid (HM.out.trans hm)
  have HT1 := Lib.hid (HT0.out.mod hm (fun x => x))
  clear hm HM HT0
  have HM := HM1
  have HT0 := HT1
  clear HM1 HT1
  go_wp2_with fail
  refine (K9.out _).mono ?_
  rintro e w1 ⟨rfl, rfl⟩
  go_wp2_with fail
  refine (K10.out _).mono ?_
  rintro e w1 ⟨rfl, rfl⟩
  go_wp2_with fail
  refine (K11.out _).mono ?_
  rintro e w1 ⟨rfl, rfl⟩
  go_wp2_with fail
  refine (K12.out _).mono ?_
  rintro e w1 ⟨rfl, rfl⟩
  go_wp2_with fail
  refine (K13.out _).mono ?_
  rintro e w1 ⟨rfl, rfl⟩
  go_wp2_with fail
  refine (K14.out _).mono ?_
  rintro e w1 ⟨rfl, rfl⟩
  go_wp2_with fail
  refine (K15.out _).mono ?_
  rintro e w1 ⟨rfl, rfl⟩
  go_wp2_with fail
  refine (K16.out _).mono ?_
  rintro e w1 ⟨rfl, rfl⟩
  go_wp2_with fail
  refine (K17.out _).mono ?_
  rintro e w1 ⟨rfl, rfl⟩
  go_wp2_with fail
  refine (K18.out _).mono ?_
  rintro e w1 ⟨rfl, rfl⟩
  go_wp2_with fail
  refine (K19.out _).mono ?_
  rintro e w1 ⟨rfl, rfl⟩
  go_wp2_with fail
  refine (K20.out _).mono ?_
  rintro e w1 ⟨rfl, rfl⟩
  go_wp2_with fail
  refine (K9.out _).mono ?_
  rintro e w1 ⟨rfl, rfl⟩
  go_wp2_with fail
  refine (K11.out _).mono ?_
  rintro e w1 ⟨rfl, rfl⟩
  go_wp2_with fail
  refine (K14.out _).mono ?_
  rintro e w1 ⟨rfl, rfl⟩
  go_wp2_with fail
  refine (K21.out _ HT0.out).mono ?_
  rintro e w1 ⟨rfl, hm⟩
  have HM1 := Lib.hid (HM.out.trans hm)
  have HT1 := Lib.hid (HT0.out.mod hm (fun x => x))
  clear hm HM HT0
  have HM := HM1
  have HT0 := HT1
  clear HM1 HT1
  go_wp2_with fail
  refine (K22.out _).mono ?_
  rintro e w1 ⟨rfl, rfl⟩
  go_wp2_with fail
  refine (K16.out _).mono ?_
  rintro e w1 ⟨rfl, rfl⟩
  go_wp2_with fail
  refine (K23.out _).mono ?_
  rintro e w1 ⟨rfl, rfl⟩
  go_wp2_with fail
  refine (K11.out _).mono ?_
  rintro e w1 ⟨rfl, rfl⟩
  go_wp2_with fail
  refine (K24.out _).mono ?_
  rintro e w1 ⟨rfl, hw⟩
  have HM1 : Hid (Mod (fun _ => False) w w1) := by rw [← hw]; exact HM.out.alloc _
  clear hw HM HT0
  have HM := HM1
  clear HM1
  go_wp2_with fail
  refine (K9.out _).mono ?_
  rintro e w1 ⟨rfl, rfl⟩
  go_wp2_with fail
  refine (K13.out _).mono ?_
  rintro e w1 ⟨rfl, rfl⟩
  go_wp2_with fail
  refine (K25.out _).mono ?_
  rintro e w1 ⟨rfl, hw⟩
  have HM1 : Hid (Mod (fun _ => False) w w1) := by rw [← hw]; exact HM.out.alloc _
  clear hw HM
  have HM := HM1
  clear HM1
  go_wp2_with fail
  refine (K15.out _).mono ?_
  rintro e w1 ⟨rfl, rfl⟩
  go_wp2_with fail
  refine (K13.out _).mono ?_
  rintro e w1 ⟨rfl, rfl⟩
  go_wp2_with fail
  refine (K26.out _).mono ?_
  rintro e w1 ⟨rfl, hw⟩
  have HM1 : Hid (Mod (fun _ => False) w w1) := by rw [← hw]; exact HM.out.alloc _
  clear hw HM
  have HM := HM1
  clear HM1
  go_wp2_with fail
  refine (K14.out _).mono ?_
  rintro e w1 ⟨rfl, rfl⟩
  go_wp2_with fail
  refine (K27.out _).mono ?_
  rintro e w1 ⟨rfl, rfl⟩
  go_wp2_with fail
  refine (K13.out _).mono ?_
  rintro e w1 ⟨rfl, rfl⟩
  go_wp2_with fail
  refine (K28.out _).mono ?_
  rintro e w1 ⟨rfl, rfl⟩
  go_wp2
  go_ret
  exact ⟨rfl, HM.out⟩
theorem known_walk (W : World) (hT : Tab W) : Calls Tryd.prog 8 #[] W fun e w' => e = .returned (.bool true) ∧ Below W.heap.size W w' :=
  (known_any W hT).mono fun _ _ ⟨x, y⟩ => ⟨x, y.none_below⟩
end Go.Proofs.YtgpjipgbighplaaDoor
