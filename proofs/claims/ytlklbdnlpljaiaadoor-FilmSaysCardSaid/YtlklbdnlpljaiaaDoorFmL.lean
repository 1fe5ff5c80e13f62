/-
  The two that the document tells; what came in.
-/
import Derived.Test.YtlklbdnlpljaiaaDoorFmK
import Derived.Test.YtlklbdnlpljaiaaDoorFloatIn
namespace Go.Proofs.YtlklbdnlpljaiaaDoor
open Go.RowKit Go.Shoal

theorem numS_one {n : Nat} (h : n < 10) : numS n = ⟨#[UInt8.ofNat (48 + n)]⟩ := Dst.dec_one n h
theorem itoaS_one {n : Nat} (h : n < 10) : itoaS (n : Int) = ⟨#[UInt8.ofNat (48 + n)]⟩ := by
  unfold itoaS
  rw [Lib.itoa_nonneg, Lib.decDigits_one h]
def ev0 : Ev := ⟨2, 1, 0, 3, 0, 0, 0, 0, 0⟩
theorem i64_small {n : Int} (h1 : -100 ≤ n) (h2 : n ≤ 100) : I64 n := ⟨by omega, by omega⟩
theorem ev0_ok : ev0.Ok := ⟨i64_small (by decide) (by decide), i64_small (by decide) (by decide), i64_small (by decide) (by decide), by decide, by decide, i64_small (by decide) (by decide), by decide, by decide, i64_small (by decide) (by decide)⟩
theorem show0 : showE ev0 = ⟨#[49, 32, 103, 111, 116, 32, 48, 32, 51]⟩ := by
  have e1 : wordsL ev0 = [⟨#[103, 111, 116]⟩, ⟨#[48]⟩, ⟨#[51]⟩] := by
    show [_, itoaS ((0 : Nat) : Int), numS 3] = _
    rw [itoaS_one (by decide), numS_one (by decide)]
    rfl
  unfold showE
  rw [e1, if_neg (by simp)]
  show itoaS ((1 : Nat) : Int) ++ _ ++ _ = _
  rw [itoaS_one (by decide)]
  kernel_rfl
set_option maxRecDepth 100000 in
set_option maxHeartbeats 4000000 in
theorem awake_any (w : World) (hT : Tab w) : Calls Tryd.prog 7 #[] w fun q w' => q = .returned (.bool true) ∧ Mod (fun _ => False) w w' := by
  have HT : Hid (∀ W, Mod (fun _ => False) w W → Tab W) := fun W hW => hT.mod hW (fun h => h)
  have HF0 := Lib.hid (film_new w w.heap.size (Nat.le_refl _))
  have HA : Hid (Calls Tryd.prog 9 #[.pointer (some ⟨w.heap.size, 0, none⟩), .agg #[.int .i64 2, .int .i64 1, .int .i64 0, .int .u64 3, .int .u64 0, .int .i64 0, .float .f64 0, .int .u64 0, .int .i64 0]] (w.alloc (.cells #[.slice none 0 0] 54)) (Added (w.alloc (.cells #[.slice none 0 0] 54)) w.heap.size w.heap.size [ev0])) := add_any w.heap.size w.heap.size [] _ ev0 _ HF0.out (by decide)
  have HS : Hid (∀ W, Tab W → Calls Tryd.prog 13 #[.agg #[.int .i64 2, .int .i64 1, .int .i64 0, .int .u64 3, .int .u64 0, .int .i64 0, .float .f64 0, .int .u64 0, .int .i64 0]] W fun q w' => q = .returned (.string ⟨#[49, 32, 103, 111, 116, 32, 48, 32, 51]⟩) ∧ Mod (fun _ => False) W w') := fun W hW => by
    have h := shown_any ev0 ev0_ok W hW
    rw [show0] at h
    exact h
  have HM0 : Hid (Mod (fun _ => False) w (w.alloc (.cells #[.slice none 0 0] 54))) := (Mod.refl _ _).alloc _
  have HSZ : Hid (w.heap.size = w.heap.size) := rfl
  clear hT
  go_enter Tryd.func7, Tryd.ntmps7
  go_wp2_with fail
  refine (new_any w).mono ?_
  rintro q w1 ⟨rfl, rfl⟩
  go_wp2_with fail
  refine HA.out.mono ?_
  rintro q w2 ⟨rfl, ⟨v, hf⟩, hm⟩
  have HF := Lib.hid hf
  have HM2 : Hid (Mod (fun _ => False) w w2) := HM0.out.trans' hm (fun i hi h => by omega)
  have HAL := Lib.hid (all_any w.heap.size w.heap.size [ev0] v w2 hf (by decide))
  clear hf hm HA HF0 HM0
  go_wp2_with fail
  refine HAL.out.mono ?_
  rintro q w3 ⟨v3, rfl, hr, hm, -⟩
  have HF3 := Lib.hid (HF.out.none hm)
  have HM3 : Hid (Mod (fun _ => False) w w3) := HM2.out.trans hm
  obtain ⟨A, c, rfl⟩ := RowOf.form hr
  obtain ⟨b, o, rfl, k0, k1, k2, k3, k4, k5, k6, k7, k8⟩ := EvRow.nine (l := [ev0]) (k := 0) (e := ev0) hr rfl
  rw [Nat.zero_mul, Nat.add_zero] at k0 k1 k2 k3 k4 k5 k6 k7 k8
  have HS3 := Lib.hid (HS.out w3 (HT.out w3 HM3.out))
  have j0 : w3.cell? ⟨b, o, none⟩ = some (.int .i64 2) := k0
  have j1 : w3.cell? ⟨b, o + 1, none⟩ = some (.int .i64 1) := k1
  have j2 : w3.cell? ⟨b, o + 2, none⟩ = some (.int .i64 0) := k2
  have j3 : w3.cell? ⟨b, o + 3, none⟩ = some (.int .u64 3) := k3
  have j4 : w3.cell? ⟨b, o + 4, none⟩ = some (.int .u64 0) := k4
  have j5 : w3.cell? ⟨b, o + 5, none⟩ = some (.int .i64 0) := k5
  have j6 : w3.cell? ⟨b, o + 6, none⟩ = some (.float .f64 0) := k6
  have j7 : w3.cell? ⟨b, o + 7, none⟩ = some (.int .u64 0) := k7
  have j8 : w3.cell? ⟨b, o + 8, none⟩ = some (.int .i64 0) := k8
  clear k0 k1 k2 k3 k4 k5 k6 k7 k8 hr hm HAL HF HM2
  go_wp2_with fail
  refine HS3.out.mono ?_
  rintro q w4 ⟨rfl, hm⟩
  have HM4 : Hid (Mod (fun _ => False) w w4) := HM3.out.trans hm
  have HC : Hid (Calls Tryd.prog 11 #[.pointer (some ⟨w.heap.size, 0, none⟩), .int .i64 2] w4 fun q w' => q = .returned (.int .i64 1) ∧ Mod (fun _ => False) w4 w') := count_any w.heap.size w.heap.size [ev0] v 2 w4 (HF3.out.none hm) (by decide)
  clear hm HS3 HF3 HM3 j0 j1 j2 j3 j4 j5 j6 j7 j8
  go_wp2_with fail
  refine HC.out.mono ?_
  rintro q w5 ⟨rfl, hm⟩
  have HM5 : Hid (Mod (fun _ => False) w w5) := HM4.out.trans hm
  clear hm
  go_wp2
  go_ret
  exact ⟨rfl, HM5.out⟩
/-! What came in. -/
instance : Inhabited Ev := ⟨⟨0, 0, 0, 0, 0, 0, 0, 0, 0⟩⟩
def Evs (w : World) (v : Value) (l : List Ev) : Prop := ElemsIn 9 Ev.cells Ev.Ok w v l
theorem wf_i64 {n : Int} (h : (Lit.int .i64 n).wf = true) : I64 n := by
  have h' : IntKind.i64.min ≤ n ∧ n ≤ IntKind.i64.max := by simpa [Lit.wf] using h
  exact h'
theorem ev_of {H : Type} {enc : TypeId × Value → H} {W : World} {base : Nat} {spare : Nat → Bool} {held : Bool} (n : Nat) (cs : List Value) (y : DataW H × List MemPlace) (hl : cs.length = 9)
    (h : DataW.trod enc Tryd.prog W base spare held n 31 cs = some y) : ∃ a : Ev, cs = a.cells ∧ a.Ok := by
  obtain ⟨c0, c1, c2, c3, c4, c5, c6, c7, c8, rfl⟩ : ∃ c0 c1 c2 c3 c4 c5 c6 c7 c8, cs = [c0, c1, c2, c3, c4, c5, c6, c7, c8] := by
    match cs, hl with
    | [a, b, c, d, e, f, g, h, i], _ => exact ⟨a, b, c, d, e, f, g, h, i, rfl⟩
  obtain ⟨k0, y0, h0⟩ := field_of_trod Tryd.underlying31 h 0 _ rfl rfl (by kernel_rfl) (by simp)
  obtain ⟨k1, y1, h1⟩ := field_of_trod Tryd.underlying31 h 1 _ rfl rfl (by kernel_rfl) (by simp)
  obtain ⟨k2, y2, h2⟩ := field_of_trod Tryd.underlying31 h 2 _ rfl rfl (by kernel_rfl) (by simp)
  obtain ⟨k3, y3, h3⟩ := field_of_trod Tryd.underlying31 h 3 _ rfl rfl (by kernel_rfl) (by simp)
  obtain ⟨k4, y4, h4⟩ := field_of_trod Tryd.underlying31 h 4 _ rfl rfl (by kernel_rfl) (by simp)
  obtain ⟨k5, y5, h5⟩ := field_of_trod Tryd.underlying31 h 5 _ rfl rfl (by kernel_rfl) (by simp)
  obtain ⟨k6, y6, h6⟩ := field_of_trod Tryd.underlying31 h 6 _ rfl rfl (by kernel_rfl) (by simp)
  obtain ⟨k7, y7, h7⟩ := field_of_trod Tryd.underlying31 h 7 _ rfl rfl (by kernel_rfl) (by simp)
  obtain ⟨k8, y8, h8⟩ := field_of_trod Tryd.underlying31 h 8 _ rfl rfl (by kernel_rfl) (by simp)
  obtain ⟨a0, e0, w0⟩ := int_of_trod Tryd.underlying3 h0
  obtain ⟨a1, e1, w1⟩ := int_of_trod Tryd.underlying3 h1
  obtain ⟨a2, e2, w2⟩ := int_of_trod Tryd.underlying3 h2
  obtain ⟨a3, e3, w3⟩ := int_of_trod Tryd.underlying26 h3
  obtain ⟨a4, e4, w4⟩ := int_of_trod Tryd.underlying27 h4
  obtain ⟨a5, e5, w5⟩ := int_of_trod Tryd.underlying3 h5
  obtain ⟨a6, e6, w6⟩ := float_of_trod Tryd.underlying28 h6
  obtain ⟨a7, e7, w7⟩ := int_of_trod Tryd.underlying26 h7
  obtain ⟨a8, e8, w8⟩ := int_of_trod Tryd.underlying29 h8
  obtain ⟨b3, rfl⟩ := Int.eq_ofNat_of_zero_le (wf_u64 w3).1
  obtain ⟨b4, rfl⟩ := Int.eq_ofNat_of_zero_le (wf_u64 w4).1
  obtain ⟨b7, rfl⟩ := Int.eq_ofNat_of_zero_le (wf_u64 w7).1
  have u3 := (wf_u64 w3).2
  have u4 := (wf_u64 w4).2
  have u7 := (wf_u64 w7).2
  refine ⟨⟨a0, a1, a2, b3, b4, a5, a6, b7, a8⟩, ?_, ⟨wf_i64 w0, wf_i64 w1, wf_i64 w2, by show b3 < _; omega, by show b4 < _; omega, wf_i64 w5, w6, by show b7 < _; omega, wf_i64 w8⟩⟩
  have f0 : c0 = _ := e0
  have f1 : c1 = _ := e1
  have f2 : c2 = _ := e2
  have f3 : c3 = _ := e3
  have f4 : c4 = _ := e4
  have f5 : c5 = _ := e5
  have f6 : c6 = _ := e6
  have f7 : c7 = _ := e7
  have f8 : c8 = _ := e8
  rw [f0, f1, f2, f3, f4, f5, f6, f7, f8]
  rfl
theorem cellsEv : Tryd.prog.cellsOf 31 = 9 := by kernel_rfl
end Go.Proofs.YtlklbdnlpljaiaaDoor
