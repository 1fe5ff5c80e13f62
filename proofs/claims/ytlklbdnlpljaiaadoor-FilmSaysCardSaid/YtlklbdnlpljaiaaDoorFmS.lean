/-
  The reference's num, ShowEvent.
-/
import Derived.Test.YtlklbdnlpljaiaaDoorFmN
import Derived.Deep.RegionHeld3
namespace Go.Proofs.YtlklbdnlpljaiaaDoor
open Go.RowKit Go.Shoal

theorem rNum_any (n : Int) (hn : I64 n) (w : World) : Calls Tryd.prog 43 #[.int .i64 n] w fun e w' => e = .returned (.string (itoaS n)) ∧ Mod (fun _ => False) w w' := by
  obtain ⟨h1, h2⟩ := hn
  by_cases h : n < 0
  · have hw : IntKind.u64.wrap (wrap64 (-n)) = (n.natAbs : Int) := by rw [IntKind.wrap_u64]; unfold wrap64; omega
    have HD := Lib.hid (Dst.rdigits_any n.natAbs w (by omega))
    have hq : (Dst.itoaB n.natAbs).size ≤ 20 := Dst.dec_size 19 n.natAbs (by omega)
    have HE : Hid (itoaS n = ⟨#[45]⟩ ++ Dst.itoaB n.natAbs) := by
      show _ = _
      unfold itoaS Lib.itoa Dst.itoaB
      rw [if_pos h]
      exact (str_app [45] _).symm
    have t : decide (n < 0) = true := decide_eq_true h
    clear h1 h2 h
    generalize Dst.itoaB n.natAbs = q at *
    have hz : (⟨#[45]⟩ : ByteArray).size + q.size ≤ 9223372036854775807 := by show 1 + q.size ≤ _; omega
    generalize (n.natAbs : Int) = m at *
    go_enter Tryd.func43, Tryd.ntmps43
    go_wp2_with fail
    refine HD.out.mono ?_
    rintro e w1 ⟨rfl, hm⟩
    have HM := Lib.hid hm
    clear hm
    go_wp2
    go_ret
    exact ⟨by rw [HE.out]; rfl, HM.out⟩
  · have hw : IntKind.u64.wrap n = (n.toNat : Int) := by rw [IntKind.wrap_u64]; omega
    have HD := Lib.hid (Dst.rdigits_any n.toNat w (by omega))
    have HE : Hid (itoaS n = Dst.itoaB n.toNat) := by
      show _ = _
      unfold itoaS Lib.itoa Dst.itoaB
      rw [if_neg h]
    have t : decide (n < 0) = false := decide_eq_false h
    clear h1 h2 h
    generalize Dst.itoaB n.toNat = q at *
    generalize (n.toNat : Int) = m at *
    go_enter Tryd.func43, Tryd.ntmps43
    go_wp2_with fail
    refine HD.out.mono ?_
    rintro e w1 ⟨rfl, hm⟩
    have HM := Lib.hid hm
    clear hm
    go_wp2
    go_ret
    exact ⟨by rw [HE.out]; rfl, HM.out⟩
theorem rnum_any (n : Int) (hn : I64 n) (w : World) : Calls Tryd.prog 28 #[.int .i64 n] w fun e w' => e = .returned (.string (itoaS n)) ∧ Mod (fun _ => False) w w' := by
  have H := Lib.hid (rNum_any n hn w)
  generalize itoaS n = s at *
  clear hn
  go_enter Tryd.func28, Tryd.ntmps28
  go_wp2_with fail
  refine H.out.mono ?_
  rintro e w1 ⟨rfl, hm⟩
  have HM := Lib.hid hm
  clear hm
  go_wp2
  go_ret
  exact ⟨rfl, HM.out⟩
theorem ba_ext {a b : ByteArray} (h : a.data.toList = b.data.toList) : a = b := by
  cases a
  cases b
  exact congrArg ByteArray.mk (Array.toList_inj.1 h)
theorem ba_app (a b : ByteArray) : (a ++ b).data.toList = a.data.toList ++ b.data.toList := by
  rw [ByteArray.data_append, Array.toList_append]
theorem rdig_any (u : Nat) (hu : u < 18446744073709551616) (w : World) : Calls Tryd.prog 29 #[.int .u64 u] w fun e w' => e = .returned (.string (numS u)) ∧ Mod (fun _ => False) w w' := Dst.rdigits_any u w hu
theorem rflo_any (x : Nat) (hx : x < B64) (w : World) : Calls Tryd.prog 31 #[.float .f64 x] w fun e w' => e = .returned (.string (floS x)) ∧ Mod (fun _ => False) w w' :=
  (rshow_any x hx w).mono fun _ _ ⟨h, e⟩ => ⟨h, e ▸ Mod.refl _ _⟩
theorem rset_any (s : Nat) (hs : s < 18446744073709551616) (w : World) : Calls Tryd.prog 30 #[.int .u64 s] w fun e w' => e = .returned (.string (Dst.showS s)) ∧ Mod (fun _ => False) w w' := Dst.rshow_any s w hs
section
variable (kind p frm var err : Int) (num dst x tag : Nat) (w : World)
set_option maxRecDepth 100000 in
set_option maxHeartbeats 16000000 in
theorem rwords_1 (hp : I64 p) (h0 : num < 18446744073709551616) (h1 : dst < 18446744073709551616) : Calls Tryd.prog 19 #[.agg (#[.int .i64 1, .int .i64 p, .int .i64 frm, .int .u64 num, .int .u64 dst, .int .i64 var, .float .f64 x, .int .u64 tag, .int .i64 err])] w fun q w' => q = .returned (.string (itoaS p ++ ⟨#[32, 115, 101, 110, 116, 32]⟩ ++ numS num ++ ⟨#[32]⟩ ++ Dst.showS dst)) ∧ Mod (fun _ => False) w w' := by
  have hps : (itoaS p).size ≤ 200 := Nat.le_trans (itoa_size hp) (by decide)
  have hz0 : (numS num).size ≤ 200 := Nat.le_trans (num_size h0) (by decide)
  have hz1 : (Dst.showS dst).size ≤ 200 := set_size dst
  have HP : Hid (∀ W, Calls Tryd.prog 28 #[.int .i64 p] W fun e w' => e = .returned (.string (itoaS p)) ∧ Mod (fun _ => False) W w') := fun W => rnum_any p hp W
  have HB0 := Lib.hid (blk_new w (.cells (#[.int .i64 1, .int .i64 p, .int .i64 frm, .int .u64 num, .int .u64 dst, .int .i64 var, .float .f64 x, .int .u64 tag, .int .i64 err]) 44))
  have HMK : Hid (∀ W, Mod (fun _ => False) (w.alloc (.cells (#[.int .i64 1, .int .i64 p, .int .i64 frm, .int .u64 num, .int .u64 dst, .int .i64 var, .float .f64 x, .int .u64 tag, .int .i64 err]) 44)) W → (fun W => W.cell? ⟨w.heap.size, 0, none⟩ = some (.int .i64 1) ∧ W.cell? ⟨w.heap.size, 3, none⟩ = some (.int .u64 num) ∧ W.cell? ⟨w.heap.size, 4, none⟩ = some (.int .u64 dst) ∧ Mod (fun _ => False) (w.alloc (.cells (#[.int .i64 1, .int .i64 p, .int .i64 frm, .int .u64 num, .int .u64 dst, .int .i64 var, .float .f64 x, .int .u64 tag, .int .i64 err]) 44)) W) W) := fun W hW => by
    have hb := hW.blk HB0.out (fun h => h)
    exact ⟨(blk_cell hb 0).trans rfl, (blk_cell hb 3).trans rfl, (blk_cell hb 4).trans rfl, hW⟩
  have C0 : Hid (∀ W, (fun W => W.cell? ⟨w.heap.size, 0, none⟩ = some (.int .i64 1) ∧ W.cell? ⟨w.heap.size, 3, none⟩ = some (.int .u64 num) ∧ W.cell? ⟨w.heap.size, 4, none⟩ = some (.int .u64 dst) ∧ Mod (fun _ => False) (w.alloc (.cells (#[.int .i64 1, .int .i64 p, .int .i64 frm, .int .u64 num, .int .u64 dst, .int .i64 var, .float .f64 x, .int .u64 tag, .int .i64 err]) 44)) W) W → Calls Tryd.prog 29 #[.int .u64 num] W fun e w' => e = .returned (.string (numS num)) ∧ (fun W => W.cell? ⟨w.heap.size, 0, none⟩ = some (.int .i64 1) ∧ W.cell? ⟨w.heap.size, 3, none⟩ = some (.int .u64 num) ∧ W.cell? ⟨w.heap.size, 4, none⟩ = some (.int .u64 dst) ∧ Mod (fun _ => False) (w.alloc (.cells (#[.int .i64 1, .int .i64 p, .int .i64 frm, .int .u64 num, .int .u64 dst, .int .i64 var, .float .f64 x, .int .u64 tag, .int .i64 err]) 44)) W) w') := fun W hS => by
    have hW : Mod (fun _ => False) (w.alloc (.cells (#[.int .i64 1, .int .i64 p, .int .i64 frm, .int .u64 num, .int .u64 dst, .int .i64 var, .float .f64 x, .int .u64 tag, .int .i64 err]) 44)) W := hS.2.2.2
    exact (rdig_any num h0 W).mono fun e w' ⟨he, hm⟩ => ⟨he, HMK.out w' (hW.trans hm)⟩
  have C1 : Hid (∀ W, (fun W => W.cell? ⟨w.heap.size, 0, none⟩ = some (.int .i64 1) ∧ W.cell? ⟨w.heap.size, 3, none⟩ = some (.int .u64 num) ∧ W.cell? ⟨w.heap.size, 4, none⟩ = some (.int .u64 dst) ∧ Mod (fun _ => False) (w.alloc (.cells (#[.int .i64 1, .int .i64 p, .int .i64 frm, .int .u64 num, .int .u64 dst, .int .i64 var, .float .f64 x, .int .u64 tag, .int .i64 err]) 44)) W) W → Calls Tryd.prog 30 #[.int .u64 dst] W fun e w' => e = .returned (.string (Dst.showS dst)) ∧ (fun W => W.cell? ⟨w.heap.size, 0, none⟩ = some (.int .i64 1) ∧ W.cell? ⟨w.heap.size, 3, none⟩ = some (.int .u64 num) ∧ W.cell? ⟨w.heap.size, 4, none⟩ = some (.int .u64 dst) ∧ Mod (fun _ => False) (w.alloc (.cells (#[.int .i64 1, .int .i64 p, .int .i64 frm, .int .u64 num, .int .u64 dst, .int .i64 var, .float .f64 x, .int .u64 tag, .int .i64 err]) 44)) W) w') := fun W hS => by
    have hW : Mod (fun _ => False) (w.alloc (.cells (#[.int .i64 1, .int .i64 p, .int .i64 frm, .int .u64 num, .int .u64 dst, .int .i64 var, .float .f64 x, .int .u64 tag, .int .i64 err]) 44)) W := hS.2.2.2
    exact (rset_any dst h1 W).mono fun e w' ⟨he, hm⟩ => ⟨he, HMK.out w' (hW.trans hm)⟩
  generalize numS num = s0 at *
  generalize Dst.showS dst = s1 at *
  generalize itoaS p = ps at *
  have zf0 : (9223372036854775807 < ps.size + 6) = False := eq_false (by omega)
  have zf1 : (9223372036854775807 < ps.size + 6 + s0.size) = False := eq_false (by omega)
  have zf2 : (9223372036854775807 < ps.size + 6 + s0.size + 1) = False := eq_false (by omega)
  have zf3 : (9223372036854775807 < ps.size + 6 + s0.size + 1 + s1.size) = False := eq_false (by omega)
  have k1 := (blk_cell HB0.out 1).trans rfl
  have HMW : Hid (∀ W, Mod (fun _ => False) (w.alloc (.cells (#[.int .i64 1, .int .i64 p, .int .i64 frm, .int .u64 num, .int .u64 dst, .int .i64 var, .float .f64 x, .int .u64 tag, .int .i64 err]) 44)) W → Mod (fun _ => False) w W) := fun W hW => ((Mod.refl _ _).alloc _).trans hW
  clear hp h0 h1
  go_enter Tryd.func19, Tryd.ntmps19
  go_wp2_with fail
  refine (HP.out _).mono ?_
  rintro q w1 ⟨rfl, hm⟩
  have hS0 := HMK.out w1.drew hm.drew
  have hS1 := HMK.out w1 hm
  obtain ⟨m0, -⟩ := id hS1
  clear hm HP k1
  go_wp2_with fail
  clear m0 hS1
  go_region_held3 (fun W => W.cell? ⟨w.heap.size, 0, none⟩ = some (.int .i64 1) ∧ W.cell? ⟨w.heap.size, 3, none⟩ = some (.int .u64 num) ∧ W.cell? ⟨w.heap.size, 4, none⟩ = some (.int .u64 dst) ∧ Mod (fun _ => False) (w.alloc (.cells (#[.int .i64 1, .int .i64 p, .int .i64 frm, .int .u64 num, .int .u64 dst, .int .i64 var, .float .f64 x, .int .u64 tag, .int .i64 err]) 44)) W) (first | assumption) (first | (go_at_call 29; (with_reducible refine (C0.out _ (by assumption)).mono ?_); rintro e w2 ⟨rfl, hS⟩) | (go_at_call 30; (with_reducible refine (C1.out _ (by assumption)).mono ?_); rintro e w3 ⟨rfl, hS⟩))
  all_goals go_wp2
  all_goals go_ret
  all_goals exact ⟨rfl, HMW.out _ (And.right (And.right (And.right (by assumption))))⟩
set_option maxRecDepth 100000 in
set_option maxHeartbeats 16000000 in
theorem rwords_2 (hp : I64 p) (h0 : I64 frm) (h1 : num < 18446744073709551616) : Calls Tryd.prog 19 #[.agg (#[.int .i64 2, .int .i64 p, .int .i64 frm, .int .u64 num, .int .u64 dst, .int .i64 var, .float .f64 x, .int .u64 tag, .int .i64 err])] w fun q w' => q = .returned (.string (itoaS p ++ ⟨#[32, 103, 111, 116, 32]⟩ ++ itoaS frm ++ ⟨#[32]⟩ ++ numS num)) ∧ Mod (fun _ => False) w w' := by
  have hps : (itoaS p).size ≤ 200 := Nat.le_trans (itoa_size hp) (by decide)
  have hz0 : (itoaS frm).size ≤ 200 := Nat.le_trans (itoa_size h0) (by decide)
  have hz1 : (numS num).size ≤ 200 := Nat.le_trans (num_size h1) (by decide)
  have HP : Hid (∀ W, Calls Tryd.prog 28 #[.int .i64 p] W fun e w' => e = .returned (.string (itoaS p)) ∧ Mod (fun _ => False) W w') := fun W => rnum_any p hp W
  have HB0 := Lib.hid (blk_new w (.cells (#[.int .i64 2, .int .i64 p, .int .i64 frm, .int .u64 num, .int .u64 dst, .int .i64 var, .float .f64 x, .int .u64 tag, .int .i64 err]) 44))
  have HMK : Hid (∀ W, Mod (fun _ => False) (w.alloc (.cells (#[.int .i64 2, .int .i64 p, .int .i64 frm, .int .u64 num, .int .u64 dst, .int .i64 var, .float .f64 x, .int .u64 tag, .int .i64 err]) 44)) W → (fun W => W.cell? ⟨w.heap.size, 0, none⟩ = some (.int .i64 2) ∧ W.cell? ⟨w.heap.size, 2, none⟩ = some (.int .i64 frm) ∧ W.cell? ⟨w.heap.size, 3, none⟩ = some (.int .u64 num) ∧ Mod (fun _ => False) (w.alloc (.cells (#[.int .i64 2, .int .i64 p, .int .i64 frm, .int .u64 num, .int .u64 dst, .int .i64 var, .float .f64 x, .int .u64 tag, .int .i64 err]) 44)) W) W) := fun W hW => by
    have hb := hW.blk HB0.out (fun h => h)
    exact ⟨(blk_cell hb 0).trans rfl, (blk_cell hb 2).trans rfl, (blk_cell hb 3).trans rfl, hW⟩
  have C0 : Hid (∀ W, (fun W => W.cell? ⟨w.heap.size, 0, none⟩ = some (.int .i64 2) ∧ W.cell? ⟨w.heap.size, 2, none⟩ = some (.int .i64 frm) ∧ W.cell? ⟨w.heap.size, 3, none⟩ = some (.int .u64 num) ∧ Mod (fun _ => False) (w.alloc (.cells (#[.int .i64 2, .int .i64 p, .int .i64 frm, .int .u64 num, .int .u64 dst, .int .i64 var, .float .f64 x, .int .u64 tag, .int .i64 err]) 44)) W) W → Calls Tryd.prog 28 #[.int .i64 frm] W fun e w' => e = .returned (.string (itoaS frm)) ∧ (fun W => W.cell? ⟨w.heap.size, 0, none⟩ = some (.int .i64 2) ∧ W.cell? ⟨w.heap.size, 2, none⟩ = some (.int .i64 frm) ∧ W.cell? ⟨w.heap.size, 3, none⟩ = some (.int .u64 num) ∧ Mod (fun _ => False) (w.alloc (.cells (#[.int .i64 2, .int .i64 p, .int .i64 frm, .int .u64 num, .int .u64 dst, .int .i64 var, .float .f64 x, .int .u64 tag, .int .i64 err]) 44)) W) w') := fun W hS => by
    have hW : Mod (fun _ => False) (w.alloc (.cells (#[.int .i64 2, .int .i64 p, .int .i64 frm, .int .u64 num, .int .u64 dst, .int .i64 var, .float .f64 x, .int .u64 tag, .int .i64 err]) 44)) W := hS.2.2.2
    exact (rnum_any frm h0 W).mono fun e w' ⟨he, hm⟩ => ⟨he, HMK.out w' (hW.trans hm)⟩
  have C1 : Hid (∀ W, (fun W => W.cell? ⟨w.heap.size, 0, none⟩ = some (.int .i64 2) ∧ W.cell? ⟨w.heap.size, 2, none⟩ = some (.int .i64 frm) ∧ W.cell? ⟨w.heap.size, 3, none⟩ = some (.int .u64 num) ∧ Mod (fun _ => False) (w.alloc (.cells (#[.int .i64 2, .int .i64 p, .int .i64 frm, .int .u64 num, .int .u64 dst, .int .i64 var, .float .f64 x, .int .u64 tag, .int .i64 err]) 44)) W) W → Calls Tryd.prog 29 #[.int .u64 num] W fun e w' => e = .returned (.string (numS num)) ∧ (fun W => W.cell? ⟨w.heap.size, 0, none⟩ = some (.int .i64 2) ∧ W.cell? ⟨w.heap.size, 2, none⟩ = some (.int .i64 frm) ∧ W.cell? ⟨w.heap.size, 3, none⟩ = some (.int .u64 num) ∧ Mod (fun _ => False) (w.alloc (.cells (#[.int .i64 2, .int .i64 p, .int .i64 frm, .int .u64 num, .int .u64 dst, .int .i64 var, .float .f64 x, .int .u64 tag, .int .i64 err]) 44)) W) w') := fun W hS => by
    have hW : Mod (fun _ => False) (w.alloc (.cells (#[.int .i64 2, .int .i64 p, .int .i64 frm, .int .u64 num, .int .u64 dst, .int .i64 var, .float .f64 x, .int .u64 tag, .int .i64 err]) 44)) W := hS.2.2.2
    exact (rdig_any num h1 W).mono fun e w' ⟨he, hm⟩ => ⟨he, HMK.out w' (hW.trans hm)⟩
  generalize itoaS frm = s0 at *
  generalize numS num = s1 at *
  generalize itoaS p = ps at *
  have zf0 : (9223372036854775807 < ps.size + 5) = False := eq_false (by omega)
  have zf1 : (9223372036854775807 < ps.size + 5 + s0.size) = False := eq_false (by omega)
  have zf2 : (9223372036854775807 < ps.size + 5 + s0.size + 1) = False := eq_false (by omega)
  have zf3 : (9223372036854775807 < ps.size + 5 + s0.size + 1 + s1.size) = False := eq_false (by omega)
  have k1 := (blk_cell HB0.out 1).trans rfl
  have HMW : Hid (∀ W, Mod (fun _ => False) (w.alloc (.cells (#[.int .i64 2, .int .i64 p, .int .i64 frm, .int .u64 num, .int .u64 dst, .int .i64 var, .float .f64 x, .int .u64 tag, .int .i64 err]) 44)) W → Mod (fun _ => False) w W) := fun W hW => ((Mod.refl _ _).alloc _).trans hW
  clear hp h0 h1
  go_enter Tryd.func19, Tryd.ntmps19
  go_wp2_with fail
  refine (HP.out _).mono ?_
  rintro q w1 ⟨rfl, hm⟩
  have hS0 := HMK.out w1.drew hm.drew
  have hS1 := HMK.out w1 hm
  obtain ⟨m0, -⟩ := id hS1
  clear hm HP k1
  go_wp2_with fail
  clear m0 hS1
  go_region_held3 (fun W => W.cell? ⟨w.heap.size, 0, none⟩ = some (.int .i64 2) ∧ W.cell? ⟨w.heap.size, 2, none⟩ = some (.int .i64 frm) ∧ W.cell? ⟨w.heap.size, 3, none⟩ = some (.int .u64 num) ∧ Mod (fun _ => False) (w.alloc (.cells (#[.int .i64 2, .int .i64 p, .int .i64 frm, .int .u64 num, .int .u64 dst, .int .i64 var, .float .f64 x, .int .u64 tag, .int .i64 err]) 44)) W) (first | assumption) (first | (go_at_call 28; (with_reducible refine (C0.out _ (by assumption)).mono ?_); rintro e w2 ⟨rfl, hS⟩) | (go_at_call 29; (with_reducible refine (C1.out _ (by assumption)).mono ?_); rintro e w3 ⟨rfl, hS⟩))
  all_goals go_wp2
  all_goals go_ret
  all_goals exact ⟨rfl, HMW.out _ (And.right (And.right (And.right (by assumption))))⟩
set_option maxRecDepth 100000 in
set_option maxHeartbeats 16000000 in
theorem rwords_3 (hp : I64 p) (h0 : I64 var) (h1 : x < B64) (h2 : tag < 18446744073709551616) : Calls Tryd.prog 19 #[.agg (#[.int .i64 3, .int .i64 p, .int .i64 frm, .int .u64 num, .int .u64 dst, .int .i64 var, .float .f64 x, .int .u64 tag, .int .i64 err])] w fun q w' => q = .returned (.string (itoaS p ++ ⟨#[32, 119, 114, 111, 116, 101, 32]⟩ ++ itoaS var ++ ⟨#[32]⟩ ++ floS x ++ ⟨#[32]⟩ ++ numS tag)) ∧ Mod (fun _ => False) w w' := by
  have hps : (itoaS p).size ≤ 200 := Nat.le_trans (itoa_size hp) (by decide)
  have hz0 : (itoaS var).size ≤ 200 := Nat.le_trans (itoa_size h0) (by decide)
  have hz1 : (floS x).size ≤ 200 := Nat.le_trans (flo_size x) (by decide)
  have hz2 : (numS tag).size ≤ 200 := Nat.le_trans (num_size h2) (by decide)
  have HP : Hid (∀ W, Calls Tryd.prog 28 #[.int .i64 p] W fun e w' => e = .returned (.string (itoaS p)) ∧ Mod (fun _ => False) W w') := fun W => rnum_any p hp W
  have HB0 := Lib.hid (blk_new w (.cells (#[.int .i64 3, .int .i64 p, .int .i64 frm, .int .u64 num, .int .u64 dst, .int .i64 var, .float .f64 x, .int .u64 tag, .int .i64 err]) 44))
  have HMK : Hid (∀ W, Mod (fun _ => False) (w.alloc (.cells (#[.int .i64 3, .int .i64 p, .int .i64 frm, .int .u64 num, .int .u64 dst, .int .i64 var, .float .f64 x, .int .u64 tag, .int .i64 err]) 44)) W → (fun W => W.cell? ⟨w.heap.size, 0, none⟩ = some (.int .i64 3) ∧ W.cell? ⟨w.heap.size, 5, none⟩ = some (.int .i64 var) ∧ W.cell? ⟨w.heap.size, 6, none⟩ = some (.float .f64 x) ∧ W.cell? ⟨w.heap.size, 7, none⟩ = some (.int .u64 tag) ∧ Mod (fun _ => False) (w.alloc (.cells (#[.int .i64 3, .int .i64 p, .int .i64 frm, .int .u64 num, .int .u64 dst, .int .i64 var, .float .f64 x, .int .u64 tag, .int .i64 err]) 44)) W) W) := fun W hW => by
    have hb := hW.blk HB0.out (fun h => h)
    exact ⟨(blk_cell hb 0).trans rfl, (blk_cell hb 5).trans rfl, (blk_cell hb 6).trans rfl, (blk_cell hb 7).trans rfl, hW⟩
  have C0 : Hid (∀ W, (fun W => W.cell? ⟨w.heap.size, 0, none⟩ = some (.int .i64 3) ∧ W.cell? ⟨w.heap.size, 5, none⟩ = some (.int .i64 var) ∧ W.cell? ⟨w.heap.size, 6, none⟩ = some (.float .f64 x) ∧ W.cell? ⟨w.heap.size, 7, none⟩ = some (.int .u64 tag) ∧ Mod (fun _ => False) (w.alloc (.cells (#[.int .i64 3, .int .i64 p, .int .i64 frm, .int .u64 num, .int .u64 dst, .int .i64 var, .float .f64 x, .int .u64 tag, .int .i64 err]) 44)) W) W → Calls Tryd.prog 28 #[.int .i64 var] W fun e w' => e = .returned (.string (itoaS var)) ∧ (fun W => W.cell? ⟨w.heap.size, 0, none⟩ = some (.int .i64 3) ∧ W.cell? ⟨w.heap.size, 5, none⟩ = some (.int .i64 var) ∧ W.cell? ⟨w.heap.size, 6, none⟩ = some (.float .f64 x) ∧ W.cell? ⟨w.heap.size, 7, none⟩ = some (.int .u64 tag) ∧ Mod (fun _ => False) (w.alloc (.cells (#[.int .i64 3, .int .i64 p, .int .i64 frm, .int .u64 num, .int .u64 dst, .int .i64 var, .float .f64 x, .int .u64 tag, .int .i64 err]) 44)) W) w') := fun W hS => by
    have hW : Mod (fun _ => False) (w.alloc (.cells (#[.int .i64 3, .int .i64 p, .int .i64 frm, .int .u64 num, .int .u64 dst, .int .i64 var, .float .f64 x, .int .u64 tag, .int .i64 err]) 44)) W := hS.2.2.2.2
    exact (rnum_any var h0 W).mono fun e w' ⟨he, hm⟩ => ⟨he, HMK.out w' (hW.trans hm)⟩
  have C1 : Hid (∀ W, (fun W => W.cell? ⟨w.heap.size, 0, none⟩ = some (.int .i64 3) ∧ W.cell? ⟨w.heap.size, 5, none⟩ = some (.int .i64 var) ∧ W.cell? ⟨w.heap.size, 6, none⟩ = some (.float .f64 x) ∧ W.cell? ⟨w.heap.size, 7, none⟩ = some (.int .u64 tag) ∧ Mod (fun _ => False) (w.alloc (.cells (#[.int .i64 3, .int .i64 p, .int .i64 frm, .int .u64 num, .int .u64 dst, .int .i64 var, .float .f64 x, .int .u64 tag, .int .i64 err]) 44)) W) W → Calls Tryd.prog 31 #[.float .f64 x] W fun e w' => e = .returned (.string (floS x)) ∧ (fun W => W.cell? ⟨w.heap.size, 0, none⟩ = some (.int .i64 3) ∧ W.cell? ⟨w.heap.size, 5, none⟩ = some (.int .i64 var) ∧ W.cell? ⟨w.heap.size, 6, none⟩ = some (.float .f64 x) ∧ W.cell? ⟨w.heap.size, 7, none⟩ = some (.int .u64 tag) ∧ Mod (fun _ => False) (w.alloc (.cells (#[.int .i64 3, .int .i64 p, .int .i64 frm, .int .u64 num, .int .u64 dst, .int .i64 var, .float .f64 x, .int .u64 tag, .int .i64 err]) 44)) W) w') := fun W hS => by
    have hW : Mod (fun _ => False) (w.alloc (.cells (#[.int .i64 3, .int .i64 p, .int .i64 frm, .int .u64 num, .int .u64 dst, .int .i64 var, .float .f64 x, .int .u64 tag, .int .i64 err]) 44)) W := hS.2.2.2.2
    exact (rflo_any x h1 W).mono fun e w' ⟨he, hm⟩ => ⟨he, HMK.out w' (hW.trans hm)⟩
  have C2 : Hid (∀ W, (fun W => W.cell? ⟨w.heap.size, 0, none⟩ = some (.int .i64 3) ∧ W.cell? ⟨w.heap.size, 5, none⟩ = some (.int .i64 var) ∧ W.cell? ⟨w.heap.size, 6, none⟩ = some (.float .f64 x) ∧ W.cell? ⟨w.heap.size, 7, none⟩ = some (.int .u64 tag) ∧ Mod (fun _ => False) (w.alloc (.cells (#[.int .i64 3, .int .i64 p, .int .i64 frm, .int .u64 num, .int .u64 dst, .int .i64 var, .float .f64 x, .int .u64 tag, .int .i64 err]) 44)) W) W → Calls Tryd.prog 29 #[.int .u64 tag] W fun e w' => e = .returned (.string (numS tag)) ∧ (fun W => W.cell? ⟨w.heap.size, 0, none⟩ = some (.int .i64 3) ∧ W.cell? ⟨w.heap.size, 5, none⟩ = some (.int .i64 var) ∧ W.cell? ⟨w.heap.size, 6, none⟩ = some (.float .f64 x) ∧ W.cell? ⟨w.heap.size, 7, none⟩ = some (.int .u64 tag) ∧ Mod (fun _ => False) (w.alloc (.cells (#[.int .i64 3, .int .i64 p, .int .i64 frm, .int .u64 num, .int .u64 dst, .int .i64 var, .float .f64 x, .int .u64 tag, .int .i64 err]) 44)) W) w') := fun W hS => by
    have hW : Mod (fun _ => False) (w.alloc (.cells (#[.int .i64 3, .int .i64 p, .int .i64 frm, .int .u64 num, .int .u64 dst, .int .i64 var, .float .f64 x, .int .u64 tag, .int .i64 err]) 44)) W := hS.2.2.2.2
    exact (rdig_any tag h2 W).mono fun e w' ⟨he, hm⟩ => ⟨he, HMK.out w' (hW.trans hm)⟩
  generalize itoaS var = s0 at *
  generalize floS x = s1 at *
  generalize numS tag = s2 at *
  generalize itoaS p = ps at *
  have zf0 : (9223372036854775807 < ps.size + 7) = False := eq_false (by omega)
  have zf1 : (9223372036854775807 < ps.size + 7 + s0.size) = False := eq_false (by omega)
  have zf2 : (9223372036854775807 < ps.size + 7 + s0.size + 1) = False := eq_false (by omega)
  have zf3 : (9223372036854775807 < ps.size + 7 + s0.size + 1 + s1.size) = False := eq_false (by omega)
  have zf4 : (9223372036854775807 < ps.size + 7 + s0.size + 1 + s1.size + 1) = False := eq_false (by omega)
  have zf5 : (9223372036854775807 < ps.size + 7 + s0.size + 1 + s1.size + 1 + s2.size) = False := eq_false (by omega)
  have k1 := (blk_cell HB0.out 1).trans rfl
  have HMW : Hid (∀ W, Mod (fun _ => False) (w.alloc (.cells (#[.int .i64 3, .int .i64 p, .int .i64 frm, .int .u64 num, .int .u64 dst, .int .i64 var, .float .f64 x, .int .u64 tag, .int .i64 err]) 44)) W → Mod (fun _ => False) w W) := fun W hW => ((Mod.refl _ _).alloc _).trans hW
  clear hp h0 h1 h2
  go_enter Tryd.func19, Tryd.ntmps19
  go_wp2_with fail
  refine (HP.out _).mono ?_
  rintro q w1 ⟨rfl, hm⟩
  have hS0 := HMK.out w1.drew hm.drew
  have hS1 := HMK.out w1 hm
  obtain ⟨m0, -⟩ := id hS1
  clear hm HP k1
  go_wp2_with fail
  clear m0 hS1
  go_region_held3 (fun W => W.cell? ⟨w.heap.size, 0, none⟩ = some (.int .i64 3) ∧ W.cell? ⟨w.heap.size, 5, none⟩ = some (.int .i64 var) ∧ W.cell? ⟨w.heap.size, 6, none⟩ = some (.float .f64 x) ∧ W.cell? ⟨w.heap.size, 7, none⟩ = some (.int .u64 tag) ∧ Mod (fun _ => False) (w.alloc (.cells (#[.int .i64 3, .int .i64 p, .int .i64 frm, .int .u64 num, .int .u64 dst, .int .i64 var, .float .f64 x, .int .u64 tag, .int .i64 err]) 44)) W) (first | assumption) (first | (go_at_call 28; (with_reducible refine (C0.out _ (by assumption)).mono ?_); rintro e w2 ⟨rfl, hS⟩) | (go_at_call 31; (with_reducible refine (C1.out _ (by assumption)).mono ?_); rintro e w3 ⟨rfl, hS⟩) | (go_at_call 29; (with_reducible refine (C2.out _ (by assumption)).mono ?_); rintro e w4 ⟨rfl, hS⟩))
  all_goals go_wp2
  all_goals go_ret
  all_goals exact ⟨rfl, HMW.out _ (And.right (And.right (And.right (And.right (by assumption)))))⟩
set_option maxRecDepth 100000 in
set_option maxHeartbeats 16000000 in
theorem rwords_4 (hp : I64 p) (h0 : I64 var) : Calls Tryd.prog 19 #[.agg (#[.int .i64 4, .int .i64 p, .int .i64 frm, .int .u64 num, .int .u64 dst, .int .i64 var, .float .f64 x, .int .u64 tag, .int .i64 err])] w fun q w' => q = .returned (.string (itoaS p ++ ⟨#[32, 97, 115, 107, 115, 32]⟩ ++ itoaS var)) ∧ Mod (fun _ => False) w w' := by
  have hps : (itoaS p).size ≤ 200 := Nat.le_trans (itoa_size hp) (by decide)
  have hz0 : (itoaS var).size ≤ 200 := Nat.le_trans (itoa_size h0) (by decide)
  have HP : Hid (∀ W, Calls Tryd.prog 28 #[.int .i64 p] W fun e w' => e = .returned (.string (itoaS p)) ∧ Mod (fun _ => False) W w') := fun W => rnum_any p hp W
  have HB0 := Lib.hid (blk_new w (.cells (#[.int .i64 4, .int .i64 p, .int .i64 frm, .int .u64 num, .int .u64 dst, .int .i64 var, .float .f64 x, .int .u64 tag, .int .i64 err]) 44))
  have HMK : Hid (∀ W, Mod (fun _ => False) (w.alloc (.cells (#[.int .i64 4, .int .i64 p, .int .i64 frm, .int .u64 num, .int .u64 dst, .int .i64 var, .float .f64 x, .int .u64 tag, .int .i64 err]) 44)) W → (fun W => W.cell? ⟨w.heap.size, 0, none⟩ = some (.int .i64 4) ∧ W.cell? ⟨w.heap.size, 5, none⟩ = some (.int .i64 var) ∧ Mod (fun _ => False) (w.alloc (.cells (#[.int .i64 4, .int .i64 p, .int .i64 frm, .int .u64 num, .int .u64 dst, .int .i64 var, .float .f64 x, .int .u64 tag, .int .i64 err]) 44)) W) W) := fun W hW => by
    have hb := hW.blk HB0.out (fun h => h)
    exact ⟨(blk_cell hb 0).trans rfl, (blk_cell hb 5).trans rfl, hW⟩
  have C0 : Hid (∀ W, (fun W => W.cell? ⟨w.heap.size, 0, none⟩ = some (.int .i64 4) ∧ W.cell? ⟨w.heap.size, 5, none⟩ = some (.int .i64 var) ∧ Mod (fun _ => False) (w.alloc (.cells (#[.int .i64 4, .int .i64 p, .int .i64 frm, .int .u64 num, .int .u64 dst, .int .i64 var, .float .f64 x, .int .u64 tag, .int .i64 err]) 44)) W) W → Calls Tryd.prog 28 #[.int .i64 var] W fun e w' => e = .returned (.string (itoaS var)) ∧ (fun W => W.cell? ⟨w.heap.size, 0, none⟩ = some (.int .i64 4) ∧ W.cell? ⟨w.heap.size, 5, none⟩ = some (.int .i64 var) ∧ Mod (fun _ => False) (w.alloc (.cells (#[.int .i64 4, .int .i64 p, .int .i64 frm, .int .u64 num, .int .u64 dst, .int .i64 var, .float .f64 x, .int .u64 tag, .int .i64 err]) 44)) W) w') := fun W hS => by
    have hW : Mod (fun _ => False) (w.alloc (.cells (#[.int .i64 4, .int .i64 p, .int .i64 frm, .int .u64 num, .int .u64 dst, .int .i64 var, .float .f64 x, .int .u64 tag, .int .i64 err]) 44)) W := hS.2.2
    exact (rnum_any var h0 W).mono fun e w' ⟨he, hm⟩ => ⟨he, HMK.out w' (hW.trans hm)⟩
  generalize itoaS var = s0 at *
  generalize itoaS p = ps at *
  have zf0 : (9223372036854775807 < ps.size + 6) = False := eq_false (by omega)
  have zf1 : (9223372036854775807 < ps.size + 6 + s0.size) = False := eq_false (by omega)
  have k1 := (blk_cell HB0.out 1).trans rfl
  have HMW : Hid (∀ W, Mod (fun _ => False) (w.alloc (.cells (#[.int .i64 4, .int .i64 p, .int .i64 frm, .int .u64 num, .int .u64 dst, .int .i64 var, .float .f64 x, .int .u64 tag, .int .i64 err]) 44)) W → Mod (fun _ => False) w W) := fun W hW => ((Mod.refl _ _).alloc _).trans hW
  clear hp h0
  go_enter Tryd.func19, Tryd.ntmps19
  go_wp2_with fail
  refine (HP.out _).mono ?_
  rintro q w1 ⟨rfl, hm⟩
  have hS0 := HMK.out w1.drew hm.drew
  have hS1 := HMK.out w1 hm
  obtain ⟨m0, -⟩ := id hS1
  clear hm HP k1
  go_wp2_with fail
  refine (C0.out _ hS1).mono ?_
  rintro e w2 ⟨rfl, hS⟩
  have HM := Lib.hid (HMW.out _ (show Mod (fun _ => False) (w.alloc (.cells (#[.int .i64 4, .int .i64 p, .int .i64 frm, .int .u64 num, .int .u64 dst, .int .i64 var, .float .f64 x, .int .u64 tag, .int .i64 err]) 44)) w2 from hS.2.2))
  clear hS hS0 hS1 m0
  go_wp2
  go_ret
  exact ⟨rfl, HM.out⟩
set_option maxRecDepth 100000 in
set_option maxHeartbeats 16000000 in
theorem rwords_5 (hp : I64 p) (h0 : I64 var) (h1 : x < B64) (h2 : I64 frm) (h3 : tag < 18446744073709551616) : Calls Tryd.prog 19 #[.agg (#[.int .i64 5, .int .i64 p, .int .i64 frm, .int .u64 num, .int .u64 dst, .int .i64 var, .float .f64 x, .int .u64 tag, .int .i64 err])] w fun q w' => q = .returned (.string (itoaS p ++ ⟨#[32, 114, 101, 97, 100, 32]⟩ ++ itoaS var ++ ⟨#[32]⟩ ++ floS x ++ ⟨#[32]⟩ ++ itoaS frm ++ ⟨#[32]⟩ ++ numS tag)) ∧ Mod (fun _ => False) w w' := by
  have hps : (itoaS p).size ≤ 200 := Nat.le_trans (itoa_size hp) (by decide)
  have hz0 : (itoaS var).size ≤ 200 := Nat.le_trans (itoa_size h0) (by decide)
  have hz1 : (floS x).size ≤ 200 := Nat.le_trans (flo_size x) (by decide)
  have hz2 : (itoaS frm).size ≤ 200 := Nat.le_trans (itoa_size h2) (by decide)
  have hz3 : (numS tag).size ≤ 200 := Nat.le_trans (num_size h3) (by decide)
  have HP : Hid (∀ W, Calls Tryd.prog 28 #[.int .i64 p] W fun e w' => e = .returned (.string (itoaS p)) ∧ Mod (fun _ => False) W w') := fun W => rnum_any p hp W
  have HB0 := Lib.hid (blk_new w (.cells (#[.int .i64 5, .int .i64 p, .int .i64 frm, .int .u64 num, .int .u64 dst, .int .i64 var, .float .f64 x, .int .u64 tag, .int .i64 err]) 44))
  have HMK : Hid (∀ W, Mod (fun _ => False) (w.alloc (.cells (#[.int .i64 5, .int .i64 p, .int .i64 frm, .int .u64 num, .int .u64 dst, .int .i64 var, .float .f64 x, .int .u64 tag, .int .i64 err]) 44)) W → (fun W => W.cell? ⟨w.heap.size, 0, none⟩ = some (.int .i64 5) ∧ W.cell? ⟨w.heap.size, 2, none⟩ = some (.int .i64 frm) ∧ W.cell? ⟨w.heap.size, 5, none⟩ = some (.int .i64 var) ∧ W.cell? ⟨w.heap.size, 6, none⟩ = some (.float .f64 x) ∧ W.cell? ⟨w.heap.size, 7, none⟩ = some (.int .u64 tag) ∧ Mod (fun _ => False) (w.alloc (.cells (#[.int .i64 5, .int .i64 p, .int .i64 frm, .int .u64 num, .int .u64 dst, .int .i64 var, .float .f64 x, .int .u64 tag, .int .i64 err]) 44)) W) W) := fun W hW => by
    have hb := hW.blk HB0.out (fun h => h)
    exact ⟨(blk_cell hb 0).trans rfl, (blk_cell hb 2).trans rfl, (blk_cell hb 5).trans rfl, (blk_cell hb 6).trans rfl, (blk_cell hb 7).trans rfl, hW⟩
  have C0 : Hid (∀ W, (fun W => W.cell? ⟨w.heap.size, 0, none⟩ = some (.int .i64 5) ∧ W.cell? ⟨w.heap.size, 2, none⟩ = some (.int .i64 frm) ∧ W.cell? ⟨w.heap.size, 5, none⟩ = some (.int .i64 var) ∧ W.cell? ⟨w.heap.size, 6, none⟩ = some (.float .f64 x) ∧ W.cell? ⟨w.heap.size, 7, none⟩ = some (.int .u64 tag) ∧ Mod (fun _ => False) (w.alloc (.cells (#[.int .i64 5, .int .i64 p, .int .i64 frm, .int .u64 num, .int .u64 dst, .int .i64 var, .float .f64 x, .int .u64 tag, .int .i64 err]) 44)) W) W → Calls Tryd.prog 28 #[.int .i64 var] W fun e w' => e = .returned (.string (itoaS var)) ∧ (fun W => W.cell? ⟨w.heap.size, 0, none⟩ = some (.int .i64 5) ∧ W.cell? ⟨w.heap.size, 2, none⟩ = some (.int .i64 frm) ∧ W.cell? ⟨w.heap.size, 5, none⟩ = some (.int .i64 var) ∧ W.cell? ⟨w.heap.size, 6, none⟩ = some (.float .f64 x) ∧ W.cell? ⟨w.heap.size, 7, none⟩ = some (.int .u64 tag) ∧ Mod (fun _ => False) (w.alloc (.cells (#[.int .i64 5, .int .i64 p, .int .i64 frm, .int .u64 num, .int .u64 dst, .int .i64 var, .float .f64 x, .int .u64 tag, .int .i64 err]) 44)) W) w') := fun W hS => by
    have hW : Mod (fun _ => False) (w.alloc (.cells (#[.int .i64 5, .int .i64 p, .int .i64 frm, .int .u64 num, .int .u64 dst, .int .i64 var, .float .f64 x, .int .u64 tag, .int .i64 err]) 44)) W := hS.2.2.2.2.2
    exact (rnum_any var h0 W).mono fun e w' ⟨he, hm⟩ => ⟨he, HMK.out w' (hW.trans hm)⟩
  have C1 : Hid (∀ W, (fun W => W.cell? ⟨w.heap.size, 0, none⟩ = some (.int .i64 5) ∧ W.cell? ⟨w.heap.size, 2, none⟩ = some (.int .i64 frm) ∧ W.cell? ⟨w.heap.size, 5, none⟩ = some (.int .i64 var) ∧ W.cell? ⟨w.heap.size, 6, none⟩ = some (.float .f64 x) ∧ W.cell? ⟨w.heap.size, 7, none⟩ = some (.int .u64 tag) ∧ Mod (fun _ => False) (w.alloc (.cells (#[.int .i64 5, .int .i64 p, .int .i64 frm, .int .u64 num, .int .u64 dst, .int .i64 var, .float .f64 x, .int .u64 tag, .int .i64 err]) 44)) W) W → Calls Tryd.prog 31 #[.float .f64 x] W fun e w' => e = .returned (.string (floS x)) ∧ (fun W => W.cell? ⟨w.heap.size, 0, none⟩ = some (.int .i64 5) ∧ W.cell? ⟨w.heap.size, 2, none⟩ = some (.int .i64 frm) ∧ W.cell? ⟨w.heap.size, 5, none⟩ = some (.int .i64 var) ∧ W.cell? ⟨w.heap.size, 6, none⟩ = some (.float .f64 x) ∧ W.cell? ⟨w.heap.size, 7, none⟩ = some (.int .u64 tag) ∧ Mod (fun _ => False) (w.alloc (.cells (#[.int .i64 5, .int .i64 p, .int .i64 frm, .int .u64 num, .int .u64 dst, .int .i64 var, .float .f64 x, .int .u64 tag, .int .i64 err]) 44)) W) w') := fun W hS => by
    have hW : Mod (fun _ => False) (w.alloc (.cells (#[.int .i64 5, .int .i64 p, .int .i64 frm, .int .u64 num, .int .u64 dst, .int .i64 var, .float .f64 x, .int .u64 tag, .int .i64 err]) 44)) W := hS.2.2.2.2.2
    exact (rflo_any x h1 W).mono fun e w' ⟨he, hm⟩ => ⟨he, HMK.out w' (hW.trans hm)⟩
  have C2 : Hid (∀ W, (fun W => W.cell? ⟨w.heap.size, 0, none⟩ = some (.int .i64 5) ∧ W.cell? ⟨w.heap.size, 2, none⟩ = some (.int .i64 frm) ∧ W.cell? ⟨w.heap.size, 5, none⟩ = some (.int .i64 var) ∧ W.cell? ⟨w.heap.size, 6, none⟩ = some (.float .f64 x) ∧ W.cell? ⟨w.heap.size, 7, none⟩ = some (.int .u64 tag) ∧ Mod (fun _ => False) (w.alloc (.cells (#[.int .i64 5, .int .i64 p, .int .i64 frm, .int .u64 num, .int .u64 dst, .int .i64 var, .float .f64 x, .int .u64 tag, .int .i64 err]) 44)) W) W → Calls Tryd.prog 28 #[.int .i64 frm] W fun e w' => e = .returned (.string (itoaS frm)) ∧ (fun W => W.cell? ⟨w.heap.size, 0, none⟩ = some (.int .i64 5) ∧ W.cell? ⟨w.heap.size, 2, none⟩ = some (.int .i64 frm) ∧ W.cell? ⟨w.heap.size, 5, none⟩ = some (.int .i64 var) ∧ W.cell? ⟨w.heap.size, 6, none⟩ = some (.float .f64 x) ∧ W.cell? ⟨w.heap.size, 7, none⟩ = some (.int .u64 tag) ∧ Mod (fun _ => False) (w.alloc (.cells (#[.int .i64 5, .int .i64 p, .int .i64 frm, .int .u64 num, .int .u64 dst, .int .i64 var, .float .f64 x, .int .u64 tag, .int .i64 err]) 44)) W) w') := fun W hS => by
    have hW : Mod (fun _ => False) (w.alloc (.cells (#[.int .i64 5, .int .i64 p, .int .i64 frm, .int .u64 num, .int .u64 dst, .int .i64 var, .float .f64 x, .int .u64 tag, .int .i64 err]) 44)) W := hS.2.2.2.2.2
    exact (rnum_any frm h2 W).mono fun e w' ⟨he, hm⟩ => ⟨he, HMK.out w' (hW.trans hm)⟩
  have C3 : Hid (∀ W, (fun W => W.cell? ⟨w.heap.size, 0, none⟩ = some (.int .i64 5) ∧ W.cell? ⟨w.heap.size, 2, none⟩ = some (.int .i64 frm) ∧ W.cell? ⟨w.heap.size, 5, none⟩ = some (.int .i64 var) ∧ W.cell? ⟨w.heap.size, 6, none⟩ = some (.float .f64 x) ∧ W.cell? ⟨w.heap.size, 7, none⟩ = some (.int .u64 tag) ∧ Mod (fun _ => False) (w.alloc (.cells (#[.int .i64 5, .int .i64 p, .int .i64 frm, .int .u64 num, .int .u64 dst, .int .i64 var, .float .f64 x, .int .u64 tag, .int .i64 err]) 44)) W) W → Calls Tryd.prog 29 #[.int .u64 tag] W fun e w' => e = .returned (.string (numS tag)) ∧ (fun W => W.cell? ⟨w.heap.size, 0, none⟩ = some (.int .i64 5) ∧ W.cell? ⟨w.heap.size, 2, none⟩ = some (.int .i64 frm) ∧ W.cell? ⟨w.heap.size, 5, none⟩ = some (.int .i64 var) ∧ W.cell? ⟨w.heap.size, 6, none⟩ = some (.float .f64 x) ∧ W.cell? ⟨w.heap.size, 7, none⟩ = some (.int .u64 tag) ∧ Mod (fun _ => False) (w.alloc (.cells (#[.int .i64 5, .int .i64 p, .int .i64 frm, .int .u64 num, .int .u64 dst, .int .i64 var, .float .f64 x, .int .u64 tag, .int .i64 err]) 44)) W) w') := fun W hS => by
    have hW : Mod (fun _ => False) (w.alloc (.cells (#[.int .i64 5, .int .i64 p, .int .i64 frm, .int .u64 num, .int .u64 dst, .int .i64 var, .float .f64 x, .int .u64 tag, .int .i64 err]) 44)) W := hS.2.2.2.2.2
    exact (rdig_any tag h3 W).mono fun e w' ⟨he, hm⟩ => ⟨he, HMK.out w' (hW.trans hm)⟩
  generalize itoaS var = s0 at *
  generalize floS x = s1 at *
  generalize itoaS frm = s2 at *
  generalize numS tag = s3 at *
  generalize itoaS p = ps at *
  have zf0 : (9223372036854775807 < ps.size + 6) = False := eq_false (by omega)
  have zf1 : (9223372036854775807 < ps.size + 6 + s0.size) = False := eq_false (by omega)
  have zf2 : (9223372036854775807 < ps.size + 6 + s0.size + 1) = False := eq_false (by omega)
  have zf3 : (9223372036854775807 < ps.size + 6 + s0.size + 1 + s1.size) = False := eq_false (by omega)
  have zf4 : (9223372036854775807 < ps.size + 6 + s0.size + 1 + s1.size + 1) = False := eq_false (by omega)
  have zf5 : (9223372036854775807 < ps.size + 6 + s0.size + 1 + s1.size + 1 + s2.size) = False := eq_false (by omega)
  have zf6 : (9223372036854775807 < ps.size + 6 + s0.size + 1 + s1.size + 1 + s2.size + 1) = False := eq_false (by omega)
  have zf7 : (9223372036854775807 < ps.size + 6 + s0.size + 1 + s1.size + 1 + s2.size + 1 + s3.size) = False := eq_false (by omega)
  have k1 := (blk_cell HB0.out 1).trans rfl
  have HMW : Hid (∀ W, Mod (fun _ => False) (w.alloc (.cells (#[.int .i64 5, .int .i64 p, .int .i64 frm, .int .u64 num, .int .u64 dst, .int .i64 var, .float .f64 x, .int .u64 tag, .int .i64 err]) 44)) W → Mod (fun _ => False) w W) := fun W hW => ((Mod.refl _ _).alloc _).trans hW
  clear hp h0 h1 h2 h3
  go_enter Tryd.func19, Tryd.ntmps19
  go_wp2_with fail
  refine (HP.out _).mono ?_
  rintro q w1 ⟨rfl, hm⟩
  have hS0 := HMK.out w1.drew hm.drew
  have hS1 := HMK.out w1 hm
  obtain ⟨m0, -⟩ := id hS1
  clear hm HP k1
  go_wp2_with fail
  clear m0 hS1
  go_region_held3 (fun W => W.cell? ⟨w.heap.size, 0, none⟩ = some (.int .i64 5) ∧ W.cell? ⟨w.heap.size, 2, none⟩ = some (.int .i64 frm) ∧ W.cell? ⟨w.heap.size, 5, none⟩ = some (.int .i64 var) ∧ W.cell? ⟨w.heap.size, 6, none⟩ = some (.float .f64 x) ∧ W.cell? ⟨w.heap.size, 7, none⟩ = some (.int .u64 tag) ∧ Mod (fun _ => False) (w.alloc (.cells (#[.int .i64 5, .int .i64 p, .int .i64 frm, .int .u64 num, .int .u64 dst, .int .i64 var, .float .f64 x, .int .u64 tag, .int .i64 err]) 44)) W) (first | assumption) (first | (go_at_call 28; (with_reducible refine (C0.out _ (by assumption)).mono ?_); rintro e w2 ⟨rfl, hS⟩) | (go_at_call 31; (with_reducible refine (C1.out _ (by assumption)).mono ?_); rintro e w3 ⟨rfl, hS⟩) | (go_at_call 28; (with_reducible refine (C2.out _ (by assumption)).mono ?_); rintro e w4 ⟨rfl, hS⟩) | (go_at_call 29; (with_reducible refine (C3.out _ (by assumption)).mono ?_); rintro e w5 ⟨rfl, hS⟩))
  all_goals go_wp2
  all_goals go_ret
  all_goals exact ⟨rfl, HMW.out _ (And.right (And.right (And.right (And.right (And.right (by assumption))))))⟩
set_option maxRecDepth 100000 in
set_option maxHeartbeats 16000000 in
theorem rwords_6 (hp : I64 p) (h0 : I64 err) : Calls Tryd.prog 19 #[.agg (#[.int .i64 6, .int .i64 p, .int .i64 frm, .int .u64 num, .int .u64 dst, .int .i64 var, .float .f64 x, .int .u64 tag, .int .i64 err])] w fun q w' => q = .returned (.string (itoaS p ++ ⟨#[32, 114, 101, 102, 117, 115, 101, 100, 32]⟩ ++ itoaS err)) ∧ Mod (fun _ => False) w w' := by
  have hps : (itoaS p).size ≤ 200 := Nat.le_trans (itoa_size hp) (by decide)
  have hz0 : (itoaS err).size ≤ 200 := Nat.le_trans (itoa_size h0) (by decide)
  have HP : Hid (∀ W, Calls Tryd.prog 28 #[.int .i64 p] W fun e w' => e = .returned (.string (itoaS p)) ∧ Mod (fun _ => False) W w') := fun W => rnum_any p hp W
  have HB0 := Lib.hid (blk_new w (.cells (#[.int .i64 6, .int .i64 p, .int .i64 frm, .int .u64 num, .int .u64 dst, .int .i64 var, .float .f64 x, .int .u64 tag, .int .i64 err]) 44))
  have HMK : Hid (∀ W, Mod (fun _ => False) (w.alloc (.cells (#[.int .i64 6, .int .i64 p, .int .i64 frm, .int .u64 num, .int .u64 dst, .int .i64 var, .float .f64 x, .int .u64 tag, .int .i64 err]) 44)) W → (fun W => W.cell? ⟨w.heap.size, 0, none⟩ = some (.int .i64 6) ∧ W.cell? ⟨w.heap.size, 8, none⟩ = some (.int .i64 err) ∧ Mod (fun _ => False) (w.alloc (.cells (#[.int .i64 6, .int .i64 p, .int .i64 frm, .int .u64 num, .int .u64 dst, .int .i64 var, .float .f64 x, .int .u64 tag, .int .i64 err]) 44)) W) W) := fun W hW => by
    have hb := hW.blk HB0.out (fun h => h)
    exact ⟨(blk_cell hb 0).trans rfl, (blk_cell hb 8).trans rfl, hW⟩
  have C0 : Hid (∀ W, (fun W => W.cell? ⟨w.heap.size, 0, none⟩ = some (.int .i64 6) ∧ W.cell? ⟨w.heap.size, 8, none⟩ = some (.int .i64 err) ∧ Mod (fun _ => False) (w.alloc (.cells (#[.int .i64 6, .int .i64 p, .int .i64 frm, .int .u64 num, .int .u64 dst, .int .i64 var, .float .f64 x, .int .u64 tag, .int .i64 err]) 44)) W) W → Calls Tryd.prog 28 #[.int .i64 err] W fun e w' => e = .returned (.string (itoaS err)) ∧ (fun W => W.cell? ⟨w.heap.size, 0, none⟩ = some (.int .i64 6) ∧ W.cell? ⟨w.heap.size, 8, none⟩ = some (.int .i64 err) ∧ Mod (fun _ => False) (w.alloc (.cells (#[.int .i64 6, .int .i64 p, .int .i64 frm, .int .u64 num, .int .u64 dst, .int .i64 var, .float .f64 x, .int .u64 tag, .int .i64 err]) 44)) W) w') := fun W hS => by
    have hW : Mod (fun _ => False) (w.alloc (.cells (#[.int .i64 6, .int .i64 p, .int .i64 frm, .int .u64 num, .int .u64 dst, .int .i64 var, .float .f64 x, .int .u64 tag, .int .i64 err]) 44)) W := hS.2.2
    exact (rnum_any err h0 W).mono fun e w' ⟨he, hm⟩ => ⟨he, HMK.out w' (hW.trans hm)⟩
  generalize itoaS err = s0 at *
  generalize itoaS p = ps at *
  have zf0 : (9223372036854775807 < ps.size + 9) = False := eq_false (by omega)
  have zf1 : (9223372036854775807 < ps.size + 9 + s0.size) = False := eq_false (by omega)
  have k1 := (blk_cell HB0.out 1).trans rfl
  have HMW : Hid (∀ W, Mod (fun _ => False) (w.alloc (.cells (#[.int .i64 6, .int .i64 p, .int .i64 frm, .int .u64 num, .int .u64 dst, .int .i64 var, .float .f64 x, .int .u64 tag, .int .i64 err]) 44)) W → Mod (fun _ => False) w W) := fun W hW => ((Mod.refl _ _).alloc _).trans hW
  clear hp h0
  go_enter Tryd.func19, Tryd.ntmps19
  go_wp2_with fail
  refine (HP.out _).mono ?_
  rintro q w1 ⟨rfl, hm⟩
  have hS0 := HMK.out w1.drew hm.drew
  have hS1 := HMK.out w1 hm
  obtain ⟨m0, -⟩ := id hS1
  clear hm HP k1
  go_wp2_with fail
  refine (C0.out _ hS1).mono ?_
  rintro e w2 ⟨rfl, hS⟩
  have HM := Lib.hid (HMW.out _ (show Mod (fun _ => False) (w.alloc (.cells (#[.int .i64 6, .int .i64 p, .int .i64 frm, .int .u64 num, .int .u64 dst, .int .i64 var, .float .f64 x, .int .u64 tag, .int .i64 err]) 44)) w2 from hS.2.2))
  clear hS hS0 hS1 m0
  go_wp2
  go_ret
  exact ⟨rfl, HM.out⟩
set_option maxRecDepth 100000 in
theorem rwords_no (hp : I64 p) (h1 : kind ≠ 1) (h2 : kind ≠ 2) (h3 : kind ≠ 3) (h4 : kind ≠ 4) (h5 : kind ≠ 5) (h6 : kind ≠ 6) : Calls Tryd.prog 19 #[.agg #[.int .i64 kind, .int .i64 p, .int .i64 frm, .int .u64 num, .int .u64 dst, .int .i64 var, .float .f64 x, .int .u64 tag, .int .i64 err]] w (fun e w' => e = .returned (.string ByteArray.empty) ∧ Mod (fun _ => False) w w') := by
  have t1 : (kind == 1) = false := beq_eq_false_iff_ne.2 h1
  have t2 : (kind == 2) = false := beq_eq_false_iff_ne.2 h2
  have t3 : (kind == 3) = false := beq_eq_false_iff_ne.2 h3
  have t4 : (kind == 4) = false := beq_eq_false_iff_ne.2 h4
  have t5 : (kind == 5) = false := beq_eq_false_iff_ne.2 h5
  have t6 : (kind == 6) = false := beq_eq_false_iff_ne.2 h6
  have HP : Hid (∀ W, Calls Tryd.prog 28 #[.int .i64 p] W fun e w' => e = .returned (.string (itoaS p)) ∧ Mod (fun _ => False) W w') := fun W => rnum_any p hp W
  have HB0 := Lib.hid (blk_new w (.cells #[.int .i64 kind, .int .i64 p, .int .i64 frm, .int .u64 num, .int .u64 dst, .int .i64 var, .float .f64 x, .int .u64 tag, .int .i64 err] 44))
  have k1 := (blk_cell HB0.out 1).trans rfl
  clear h1 h2 h3 h4 h5 h6 hp
  go_enter Tryd.func19, Tryd.ntmps19
  go_wp2_with fail
  refine (HP.out _).mono ?_
  rintro q w1 ⟨rfl, hm⟩
  have m0 := (blk_cell (hm.blk HB0.out (fun h => h)) 0).trans rfl
  have HM : Hid (Mod (fun _ => False) w w1) := ((Mod.refl _ _).alloc _).trans hm
  clear hm k1 HP
  go_wp2
  go_ret
  exact ⟨rfl, HM.out⟩
end
theorem rshown_any (e : Ev) (ok : e.Ok) (w : World) : Calls Tryd.prog 19 #[e.agg] w fun q w' => q = .returned (.string (showE e)) ∧ Mod (fun _ => False) w w' := by
  obtain ⟨k, p, f, n, d, v, x, g, r⟩ := e
  have h1 := ok.n
  have h2 := ok.t
  have h3 := ok.f
  have h4 := ok.v
  have h5 := ok.x
  have h6 := ok.g
  have h7 := ok.r
  have hp := ok.p
  show Calls Tryd.prog 19 #[.agg #[.int .i64 k, .int .i64 p, .int .i64 f, .int .u64 n, .int .u64 d, .int .i64 v, .float .f64 x, .int .u64 g, .int .i64 r]] w _
  unfold showE wordsL
  dsimp only at h1 h2 h3 h4 h5 h6 h7 hp ⊢
  by_cases e1 : k = 1
  · subst e1
    rw [if_pos rfl, if_neg (by simp)]
    refine (rwords_1 p f v r n d x g w hp h1 h2).mono fun q w' ⟨hq, hm⟩ => ⟨hq.trans (congrArg (fun s => Ending.returned (.string s)) (ba_ext ?_)), hm⟩
    simp [sepL, Lib.join_cons, Lib.joinTail]
  rw [if_neg e1]
  by_cases e2 : k = 2
  · subst e2
    rw [if_pos rfl, if_neg (by simp)]
    refine (rwords_2 p f v r n d x g w hp h3 h1).mono fun q w' ⟨hq, hm⟩ => ⟨hq.trans (congrArg (fun s => Ending.returned (.string s)) (ba_ext ?_)), hm⟩
    simp [sepL, Lib.join_cons, Lib.joinTail]
  rw [if_neg e2]
  by_cases e3 : k = 3
  · subst e3
    rw [if_pos rfl, if_neg (by simp)]
    refine (rwords_3 p f v r n d x g w hp h4 h5 h6).mono fun q w' ⟨hq, hm⟩ => ⟨hq.trans (congrArg (fun s => Ending.returned (.string s)) (ba_ext ?_)), hm⟩
    simp [sepL, Lib.join_cons, Lib.joinTail]
  rw [if_neg e3]
  by_cases e4 : k = 4
  · subst e4
    rw [if_pos rfl, if_neg (by simp)]
    refine (rwords_4 p f v r n d x g w hp h4).mono fun q w' ⟨hq, hm⟩ => ⟨hq.trans (congrArg (fun s => Ending.returned (.string s)) (ba_ext ?_)), hm⟩
    simp [sepL, Lib.join_cons, Lib.joinTail]
  rw [if_neg e4]
  by_cases e5 : k = 5
  · subst e5
    rw [if_pos rfl, if_neg (by simp)]
    refine (rwords_5 p f v r n d x g w hp h4 h5 h3 h6).mono fun q w' ⟨hq, hm⟩ => ⟨hq.trans (congrArg (fun s => Ending.returned (.string s)) (ba_ext ?_)), hm⟩
    simp [sepL, Lib.join_cons, Lib.joinTail]
  rw [if_neg e5]
  by_cases e6 : k = 6
  · subst e6
    rw [if_pos rfl, if_neg (by simp)]
    refine (rwords_6 p f v r n d x g w hp h7).mono fun q w' ⟨hq, hm⟩ => ⟨hq.trans (congrArg (fun s => Ending.returned (.string s)) (ba_ext ?_)), hm⟩
    simp [sepL, Lib.join_cons, Lib.joinTail]
  rw [if_neg e6]
  rw [if_pos rfl]
  exact rwords_no k p f v r n d x g w hp e1 e2 e3 e4 e5 e6
end Go.Proofs.YtlklbdnlpljaiaaDoor
