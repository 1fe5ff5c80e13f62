/-
  events alike; the reference's Cut walked.
-/
import Derived.Test.YtlklbdnlpljaiaaDoorFmW
namespace Go.Proofs.YtlklbdnlpljaiaaDoor
open Go.RowKit Go.Shoal

theorem same_self (e : Ev) : sameE e e = true := by
  unfold sameE restB sameW
  simp
theorem cell_mod {w w' : World} {b i : Nat} {u : Value} (h : w.cell? ⟨b, i, none⟩ = some u) (hm : Mod (fun _ => False) w w') : w'.cell? ⟨b, i, none⟩ = some u :=
  (World.cell?_of_block (hm.block b (World.block_lt_of_cell? w _ h) (fun x => x))).trans h
set_option maxRecDepth 100000 in
set_option maxHeartbeats 16000000 in
theorem events_any (va vb : Value) (l : List Ev) (w : World) (ha : EvRow w va l) (hb : RevRow w vb l) (hl : l.length ≤ 1000) (hok : ∀ e ∈ l, e.Ok) :
    Calls Tryd.prog 21 #[va, vb] w fun q w' => q = .returned (.bool true) ∧ Mod (fun _ => False) w w' := by
  obtain ⟨A1, c1, rfl⟩ := RowOf.form ha
  obtain ⟨A2, c2, rfl⟩ := RowOf.form hb
  have HA := Lib.hid ha
  have HB := Lib.hid hb
  have HOK := Lib.hid hok
  clear ha hb hok
  have t0 : ((l.length : Int) != (l.length : Int)) = false := by simp
  go_enter Tryd.func21, Tryd.ntmps21
  go_wp2
  go_loopw [5] (fun z wr => ∃ i : Nat, i ≤ l.length ∧ z = .int .i64 i ∧ Hid (Mod (fun _ => False) w wr)) (fun z _ => l.length - (intOf z).toNat)
  case atStart => exact ⟨0, Nat.zero_le _, rfl, Mod.refl _ _⟩
  case round =>
    obtain ⟨i, hi, rfl, HW⟩ := hrel
    by_cases hlt : i < l.length
    · obtain ⟨e, he⟩ : ∃ e, l[i]? = some e := ⟨_, List.getElem?_eq_getElem hlt⟩
      have hra : EvRow wr (.slice A1 l.length c1) l := RowOf.mod HA.out HW.out (fun _ _ x => x)
      have hrb : RevRow wr (.slice A2 l.length c2) l := RowOf.mod HB.out HW.out (fun _ _ x => x)
      obtain ⟨b, o, rfl, a0, a1, a2, a3, a4, a5, a6, a7, a8⟩ := hra.nine he
      obtain ⟨b', o', rfl, b0, b1, b2, b3, b4, b5, b6, b7, b8⟩ := hrb.nine he
      have hi1 : (i : Int) < l.length := by omega
      have hi0 : (0 : Int) ≤ (i : Int) := by omega
      have tk : decide (i < l.length) = true := decide_eq_true hlt
      have hib : (i : Int) < 1000 := by omega
      have heok := HOK.out e (List.mem_of_getElem? he)
      have hxw := heok.x
      clear hra hrb he heok
      have HEV : Hid (∀ W, Calls Tryd.prog 18 #[e.agg] W fun q w' => q = .returned e.agg ∧ Mod (fun _ => False) W w') := fun W => event_any e W
      have HSA : Hid (∀ W, Calls Tryd.prog 20 #[e.agg, e.agg] W fun q w' => q = .returned (.bool true) ∧ Mod (fun _ => False) W w') := fun W => by
        have h := rsameE_any e e hxw hxw W
        rw [same_self] at h
        exact h
      obtain ⟨k, p, f, n, d, v, x, g, r⟩ := e
      dsimp only at a0 a1 a2 a3 a4 a5 a6 a7 a8 b0 b1 b2 b3 b4 b5 b6 b7 b8
      have HMK : Hid (∀ W, Mod (fun _ => False) wr W → (fun W => W.cell? ⟨b, o + i * 9, none⟩ = some (.int .i64 k) ∧ W.cell? ⟨b, o + i * 9 + 1, none⟩ = some (.int .i64 p) ∧ W.cell? ⟨b, o + i * 9 + 2, none⟩ = some (.int .i64 f) ∧ W.cell? ⟨b, o + i * 9 + 3, none⟩ = some (.int .u64 n) ∧ W.cell? ⟨b, o + i * 9 + 4, none⟩ = some (.int .u64 d) ∧ W.cell? ⟨b, o + i * 9 + 5, none⟩ = some (.int .i64 v) ∧ W.cell? ⟨b, o + i * 9 + 6, none⟩ = some (.float .f64 x) ∧ W.cell? ⟨b, o + i * 9 + 7, none⟩ = some (.int .u64 g) ∧ W.cell? ⟨b, o + i * 9 + 8, none⟩ = some (.int .i64 r) ∧ W.cell? ⟨b', o' + i * 9, none⟩ = some (.int .i64 k) ∧ W.cell? ⟨b', o' + i * 9 + 1, none⟩ = some (.int .i64 p) ∧ W.cell? ⟨b', o' + i * 9 + 2, none⟩ = some (.int .i64 f) ∧ W.cell? ⟨b', o' + i * 9 + 3, none⟩ = some (.int .u64 n) ∧ W.cell? ⟨b', o' + i * 9 + 4, none⟩ = some (.int .u64 d) ∧ W.cell? ⟨b', o' + i * 9 + 5, none⟩ = some (.int .i64 v) ∧ W.cell? ⟨b', o' + i * 9 + 6, none⟩ = some (.float .f64 x) ∧ W.cell? ⟨b', o' + i * 9 + 7, none⟩ = some (.int .u64 g) ∧ W.cell? ⟨b', o' + i * 9 + 8, none⟩ = some (.int .i64 r) ∧ Mod (fun _ => False) wr W) W) := fun W hW => ⟨cell_mod a0 hW, cell_mod a1 hW, cell_mod a2 hW, cell_mod a3 hW, cell_mod a4 hW, cell_mod a5 hW, cell_mod a6 hW, cell_mod a7 hW, cell_mod a8 hW, cell_mod b0 hW, cell_mod b1 hW, cell_mod b2 hW, cell_mod b3 hW, cell_mod b4 hW, cell_mod b5 hW, cell_mod b6 hW, cell_mod b7 hW, cell_mod b8 hW, hW⟩
      have HMO : Hid (∀ W, (fun W => W.cell? ⟨b, o + i * 9, none⟩ = some (.int .i64 k) ∧ W.cell? ⟨b, o + i * 9 + 1, none⟩ = some (.int .i64 p) ∧ W.cell? ⟨b, o + i * 9 + 2, none⟩ = some (.int .i64 f) ∧ W.cell? ⟨b, o + i * 9 + 3, none⟩ = some (.int .u64 n) ∧ W.cell? ⟨b, o + i * 9 + 4, none⟩ = some (.int .u64 d) ∧ W.cell? ⟨b, o + i * 9 + 5, none⟩ = some (.int .i64 v) ∧ W.cell? ⟨b, o + i * 9 + 6, none⟩ = some (.float .f64 x) ∧ W.cell? ⟨b, o + i * 9 + 7, none⟩ = some (.int .u64 g) ∧ W.cell? ⟨b, o + i * 9 + 8, none⟩ = some (.int .i64 r) ∧ W.cell? ⟨b', o' + i * 9, none⟩ = some (.int .i64 k) ∧ W.cell? ⟨b', o' + i * 9 + 1, none⟩ = some (.int .i64 p) ∧ W.cell? ⟨b', o' + i * 9 + 2, none⟩ = some (.int .i64 f) ∧ W.cell? ⟨b', o' + i * 9 + 3, none⟩ = some (.int .u64 n) ∧ W.cell? ⟨b', o' + i * 9 + 4, none⟩ = some (.int .u64 d) ∧ W.cell? ⟨b', o' + i * 9 + 5, none⟩ = some (.int .i64 v) ∧ W.cell? ⟨b', o' + i * 9 + 6, none⟩ = some (.float .f64 x) ∧ W.cell? ⟨b', o' + i * 9 + 7, none⟩ = some (.int .u64 g) ∧ W.cell? ⟨b', o' + i * 9 + 8, none⟩ = some (.int .i64 r) ∧ Mod (fun _ => False) wr W) W → Mod (fun _ => False) wr W) := fun W hS => hS.2.2.2.2.2.2.2.2.2.2.2.2.2.2.2.2.2.2
      have C1 : Hid (∀ W, (fun W => W.cell? ⟨b, o + i * 9, none⟩ = some (.int .i64 k) ∧ W.cell? ⟨b, o + i * 9 + 1, none⟩ = some (.int .i64 p) ∧ W.cell? ⟨b, o + i * 9 + 2, none⟩ = some (.int .i64 f) ∧ W.cell? ⟨b, o + i * 9 + 3, none⟩ = some (.int .u64 n) ∧ W.cell? ⟨b, o + i * 9 + 4, none⟩ = some (.int .u64 d) ∧ W.cell? ⟨b, o + i * 9 + 5, none⟩ = some (.int .i64 v) ∧ W.cell? ⟨b, o + i * 9 + 6, none⟩ = some (.float .f64 x) ∧ W.cell? ⟨b, o + i * 9 + 7, none⟩ = some (.int .u64 g) ∧ W.cell? ⟨b, o + i * 9 + 8, none⟩ = some (.int .i64 r) ∧ W.cell? ⟨b', o' + i * 9, none⟩ = some (.int .i64 k) ∧ W.cell? ⟨b', o' + i * 9 + 1, none⟩ = some (.int .i64 p) ∧ W.cell? ⟨b', o' + i * 9 + 2, none⟩ = some (.int .i64 f) ∧ W.cell? ⟨b', o' + i * 9 + 3, none⟩ = some (.int .u64 n) ∧ W.cell? ⟨b', o' + i * 9 + 4, none⟩ = some (.int .u64 d) ∧ W.cell? ⟨b', o' + i * 9 + 5, none⟩ = some (.int .i64 v) ∧ W.cell? ⟨b', o' + i * 9 + 6, none⟩ = some (.float .f64 x) ∧ W.cell? ⟨b', o' + i * 9 + 7, none⟩ = some (.int .u64 g) ∧ W.cell? ⟨b', o' + i * 9 + 8, none⟩ = some (.int .i64 r) ∧ Mod (fun _ => False) wr W) W → Calls Tryd.prog 18 #[.agg #[.int .i64 k, .int .i64 p, .int .i64 f, .int .u64 n, .int .u64 d, .int .i64 v, .float .f64 x, .int .u64 g, .int .i64 r]] W fun q w' => q = .returned (.agg #[.int .i64 k, .int .i64 p, .int .i64 f, .int .u64 n, .int .u64 d, .int .i64 v, .float .f64 x, .int .u64 g, .int .i64 r]) ∧ (fun W => W.cell? ⟨b, o + i * 9, none⟩ = some (.int .i64 k) ∧ W.cell? ⟨b, o + i * 9 + 1, none⟩ = some (.int .i64 p) ∧ W.cell? ⟨b, o + i * 9 + 2, none⟩ = some (.int .i64 f) ∧ W.cell? ⟨b, o + i * 9 + 3, none⟩ = some (.int .u64 n) ∧ W.cell? ⟨b, o + i * 9 + 4, none⟩ = some (.int .u64 d) ∧ W.cell? ⟨b, o + i * 9 + 5, none⟩ = some (.int .i64 v) ∧ W.cell? ⟨b, o + i * 9 + 6, none⟩ = some (.float .f64 x) ∧ W.cell? ⟨b, o + i * 9 + 7, none⟩ = some (.int .u64 g) ∧ W.cell? ⟨b, o + i * 9 + 8, none⟩ = some (.int .i64 r) ∧ W.cell? ⟨b', o' + i * 9, none⟩ = some (.int .i64 k) ∧ W.cell? ⟨b', o' + i * 9 + 1, none⟩ = some (.int .i64 p) ∧ W.cell? ⟨b', o' + i * 9 + 2, none⟩ = some (.int .i64 f) ∧ W.cell? ⟨b', o' + i * 9 + 3, none⟩ = some (.int .u64 n) ∧ W.cell? ⟨b', o' + i * 9 + 4, none⟩ = some (.int .u64 d) ∧ W.cell? ⟨b', o' + i * 9 + 5, none⟩ = some (.int .i64 v) ∧ W.cell? ⟨b', o' + i * 9 + 6, none⟩ = some (.float .f64 x) ∧ W.cell? ⟨b', o' + i * 9 + 7, none⟩ = some (.int .u64 g) ∧ W.cell? ⟨b', o' + i * 9 + 8, none⟩ = some (.int .i64 r) ∧ Mod (fun _ => False) wr W) w') := fun W hS => (HEV.out W).mono fun _ w' ⟨h, hm⟩ => ⟨h, HMK.out w' ((HMO.out W hS).trans hm)⟩
      have C2 : Hid (∀ W, (fun W => W.cell? ⟨b, o + i * 9, none⟩ = some (.int .i64 k) ∧ W.cell? ⟨b, o + i * 9 + 1, none⟩ = some (.int .i64 p) ∧ W.cell? ⟨b, o + i * 9 + 2, none⟩ = some (.int .i64 f) ∧ W.cell? ⟨b, o + i * 9 + 3, none⟩ = some (.int .u64 n) ∧ W.cell? ⟨b, o + i * 9 + 4, none⟩ = some (.int .u64 d) ∧ W.cell? ⟨b, o + i * 9 + 5, none⟩ = some (.int .i64 v) ∧ W.cell? ⟨b, o + i * 9 + 6, none⟩ = some (.float .f64 x) ∧ W.cell? ⟨b, o + i * 9 + 7, none⟩ = some (.int .u64 g) ∧ W.cell? ⟨b, o + i * 9 + 8, none⟩ = some (.int .i64 r) ∧ W.cell? ⟨b', o' + i * 9, none⟩ = some (.int .i64 k) ∧ W.cell? ⟨b', o' + i * 9 + 1, none⟩ = some (.int .i64 p) ∧ W.cell? ⟨b', o' + i * 9 + 2, none⟩ = some (.int .i64 f) ∧ W.cell? ⟨b', o' + i * 9 + 3, none⟩ = some (.int .u64 n) ∧ W.cell? ⟨b', o' + i * 9 + 4, none⟩ = some (.int .u64 d) ∧ W.cell? ⟨b', o' + i * 9 + 5, none⟩ = some (.int .i64 v) ∧ W.cell? ⟨b', o' + i * 9 + 6, none⟩ = some (.float .f64 x) ∧ W.cell? ⟨b', o' + i * 9 + 7, none⟩ = some (.int .u64 g) ∧ W.cell? ⟨b', o' + i * 9 + 8, none⟩ = some (.int .i64 r) ∧ Mod (fun _ => False) wr W) W → Calls Tryd.prog 20 #[.agg #[.int .i64 k, .int .i64 p, .int .i64 f, .int .u64 n, .int .u64 d, .int .i64 v, .float .f64 x, .int .u64 g, .int .i64 r], .agg #[.int .i64 k, .int .i64 p, .int .i64 f, .int .u64 n, .int .u64 d, .int .i64 v, .float .f64 x, .int .u64 g, .int .i64 r]] W fun q w' => q = .returned (.bool true) ∧ (fun W => W.cell? ⟨b, o + i * 9, none⟩ = some (.int .i64 k) ∧ W.cell? ⟨b, o + i * 9 + 1, none⟩ = some (.int .i64 p) ∧ W.cell? ⟨b, o + i * 9 + 2, none⟩ = some (.int .i64 f) ∧ W.cell? ⟨b, o + i * 9 + 3, none⟩ = some (.int .u64 n) ∧ W.cell? ⟨b, o + i * 9 + 4, none⟩ = some (.int .u64 d) ∧ W.cell? ⟨b, o + i * 9 + 5, none⟩ = some (.int .i64 v) ∧ W.cell? ⟨b, o + i * 9 + 6, none⟩ = some (.float .f64 x) ∧ W.cell? ⟨b, o + i * 9 + 7, none⟩ = some (.int .u64 g) ∧ W.cell? ⟨b, o + i * 9 + 8, none⟩ = some (.int .i64 r) ∧ W.cell? ⟨b', o' + i * 9, none⟩ = some (.int .i64 k) ∧ W.cell? ⟨b', o' + i * 9 + 1, none⟩ = some (.int .i64 p) ∧ W.cell? ⟨b', o' + i * 9 + 2, none⟩ = some (.int .i64 f) ∧ W.cell? ⟨b', o' + i * 9 + 3, none⟩ = some (.int .u64 n) ∧ W.cell? ⟨b', o' + i * 9 + 4, none⟩ = some (.int .u64 d) ∧ W.cell? ⟨b', o' + i * 9 + 5, none⟩ = some (.int .i64 v) ∧ W.cell? ⟨b', o' + i * 9 + 6, none⟩ = some (.float .f64 x) ∧ W.cell? ⟨b', o' + i * 9 + 7, none⟩ = some (.int .u64 g) ∧ W.cell? ⟨b', o' + i * 9 + 8, none⟩ = some (.int .i64 r) ∧ Mod (fun _ => False) wr W) w') := fun W hS => (HSA.out W).mono fun _ w' ⟨h, hm⟩ => ⟨h, HMK.out w' ((HMO.out W hS).trans hm)⟩
      have hS0 := HMK.out wr.drew (Mod.refl _ _).drew
      clear HEV HSA HMK a0 a1 a2 a3 a4 a5 a6 a7 a8 b0 b1 b2 b3 b4 b5 b6 b7 b8
      go_wp2_with fail
      go_region_held3 (fun W => W.cell? ⟨b, o + i * 9, none⟩ = some (.int .i64 k) ∧ W.cell? ⟨b, o + i * 9 + 1, none⟩ = some (.int .i64 p) ∧ W.cell? ⟨b, o + i * 9 + 2, none⟩ = some (.int .i64 f) ∧ W.cell? ⟨b, o + i * 9 + 3, none⟩ = some (.int .u64 n) ∧ W.cell? ⟨b, o + i * 9 + 4, none⟩ = some (.int .u64 d) ∧ W.cell? ⟨b, o + i * 9 + 5, none⟩ = some (.int .i64 v) ∧ W.cell? ⟨b, o + i * 9 + 6, none⟩ = some (.float .f64 x) ∧ W.cell? ⟨b, o + i * 9 + 7, none⟩ = some (.int .u64 g) ∧ W.cell? ⟨b, o + i * 9 + 8, none⟩ = some (.int .i64 r) ∧ W.cell? ⟨b', o' + i * 9, none⟩ = some (.int .i64 k) ∧ W.cell? ⟨b', o' + i * 9 + 1, none⟩ = some (.int .i64 p) ∧ W.cell? ⟨b', o' + i * 9 + 2, none⟩ = some (.int .i64 f) ∧ W.cell? ⟨b', o' + i * 9 + 3, none⟩ = some (.int .u64 n) ∧ W.cell? ⟨b', o' + i * 9 + 4, none⟩ = some (.int .u64 d) ∧ W.cell? ⟨b', o' + i * 9 + 5, none⟩ = some (.int .i64 v) ∧ W.cell? ⟨b', o' + i * 9 + 6, none⟩ = some (.float .f64 x) ∧ W.cell? ⟨b', o' + i * 9 + 7, none⟩ = some (.int .u64 g) ∧ W.cell? ⟨b', o' + i * 9 + 8, none⟩ = some (.int .i64 r) ∧ Mod (fun _ => False) wr W) (first | assumption) (first | (go_at_call 18; (with_reducible refine (C1.out _ (by assumption)).mono ?_); rintro q wA ⟨rfl, hS1⟩) | (go_at_call 20; (with_reducible refine (C2.out _ (by assumption)).mono ?_); rintro q wB ⟨rfl, hS2⟩))
      have HN : Hid (Mod (fun _ => False) w wB) := HW.out.trans (HMO.out wB hS2)
      clear hS0 hS1 hS2
      go_wp2
      go_roundw
      case rel => exact ⟨i + 1, by omega, by go_num, HN⟩
      case measure => simp [intOf]; omega
    · obtain rfl : i = l.length := by omega
      have ti : decide (l.length < l.length) = false := decide_eq_false (by omega)
      go_wp2
      go_ret
      exact ⟨rfl, HW.out⟩
theorem drop_cons {l : List Ev} {k : Nat} {e : Ev} (h : l[k]? = some e) : l.drop k = e :: l.drop (k + 1) := by
  have hk := (List.getElem?_eq_some_iff.1 h).1
  rw [List.drop_eq_getElem_cons hk]
  rw [List.getElem?_eq_getElem hk] at h
  rw [Option.some.inj h]
set_option maxRecDepth 100000 in
set_option maxHeartbeats 16000000 in
theorem rcut_any (v : Value) (l : List Ev) (w : World) (h : RevRow w v l) (hl : l.length ≤ 1000) :
    Calls Tryd.prog 23 #[v] w fun q w' => q = .returned (.bool (rcut l)) ∧ Mod (fun _ => False) w w' := by
  obtain ⟨A, c, rfl⟩ := RowOf.form h
  have HA := Lib.hid h
  obtain ⟨R, hR⟩ : ∃ R, R = rcut l := ⟨_, rfl⟩
  rw [← hR]
  have HR0 : Hid (R = rcut (l.drop 0)) := by show _ = _; rw [hR, List.drop_zero]
  have HLE := Lib.hid hl
  clear h hR
  go_enter Tryd.func23, Tryd.ntmps23
  go_wp2
  go_loopw [3] (fun z wr => ∃ k : Nat, k ≤ l.length ∧ z = .int .i64 k ∧ Hid (R = rcut (l.drop k)) ∧ Hid (∃ m, wr = w.drewN m)) (fun z _ => l.length - (intOf z).toNat)
  case atStart => exact ⟨0, Nat.zero_le _, rfl, HR0, ⟨0, rfl⟩⟩
  case round =>
    obtain ⟨k, hk, rfl, HRK, HW⟩ := hrel
    by_cases hlt : k < l.length
    · obtain ⟨e, he⟩ : ∃ e, l[k]? = some e := ⟨_, List.getElem?_eq_getElem hlt⟩
      have hrw : RevRow wr (.slice A l.length c) l := by
        obtain ⟨m, rfl⟩ := HW.out
        exact RowOf.mod HA.out ((Mod.refl (fun _ => False) w).drewN m) (fun _ _ x => x)
      obtain ⟨b, o, rfl, k0, k1, k2, k3, k4, k5, k6, k7, k8⟩ := hrw.nine he
      have hi : (k : Int) < l.length := by omega
      have hi0 : (0 : Int) ≤ (k : Int) := by omega
      have tk : decide (k < l.length) = true := decide_eq_true hlt
      have hkb : (k : Int) < 1000 := by omega
      have HRC : Hid (R = ((if e.kind = 4 then okA e.p e.var (l.drop (k + 1)) else true) && rcut (l.drop (k + 1)))) := by
        show _ = _
        rw [HRK.out, drop_cons he]
        rfl
      clear hrw he k2 k3 k4 k6 k7 k8 HRK
      obtain ⟨kd, p, f, n, d, vr, x, g, r⟩ := e
      dsimp only at k0 k1 k5 HRC
      by_cases h4 : kd = 4
      · have t4 : (kd != 4) = false := by rw [h4]; rfl
        have HRC2 : Hid (R = (okA p vr (l.drop (k + 1)) && rcut (l.drop (k + 1)))) := by
          show _ = _
          rw [HRC.out, if_pos h4]
        clear HRC h4
        go_wp2
        go_loopw [4] (fun z wq => ∃ j : Nat, k + 1 ≤ j ∧ j ≤ l.length ∧ z = .int .i64 j ∧ Hid (okA p vr (l.drop (k + 1)) = okA p vr (l.drop j)) ∧ Hid (∃ m, wq = w.drewN m)) (fun z _ => l.length - (intOf z).toNat)
        case atStart => exact ⟨k + 1, Nat.le_refl _, hlt, by go_num, rfl, HW.out⟩
        case round =>
          rename World => wq
          obtain ⟨j, hj1, hj, rfl, HOJ, HWQ⟩ := hrel
          by_cases hjl : j < l.length
          · obtain ⟨y, hy⟩ : ∃ y, l[j]? = some y := ⟨_, List.getElem?_eq_getElem hjl⟩
            have hrq : RevRow wq (.slice (some ⟨b, o, none⟩) l.length c) l := by
              obtain ⟨m, rfl⟩ := HWQ.out
              exact RowOf.mod HA.out ((Mod.refl (fun _ => False) w).drewN m) (fun _ _ x => x)
            obtain ⟨b2, o2, e2, j0, j1, j2, j3, j4, j5, j6, j7, j8⟩ := hrq.nine hy
            cases e2
            have q0 : wq.cell? ⟨b, o + k * 9, none⟩ = some (.int .i64 kd) := by
              obtain ⟨m, hm⟩ := HW.out
              obtain ⟨m', hm'⟩ := HWQ.out
              rw [hm] at k0
              rw [hm']
              exact k0
            have q1 : wq.cell? ⟨b, o + k * 9 + 1, none⟩ = some (.int .i64 p) := by
              obtain ⟨m, hm⟩ := HW.out
              obtain ⟨m', hm'⟩ := HWQ.out
              rw [hm] at k1
              rw [hm']
              exact k1
            have q5 : wq.cell? ⟨b, o + k * 9 + 5, none⟩ = some (.int .i64 vr) := by
              obtain ⟨m, hm⟩ := HW.out
              obtain ⟨m', hm'⟩ := HWQ.out
              rw [hm] at k5
              rw [hm']
              exact k5
            have hji : (j : Int) < l.length := by omega
            have hji0 : (0 : Int) ≤ (j : Int) := by omega
            have tj : decide (j < l.length) = true := decide_eq_true hjl
            have hjb : (j : Int) < 1000 := by omega
            have HOX : Hid (okA p vr (l.drop (k + 1)) = if y.p = p ∧ memB y = true then y.kind == 5 && y.var == vr else okA p vr (l.drop (j + 1))) := by
              show _ = _
              rw [HOJ.out, drop_cons hy]
              rfl
            have HWN : Hid (∀ q, ∃ m, wq.drewN q = w.drewN m) := fun q => by
              obtain ⟨m, hm⟩ := HWQ.out
              exact ⟨m + q, by rw [hm, World.drewN_drewN]⟩
            have HMN : Hid (∀ q, Mod (fun _ => False) w (wq.drewN q)) := fun q => by
              obtain ⟨m, hm⟩ := HWN.out q
              rw [hm]
              exact (Mod.refl _ _).drewN m
            clear hrq hy j2 j3 j4 j6 j7 j8 HOJ
            obtain ⟨kd', p', f', n', d', vr', x', g', r'⟩ := y
            dsimp only at j0 j1 j5 HOX
            have hmem : memB ⟨kd', p', f', n', d', vr', x', g', r'⟩ = (decide (3 ≤ kd') && decide (kd' ≤ 5)) := rfl
            rw [hmem] at HOX
            by_cases hp : ¬ p' = p
            · have tp : (p' != p) = true := by rw [bne_iff_ne]; exact hp
              have HN : Hid (okA p vr (l.drop (k + 1)) = okA p vr (l.drop (j + 1))) := by show _ = _; rw [HOX.out, if_neg (fun h => hp h.1)]
              clear HOX hmem hp
              go_wp2_with fail
              go_quiet (fail)
              go_wp2
              go_roundw
              case rel => exact ⟨j + 1, by omega, by omega, by go_num, HN, HWN.out _⟩
              case measure => simp [intOf]; omega
            have hp := Classical.not_not.1 hp
            have tp : (p' != p) = false := by rw [hp]; simp
            by_cases hlo : kd' < 3
            · have tl : decide (kd' < 3) = true := decide_eq_true hlo
              have HN : Hid (okA p vr (l.drop (k + 1)) = okA p vr (l.drop (j + 1))) := by show _ = _; rw [HOX.out, if_neg (fun h => by have h2 := (Bool.and_eq_true_iff.1 h.2).1; have h3 := of_decide_eq_true h2; omega)]
              clear HOX hmem hp hlo
              go_wp2_with fail
              go_quiet (fail)
              go_wp2
              go_roundw
              case rel => exact ⟨j + 1, by omega, by omega, by go_num, HN, HWN.out _⟩
              case measure => simp [intOf]; omega
            have tl : decide (kd' < 3) = false := decide_eq_false hlo
            by_cases hhi : 5 < kd'
            · have th : decide (5 < kd') = true := decide_eq_true hhi
              have HN : Hid (okA p vr (l.drop (k + 1)) = okA p vr (l.drop (j + 1))) := by show _ = _; rw [HOX.out, if_neg (fun h => by have h2 := (Bool.and_eq_true_iff.1 h.2).2; have h3 := of_decide_eq_true h2; omega)]
              clear HOX hmem hp hlo hhi
              go_wp2_with fail
              go_quiet (fail)
              go_wp2
              go_roundw
              case rel => exact ⟨j + 1, by omega, by omega, by go_num, HN, HWN.out _⟩
              case measure => simp [intOf]; omega
            have th : decide (5 < kd') = false := decide_eq_false hhi
            have HOY : Hid (okA p vr (l.drop (k + 1)) = (kd' == 5 && vr' == vr)) := by show _ = _; rw [HOX.out, if_pos ⟨hp, by rw [decide_eq_true (show 3 ≤ kd' by omega), decide_eq_true (show kd' ≤ 5 by omega)]; rfl⟩]
            clear HOX hmem hp hlo hhi
            by_cases h5 : kd' = 5
            · have t5 : (kd' != 5) = false := by rw [h5]; rfl
              by_cases hv : vr' = vr
              · have tv : (vr' != vr) = false := by rw [hv]; simp
                have HRN : Hid (R = rcut (l.drop (k + 1))) := by show _ = _; rw [HRC2.out, HOY.out, h5, hv]; simp
                clear HOY h5 hv
                go_wp2_with fail
                go_quiet (fail)
                go_wp2_with fail
                go_quiet (fail)
                go_wp2
                go_roundw
                case rel => exact ⟨k + 1, by omega, by go_num, HRN, HWN.out _⟩
                case measure => simp [intOf]; omega
              · have tv : (vr' != vr) = true := by rw [bne_iff_ne]; exact hv
                have HRF : Hid (R = false) := by show _ = _; rw [HRC2.out, HOY.out, beq_eq_false_iff_ne.2 hv]; simp
                clear HOY h5 hv
                go_wp2_with fail
                go_quiet (fail)
                go_wp2_with fail
                go_quiet (fail)
                go_wp2
                go_ret
                exact ⟨by rw [HRF.out]; rfl, (HMN.out _).drewN _⟩
            · have t5 : (kd' != 5) = true := by rw [bne_iff_ne]; exact h5
              have HRF : Hid (R = false) := by show _ = _; rw [HRC2.out, HOY.out, beq_eq_false_iff_ne.2 h5]; simp
              clear HOY h5
              go_wp2_with fail
              go_quiet (fail)
              go_wp2_with fail
              go_quiet (fail)
              go_wp2
              go_ret
              exact ⟨by rw [HRF.out]; rfl, (HMN.out _).drewN _⟩
          · obtain rfl : j = l.length := by omega
            have ti : decide (l.length < l.length) = false := decide_eq_false (by omega)
            have HRN : Hid (R = rcut (l.drop (k + 1))) := by
              show _ = _
              rw [HRC2.out, HOJ.out, List.drop_length]
              rfl
            clear HOJ hjl
            go_wp2
            go_roundw
            case rel => exact ⟨k + 1, by omega, by go_num, HRN, HWQ.out⟩
            case measure => simp [intOf]; omega
      · have t4 : (kd != 4) = true := by rw [bne_iff_ne]; exact h4
        have HRN : Hid (R = rcut (l.drop (k + 1))) := by
          show _ = _
          rw [HRC.out, if_neg h4, Bool.true_and]
        clear HRC h4
        go_wp2
        go_roundw
        case rel => exact ⟨k + 1, by omega, by go_num, HRN, HW.out⟩
        case measure => simp [intOf]; omega
    · obtain rfl : k = l.length := by omega
      have ti : decide (l.length < l.length) = false := decide_eq_false (by omega)
      have HRT : Hid (R = true) := by
        show _ = _
        rw [HRK.out, List.drop_length]
        rfl
      have HMF : Hid (Mod (fun _ => False) w wr) := by
        obtain ⟨m, hm⟩ := HW.out
        show Mod _ _ _
        rw [hm]
        exact (Mod.refl _ _).drewN m
      clear HRK hlt
      go_wp2
      go_ret
      exact ⟨by rw [HRT.out]; rfl, HMF.out⟩
end Go.Proofs.YtlklbdnlpljaiaaDoor
