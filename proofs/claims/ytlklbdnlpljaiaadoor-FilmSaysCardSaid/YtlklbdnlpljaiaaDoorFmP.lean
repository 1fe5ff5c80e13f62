/-
  FilmTexts.
-/
import Derived.Test.YtlklbdnlpljaiaaDoorFmO
import Derived.Deep.RegionHeld3
namespace Go.Proofs.YtlklbdnlpljaiaaDoor
open Go.RowKit Go.Shoal

def textL (e : Ev) : List UInt8 := (showE e).data.toList
theorem text_is (e : Ev) : showE e = ⟨(textL e).toArray⟩ := by
  unfold textL
  cases showE e
  simp
set_option maxRecDepth 100000 in
set_option maxHeartbeats 16000000 in
theorem texts_any (a b : Ev) (oka : a.Ok) (okb : b.Ok) (w : World) (hT : Tab w) :
    Calls Tryd.prog 4 #[a.agg, b.agg] w fun q w' => q = .returned (.bool true) ∧ Mod (fun _ => False) w w' := by
  have HA0 : Hid (∀ W, Tab W → Calls Tryd.prog 13 #[a.agg] W fun q w' => q = .returned (.string ⟨(textL a).toArray⟩) ∧ Mod (fun _ => False) W w') := fun W hW => by rw [← text_is]; exact shown_any a oka W hW
  have HB0 : Hid (∀ W, Tab W → Calls Tryd.prog 13 #[b.agg] W fun q w' => q = .returned (.string ⟨(textL b).toArray⟩) ∧ Mod (fun _ => False) W w') := fun W hW => by rw [← text_is]; exact shown_any b okb W hW
  have HS0 : Hid (∀ W, Calls Tryd.prog 14 #[a.agg, b.agg] W fun q w' => q = .returned (.bool (sameE a b)) ∧ Mod (fun _ => False) W w') := fun W => fsame_any a b oka.x okb.x W
  have HNA : Hid (textL a = [] ↔ wordsL a = []) := show_none a
  have HNB : Hid (textL b = [] ↔ wordsL b = []) := show_none b
  have HUN : Hid (wordsL a ≠ [] → wordsL b ≠ [] → (a.kind ≠ b.kind ∨ a.p ≠ b.p) → textL a ≠ textL b) := fun h1 h2 h3 => show_unlike a b h1 h2 h3
  have HAL : Hid (sameE a b = true → textL a = textL b) := fun h => by unfold textL; rw [show_alike a b oka.x okb.x h]
  have HT : Hid (∀ W, Mod (fun _ => False) w W → Tab W) := fun W hW => hT.mod hW (fun h => h)
  have HAW : Hid (∀ W, Mod (fun _ => False) w W → Calls Tryd.prog 7 #[] W fun q w' => q = .returned (.bool true) ∧ Mod (fun _ => False) W w') := fun W hW => awake_any W (HT.out W hW)
  generalize hta : textL a = ta at *
  generalize htb : textL b = tb at *
  generalize hsa : sameE a b = sm at *
  obtain ⟨qa, hqa⟩ : ∃ q : Prop, q = (wordsL a = []) := ⟨_, rfl⟩
  obtain ⟨qb, hqb⟩ : ∃ q : Prop, q = (wordsL b = []) := ⟨_, rfl⟩
  rw [← hqa] at HNA
  rw [← hqb] at HNB
  unfold Ne at HUN
  rw [← hqa, ← hqb] at HUN
  clear hta htb hsa hqa hqb oka okb hT
  obtain ⟨k, p, f, n, d, v, x, g, r⟩ := a
  obtain ⟨k', p', f', n', d', v', x', g', r'⟩ := b
  dsimp only at HUN
  have HA : Hid (∀ W, Tab W → Calls Tryd.prog 13 #[.agg #[.int .i64 k, .int .i64 p, .int .i64 f, .int .u64 n, .int .u64 d, .int .i64 v, .float .f64 x, .int .u64 g, .int .i64 r]] W fun q w' => q = .returned (.string ⟨ta.toArray⟩) ∧ Mod (fun _ => False) W w') := HA0.out
  have HB : Hid (∀ W, Tab W → Calls Tryd.prog 13 #[.agg #[.int .i64 k', .int .i64 p', .int .i64 f', .int .u64 n', .int .u64 d', .int .i64 v', .float .f64 x', .int .u64 g', .int .i64 r']] W fun q w' => q = .returned (.string ⟨tb.toArray⟩) ∧ Mod (fun _ => False) W w') := HB0.out
  have HS : Hid (∀ W, Calls Tryd.prog 14 #[.agg #[.int .i64 k, .int .i64 p, .int .i64 f, .int .u64 n, .int .u64 d, .int .i64 v, .float .f64 x, .int .u64 g, .int .i64 r], .agg #[.int .i64 k', .int .i64 p', .int .i64 f', .int .u64 n', .int .u64 d', .int .i64 v', .float .f64 x', .int .u64 g', .int .i64 r']] W fun q w' => q = .returned (.bool sm) ∧ Mod (fun _ => False) W w') := HS0.out
  show Calls Tryd.prog 4 #[.agg #[.int .i64 k, .int .i64 p, .int .i64 f, .int .u64 n, .int .u64 d, .int .i64 v, .float .f64 x, .int .u64 g, .int .i64 r], .agg #[.int .i64 k', .int .i64 p', .int .i64 f', .int .u64 n', .int .u64 d', .int .i64 v', .float .f64 x', .int .u64 g', .int .i64 r']] w _
  clear HA0 HB0 HS0
  have HX2 : Hid (((w.alloc (.cells #[.int .i64 k, .int .i64 p, .int .i64 f, .int .u64 n, .int .u64 d, .int .i64 v, .float .f64 x, .int .u64 g, .int .i64 r] 31)).alloc (.cells #[.int .i64 k', .int .i64 p', .int .i64 f', .int .u64 n', .int .u64 d', .int .i64 v', .float .f64 x', .int .u64 g', .int .i64 r'] 31)).heap[w.heap.size + 1]? = some (.cells #[.int .i64 k', .int .i64 p', .int .i64 f', .int .u64 n', .int .u64 d', .int .i64 v', .float .f64 x', .int .u64 g', .int .i64 r'] 31 (0, 0))) := by
    have h := blk_new (w.alloc (.cells #[.int .i64 k, .int .i64 p, .int .i64 f, .int .u64 n, .int .u64 d, .int .i64 v, .float .f64 x, .int .u64 g, .int .i64 r] 31)) (.cells #[.int .i64 k', .int .i64 p', .int .i64 f', .int .u64 n', .int .u64 d', .int .i64 v', .float .f64 x', .int .u64 g', .int .i64 r'] 31)
    rw [show (w.alloc (.cells #[.int .i64 k, .int .i64 p, .int .i64 f, .int .u64 n, .int .u64 d, .int .i64 v, .float .f64 x, .int .u64 g, .int .i64 r] 31)).heap.size = w.heap.size + 1 by simp] at h
    exact h
  have HX1 : Hid (((w.alloc (.cells #[.int .i64 k, .int .i64 p, .int .i64 f, .int .u64 n, .int .u64 d, .int .i64 v, .float .f64 x, .int .u64 g, .int .i64 r] 31)).alloc (.cells #[.int .i64 k', .int .i64 p', .int .i64 f', .int .u64 n', .int .u64 d', .int .i64 v', .float .f64 x', .int .u64 g', .int .i64 r'] 31)).heap[w.heap.size]? = some (.cells #[.int .i64 k, .int .i64 p, .int .i64 f, .int .u64 n, .int .u64 d, .int .i64 v, .float .f64 x, .int .u64 g, .int .i64 r] 31 (0, 0))) := blk_alloc (blk_new w _) _
  have HM : Hid (Mod (fun _ => False) w ((w.alloc (.cells #[.int .i64 k, .int .i64 p, .int .i64 f, .int .u64 n, .int .u64 d, .int .i64 v, .float .f64 x, .int .u64 g, .int .i64 r] 31)).alloc (.cells #[.int .i64 k', .int .i64 p', .int .i64 f', .int .u64 n', .int .u64 d', .int .i64 v', .float .f64 x', .int .u64 g', .int .i64 r'] 31))) := ((Mod.refl _ _).alloc _).alloc _
  have HMK : Hid (∀ W, Mod (fun _ => False) ((w.alloc (.cells #[.int .i64 k, .int .i64 p, .int .i64 f, .int .u64 n, .int .u64 d, .int .i64 v, .float .f64 x, .int .u64 g, .int .i64 r] 31)).alloc (.cells #[.int .i64 k', .int .i64 p', .int .i64 f', .int .u64 n', .int .u64 d', .int .i64 v', .float .f64 x', .int .u64 g', .int .i64 r'] 31)) W → (fun W => W.cell? ⟨w.heap.size, 0, none⟩ = some (.int .i64 k) ∧ W.cell? ⟨w.heap.size, 1, none⟩ = some (.int .i64 p) ∧ W.cell? ⟨w.heap.size, 2, none⟩ = some (.int .i64 f) ∧ W.cell? ⟨w.heap.size, 3, none⟩ = some (.int .u64 n) ∧ W.cell? ⟨w.heap.size, 4, none⟩ = some (.int .u64 d) ∧ W.cell? ⟨w.heap.size, 5, none⟩ = some (.int .i64 v) ∧ W.cell? ⟨w.heap.size, 6, none⟩ = some (.float .f64 x) ∧ W.cell? ⟨w.heap.size, 7, none⟩ = some (.int .u64 g) ∧ W.cell? ⟨w.heap.size, 8, none⟩ = some (.int .i64 r) ∧ W.cell? ⟨w.heap.size + 1, 0, none⟩ = some (.int .i64 k') ∧ W.cell? ⟨w.heap.size + 1, 1, none⟩ = some (.int .i64 p') ∧ W.cell? ⟨w.heap.size + 1, 2, none⟩ = some (.int .i64 f') ∧ W.cell? ⟨w.heap.size + 1, 3, none⟩ = some (.int .u64 n') ∧ W.cell? ⟨w.heap.size + 1, 4, none⟩ = some (.int .u64 d') ∧ W.cell? ⟨w.heap.size + 1, 5, none⟩ = some (.int .i64 v') ∧ W.cell? ⟨w.heap.size + 1, 6, none⟩ = some (.float .f64 x') ∧ W.cell? ⟨w.heap.size + 1, 7, none⟩ = some (.int .u64 g') ∧ W.cell? ⟨w.heap.size + 1, 8, none⟩ = some (.int .i64 r') ∧ Mod (fun _ => False) ((w.alloc (.cells #[.int .i64 k, .int .i64 p, .int .i64 f, .int .u64 n, .int .u64 d, .int .i64 v, .float .f64 x, .int .u64 g, .int .i64 r] 31)).alloc (.cells #[.int .i64 k', .int .i64 p', .int .i64 f', .int .u64 n', .int .u64 d', .int .i64 v', .float .f64 x', .int .u64 g', .int .i64 r'] 31)) W) W) := fun W hW => by
    obtain ⟨a0, a1, a2, a3, a4, a5, a6, a7, a8⟩ := nine_cells (hW.blk HX1.out (fun h => h))
    obtain ⟨b0, b1, b2, b3, b4, b5, b6, b7, b8⟩ := nine_cells (hW.blk HX2.out (fun h => h))
    exact ⟨a0, a1, a2, a3, a4, a5, a6, a7, a8, b0, b1, b2, b3, b4, b5, b6, b7, b8, hW⟩
  have HAW1 := Lib.hid (HAW.out _ HM.out)
  have HMO : Hid (∀ W, (fun W => W.cell? ⟨w.heap.size, 0, none⟩ = some (.int .i64 k) ∧ W.cell? ⟨w.heap.size, 1, none⟩ = some (.int .i64 p) ∧ W.cell? ⟨w.heap.size, 2, none⟩ = some (.int .i64 f) ∧ W.cell? ⟨w.heap.size, 3, none⟩ = some (.int .u64 n) ∧ W.cell? ⟨w.heap.size, 4, none⟩ = some (.int .u64 d) ∧ W.cell? ⟨w.heap.size, 5, none⟩ = some (.int .i64 v) ∧ W.cell? ⟨w.heap.size, 6, none⟩ = some (.float .f64 x) ∧ W.cell? ⟨w.heap.size, 7, none⟩ = some (.int .u64 g) ∧ W.cell? ⟨w.heap.size, 8, none⟩ = some (.int .i64 r) ∧ W.cell? ⟨w.heap.size + 1, 0, none⟩ = some (.int .i64 k') ∧ W.cell? ⟨w.heap.size + 1, 1, none⟩ = some (.int .i64 p') ∧ W.cell? ⟨w.heap.size + 1, 2, none⟩ = some (.int .i64 f') ∧ W.cell? ⟨w.heap.size + 1, 3, none⟩ = some (.int .u64 n') ∧ W.cell? ⟨w.heap.size + 1, 4, none⟩ = some (.int .u64 d') ∧ W.cell? ⟨w.heap.size + 1, 5, none⟩ = some (.int .i64 v') ∧ W.cell? ⟨w.heap.size + 1, 6, none⟩ = some (.float .f64 x') ∧ W.cell? ⟨w.heap.size + 1, 7, none⟩ = some (.int .u64 g') ∧ W.cell? ⟨w.heap.size + 1, 8, none⟩ = some (.int .i64 r') ∧ Mod (fun _ => False) ((w.alloc (.cells #[.int .i64 k, .int .i64 p, .int .i64 f, .int .u64 n, .int .u64 d, .int .i64 v, .float .f64 x, .int .u64 g, .int .i64 r] 31)).alloc (.cells #[.int .i64 k', .int .i64 p', .int .i64 f', .int .u64 n', .int .u64 d', .int .i64 v', .float .f64 x', .int .u64 g', .int .i64 r'] 31)) W) W → Mod (fun _ => False) ((w.alloc (.cells #[.int .i64 k, .int .i64 p, .int .i64 f, .int .u64 n, .int .u64 d, .int .i64 v, .float .f64 x, .int .u64 g, .int .i64 r] 31)).alloc (.cells #[.int .i64 k', .int .i64 p', .int .i64 f', .int .u64 n', .int .u64 d', .int .i64 v', .float .f64 x', .int .u64 g', .int .i64 r'] 31)) W) := fun W hS => hS.2.2.2.2.2.2.2.2.2.2.2.2.2.2.2.2.2.2
  have C1 : Hid (∀ W, (fun W => W.cell? ⟨w.heap.size, 0, none⟩ = some (.int .i64 k) ∧ W.cell? ⟨w.heap.size, 1, none⟩ = some (.int .i64 p) ∧ W.cell? ⟨w.heap.size, 2, none⟩ = some (.int .i64 f) ∧ W.cell? ⟨w.heap.size, 3, none⟩ = some (.int .u64 n) ∧ W.cell? ⟨w.heap.size, 4, none⟩ = some (.int .u64 d) ∧ W.cell? ⟨w.heap.size, 5, none⟩ = some (.int .i64 v) ∧ W.cell? ⟨w.heap.size, 6, none⟩ = some (.float .f64 x) ∧ W.cell? ⟨w.heap.size, 7, none⟩ = some (.int .u64 g) ∧ W.cell? ⟨w.heap.size, 8, none⟩ = some (.int .i64 r) ∧ W.cell? ⟨w.heap.size + 1, 0, none⟩ = some (.int .i64 k') ∧ W.cell? ⟨w.heap.size + 1, 1, none⟩ = some (.int .i64 p') ∧ W.cell? ⟨w.heap.size + 1, 2, none⟩ = some (.int .i64 f') ∧ W.cell? ⟨w.heap.size + 1, 3, none⟩ = some (.int .u64 n') ∧ W.cell? ⟨w.heap.size + 1, 4, none⟩ = some (.int .u64 d') ∧ W.cell? ⟨w.heap.size + 1, 5, none⟩ = some (.int .i64 v') ∧ W.cell? ⟨w.heap.size + 1, 6, none⟩ = some (.float .f64 x') ∧ W.cell? ⟨w.heap.size + 1, 7, none⟩ = some (.int .u64 g') ∧ W.cell? ⟨w.heap.size + 1, 8, none⟩ = some (.int .i64 r') ∧ Mod (fun _ => False) ((w.alloc (.cells #[.int .i64 k, .int .i64 p, .int .i64 f, .int .u64 n, .int .u64 d, .int .i64 v, .float .f64 x, .int .u64 g, .int .i64 r] 31)).alloc (.cells #[.int .i64 k', .int .i64 p', .int .i64 f', .int .u64 n', .int .u64 d', .int .i64 v', .float .f64 x', .int .u64 g', .int .i64 r'] 31)) W) W → Calls Tryd.prog 13 #[.agg #[.int .i64 k, .int .i64 p, .int .i64 f, .int .u64 n, .int .u64 d, .int .i64 v, .float .f64 x, .int .u64 g, .int .i64 r]] W fun q w' => q = .returned (.string ⟨ta.toArray⟩) ∧ (fun W => W.cell? ⟨w.heap.size, 0, none⟩ = some (.int .i64 k) ∧ W.cell? ⟨w.heap.size, 1, none⟩ = some (.int .i64 p) ∧ W.cell? ⟨w.heap.size, 2, none⟩ = some (.int .i64 f) ∧ W.cell? ⟨w.heap.size, 3, none⟩ = some (.int .u64 n) ∧ W.cell? ⟨w.heap.size, 4, none⟩ = some (.int .u64 d) ∧ W.cell? ⟨w.heap.size, 5, none⟩ = some (.int .i64 v) ∧ W.cell? ⟨w.heap.size, 6, none⟩ = some (.float .f64 x) ∧ W.cell? ⟨w.heap.size, 7, none⟩ = some (.int .u64 g) ∧ W.cell? ⟨w.heap.size, 8, none⟩ = some (.int .i64 r) ∧ W.cell? ⟨w.heap.size + 1, 0, none⟩ = some (.int .i64 k') ∧ W.cell? ⟨w.heap.size + 1, 1, none⟩ = some (.int .i64 p') ∧ W.cell? ⟨w.heap.size + 1, 2, none⟩ = some (.int .i64 f') ∧ W.cell? ⟨w.heap.size + 1, 3, none⟩ = some (.int .u64 n') ∧ W.cell? ⟨w.heap.size + 1, 4, none⟩ = some (.int .u64 d') ∧ W.cell? ⟨w.heap.size + 1, 5, none⟩ = some (.int .i64 v') ∧ W.cell? ⟨w.heap.size + 1, 6, none⟩ = some (.float .f64 x') ∧ W.cell? ⟨w.heap.size + 1, 7, none⟩ = some (.int .u64 g') ∧ W.cell? ⟨w.heap.size + 1, 8, none⟩ = some (.int .i64 r') ∧ Mod (fun _ => False) ((w.alloc (.cells #[.int .i64 k, .int .i64 p, .int .i64 f, .int .u64 n, .int .u64 d, .int .i64 v, .float .f64 x, .int .u64 g, .int .i64 r] 31)).alloc (.cells #[.int .i64 k', .int .i64 p', .int .i64 f', .int .u64 n', .int .u64 d', .int .i64 v', .float .f64 x', .int .u64 g', .int .i64 r'] 31)) W) w') := fun W hS =>
    (HA.out W (HT.out W (HM.out.trans (HMO.out W hS)))).mono fun _ w' ⟨he, hm⟩ => ⟨he, HMK.out w' ((HMO.out W hS).trans hm)⟩
  have C2 : Hid (∀ W, (fun W => W.cell? ⟨w.heap.size, 0, none⟩ = some (.int .i64 k) ∧ W.cell? ⟨w.heap.size, 1, none⟩ = some (.int .i64 p) ∧ W.cell? ⟨w.heap.size, 2, none⟩ = some (.int .i64 f) ∧ W.cell? ⟨w.heap.size, 3, none⟩ = some (.int .u64 n) ∧ W.cell? ⟨w.heap.size, 4, none⟩ = some (.int .u64 d) ∧ W.cell? ⟨w.heap.size, 5, none⟩ = some (.int .i64 v) ∧ W.cell? ⟨w.heap.size, 6, none⟩ = some (.float .f64 x) ∧ W.cell? ⟨w.heap.size, 7, none⟩ = some (.int .u64 g) ∧ W.cell? ⟨w.heap.size, 8, none⟩ = some (.int .i64 r) ∧ W.cell? ⟨w.heap.size + 1, 0, none⟩ = some (.int .i64 k') ∧ W.cell? ⟨w.heap.size + 1, 1, none⟩ = some (.int .i64 p') ∧ W.cell? ⟨w.heap.size + 1, 2, none⟩ = some (.int .i64 f') ∧ W.cell? ⟨w.heap.size + 1, 3, none⟩ = some (.int .u64 n') ∧ W.cell? ⟨w.heap.size + 1, 4, none⟩ = some (.int .u64 d') ∧ W.cell? ⟨w.heap.size + 1, 5, none⟩ = some (.int .i64 v') ∧ W.cell? ⟨w.heap.size + 1, 6, none⟩ = some (.float .f64 x') ∧ W.cell? ⟨w.heap.size + 1, 7, none⟩ = some (.int .u64 g') ∧ W.cell? ⟨w.heap.size + 1, 8, none⟩ = some (.int .i64 r') ∧ Mod (fun _ => False) ((w.alloc (.cells #[.int .i64 k, .int .i64 p, .int .i64 f, .int .u64 n, .int .u64 d, .int .i64 v, .float .f64 x, .int .u64 g, .int .i64 r] 31)).alloc (.cells #[.int .i64 k', .int .i64 p', .int .i64 f', .int .u64 n', .int .u64 d', .int .i64 v', .float .f64 x', .int .u64 g', .int .i64 r'] 31)) W) W → Calls Tryd.prog 13 #[.agg #[.int .i64 k', .int .i64 p', .int .i64 f', .int .u64 n', .int .u64 d', .int .i64 v', .float .f64 x', .int .u64 g', .int .i64 r']] W fun q w' => q = .returned (.string ⟨tb.toArray⟩) ∧ (fun W => W.cell? ⟨w.heap.size, 0, none⟩ = some (.int .i64 k) ∧ W.cell? ⟨w.heap.size, 1, none⟩ = some (.int .i64 p) ∧ W.cell? ⟨w.heap.size, 2, none⟩ = some (.int .i64 f) ∧ W.cell? ⟨w.heap.size, 3, none⟩ = some (.int .u64 n) ∧ W.cell? ⟨w.heap.size, 4, none⟩ = some (.int .u64 d) ∧ W.cell? ⟨w.heap.size, 5, none⟩ = some (.int .i64 v) ∧ W.cell? ⟨w.heap.size, 6, none⟩ = some (.float .f64 x) ∧ W.cell? ⟨w.heap.size, 7, none⟩ = some (.int .u64 g) ∧ W.cell? ⟨w.heap.size, 8, none⟩ = some (.int .i64 r) ∧ W.cell? ⟨w.heap.size + 1, 0, none⟩ = some (.int .i64 k') ∧ W.cell? ⟨w.heap.size + 1, 1, none⟩ = some (.int .i64 p') ∧ W.cell? ⟨w.heap.size + 1, 2, none⟩ = some (.int .i64 f') ∧ W.cell? ⟨w.heap.size + 1, 3, none⟩ = some (.int .u64 n') ∧ W.cell? ⟨w.heap.size + 1, 4, none⟩ = some (.int .u64 d') ∧ W.cell? ⟨w.heap.size + 1, 5, none⟩ = some (.int .i64 v') ∧ W.cell? ⟨w.heap.size + 1, 6, none⟩ = some (.float .f64 x') ∧ W.cell? ⟨w.heap.size + 1, 7, none⟩ = some (.int .u64 g') ∧ W.cell? ⟨w.heap.size + 1, 8, none⟩ = some (.int .i64 r') ∧ Mod (fun _ => False) ((w.alloc (.cells #[.int .i64 k, .int .i64 p, .int .i64 f, .int .u64 n, .int .u64 d, .int .i64 v, .float .f64 x, .int .u64 g, .int .i64 r] 31)).alloc (.cells #[.int .i64 k', .int .i64 p', .int .i64 f', .int .u64 n', .int .u64 d', .int .i64 v', .float .f64 x', .int .u64 g', .int .i64 r'] 31)) W) w') := fun W hS =>
    (HB.out W (HT.out W (HM.out.trans (HMO.out W hS)))).mono fun _ w' ⟨he, hm⟩ => ⟨he, HMK.out w' ((HMO.out W hS).trans hm)⟩
  have HMW : Hid (∀ W, Mod (fun _ => False) ((w.alloc (.cells #[.int .i64 k, .int .i64 p, .int .i64 f, .int .u64 n, .int .u64 d, .int .i64 v, .float .f64 x, .int .u64 g, .int .i64 r] 31)).alloc (.cells #[.int .i64 k', .int .i64 p', .int .i64 f', .int .u64 n', .int .u64 d', .int .i64 v', .float .f64 x', .int .u64 g', .int .i64 r'] 31)) W → Mod (fun _ => False) w W) := fun W hW => HM.out.trans hW
  clear HX1 HX2 HM HAW HT HA HB
  go_enter Tryd.func4, Tryd.ntmps4
  go_wp2_with fail
  refine HAW1.out.mono ?_
  rintro q w1 ⟨rfl, hm⟩
  have hS0 := HMK.out w1.drew hm.drew
  clear hm HAW1
  go_wp2_with fail
  by_cases ha : ta = []
  · have t1 : (ta == []) = true := beq_iff_eq.2 ha
    clear ha HNA HNB HUN HAL HS HMK
    go_region_held3 (fun W => W.cell? ⟨w.heap.size, 0, none⟩ = some (.int .i64 k) ∧ W.cell? ⟨w.heap.size, 1, none⟩ = some (.int .i64 p) ∧ W.cell? ⟨w.heap.size, 2, none⟩ = some (.int .i64 f) ∧ W.cell? ⟨w.heap.size, 3, none⟩ = some (.int .u64 n) ∧ W.cell? ⟨w.heap.size, 4, none⟩ = some (.int .u64 d) ∧ W.cell? ⟨w.heap.size, 5, none⟩ = some (.int .i64 v) ∧ W.cell? ⟨w.heap.size, 6, none⟩ = some (.float .f64 x) ∧ W.cell? ⟨w.heap.size, 7, none⟩ = some (.int .u64 g) ∧ W.cell? ⟨w.heap.size, 8, none⟩ = some (.int .i64 r) ∧ W.cell? ⟨w.heap.size + 1, 0, none⟩ = some (.int .i64 k') ∧ W.cell? ⟨w.heap.size + 1, 1, none⟩ = some (.int .i64 p') ∧ W.cell? ⟨w.heap.size + 1, 2, none⟩ = some (.int .i64 f') ∧ W.cell? ⟨w.heap.size + 1, 3, none⟩ = some (.int .u64 n') ∧ W.cell? ⟨w.heap.size + 1, 4, none⟩ = some (.int .u64 d') ∧ W.cell? ⟨w.heap.size + 1, 5, none⟩ = some (.int .i64 v') ∧ W.cell? ⟨w.heap.size + 1, 6, none⟩ = some (.float .f64 x') ∧ W.cell? ⟨w.heap.size + 1, 7, none⟩ = some (.int .u64 g') ∧ W.cell? ⟨w.heap.size + 1, 8, none⟩ = some (.int .i64 r') ∧ Mod (fun _ => False) ((w.alloc (.cells #[.int .i64 k, .int .i64 p, .int .i64 f, .int .u64 n, .int .u64 d, .int .i64 v, .float .f64 x, .int .u64 g, .int .i64 r] 31)).alloc (.cells #[.int .i64 k', .int .i64 p', .int .i64 f', .int .u64 n', .int .u64 d', .int .i64 v', .float .f64 x', .int .u64 g', .int .i64 r'] 31)) W) (first | assumption) (first | (go_at_call 13; (with_reducible refine (C1.out _ (by assumption)).mono ?_); rintro q wA ⟨rfl, hS⟩) | (go_at_call 13; (with_reducible refine (C2.out _ (by assumption)).mono ?_); rintro q wB ⟨rfl, hS⟩))
    all_goals go_wp2
    all_goals go_ret
    all_goals exact ⟨rfl, HMW.out _ (HMO.out _ (by assumption))⟩
  have hqa : ¬ qa := fun h => ha (HNA.out.2 h)
  have t1 : (ta == []) = false := beq_eq_false_iff_ne.2 ha
  by_cases hb : tb = []
  · have t2 : (tb == []) = true := beq_iff_eq.2 hb
    clear ha hb hqa HNA HNB HUN HAL HS HMK
    go_region_held3 (fun W => W.cell? ⟨w.heap.size, 0, none⟩ = some (.int .i64 k) ∧ W.cell? ⟨w.heap.size, 1, none⟩ = some (.int .i64 p) ∧ W.cell? ⟨w.heap.size, 2, none⟩ = some (.int .i64 f) ∧ W.cell? ⟨w.heap.size, 3, none⟩ = some (.int .u64 n) ∧ W.cell? ⟨w.heap.size, 4, none⟩ = some (.int .u64 d) ∧ W.cell? ⟨w.heap.size, 5, none⟩ = some (.int .i64 v) ∧ W.cell? ⟨w.heap.size, 6, none⟩ = some (.float .f64 x) ∧ W.cell? ⟨w.heap.size, 7, none⟩ = some (.int .u64 g) ∧ W.cell? ⟨w.heap.size, 8, none⟩ = some (.int .i64 r) ∧ W.cell? ⟨w.heap.size + 1, 0, none⟩ = some (.int .i64 k') ∧ W.cell? ⟨w.heap.size + 1, 1, none⟩ = some (.int .i64 p') ∧ W.cell? ⟨w.heap.size + 1, 2, none⟩ = some (.int .i64 f') ∧ W.cell? ⟨w.heap.size + 1, 3, none⟩ = some (.int .u64 n') ∧ W.cell? ⟨w.heap.size + 1, 4, none⟩ = some (.int .u64 d') ∧ W.cell? ⟨w.heap.size + 1, 5, none⟩ = some (.int .i64 v') ∧ W.cell? ⟨w.heap.size + 1, 6, none⟩ = some (.float .f64 x') ∧ W.cell? ⟨w.heap.size + 1, 7, none⟩ = some (.int .u64 g') ∧ W.cell? ⟨w.heap.size + 1, 8, none⟩ = some (.int .i64 r') ∧ Mod (fun _ => False) ((w.alloc (.cells #[.int .i64 k, .int .i64 p, .int .i64 f, .int .u64 n, .int .u64 d, .int .i64 v, .float .f64 x, .int .u64 g, .int .i64 r] 31)).alloc (.cells #[.int .i64 k', .int .i64 p', .int .i64 f', .int .u64 n', .int .u64 d', .int .i64 v', .float .f64 x', .int .u64 g', .int .i64 r'] 31)) W) (first | assumption) (first | (go_at_call 13; (with_reducible refine (C1.out _ (by assumption)).mono ?_); rintro q wA ⟨rfl, hS⟩) | (go_at_call 13; (with_reducible refine (C2.out _ (by assumption)).mono ?_); rintro q wB ⟨rfl, hS⟩))
    all_goals go_wp2
    all_goals go_ret
    all_goals exact ⟨rfl, HMW.out _ (HMO.out _ (by assumption))⟩
  have hqb : ¬ qb := fun h => hb (HNB.out.2 h)
  have t2 : (tb == []) = false := beq_eq_false_iff_ne.2 hb
  by_cases hk : k = k'
  · by_cases hp : p = p'
    · have t3 : (k != k') = false := by rw [hk]; simp
      have t4 : (p != p') = false := by rw [hp]; simp
      cases sm with
      | true =>
        have t5 : (ta == tb) = true := beq_iff_eq.2 (HAL.out rfl)
        clear ha hb hqa hqb hk hp HNA HNB HUN HAL HMK
        go_region_held3 (fun W => W.cell? ⟨w.heap.size, 0, none⟩ = some (.int .i64 k) ∧ W.cell? ⟨w.heap.size, 1, none⟩ = some (.int .i64 p) ∧ W.cell? ⟨w.heap.size, 2, none⟩ = some (.int .i64 f) ∧ W.cell? ⟨w.heap.size, 3, none⟩ = some (.int .u64 n) ∧ W.cell? ⟨w.heap.size, 4, none⟩ = some (.int .u64 d) ∧ W.cell? ⟨w.heap.size, 5, none⟩ = some (.int .i64 v) ∧ W.cell? ⟨w.heap.size, 6, none⟩ = some (.float .f64 x) ∧ W.cell? ⟨w.heap.size, 7, none⟩ = some (.int .u64 g) ∧ W.cell? ⟨w.heap.size, 8, none⟩ = some (.int .i64 r) ∧ W.cell? ⟨w.heap.size + 1, 0, none⟩ = some (.int .i64 k') ∧ W.cell? ⟨w.heap.size + 1, 1, none⟩ = some (.int .i64 p') ∧ W.cell? ⟨w.heap.size + 1, 2, none⟩ = some (.int .i64 f') ∧ W.cell? ⟨w.heap.size + 1, 3, none⟩ = some (.int .u64 n') ∧ W.cell? ⟨w.heap.size + 1, 4, none⟩ = some (.int .u64 d') ∧ W.cell? ⟨w.heap.size + 1, 5, none⟩ = some (.int .i64 v') ∧ W.cell? ⟨w.heap.size + 1, 6, none⟩ = some (.float .f64 x') ∧ W.cell? ⟨w.heap.size + 1, 7, none⟩ = some (.int .u64 g') ∧ W.cell? ⟨w.heap.size + 1, 8, none⟩ = some (.int .i64 r') ∧ Mod (fun _ => False) ((w.alloc (.cells #[.int .i64 k, .int .i64 p, .int .i64 f, .int .u64 n, .int .u64 d, .int .i64 v, .float .f64 x, .int .u64 g, .int .i64 r] 31)).alloc (.cells #[.int .i64 k', .int .i64 p', .int .i64 f', .int .u64 n', .int .u64 d', .int .i64 v', .float .f64 x', .int .u64 g', .int .i64 r'] 31)) W) (first | assumption) (first | (go_at_call 13; (with_reducible refine (C1.out _ (by assumption)).mono ?_); rintro q wA ⟨rfl, hS⟩) | (go_at_call 13; (with_reducible refine (C2.out _ (by assumption)).mono ?_); rintro q wB ⟨rfl, hS⟩))
        all_goals go_wp2_with fail
        all_goals refine (HS.out _).mono ?_
        all_goals rintro q w3 ⟨rfl, hm⟩
        all_goals have HM3 := Lib.hid ((HMW.out _ (HMO.out _ (by assumption))).trans hm)
        all_goals clear hm
        all_goals go_wp2
        all_goals go_ret
        all_goals exact ⟨rfl, HM3.out⟩
      | false =>
        clear ha hb hqa hqb hk hp HNA HNB HUN HAL HMK
        go_region_held3 (fun W => W.cell? ⟨w.heap.size, 0, none⟩ = some (.int .i64 k) ∧ W.cell? ⟨w.heap.size, 1, none⟩ = some (.int .i64 p) ∧ W.cell? ⟨w.heap.size, 2, none⟩ = some (.int .i64 f) ∧ W.cell? ⟨w.heap.size, 3, none⟩ = some (.int .u64 n) ∧ W.cell? ⟨w.heap.size, 4, none⟩ = some (.int .u64 d) ∧ W.cell? ⟨w.heap.size, 5, none⟩ = some (.int .i64 v) ∧ W.cell? ⟨w.heap.size, 6, none⟩ = some (.float .f64 x) ∧ W.cell? ⟨w.heap.size, 7, none⟩ = some (.int .u64 g) ∧ W.cell? ⟨w.heap.size, 8, none⟩ = some (.int .i64 r) ∧ W.cell? ⟨w.heap.size + 1, 0, none⟩ = some (.int .i64 k') ∧ W.cell? ⟨w.heap.size + 1, 1, none⟩ = some (.int .i64 p') ∧ W.cell? ⟨w.heap.size + 1, 2, none⟩ = some (.int .i64 f') ∧ W.cell? ⟨w.heap.size + 1, 3, none⟩ = some (.int .u64 n') ∧ W.cell? ⟨w.heap.size + 1, 4, none⟩ = some (.int .u64 d') ∧ W.cell? ⟨w.heap.size + 1, 5, none⟩ = some (.int .i64 v') ∧ W.cell? ⟨w.heap.size + 1, 6, none⟩ = some (.float .f64 x') ∧ W.cell? ⟨w.heap.size + 1, 7, none⟩ = some (.int .u64 g') ∧ W.cell? ⟨w.heap.size + 1, 8, none⟩ = some (.int .i64 r') ∧ Mod (fun _ => False) ((w.alloc (.cells #[.int .i64 k, .int .i64 p, .int .i64 f, .int .u64 n, .int .u64 d, .int .i64 v, .float .f64 x, .int .u64 g, .int .i64 r] 31)).alloc (.cells #[.int .i64 k', .int .i64 p', .int .i64 f', .int .u64 n', .int .u64 d', .int .i64 v', .float .f64 x', .int .u64 g', .int .i64 r'] 31)) W) (first | assumption) (first | (go_at_call 13; (with_reducible refine (C1.out _ (by assumption)).mono ?_); rintro q wA ⟨rfl, hS⟩) | (go_at_call 13; (with_reducible refine (C2.out _ (by assumption)).mono ?_); rintro q wB ⟨rfl, hS⟩))
        all_goals go_wp2_with fail
        all_goals refine (HS.out _).mono ?_
        all_goals rintro q w3 ⟨rfl, hm⟩
        all_goals have HM3 := Lib.hid ((HMW.out _ (HMO.out _ (by assumption))).trans hm)
        all_goals clear hm
        all_goals go_wp2
        all_goals go_ret
        all_goals exact ⟨rfl, HM3.out⟩
    · have t3 : (k != k') = false := by rw [hk]; simp
      have t4 : (p != p') = true := by rw [bne_iff_ne]; exact hp
      have t5 : (ta == tb) = false := beq_eq_false_iff_ne.2 (HUN.out hqa hqb (.inr hp))
      clear ha hb hqa hqb hk hp HNA HNB HUN HAL HS HMK
      go_region_held3 (fun W => W.cell? ⟨w.heap.size, 0, none⟩ = some (.int .i64 k) ∧ W.cell? ⟨w.heap.size, 1, none⟩ = some (.int .i64 p) ∧ W.cell? ⟨w.heap.size, 2, none⟩ = some (.int .i64 f) ∧ W.cell? ⟨w.heap.size, 3, none⟩ = some (.int .u64 n) ∧ W.cell? ⟨w.heap.size, 4, none⟩ = some (.int .u64 d) ∧ W.cell? ⟨w.heap.size, 5, none⟩ = some (.int .i64 v) ∧ W.cell? ⟨w.heap.size, 6, none⟩ = some (.float .f64 x) ∧ W.cell? ⟨w.heap.size, 7, none⟩ = some (.int .u64 g) ∧ W.cell? ⟨w.heap.size, 8, none⟩ = some (.int .i64 r) ∧ W.cell? ⟨w.heap.size + 1, 0, none⟩ = some (.int .i64 k') ∧ W.cell? ⟨w.heap.size + 1, 1, none⟩ = some (.int .i64 p') ∧ W.cell? ⟨w.heap.size + 1, 2, none⟩ = some (.int .i64 f') ∧ W.cell? ⟨w.heap.size + 1, 3, none⟩ = some (.int .u64 n') ∧ W.cell? ⟨w.heap.size + 1, 4, none⟩ = some (.int .u64 d') ∧ W.cell? ⟨w.heap.size + 1, 5, none⟩ = some (.int .i64 v') ∧ W.cell? ⟨w.heap.size + 1, 6, none⟩ = some (.float .f64 x') ∧ W.cell? ⟨w.heap.size + 1, 7, none⟩ = some (.int .u64 g') ∧ W.cell? ⟨w.heap.size + 1, 8, none⟩ = some (.int .i64 r') ∧ Mod (fun _ => False) ((w.alloc (.cells #[.int .i64 k, .int .i64 p, .int .i64 f, .int .u64 n, .int .u64 d, .int .i64 v, .float .f64 x, .int .u64 g, .int .i64 r] 31)).alloc (.cells #[.int .i64 k', .int .i64 p', .int .i64 f', .int .u64 n', .int .u64 d', .int .i64 v', .float .f64 x', .int .u64 g', .int .i64 r'] 31)) W) (first | assumption) (first | (go_at_call 13; (with_reducible refine (C1.out _ (by assumption)).mono ?_); rintro q wA ⟨rfl, hS⟩) | (go_at_call 13; (with_reducible refine (C2.out _ (by assumption)).mono ?_); rintro q wB ⟨rfl, hS⟩))
      all_goals go_wp2
      all_goals go_ret
      all_goals exact ⟨rfl, HMW.out _ (HMO.out _ (by assumption))⟩
  · have t3 : (k != k') = true := by rw [bne_iff_ne]; exact hk
    have t5 : (ta == tb) = false := beq_eq_false_iff_ne.2 (HUN.out hqa hqb (.inl hk))
    clear ha hb hqa hqb hk HNA HNB HUN HAL HS HMK
    go_region_held3 (fun W => W.cell? ⟨w.heap.size, 0, none⟩ = some (.int .i64 k) ∧ W.cell? ⟨w.heap.size, 1, none⟩ = some (.int .i64 p) ∧ W.cell? ⟨w.heap.size, 2, none⟩ = some (.int .i64 f) ∧ W.cell? ⟨w.heap.size, 3, none⟩ = some (.int .u64 n) ∧ W.cell? ⟨w.heap.size, 4, none⟩ = some (.int .u64 d) ∧ W.cell? ⟨w.heap.size, 5, none⟩ = some (.int .i64 v) ∧ W.cell? ⟨w.heap.size, 6, none⟩ = some (.float .f64 x) ∧ W.cell? ⟨w.heap.size, 7, none⟩ = some (.int .u64 g) ∧ W.cell? ⟨w.heap.size, 8, none⟩ = some (.int .i64 r) ∧ W.cell? ⟨w.heap.size + 1, 0, none⟩ = some (.int .i64 k') ∧ W.cell? ⟨w.heap.size + 1, 1, none⟩ = some (.int .i64 p') ∧ W.cell? ⟨w.heap.size + 1, 2, none⟩ = some (.int .i64 f') ∧ W.cell? ⟨w.heap.size + 1, 3, none⟩ = some (.int .u64 n') ∧ W.cell? ⟨w.heap.size + 1, 4, none⟩ = some (.int .u64 d') ∧ W.cell? ⟨w.heap.size + 1, 5, none⟩ = some (.int .i64 v') ∧ W.cell? ⟨w.heap.size + 1, 6, none⟩ = some (.float .f64 x') ∧ W.cell? ⟨w.heap.size + 1, 7, none⟩ = some (.int .u64 g') ∧ W.cell? ⟨w.heap.size + 1, 8, none⟩ = some (.int .i64 r') ∧ Mod (fun _ => False) ((w.alloc (.cells #[.int .i64 k, .int .i64 p, .int .i64 f, .int .u64 n, .int .u64 d, .int .i64 v, .float .f64 x, .int .u64 g, .int .i64 r] 31)).alloc (.cells #[.int .i64 k', .int .i64 p', .int .i64 f', .int .u64 n', .int .u64 d', .int .i64 v', .float .f64 x', .int .u64 g', .int .i64 r'] 31)) W) (first | assumption) (first | (go_at_call 13; (with_reducible refine (C1.out _ (by assumption)).mono ?_); rintro q wA ⟨rfl, hS⟩) | (go_at_call 13; (with_reducible refine (C2.out _ (by assumption)).mono ?_); rintro q wB ⟨rfl, hS⟩))
    all_goals go_wp2
    all_goals go_ret
    all_goals exact ⟨rfl, HMW.out _ (HMO.out _ (by assumption))⟩
set_option maxRecDepth 100000 in
theorem agg_of {H : Type} {enc : TypeId × Value → H} {W : World} {b0 : Nat} {v : Value} {d : DataW H} {ps : List MemPlace} (hok : Value.okWide Tryd.prog W .any b0 31 v)
    (h : DataW.Trod enc Tryd.prog W 0 (fun _ => true) true 31 v d ps) : ∃ e : Ev, v = e.agg ∧ e.Ok := by
  obtain ⟨cs, rfl, hsz⟩ := agg_of_ok Tryd.underlying31 hok
  rw [cellsEv] at hsz
  obtain ⟨fuel, hf⟩ := h
  have hf : DataW.trod enc Tryd.prog W 0 (fun _ => true) true fuel 31 cs.toList = some (d, ps) := hf
  obtain ⟨a, ha, ok⟩ := ev_of fuel cs.toList (d, ps) (by simpa using hsz) hf
  exact ⟨a, by unfold Ev.agg; rw [← ha], ok⟩
set_option maxRecDepth 100000 in
theorem texts_walk {H : Type} {enc : TypeId × Value → H} {b0 b1 : Nat} {d d' : DataW H} {ps ps' : List MemPlace} (W : World) (hL : Tab W) (v : Value) (hok : Value.okWide Tryd.prog W .any b0 31 v)
    (h : DataW.Trod enc Tryd.prog W 0 (fun _ => true) true 31 v d ps) (v' : Value) (hok' : Value.okWide Tryd.prog W .any b1 31 v')
    (h' : DataW.Trod enc Tryd.prog W 0 (fun _ => true) true 31 v' d' ps') : Calls Tryd.prog 4 #[v, v'] W fun e w' => e = .returned (.bool true) ∧ Below W.heap.size W w' := by
  obtain ⟨a, rfl, oka⟩ := agg_of hok h
  obtain ⟨b, rfl, okb⟩ := agg_of hok' h'
  exact (texts_any a b oka okb W hL).mono fun _ _ ⟨x, y⟩ => ⟨x, y.none_below⟩
end Go.Proofs.YtlklbdnlpljaiaaDoor
