/-
  film.words: an event's words behind its process.
-/
import Derived.Test.YtlklbdnlpljaiaaDoorFmE
import Derived.Deep.RegionHeld3
namespace Go.Proofs.YtlklbdnlpljaiaaDoor
open Go.RowKit Go.Shoal

/-- An event. -/
structure Ev where
  kind : Int
  p : Int
  frm : Int
  num : Nat
  dst : Nat
  var : Int
  x : Nat
  tag : Nat
  err : Int

def I64 (n : Int) : Prop := -9223372036854775808 ≤ n ∧ n ≤ 9223372036854775807
structure Ev.Ok (e : Ev) : Prop where
  k : I64 e.kind
  p : I64 e.p
  f : I64 e.frm
  n : e.num < 18446744073709551616
  t : e.dst < 18446744073709551616
  v : I64 e.var
  x : e.x < B64
  g : e.tag < 18446744073709551616
  r : I64 e.err
def Ev.cells (e : Ev) : List Value := [.int .i64 e.kind, .int .i64 e.p, .int .i64 e.frm, .int .u64 e.num, .int .u64 e.dst, .int .i64 e.var, .float .f64 e.x, .int .u64 e.tag, .int .i64 e.err]
def Ev.agg (e : Ev) : Value := .agg e.cells.toArray
def floS (x : Nat) : ByteArray := ⟨(showW x).toArray⟩
def wordsL (e : Ev) : List ByteArray :=
  if e.kind = 1 then [⟨#[115, 101, 110, 116]⟩, numS e.num, Dst.showS e.dst]
  else if e.kind = 2 then [⟨#[103, 111, 116]⟩, itoaS e.frm, numS e.num]
  else if e.kind = 3 then [⟨#[119, 114, 111, 116, 101]⟩, itoaS e.var, floS e.x, numS e.tag]
  else if e.kind = 4 then [⟨#[97, 115, 107, 115]⟩, itoaS e.var]
  else if e.kind = 5 then [⟨#[114, 101, 97, 100]⟩, itoaS e.var, floS e.x, itoaS e.frm, numS e.tag]
  else if e.kind = 6 then [⟨#[114, 101, 102, 117, 115, 101, 100]⟩, itoaS e.err]
  else []
def Worded (w : World) (l : List ByteArray) (e : Ending) (w' : World) : Prop := ∃ v, e = .returned v ∧ Dst.StrsAt w' v l ∧ Mod (fun _ => False) w w'
section
variable (kind p frm var err : Int) (num dst x tag : Nat) (w : World)
abbrev box9 (kind p frm : Int) (num dst : Nat) (var : Int) (x tag : Nat) (err : Int) : Array Value := #[.int .i64 kind, .int .i64 p, .int .i64 frm, .int .u64 num, .int .u64 dst, .int .i64 var, .float .f64 x, .int .u64 tag, .int .i64 err]
set_option maxRecDepth 100000 in
set_option maxHeartbeats 8000000 in
theorem words_1 (h0 : num < 18446744073709551616) (h1 : dst < 18446744073709551616) (hT : Tab w) : Calls Tryd.prog 24 #[.agg (box9 1 p frm num dst var x tag err)] w (Worded w [⟨#[115, 101, 110, 116]⟩, numS num, Dst.showS dst]) := by
  have HT : Hid (∀ W, Mod (fun _ => False) (w.alloc (.cells (box9 1 p frm num dst var x tag err) 31)) W → Tab W) := fun W hW => (hT.mod ((Mod.refl _ _).alloc _) (fun h => h)).mod hW (fun h => h)
  have HMK : Hid (∀ W, Mod (fun _ => False) (w.alloc (.cells (#[.int .i64 1, .int .i64 p, .int .i64 frm, .int .u64 num, .int .u64 dst, .int .i64 var, .float .f64 x, .int .u64 tag, .int .i64 err]) 31)) W → (fun W => W.cell? ⟨w.heap.size, 0, none⟩ = some (.int .i64 1) ∧ W.cell? ⟨w.heap.size, 3, none⟩ = some (.int .u64 num) ∧ W.cell? ⟨w.heap.size, 4, none⟩ = some (.int .u64 dst) ∧ Mod (fun _ => False) (w.alloc (.cells (#[.int .i64 1, .int .i64 p, .int .i64 frm, .int .u64 num, .int .u64 dst, .int .i64 var, .float .f64 x, .int .u64 tag, .int .i64 err]) 31)) W) W) := fun W hW => by
    have hb := hW.blk (blk_new w (.cells (#[.int .i64 1, .int .i64 p, .int .i64 frm, .int .u64 num, .int .u64 dst, .int .i64 var, .float .f64 x, .int .u64 tag, .int .i64 err]) 31)) (fun h => h)
    exact ⟨(blk_cell hb 0).trans rfl, (blk_cell hb 3).trans rfl, (blk_cell hb 4).trans rfl, hW⟩
  have C0 : Hid (∀ W, (fun W => W.cell? ⟨w.heap.size, 0, none⟩ = some (.int .i64 1) ∧ W.cell? ⟨w.heap.size, 3, none⟩ = some (.int .u64 num) ∧ W.cell? ⟨w.heap.size, 4, none⟩ = some (.int .u64 dst) ∧ Mod (fun _ => False) (w.alloc (.cells (#[.int .i64 1, .int .i64 p, .int .i64 frm, .int .u64 num, .int .u64 dst, .int .i64 var, .float .f64 x, .int .u64 tag, .int .i64 err]) 31)) W) W → Calls Tryd.prog 34 #[.int .u64 num] W fun e w' => e = .returned (.string (numS num)) ∧ (fun W => W.cell? ⟨w.heap.size, 0, none⟩ = some (.int .i64 1) ∧ W.cell? ⟨w.heap.size, 3, none⟩ = some (.int .u64 num) ∧ W.cell? ⟨w.heap.size, 4, none⟩ = some (.int .u64 dst) ∧ Mod (fun _ => False) (w.alloc (.cells (#[.int .i64 1, .int .i64 p, .int .i64 frm, .int .u64 num, .int .u64 dst, .int .i64 var, .float .f64 x, .int .u64 tag, .int .i64 err]) 31)) W) w') := fun W hS => by
    have hW : Mod (fun _ => False) (w.alloc (.cells (#[.int .i64 1, .int .i64 p, .int .i64 frm, .int .u64 num, .int .u64 dst, .int .i64 var, .float .f64 x, .int .u64 tag, .int .i64 err]) 31)) W := hS.2.2.2
    exact (num_any num h0 W (HT.out W hW)).mono fun e w' ⟨he, hm⟩ => ⟨he, HMK.out w' (hW.trans hm)⟩
  have C1 : Hid (∀ W, (fun W => W.cell? ⟨w.heap.size, 0, none⟩ = some (.int .i64 1) ∧ W.cell? ⟨w.heap.size, 3, none⟩ = some (.int .u64 num) ∧ W.cell? ⟨w.heap.size, 4, none⟩ = some (.int .u64 dst) ∧ Mod (fun _ => False) (w.alloc (.cells (#[.int .i64 1, .int .i64 p, .int .i64 frm, .int .u64 num, .int .u64 dst, .int .i64 var, .float .f64 x, .int .u64 tag, .int .i64 err]) 31)) W) W → Calls Tryd.prog 36 #[.int .u64 dst] W fun e w' => e = .returned (.string (Dst.showS dst)) ∧ (fun W => W.cell? ⟨w.heap.size, 0, none⟩ = some (.int .i64 1) ∧ W.cell? ⟨w.heap.size, 3, none⟩ = some (.int .u64 num) ∧ W.cell? ⟨w.heap.size, 4, none⟩ = some (.int .u64 dst) ∧ Mod (fun _ => False) (w.alloc (.cells (#[.int .i64 1, .int .i64 p, .int .i64 frm, .int .u64 num, .int .u64 dst, .int .i64 var, .float .f64 x, .int .u64 tag, .int .i64 err]) 31)) W) w') := fun W hS => by
    have hW : Mod (fun _ => False) (w.alloc (.cells (#[.int .i64 1, .int .i64 p, .int .i64 frm, .int .u64 num, .int .u64 dst, .int .i64 var, .float .f64 x, .int .u64 tag, .int .i64 err]) 31)) W := hS.2.2.2
    exact (Dst.show_any dst W h1 (HT.out W hW)).mono fun e w' ⟨he, hm⟩ => ⟨he, HMK.out w' (hW.trans hm)⟩
  have HSA : Hid (∀ W ob, (fun W => W.cell? ⟨w.heap.size, 0, none⟩ = some (.int .i64 1) ∧ W.cell? ⟨w.heap.size, 3, none⟩ = some (.int .u64 num) ∧ W.cell? ⟨w.heap.size, 4, none⟩ = some (.int .u64 dst) ∧ Mod (fun _ => False) (w.alloc (.cells (#[.int .i64 1, .int .i64 p, .int .i64 frm, .int .u64 num, .int .u64 dst, .int .i64 var, .float .f64 x, .int .u64 tag, .int .i64 err]) 31)) W) W → (fun W => W.cell? ⟨w.heap.size, 0, none⟩ = some (.int .i64 1) ∧ W.cell? ⟨w.heap.size, 3, none⟩ = some (.int .u64 num) ∧ W.cell? ⟨w.heap.size, 4, none⟩ = some (.int .u64 dst) ∧ Mod (fun _ => False) (w.alloc (.cells (#[.int .i64 1, .int .i64 p, .int .i64 frm, .int .u64 num, .int .u64 dst, .int .i64 var, .float .f64 x, .int .u64 tag, .int .i64 err]) 31)) W) (W.alloc ob)) := fun W ob hS => HMK.out _ ((show Mod (fun _ => False) (w.alloc (.cells (#[.int .i64 1, .int .i64 p, .int .i64 frm, .int .u64 num, .int .u64 dst, .int .i64 var, .float .f64 x, .int .u64 tag, .int .i64 err]) 31)) W from hS.2.2.2).alloc ob)
  generalize numS num = s0 at *
  generalize Dst.showS dst = s1 at *
  have hS0 := HMK.out (w.alloc (.cells (#[.int .i64 1, .int .i64 p, .int .i64 frm, .int .u64 num, .int .u64 dst, .int .i64 var, .float .f64 x, .int .u64 tag, .int .i64 err]) 31)).drew (Mod.refl _ _).drew
  have hS1 := HMK.out (w.alloc (.cells (#[.int .i64 1, .int .i64 p, .int .i64 frm, .int .u64 num, .int .u64 dst, .int .i64 var, .float .f64 x, .int .u64 tag, .int .i64 err]) 31)) (Mod.refl _ _)
  have HMW : Hid (∀ W, Mod (fun _ => False) (w.alloc (.cells (#[.int .i64 1, .int .i64 p, .int .i64 frm, .int .u64 num, .int .u64 dst, .int .i64 var, .float .f64 x, .int .u64 tag, .int .i64 err]) 31)) W → Mod (fun _ => False) w W) := fun W hW => ((Mod.refl _ _).alloc _).trans hW
  clear hT HMK HT
  go_enter Tryd.func24, Tryd.ntmps24
  go_wp2_with fail
  go_region_held3 (fun W => W.cell? ⟨w.heap.size, 0, none⟩ = some (.int .i64 1) ∧ W.cell? ⟨w.heap.size, 3, none⟩ = some (.int .u64 num) ∧ W.cell? ⟨w.heap.size, 4, none⟩ = some (.int .u64 dst) ∧ Mod (fun _ => False) (w.alloc (.cells (#[.int .i64 1, .int .i64 p, .int .i64 frm, .int .u64 num, .int .u64 dst, .int .i64 var, .float .f64 x, .int .u64 tag, .int .i64 err]) 31)) W) (first | assumption | exact HSA.out _ _ (by assumption)) (first | (go_at_call 34; (with_reducible refine (C0.out _ (by assumption)).mono ?_); rintro e w0 ⟨rfl, hS⟩) | (go_at_call 36; (with_reducible refine (C1.out _ (by assumption)).mono ?_); rintro e w1 ⟨rfl, hS⟩))
  all_goals go_wp2
  all_goals go_ret
  all_goals exact ⟨_, rfl, RowOf.new _ _ _ _ _ rfl (by decide), (HMW.out _ (And.right (And.right (And.right (by assumption))))).alloc _⟩
set_option maxRecDepth 100000 in
set_option maxHeartbeats 8000000 in
theorem words_2 (h0 : I64 frm) (h1 : num < 18446744073709551616) (hT : Tab w) : Calls Tryd.prog 24 #[.agg (box9 2 p frm num dst var x tag err)] w (Worded w [⟨#[103, 111, 116]⟩, itoaS frm, numS num]) := by
  have HT : Hid (∀ W, Mod (fun _ => False) (w.alloc (.cells (box9 2 p frm num dst var x tag err) 31)) W → Tab W) := fun W hW => (hT.mod ((Mod.refl _ _).alloc _) (fun h => h)).mod hW (fun h => h)
  have HMK : Hid (∀ W, Mod (fun _ => False) (w.alloc (.cells (#[.int .i64 2, .int .i64 p, .int .i64 frm, .int .u64 num, .int .u64 dst, .int .i64 var, .float .f64 x, .int .u64 tag, .int .i64 err]) 31)) W → (fun W => W.cell? ⟨w.heap.size, 0, none⟩ = some (.int .i64 2) ∧ W.cell? ⟨w.heap.size, 2, none⟩ = some (.int .i64 frm) ∧ W.cell? ⟨w.heap.size, 3, none⟩ = some (.int .u64 num) ∧ Mod (fun _ => False) (w.alloc (.cells (#[.int .i64 2, .int .i64 p, .int .i64 frm, .int .u64 num, .int .u64 dst, .int .i64 var, .float .f64 x, .int .u64 tag, .int .i64 err]) 31)) W) W) := fun W hW => by
    have hb := hW.blk (blk_new w (.cells (#[.int .i64 2, .int .i64 p, .int .i64 frm, .int .u64 num, .int .u64 dst, .int .i64 var, .float .f64 x, .int .u64 tag, .int .i64 err]) 31)) (fun h => h)
    exact ⟨(blk_cell hb 0).trans rfl, (blk_cell hb 2).trans rfl, (blk_cell hb 3).trans rfl, hW⟩
  have C0 : Hid (∀ W, (fun W => W.cell? ⟨w.heap.size, 0, none⟩ = some (.int .i64 2) ∧ W.cell? ⟨w.heap.size, 2, none⟩ = some (.int .i64 frm) ∧ W.cell? ⟨w.heap.size, 3, none⟩ = some (.int .u64 num) ∧ Mod (fun _ => False) (w.alloc (.cells (#[.int .i64 2, .int .i64 p, .int .i64 frm, .int .u64 num, .int .u64 dst, .int .i64 var, .float .f64 x, .int .u64 tag, .int .i64 err]) 31)) W) W → Calls Tryd.prog 25 #[.int .i64 frm] W fun e w' => e = .returned (.string (itoaS frm)) ∧ (fun W => W.cell? ⟨w.heap.size, 0, none⟩ = some (.int .i64 2) ∧ W.cell? ⟨w.heap.size, 2, none⟩ = some (.int .i64 frm) ∧ W.cell? ⟨w.heap.size, 3, none⟩ = some (.int .u64 num) ∧ Mod (fun _ => False) (w.alloc (.cells (#[.int .i64 2, .int .i64 p, .int .i64 frm, .int .u64 num, .int .u64 dst, .int .i64 var, .float .f64 x, .int .u64 tag, .int .i64 err]) 31)) W) w') := fun W hS => by
    have hW : Mod (fun _ => False) (w.alloc (.cells (#[.int .i64 2, .int .i64 p, .int .i64 frm, .int .u64 num, .int .u64 dst, .int .i64 var, .float .f64 x, .int .u64 tag, .int .i64 err]) 31)) W := hS.2.2.2
    exact (itoa_any frm h0.1 h0.2 W (HT.out W hW)).mono fun e w' ⟨he, hm⟩ => ⟨he, HMK.out w' (hW.trans hm)⟩
  have C1 : Hid (∀ W, (fun W => W.cell? ⟨w.heap.size, 0, none⟩ = some (.int .i64 2) ∧ W.cell? ⟨w.heap.size, 2, none⟩ = some (.int .i64 frm) ∧ W.cell? ⟨w.heap.size, 3, none⟩ = some (.int .u64 num) ∧ Mod (fun _ => False) (w.alloc (.cells (#[.int .i64 2, .int .i64 p, .int .i64 frm, .int .u64 num, .int .u64 dst, .int .i64 var, .float .f64 x, .int .u64 tag, .int .i64 err]) 31)) W) W → Calls Tryd.prog 34 #[.int .u64 num] W fun e w' => e = .returned (.string (numS num)) ∧ (fun W => W.cell? ⟨w.heap.size, 0, none⟩ = some (.int .i64 2) ∧ W.cell? ⟨w.heap.size, 2, none⟩ = some (.int .i64 frm) ∧ W.cell? ⟨w.heap.size, 3, none⟩ = some (.int .u64 num) ∧ Mod (fun _ => False) (w.alloc (.cells (#[.int .i64 2, .int .i64 p, .int .i64 frm, .int .u64 num, .int .u64 dst, .int .i64 var, .float .f64 x, .int .u64 tag, .int .i64 err]) 31)) W) w') := fun W hS => by
    have hW : Mod (fun _ => False) (w.alloc (.cells (#[.int .i64 2, .int .i64 p, .int .i64 frm, .int .u64 num, .int .u64 dst, .int .i64 var, .float .f64 x, .int .u64 tag, .int .i64 err]) 31)) W := hS.2.2.2
    exact (num_any num h1 W (HT.out W hW)).mono fun e w' ⟨he, hm⟩ => ⟨he, HMK.out w' (hW.trans hm)⟩
  have HSA : Hid (∀ W ob, (fun W => W.cell? ⟨w.heap.size, 0, none⟩ = some (.int .i64 2) ∧ W.cell? ⟨w.heap.size, 2, none⟩ = some (.int .i64 frm) ∧ W.cell? ⟨w.heap.size, 3, none⟩ = some (.int .u64 num) ∧ Mod (fun _ => False) (w.alloc (.cells (#[.int .i64 2, .int .i64 p, .int .i64 frm, .int .u64 num, .int .u64 dst, .int .i64 var, .float .f64 x, .int .u64 tag, .int .i64 err]) 31)) W) W → (fun W => W.cell? ⟨w.heap.size, 0, none⟩ = some (.int .i64 2) ∧ W.cell? ⟨w.heap.size, 2, none⟩ = some (.int .i64 frm) ∧ W.cell? ⟨w.heap.size, 3, none⟩ = some (.int .u64 num) ∧ Mod (fun _ => False) (w.alloc (.cells (#[.int .i64 2, .int .i64 p, .int .i64 frm, .int .u64 num, .int .u64 dst, .int .i64 var, .float .f64 x, .int .u64 tag, .int .i64 err]) 31)) W) (W.alloc ob)) := fun W ob hS => HMK.out _ ((show Mod (fun _ => False) (w.alloc (.cells (#[.int .i64 2, .int .i64 p, .int .i64 frm, .int .u64 num, .int .u64 dst, .int .i64 var, .float .f64 x, .int .u64 tag, .int .i64 err]) 31)) W from hS.2.2.2).alloc ob)
  generalize itoaS frm = s0 at *
  generalize numS num = s1 at *
  have hS0 := HMK.out (w.alloc (.cells (#[.int .i64 2, .int .i64 p, .int .i64 frm, .int .u64 num, .int .u64 dst, .int .i64 var, .float .f64 x, .int .u64 tag, .int .i64 err]) 31)).drew (Mod.refl _ _).drew
  have hS1 := HMK.out (w.alloc (.cells (#[.int .i64 2, .int .i64 p, .int .i64 frm, .int .u64 num, .int .u64 dst, .int .i64 var, .float .f64 x, .int .u64 tag, .int .i64 err]) 31)) (Mod.refl _ _)
  have HMW : Hid (∀ W, Mod (fun _ => False) (w.alloc (.cells (#[.int .i64 2, .int .i64 p, .int .i64 frm, .int .u64 num, .int .u64 dst, .int .i64 var, .float .f64 x, .int .u64 tag, .int .i64 err]) 31)) W → Mod (fun _ => False) w W) := fun W hW => ((Mod.refl _ _).alloc _).trans hW
  clear hT HMK HT
  go_enter Tryd.func24, Tryd.ntmps24
  go_wp2_with fail
  go_region_held3 (fun W => W.cell? ⟨w.heap.size, 0, none⟩ = some (.int .i64 2) ∧ W.cell? ⟨w.heap.size, 2, none⟩ = some (.int .i64 frm) ∧ W.cell? ⟨w.heap.size, 3, none⟩ = some (.int .u64 num) ∧ Mod (fun _ => False) (w.alloc (.cells (#[.int .i64 2, .int .i64 p, .int .i64 frm, .int .u64 num, .int .u64 dst, .int .i64 var, .float .f64 x, .int .u64 tag, .int .i64 err]) 31)) W) (first | assumption | exact HSA.out _ _ (by assumption)) (first | (go_at_call 25; (with_reducible refine (C0.out _ (by assumption)).mono ?_); rintro e w0 ⟨rfl, hS⟩) | (go_at_call 34; (with_reducible refine (C1.out _ (by assumption)).mono ?_); rintro e w1 ⟨rfl, hS⟩))
  all_goals go_wp2
  all_goals go_ret
  all_goals exact ⟨_, rfl, RowOf.new _ _ _ _ _ rfl (by decide), (HMW.out _ (And.right (And.right (And.right (by assumption))))).alloc _⟩
set_option maxRecDepth 100000 in
set_option maxHeartbeats 8000000 in
theorem words_3 (h0 : I64 var) (h1 : x < B64) (h2 : tag < 18446744073709551616) (hT : Tab w) : Calls Tryd.prog 24 #[.agg (box9 3 p frm num dst var x tag err)] w (Worded w [⟨#[119, 114, 111, 116, 101]⟩, itoaS var, floS x, numS tag]) := by
  have HT : Hid (∀ W, Mod (fun _ => False) (w.alloc (.cells (box9 3 p frm num dst var x tag err) 31)) W → Tab W) := fun W hW => (hT.mod ((Mod.refl _ _).alloc _) (fun h => h)).mod hW (fun h => h)
  have HMK : Hid (∀ W, Mod (fun _ => False) (w.alloc (.cells (#[.int .i64 3, .int .i64 p, .int .i64 frm, .int .u64 num, .int .u64 dst, .int .i64 var, .float .f64 x, .int .u64 tag, .int .i64 err]) 31)) W → (fun W => W.cell? ⟨w.heap.size, 0, none⟩ = some (.int .i64 3) ∧ W.cell? ⟨w.heap.size, 5, none⟩ = some (.int .i64 var) ∧ W.cell? ⟨w.heap.size, 6, none⟩ = some (.float .f64 x) ∧ W.cell? ⟨w.heap.size, 7, none⟩ = some (.int .u64 tag) ∧ Mod (fun _ => False) (w.alloc (.cells (#[.int .i64 3, .int .i64 p, .int .i64 frm, .int .u64 num, .int .u64 dst, .int .i64 var, .float .f64 x, .int .u64 tag, .int .i64 err]) 31)) W) W) := fun W hW => by
    have hb := hW.blk (blk_new w (.cells (#[.int .i64 3, .int .i64 p, .int .i64 frm, .int .u64 num, .int .u64 dst, .int .i64 var, .float .f64 x, .int .u64 tag, .int .i64 err]) 31)) (fun h => h)
    exact ⟨(blk_cell hb 0).trans rfl, (blk_cell hb 5).trans rfl, (blk_cell hb 6).trans rfl, (blk_cell hb 7).trans rfl, hW⟩
  have C0 : Hid (∀ W, (fun W => W.cell? ⟨w.heap.size, 0, none⟩ = some (.int .i64 3) ∧ W.cell? ⟨w.heap.size, 5, none⟩ = some (.int .i64 var) ∧ W.cell? ⟨w.heap.size, 6, none⟩ = some (.float .f64 x) ∧ W.cell? ⟨w.heap.size, 7, none⟩ = some (.int .u64 tag) ∧ Mod (fun _ => False) (w.alloc (.cells (#[.int .i64 3, .int .i64 p, .int .i64 frm, .int .u64 num, .int .u64 dst, .int .i64 var, .float .f64 x, .int .u64 tag, .int .i64 err]) 31)) W) W → Calls Tryd.prog 25 #[.int .i64 var] W fun e w' => e = .returned (.string (itoaS var)) ∧ (fun W => W.cell? ⟨w.heap.size, 0, none⟩ = some (.int .i64 3) ∧ W.cell? ⟨w.heap.size, 5, none⟩ = some (.int .i64 var) ∧ W.cell? ⟨w.heap.size, 6, none⟩ = some (.float .f64 x) ∧ W.cell? ⟨w.heap.size, 7, none⟩ = some (.int .u64 tag) ∧ Mod (fun _ => False) (w.alloc (.cells (#[.int .i64 3, .int .i64 p, .int .i64 frm, .int .u64 num, .int .u64 dst, .int .i64 var, .float .f64 x, .int .u64 tag, .int .i64 err]) 31)) W) w') := fun W hS => by
    have hW : Mod (fun _ => False) (w.alloc (.cells (#[.int .i64 3, .int .i64 p, .int .i64 frm, .int .u64 num, .int .u64 dst, .int .i64 var, .float .f64 x, .int .u64 tag, .int .i64 err]) 31)) W := hS.2.2.2.2
    exact (itoa_any var h0.1 h0.2 W (HT.out W hW)).mono fun e w' ⟨he, hm⟩ => ⟨he, HMK.out w' (hW.trans hm)⟩
  have C1 : Hid (∀ W, (fun W => W.cell? ⟨w.heap.size, 0, none⟩ = some (.int .i64 3) ∧ W.cell? ⟨w.heap.size, 5, none⟩ = some (.int .i64 var) ∧ W.cell? ⟨w.heap.size, 6, none⟩ = some (.float .f64 x) ∧ W.cell? ⟨w.heap.size, 7, none⟩ = some (.int .u64 tag) ∧ Mod (fun _ => False) (w.alloc (.cells (#[.int .i64 3, .int .i64 p, .int .i64 frm, .int .u64 num, .int .u64 dst, .int .i64 var, .float .f64 x, .int .u64 tag, .int .i64 err]) 31)) W) W → Calls Tryd.prog 37 #[.float .f64 x] W fun e w' => e = .returned (.string (floS x)) ∧ (fun W => W.cell? ⟨w.heap.size, 0, none⟩ = some (.int .i64 3) ∧ W.cell? ⟨w.heap.size, 5, none⟩ = some (.int .i64 var) ∧ W.cell? ⟨w.heap.size, 6, none⟩ = some (.float .f64 x) ∧ W.cell? ⟨w.heap.size, 7, none⟩ = some (.int .u64 tag) ∧ Mod (fun _ => False) (w.alloc (.cells (#[.int .i64 3, .int .i64 p, .int .i64 frm, .int .u64 num, .int .u64 dst, .int .i64 var, .float .f64 x, .int .u64 tag, .int .i64 err]) 31)) W) w') := fun W hS => by
    have hW : Mod (fun _ => False) (w.alloc (.cells (#[.int .i64 3, .int .i64 p, .int .i64 frm, .int .u64 num, .int .u64 dst, .int .i64 var, .float .f64 x, .int .u64 tag, .int .i64 err]) 31)) W := hS.2.2.2.2
    exact (show_any x h1 W (HT.out W hW)).mono fun e w' ⟨he, hm⟩ => ⟨he, HMK.out w' (hW.trans hm)⟩
  have C2 : Hid (∀ W, (fun W => W.cell? ⟨w.heap.size, 0, none⟩ = some (.int .i64 3) ∧ W.cell? ⟨w.heap.size, 5, none⟩ = some (.int .i64 var) ∧ W.cell? ⟨w.heap.size, 6, none⟩ = some (.float .f64 x) ∧ W.cell? ⟨w.heap.size, 7, none⟩ = some (.int .u64 tag) ∧ Mod (fun _ => False) (w.alloc (.cells (#[.int .i64 3, .int .i64 p, .int .i64 frm, .int .u64 num, .int .u64 dst, .int .i64 var, .float .f64 x, .int .u64 tag, .int .i64 err]) 31)) W) W → Calls Tryd.prog 34 #[.int .u64 tag] W fun e w' => e = .returned (.string (numS tag)) ∧ (fun W => W.cell? ⟨w.heap.size, 0, none⟩ = some (.int .i64 3) ∧ W.cell? ⟨w.heap.size, 5, none⟩ = some (.int .i64 var) ∧ W.cell? ⟨w.heap.size, 6, none⟩ = some (.float .f64 x) ∧ W.cell? ⟨w.heap.size, 7, none⟩ = some (.int .u64 tag) ∧ Mod (fun _ => False) (w.alloc (.cells (#[.int .i64 3, .int .i64 p, .int .i64 frm, .int .u64 num, .int .u64 dst, .int .i64 var, .float .f64 x, .int .u64 tag, .int .i64 err]) 31)) W) w') := fun W hS => by
    have hW : Mod (fun _ => False) (w.alloc (.cells (#[.int .i64 3, .int .i64 p, .int .i64 frm, .int .u64 num, .int .u64 dst, .int .i64 var, .float .f64 x, .int .u64 tag, .int .i64 err]) 31)) W := hS.2.2.2.2
    exact (num_any tag h2 W (HT.out W hW)).mono fun e w' ⟨he, hm⟩ => ⟨he, HMK.out w' (hW.trans hm)⟩
  have HSA : Hid (∀ W ob, (fun W => W.cell? ⟨w.heap.size, 0, none⟩ = some (.int .i64 3) ∧ W.cell? ⟨w.heap.size, 5, none⟩ = some (.int .i64 var) ∧ W.cell? ⟨w.heap.size, 6, none⟩ = some (.float .f64 x) ∧ W.cell? ⟨w.heap.size, 7, none⟩ = some (.int .u64 tag) ∧ Mod (fun _ => False) (w.alloc (.cells (#[.int .i64 3, .int .i64 p, .int .i64 frm, .int .u64 num, .int .u64 dst, .int .i64 var, .float .f64 x, .int .u64 tag, .int .i64 err]) 31)) W) W → (fun W => W.cell? ⟨w.heap.size, 0, none⟩ = some (.int .i64 3) ∧ W.cell? ⟨w.heap.size, 5, none⟩ = some (.int .i64 var) ∧ W.cell? ⟨w.heap.size, 6, none⟩ = some (.float .f64 x) ∧ W.cell? ⟨w.heap.size, 7, none⟩ = some (.int .u64 tag) ∧ Mod (fun _ => False) (w.alloc (.cells (#[.int .i64 3, .int .i64 p, .int .i64 frm, .int .u64 num, .int .u64 dst, .int .i64 var, .float .f64 x, .int .u64 tag, .int .i64 err]) 31)) W) (W.alloc ob)) := fun W ob hS => HMK.out _ ((show Mod (fun _ => False) (w.alloc (.cells (#[.int .i64 3, .int .i64 p, .int .i64 frm, .int .u64 num, .int .u64 dst, .int .i64 var, .float .f64 x, .int .u64 tag, .int .i64 err]) 31)) W from hS.2.2.2.2).alloc ob)
  generalize itoaS var = s0 at *
  generalize floS x = s1 at *
  generalize numS tag = s2 at *
  have hS0 := HMK.out (w.alloc (.cells (#[.int .i64 3, .int .i64 p, .int .i64 frm, .int .u64 num, .int .u64 dst, .int .i64 var, .float .f64 x, .int .u64 tag, .int .i64 err]) 31)).drew (Mod.refl _ _).drew
  have hS1 := HMK.out (w.alloc (.cells (#[.int .i64 3, .int .i64 p, .int .i64 frm, .int .u64 num, .int .u64 dst, .int .i64 var, .float .f64 x, .int .u64 tag, .int .i64 err]) 31)) (Mod.refl _ _)
  have HMW : Hid (∀ W, Mod (fun _ => False) (w.alloc (.cells (#[.int .i64 3, .int .i64 p, .int .i64 frm, .int .u64 num, .int .u64 dst, .int .i64 var, .float .f64 x, .int .u64 tag, .int .i64 err]) 31)) W → Mod (fun _ => False) w W) := fun W hW => ((Mod.refl _ _).alloc _).trans hW
  clear hT HMK HT
  go_enter Tryd.func24, Tryd.ntmps24
  go_wp2_with fail
  go_region_held3 (fun W => W.cell? ⟨w.heap.size, 0, none⟩ = some (.int .i64 3) ∧ W.cell? ⟨w.heap.size, 5, none⟩ = some (.int .i64 var) ∧ W.cell? ⟨w.heap.size, 6, none⟩ = some (.float .f64 x) ∧ W.cell? ⟨w.heap.size, 7, none⟩ = some (.int .u64 tag) ∧ Mod (fun _ => False) (w.alloc (.cells (#[.int .i64 3, .int .i64 p, .int .i64 frm, .int .u64 num, .int .u64 dst, .int .i64 var, .float .f64 x, .int .u64 tag, .int .i64 err]) 31)) W) (first | assumption | exact HSA.out _ _ (by assumption)) (first | (go_at_call 25; (with_reducible refine (C0.out _ (by assumption)).mono ?_); rintro e w0 ⟨rfl, hS⟩) | (go_at_call 37; (with_reducible refine (C1.out _ (by assumption)).mono ?_); rintro e w1 ⟨rfl, hS⟩) | (go_at_call 34; (with_reducible refine (C2.out _ (by assumption)).mono ?_); rintro e w2 ⟨rfl, hS⟩))
  all_goals go_wp2
  all_goals go_ret
  all_goals exact ⟨_, rfl, RowOf.new _ _ _ _ _ rfl (by decide), (HMW.out _ (And.right (And.right (And.right (And.right (by assumption)))))).alloc _⟩
set_option maxRecDepth 100000 in
set_option maxHeartbeats 8000000 in
theorem words_4 (h0 : I64 var) (hT : Tab w) : Calls Tryd.prog 24 #[.agg (box9 4 p frm num dst var x tag err)] w (Worded w [⟨#[97, 115, 107, 115]⟩, itoaS var]) := by
  have HT : Hid (∀ W, Mod (fun _ => False) (w.alloc (.cells (box9 4 p frm num dst var x tag err) 31)) W → Tab W) := fun W hW => (hT.mod ((Mod.refl _ _).alloc _) (fun h => h)).mod hW (fun h => h)
  have HMK : Hid (∀ W, Mod (fun _ => False) (w.alloc (.cells (#[.int .i64 4, .int .i64 p, .int .i64 frm, .int .u64 num, .int .u64 dst, .int .i64 var, .float .f64 x, .int .u64 tag, .int .i64 err]) 31)) W → (fun W => W.cell? ⟨w.heap.size, 0, none⟩ = some (.int .i64 4) ∧ W.cell? ⟨w.heap.size, 5, none⟩ = some (.int .i64 var) ∧ Mod (fun _ => False) (w.alloc (.cells (#[.int .i64 4, .int .i64 p, .int .i64 frm, .int .u64 num, .int .u64 dst, .int .i64 var, .float .f64 x, .int .u64 tag, .int .i64 err]) 31)) W) W) := fun W hW => by
    have hb := hW.blk (blk_new w (.cells (#[.int .i64 4, .int .i64 p, .int .i64 frm, .int .u64 num, .int .u64 dst, .int .i64 var, .float .f64 x, .int .u64 tag, .int .i64 err]) 31)) (fun h => h)
    exact ⟨(blk_cell hb 0).trans rfl, (blk_cell hb 5).trans rfl, hW⟩
  have C0 : Hid (∀ W, (fun W => W.cell? ⟨w.heap.size, 0, none⟩ = some (.int .i64 4) ∧ W.cell? ⟨w.heap.size, 5, none⟩ = some (.int .i64 var) ∧ Mod (fun _ => False) (w.alloc (.cells (#[.int .i64 4, .int .i64 p, .int .i64 frm, .int .u64 num, .int .u64 dst, .int .i64 var, .float .f64 x, .int .u64 tag, .int .i64 err]) 31)) W) W → Calls Tryd.prog 25 #[.int .i64 var] W fun e w' => e = .returned (.string (itoaS var)) ∧ (fun W => W.cell? ⟨w.heap.size, 0, none⟩ = some (.int .i64 4) ∧ W.cell? ⟨w.heap.size, 5, none⟩ = some (.int .i64 var) ∧ Mod (fun _ => False) (w.alloc (.cells (#[.int .i64 4, .int .i64 p, .int .i64 frm, .int .u64 num, .int .u64 dst, .int .i64 var, .float .f64 x, .int .u64 tag, .int .i64 err]) 31)) W) w') := fun W hS => by
    have hW : Mod (fun _ => False) (w.alloc (.cells (#[.int .i64 4, .int .i64 p, .int .i64 frm, .int .u64 num, .int .u64 dst, .int .i64 var, .float .f64 x, .int .u64 tag, .int .i64 err]) 31)) W := hS.2.2
    exact (itoa_any var h0.1 h0.2 W (HT.out W hW)).mono fun e w' ⟨he, hm⟩ => ⟨he, HMK.out w' (hW.trans hm)⟩
  have HSA : Hid (∀ W ob, (fun W => W.cell? ⟨w.heap.size, 0, none⟩ = some (.int .i64 4) ∧ W.cell? ⟨w.heap.size, 5, none⟩ = some (.int .i64 var) ∧ Mod (fun _ => False) (w.alloc (.cells (#[.int .i64 4, .int .i64 p, .int .i64 frm, .int .u64 num, .int .u64 dst, .int .i64 var, .float .f64 x, .int .u64 tag, .int .i64 err]) 31)) W) W → (fun W => W.cell? ⟨w.heap.size, 0, none⟩ = some (.int .i64 4) ∧ W.cell? ⟨w.heap.size, 5, none⟩ = some (.int .i64 var) ∧ Mod (fun _ => False) (w.alloc (.cells (#[.int .i64 4, .int .i64 p, .int .i64 frm, .int .u64 num, .int .u64 dst, .int .i64 var, .float .f64 x, .int .u64 tag, .int .i64 err]) 31)) W) (W.alloc ob)) := fun W ob hS => HMK.out _ ((show Mod (fun _ => False) (w.alloc (.cells (#[.int .i64 4, .int .i64 p, .int .i64 frm, .int .u64 num, .int .u64 dst, .int .i64 var, .float .f64 x, .int .u64 tag, .int .i64 err]) 31)) W from hS.2.2).alloc ob)
  generalize itoaS var = s0 at *
  have hS0 := HMK.out (w.alloc (.cells (#[.int .i64 4, .int .i64 p, .int .i64 frm, .int .u64 num, .int .u64 dst, .int .i64 var, .float .f64 x, .int .u64 tag, .int .i64 err]) 31)).drew (Mod.refl _ _).drew
  have hS1 := HMK.out (w.alloc (.cells (#[.int .i64 4, .int .i64 p, .int .i64 frm, .int .u64 num, .int .u64 dst, .int .i64 var, .float .f64 x, .int .u64 tag, .int .i64 err]) 31)) (Mod.refl _ _)
  have HMW : Hid (∀ W, Mod (fun _ => False) (w.alloc (.cells (#[.int .i64 4, .int .i64 p, .int .i64 frm, .int .u64 num, .int .u64 dst, .int .i64 var, .float .f64 x, .int .u64 tag, .int .i64 err]) 31)) W → Mod (fun _ => False) w W) := fun W hW => ((Mod.refl _ _).alloc _).trans hW
  clear hT HMK HT
  go_enter Tryd.func24, Tryd.ntmps24
  go_wp2_with fail
  refine (C0.out _ hS1).mono ?_
  rintro e w1 ⟨rfl, hS⟩
  have HM := Lib.hid (HMW.out _ (show Mod (fun _ => False) (w.alloc (.cells (#[.int .i64 4, .int .i64 p, .int .i64 frm, .int .u64 num, .int .u64 dst, .int .i64 var, .float .f64 x, .int .u64 tag, .int .i64 err]) 31)) w1 from hS.2.2))
  clear hS hS0 hS1
  go_wp2
  go_ret
  exact ⟨_, rfl, RowOf.new _ _ _ _ _ rfl (by decide), HM.out.alloc _⟩
set_option maxRecDepth 100000 in
set_option maxHeartbeats 8000000 in
theorem words_5 (h0 : I64 var) (h1 : x < B64) (h2 : I64 frm) (h3 : tag < 18446744073709551616) (hT : Tab w) : Calls Tryd.prog 24 #[.agg (box9 5 p frm num dst var x tag err)] w (Worded w [⟨#[114, 101, 97, 100]⟩, itoaS var, floS x, itoaS frm, numS tag]) := by
  have HT : Hid (∀ W, Mod (fun _ => False) (w.alloc (.cells (box9 5 p frm num dst var x tag err) 31)) W → Tab W) := fun W hW => (hT.mod ((Mod.refl _ _).alloc _) (fun h => h)).mod hW (fun h => h)
  have HMK : Hid (∀ W, Mod (fun _ => False) (w.alloc (.cells (#[.int .i64 5, .int .i64 p, .int .i64 frm, .int .u64 num, .int .u64 dst, .int .i64 var, .float .f64 x, .int .u64 tag, .int .i64 err]) 31)) W → (fun W => W.cell? ⟨w.heap.size, 0, none⟩ = some (.int .i64 5) ∧ W.cell? ⟨w.heap.size, 2, none⟩ = some (.int .i64 frm) ∧ W.cell? ⟨w.heap.size, 5, none⟩ = some (.int .i64 var) ∧ W.cell? ⟨w.heap.size, 6, none⟩ = some (.float .f64 x) ∧ W.cell? ⟨w.heap.size, 7, none⟩ = some (.int .u64 tag) ∧ Mod (fun _ => False) (w.alloc (.cells (#[.int .i64 5, .int .i64 p, .int .i64 frm, .int .u64 num, .int .u64 dst, .int .i64 var, .float .f64 x, .int .u64 tag, .int .i64 err]) 31)) W) W) := fun W hW => by
    have hb := hW.blk (blk_new w (.cells (#[.int .i64 5, .int .i64 p, .int .i64 frm, .int .u64 num, .int .u64 dst, .int .i64 var, .float .f64 x, .int .u64 tag, .int .i64 err]) 31)) (fun h => h)
    exact ⟨(blk_cell hb 0).trans rfl, (blk_cell hb 2).trans rfl, (blk_cell hb 5).trans rfl, (blk_cell hb 6).trans rfl, (blk_cell hb 7).trans rfl, hW⟩
  have C0 : Hid (∀ W, (fun W => W.cell? ⟨w.heap.size, 0, none⟩ = some (.int .i64 5) ∧ W.cell? ⟨w.heap.size, 2, none⟩ = some (.int .i64 frm) ∧ W.cell? ⟨w.heap.size, 5, none⟩ = some (.int .i64 var) ∧ W.cell? ⟨w.heap.size, 6, none⟩ = some (.float .f64 x) ∧ W.cell? ⟨w.heap.size, 7, none⟩ = some (.int .u64 tag) ∧ Mod (fun _ => False) (w.alloc (.cells (#[.int .i64 5, .int .i64 p, .int .i64 frm, .int .u64 num, .int .u64 dst, .int .i64 var, .float .f64 x, .int .u64 tag, .int .i64 err]) 31)) W) W → Calls Tryd.prog 25 #[.int .i64 var] W fun e w' => e = .returned (.string (itoaS var)) ∧ (fun W => W.cell? ⟨w.heap.size, 0, none⟩ = some (.int .i64 5) ∧ W.cell? ⟨w.heap.size, 2, none⟩ = some (.int .i64 frm) ∧ W.cell? ⟨w.heap.size, 5, none⟩ = some (.int .i64 var) ∧ W.cell? ⟨w.heap.size, 6, none⟩ = some (.float .f64 x) ∧ W.cell? ⟨w.heap.size, 7, none⟩ = some (.int .u64 tag) ∧ Mod (fun _ => False) (w.alloc (.cells (#[.int .i64 5, .int .i64 p, .int .i64 frm, .int .u64 num, .int .u64 dst, .int .i64 var, .float .f64 x, .int .u64 tag, .int .i64 err]) 31)) W) w') := fun W hS => by
    have hW : Mod (fun _ => False) (w.alloc (.cells (#[.int .i64 5, .int .i64 p, .int .i64 frm, .int .u64 num, .int .u64 dst, .int .i64 var, .float .f64 x, .int .u64 tag, .int .i64 err]) 31)) W := hS.2.2.2.2.2
    exact (itoa_any var h0.1 h0.2 W (HT.out W hW)).mono fun e w' ⟨he, hm⟩ => ⟨he, HMK.out w' (hW.trans hm)⟩
  have C1 : Hid (∀ W, (fun W => W.cell? ⟨w.heap.size, 0, none⟩ = some (.int .i64 5) ∧ W.cell? ⟨w.heap.size, 2, none⟩ = some (.int .i64 frm) ∧ W.cell? ⟨w.heap.size, 5, none⟩ = some (.int .i64 var) ∧ W.cell? ⟨w.heap.size, 6, none⟩ = some (.float .f64 x) ∧ W.cell? ⟨w.heap.size, 7, none⟩ = some (.int .u64 tag) ∧ Mod (fun _ => False) (w.alloc (.cells (#[.int .i64 5, .int .i64 p, .int .i64 frm, .int .u64 num, .int .u64 dst, .int .i64 var, .float .f64 x, .int .u64 tag, .int .i64 err]) 31)) W) W → Calls Tryd.prog 37 #[.float .f64 x] W fun e w' => e = .returned (.string (floS x)) ∧ (fun W => W.cell? ⟨w.heap.size, 0, none⟩ = some (.int .i64 5) ∧ W.cell? ⟨w.heap.size, 2, none⟩ = some (.int .i64 frm) ∧ W.cell? ⟨w.heap.size, 5, none⟩ = some (.int .i64 var) ∧ W.cell? ⟨w.heap.size, 6, none⟩ = some (.float .f64 x) ∧ W.cell? ⟨w.heap.size, 7, none⟩ = some (.int .u64 tag) ∧ Mod (fun _ => False) (w.alloc (.cells (#[.int .i64 5, .int .i64 p, .int .i64 frm, .int .u64 num, .int .u64 dst, .int .i64 var, .float .f64 x, .int .u64 tag, .int .i64 err]) 31)) W) w') := fun W hS => by
    have hW : Mod (fun _ => False) (w.alloc (.cells (#[.int .i64 5, .int .i64 p, .int .i64 frm, .int .u64 num, .int .u64 dst, .int .i64 var, .float .f64 x, .int .u64 tag, .int .i64 err]) 31)) W := hS.2.2.2.2.2
    exact (show_any x h1 W (HT.out W hW)).mono fun e w' ⟨he, hm⟩ => ⟨he, HMK.out w' (hW.trans hm)⟩
  have C2 : Hid (∀ W, (fun W => W.cell? ⟨w.heap.size, 0, none⟩ = some (.int .i64 5) ∧ W.cell? ⟨w.heap.size, 2, none⟩ = some (.int .i64 frm) ∧ W.cell? ⟨w.heap.size, 5, none⟩ = some (.int .i64 var) ∧ W.cell? ⟨w.heap.size, 6, none⟩ = some (.float .f64 x) ∧ W.cell? ⟨w.heap.size, 7, none⟩ = some (.int .u64 tag) ∧ Mod (fun _ => False) (w.alloc (.cells (#[.int .i64 5, .int .i64 p, .int .i64 frm, .int .u64 num, .int .u64 dst, .int .i64 var, .float .f64 x, .int .u64 tag, .int .i64 err]) 31)) W) W → Calls Tryd.prog 25 #[.int .i64 frm] W fun e w' => e = .returned (.string (itoaS frm)) ∧ (fun W => W.cell? ⟨w.heap.size, 0, none⟩ = some (.int .i64 5) ∧ W.cell? ⟨w.heap.size, 2, none⟩ = some (.int .i64 frm) ∧ W.cell? ⟨w.heap.size, 5, none⟩ = some (.int .i64 var) ∧ W.cell? ⟨w.heap.size, 6, none⟩ = some (.float .f64 x) ∧ W.cell? ⟨w.heap.size, 7, none⟩ = some (.int .u64 tag) ∧ Mod (fun _ => False) (w.alloc (.cells (#[.int .i64 5, .int .i64 p, .int .i64 frm, .int .u64 num, .int .u64 dst, .int .i64 var, .float .f64 x, .int .u64 tag, .int .i64 err]) 31)) W) w') := fun W hS => by
    have hW : Mod (fun _ => False) (w.alloc (.cells (#[.int .i64 5, .int .i64 p, .int .i64 frm, .int .u64 num, .int .u64 dst, .int .i64 var, .float .f64 x, .int .u64 tag, .int .i64 err]) 31)) W := hS.2.2.2.2.2
    exact (itoa_any frm h2.1 h2.2 W (HT.out W hW)).mono fun e w' ⟨he, hm⟩ => ⟨he, HMK.out w' (hW.trans hm)⟩
  have C3 : Hid (∀ W, (fun W => W.cell? ⟨w.heap.size, 0, none⟩ = some (.int .i64 5) ∧ W.cell? ⟨w.heap.size, 2, none⟩ = some (.int .i64 frm) ∧ W.cell? ⟨w.heap.size, 5, none⟩ = some (.int .i64 var) ∧ W.cell? ⟨w.heap.size, 6, none⟩ = some (.float .f64 x) ∧ W.cell? ⟨w.heap.size, 7, none⟩ = some (.int .u64 tag) ∧ Mod (fun _ => False) (w.alloc (.cells (#[.int .i64 5, .int .i64 p, .int .i64 frm, .int .u64 num, .int .u64 dst, .int .i64 var, .float .f64 x, .int .u64 tag, .int .i64 err]) 31)) W) W → Calls Tryd.prog 34 #[.int .u64 tag] W fun e w' => e = .returned (.string (numS tag)) ∧ (fun W => W.cell? ⟨w.heap.size, 0, none⟩ = some (.int .i64 5) ∧ W.cell? ⟨w.heap.size, 2, none⟩ = some (.int .i64 frm) ∧ W.cell? ⟨w.heap.size, 5, none⟩ = some (.int .i64 var) ∧ W.cell? ⟨w.heap.size, 6, none⟩ = some (.float .f64 x) ∧ W.cell? ⟨w.heap.size, 7, none⟩ = some (.int .u64 tag) ∧ Mod (fun _ => False) (w.alloc (.cells (#[.int .i64 5, .int .i64 p, .int .i64 frm, .int .u64 num, .int .u64 dst, .int .i64 var, .float .f64 x, .int .u64 tag, .int .i64 err]) 31)) W) w') := fun W hS => by
    have hW : Mod (fun _ => False) (w.alloc (.cells (#[.int .i64 5, .int .i64 p, .int .i64 frm, .int .u64 num, .int .u64 dst, .int .i64 var, .float .f64 x, .int .u64 tag, .int .i64 err]) 31)) W := hS.2.2.2.2.2
    exact (num_any tag h3 W (HT.out W hW)).mono fun e w' ⟨he, hm⟩ => ⟨he, HMK.out w' (hW.trans hm)⟩
  have HSA : Hid (∀ W ob, (fun W => W.cell? ⟨w.heap.size, 0, none⟩ = some (.int .i64 5) ∧ W.cell? ⟨w.heap.size, 2, none⟩ = some (.int .i64 frm) ∧ W.cell? ⟨w.heap.size, 5, none⟩ = some (.int .i64 var) ∧ W.cell? ⟨w.heap.size, 6, none⟩ = some (.float .f64 x) ∧ W.cell? ⟨w.heap.size, 7, none⟩ = some (.int .u64 tag) ∧ Mod (fun _ => False) (w.alloc (.cells (#[.int .i64 5, .int .i64 p, .int .i64 frm, .int .u64 num, .int .u64 dst, .int .i64 var, .float .f64 x, .int .u64 tag, .int .i64 err]) 31)) W) W → (fun W => W.cell? ⟨w.heap.size, 0, none⟩ = some (.int .i64 5) ∧ W.cell? ⟨w.heap.size, 2, none⟩ = some (.int .i64 frm) ∧ W.cell? ⟨w.heap.size, 5, none⟩ = some (.int .i64 var) ∧ W.cell? ⟨w.heap.size, 6, none⟩ = some (.float .f64 x) ∧ W.cell? ⟨w.heap.size, 7, none⟩ = some (.int .u64 tag) ∧ Mod (fun _ => False) (w.alloc (.cells (#[.int .i64 5, .int .i64 p, .int .i64 frm, .int .u64 num, .int .u64 dst, .int .i64 var, .float .f64 x, .int .u64 tag, .int .i64 err]) 31)) W) (W.alloc ob)) := fun W ob hS => HMK.out _ ((show Mod (fun _ => False) (w.alloc (.cells (#[.int .i64 5, .int .i64 p, .int .i64 frm, .int .u64 num, .int .u64 dst, .int .i64 var, .float .f64 x, .int .u64 tag, .int .i64 err]) 31)) W from hS.2.2.2.2.2).alloc ob)
  generalize itoaS var = s0 at *
  generalize floS x = s1 at *
  generalize itoaS frm = s2 at *
  generalize numS tag = s3 at *
  have hS0 := HMK.out (w.alloc (.cells (#[.int .i64 5, .int .i64 p, .int .i64 frm, .int .u64 num, .int .u64 dst, .int .i64 var, .float .f64 x, .int .u64 tag, .int .i64 err]) 31)).drew (Mod.refl _ _).drew
  have hS1 := HMK.out (w.alloc (.cells (#[.int .i64 5, .int .i64 p, .int .i64 frm, .int .u64 num, .int .u64 dst, .int .i64 var, .float .f64 x, .int .u64 tag, .int .i64 err]) 31)) (Mod.refl _ _)
  have HMW : Hid (∀ W, Mod (fun _ => False) (w.alloc (.cells (#[.int .i64 5, .int .i64 p, .int .i64 frm, .int .u64 num, .int .u64 dst, .int .i64 var, .float .f64 x, .int .u64 tag, .int .i64 err]) 31)) W → Mod (fun _ => False) w W) := fun W hW => ((Mod.refl _ _).alloc _).trans hW
  clear hT HMK HT
  go_enter Tryd.func24, Tryd.ntmps24
  go_wp2_with fail
  go_region_held3 (fun W => W.cell? ⟨w.heap.size, 0, none⟩ = some (.int .i64 5) ∧ W.cell? ⟨w.heap.size, 2, none⟩ = some (.int .i64 frm) ∧ W.cell? ⟨w.heap.size, 5, none⟩ = some (.int .i64 var) ∧ W.cell? ⟨w.heap.size, 6, none⟩ = some (.float .f64 x) ∧ W.cell? ⟨w.heap.size, 7, none⟩ = some (.int .u64 tag) ∧ Mod (fun _ => False) (w.alloc (.cells (#[.int .i64 5, .int .i64 p, .int .i64 frm, .int .u64 num, .int .u64 dst, .int .i64 var, .float .f64 x, .int .u64 tag, .int .i64 err]) 31)) W) (first | assumption | exact HSA.out _ _ (by assumption)) (first | (go_at_call 25; (with_reducible refine (C0.out _ (by assumption)).mono ?_); rintro e w0 ⟨rfl, hS⟩) | (go_at_call 37; (with_reducible refine (C1.out _ (by assumption)).mono ?_); rintro e w1 ⟨rfl, hS⟩) | (go_at_call 25; (with_reducible refine (C2.out _ (by assumption)).mono ?_); rintro e w2 ⟨rfl, hS⟩) | (go_at_call 34; (with_reducible refine (C3.out _ (by assumption)).mono ?_); rintro e w3 ⟨rfl, hS⟩))
  all_goals go_wp2
  all_goals go_ret
  all_goals exact ⟨_, rfl, RowOf.new _ _ _ _ _ rfl (by decide), (HMW.out _ (And.right (And.right (And.right (And.right (And.right (by assumption))))))).alloc _⟩
set_option maxRecDepth 100000 in
set_option maxHeartbeats 8000000 in
theorem words_6 (h0 : I64 err) (hT : Tab w) : Calls Tryd.prog 24 #[.agg (box9 6 p frm num dst var x tag err)] w (Worded w [⟨#[114, 101, 102, 117, 115, 101, 100]⟩, itoaS err]) := by
  have HT : Hid (∀ W, Mod (fun _ => False) (w.alloc (.cells (box9 6 p frm num dst var x tag err) 31)) W → Tab W) := fun W hW => (hT.mod ((Mod.refl _ _).alloc _) (fun h => h)).mod hW (fun h => h)
  have HMK : Hid (∀ W, Mod (fun _ => False) (w.alloc (.cells (#[.int .i64 6, .int .i64 p, .int .i64 frm, .int .u64 num, .int .u64 dst, .int .i64 var, .float .f64 x, .int .u64 tag, .int .i64 err]) 31)) W → (fun W => W.cell? ⟨w.heap.size, 0, none⟩ = some (.int .i64 6) ∧ W.cell? ⟨w.heap.size, 8, none⟩ = some (.int .i64 err) ∧ Mod (fun _ => False) (w.alloc (.cells (#[.int .i64 6, .int .i64 p, .int .i64 frm, .int .u64 num, .int .u64 dst, .int .i64 var, .float .f64 x, .int .u64 tag, .int .i64 err]) 31)) W) W) := fun W hW => by
    have hb := hW.blk (blk_new w (.cells (#[.int .i64 6, .int .i64 p, .int .i64 frm, .int .u64 num, .int .u64 dst, .int .i64 var, .float .f64 x, .int .u64 tag, .int .i64 err]) 31)) (fun h => h)
    exact ⟨(blk_cell hb 0).trans rfl, (blk_cell hb 8).trans rfl, hW⟩
  have C0 : Hid (∀ W, (fun W => W.cell? ⟨w.heap.size, 0, none⟩ = some (.int .i64 6) ∧ W.cell? ⟨w.heap.size, 8, none⟩ = some (.int .i64 err) ∧ Mod (fun _ => False) (w.alloc (.cells (#[.int .i64 6, .int .i64 p, .int .i64 frm, .int .u64 num, .int .u64 dst, .int .i64 var, .float .f64 x, .int .u64 tag, .int .i64 err]) 31)) W) W → Calls Tryd.prog 25 #[.int .i64 err] W fun e w' => e = .returned (.string (itoaS err)) ∧ (fun W => W.cell? ⟨w.heap.size, 0, none⟩ = some (.int .i64 6) ∧ W.cell? ⟨w.heap.size, 8, none⟩ = some (.int .i64 err) ∧ Mod (fun _ => False) (w.alloc (.cells (#[.int .i64 6, .int .i64 p, .int .i64 frm, .int .u64 num, .int .u64 dst, .int .i64 var, .float .f64 x, .int .u64 tag, .int .i64 err]) 31)) W) w') := fun W hS => by
    have hW : Mod (fun _ => False) (w.alloc (.cells (#[.int .i64 6, .int .i64 p, .int .i64 frm, .int .u64 num, .int .u64 dst, .int .i64 var, .float .f64 x, .int .u64 tag, .int .i64 err]) 31)) W := hS.2.2
    exact (itoa_any err h0.1 h0.2 W (HT.out W hW)).mono fun e w' ⟨he, hm⟩ => ⟨he, HMK.out w' (hW.trans hm)⟩
  have HSA : Hid (∀ W ob, (fun W => W.cell? ⟨w.heap.size, 0, none⟩ = some (.int .i64 6) ∧ W.cell? ⟨w.heap.size, 8, none⟩ = some (.int .i64 err) ∧ Mod (fun _ => False) (w.alloc (.cells (#[.int .i64 6, .int .i64 p, .int .i64 frm, .int .u64 num, .int .u64 dst, .int .i64 var, .float .f64 x, .int .u64 tag, .int .i64 err]) 31)) W) W → (fun W => W.cell? ⟨w.heap.size, 0, none⟩ = some (.int .i64 6) ∧ W.cell? ⟨w.heap.size, 8, none⟩ = some (.int .i64 err) ∧ Mod (fun _ => False) (w.alloc (.cells (#[.int .i64 6, .int .i64 p, .int .i64 frm, .int .u64 num, .int .u64 dst, .int .i64 var, .float .f64 x, .int .u64 tag, .int .i64 err]) 31)) W) (W.alloc ob)) := fun W ob hS => HMK.out _ ((show Mod (fun _ => False) (w.alloc (.cells (#[.int .i64 6, .int .i64 p, .int .i64 frm, .int .u64 num, .int .u64 dst, .int .i64 var, .float .f64 x, .int .u64 tag, .int .i64 err]) 31)) W from hS.2.2).alloc ob)
  generalize itoaS err = s0 at *
  have hS0 := HMK.out (w.alloc (.cells (#[.int .i64 6, .int .i64 p, .int .i64 frm, .int .u64 num, .int .u64 dst, .int .i64 var, .float .f64 x, .int .u64 tag, .int .i64 err]) 31)).drew (Mod.refl _ _).drew
  have hS1 := HMK.out (w.alloc (.cells (#[.int .i64 6, .int .i64 p, .int .i64 frm, .int .u64 num, .int .u64 dst, .int .i64 var, .float .f64 x, .int .u64 tag, .int .i64 err]) 31)) (Mod.refl _ _)
  have HMW : Hid (∀ W, Mod (fun _ => False) (w.alloc (.cells (#[.int .i64 6, .int .i64 p, .int .i64 frm, .int .u64 num, .int .u64 dst, .int .i64 var, .float .f64 x, .int .u64 tag, .int .i64 err]) 31)) W → Mod (fun _ => False) w W) := fun W hW => ((Mod.refl _ _).alloc _).trans hW
  clear hT HMK HT
  go_enter Tryd.func24, Tryd.ntmps24
  go_wp2_with fail
  refine (C0.out _ hS1).mono ?_
  rintro e w1 ⟨rfl, hS⟩
  have HM := Lib.hid (HMW.out _ (show Mod (fun _ => False) (w.alloc (.cells (#[.int .i64 6, .int .i64 p, .int .i64 frm, .int .u64 num, .int .u64 dst, .int .i64 var, .float .f64 x, .int .u64 tag, .int .i64 err]) 31)) w1 from hS.2.2))
  clear hS hS0 hS1
  go_wp2
  go_ret
  exact ⟨_, rfl, RowOf.new _ _ _ _ _ rfl (by decide), HM.out.alloc _⟩
set_option maxRecDepth 100000 in
theorem words_no (h1 : kind ≠ 1) (h2 : kind ≠ 2) (h3 : kind ≠ 3) (h4 : kind ≠ 4) (h5 : kind ≠ 5) (h6 : kind ≠ 6) : Calls Tryd.prog 24 #[.agg (box9 kind p frm num dst var x tag err)] w (fun e w' => e = .returned (.slice none 0 0) ∧ Mod (fun _ => False) w w') := by
  have t1 : (kind == 1) = false := beq_eq_false_iff_ne.2 h1
  have t2 : (kind == 2) = false := beq_eq_false_iff_ne.2 h2
  have t3 : (kind == 3) = false := beq_eq_false_iff_ne.2 h3
  have t4 : (kind == 4) = false := beq_eq_false_iff_ne.2 h4
  have t5 : (kind == 5) = false := beq_eq_false_iff_ne.2 h5
  have t6 : (kind == 6) = false := beq_eq_false_iff_ne.2 h6
  clear h1 h2 h3 h4 h5 h6
  go_enter Tryd.func24, Tryd.ntmps24
  go_wp2
  go_ret
  exact ⟨rfl, (Mod.refl _ _).alloc _⟩
end
end Go.Proofs.YtlklbdnlpljaiaaDoor
