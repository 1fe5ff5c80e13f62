/-
  Read, Tags.
-/
import Derived.Test.YtpdpnhikcmpcdaaCellE
namespace Go.Proofs.Ytpdpnhikcmpcdaa
open Go.RowKit Go.Shoal

def Vl.val (v : Vl) : Value := .agg #[.float .f64 v.x, .int .i64 v.writer, .int .u64 v.tag]
theorem CellAt.val {w : World} {B vb : Nat} {cv : Value} {s : Cl} (h : CellAt w B vb cv s) {k : Nat} {x : Vl} (hx : s.vals[k]? = some x) :
    w.cell? ⟨vb, k * 3, none⟩ = some (.float .f64 x.x) ∧ w.cell? ⟨vb, k * 3 + 1, none⟩ = some (.int .i64 x.writer) ∧ w.cell? ⟨vb, k * 3 + 2, none⟩ = some (.int .u64 x.tag) := by
  have hf := fun j hj => flat_cell (w := w) (g := vb) (o := 0) Vl.len h.vals (l := s.vals) (fun j _ => by rw [Nat.zero_add]; simp) hx j hj
  have h0 := hf 0 (by decide)
  have h1 := hf 1 (by decide)
  have h2 := hf 2 (by decide)
  rw [Nat.zero_add] at h0 h1 h2
  exact ⟨h0, h1, h2⟩
theorem three_cells {w : World} {z : Nat} {a b c : Value} {t : TypeId} (h : w.heap[z]? = some (.cells #[a, b, c] t (0, 0))) : w.cell? ⟨z, 0, none⟩ = some a ∧ w.cell? ⟨z, 1, none⟩ = some b ∧ w.cell? ⟨z, 2, none⟩ = some c := ⟨(blk_cell h 0).trans rfl, (blk_cell h 1).trans rfl, (blk_cell h 2).trans rfl⟩
theorem three_set {w : World} {z : Nat} {a b c x y u : Value} {t : TypeId} (h : w.heap[z]? = some (.cells #[a, b, c] t (0, 0))) : (((w.setCell ⟨z, 0, none⟩ x).setCell ⟨z, 1, none⟩ y).setCell ⟨z, 2, none⟩ u).heap[z]? = some (.cells #[x, y, u] t (0, 0)) := blk_set (blk_set (blk_set h 0 x) 1 y) 2 u
theorem mod_res {S : Nat → Prop} {w w1 : World} {o : Obj} (hm : Mod S (w.alloc o) w1) (x y u : Value) : Mod S w (((w1.setCell ⟨w.heap.size, 0, none⟩ x).setCell ⟨w.heap.size, 1, none⟩ y).setCell ⟨w.heap.size, 2, none⟩ u) := by
  have h0 : Mod S w w1 := ((Mod.refl S w).alloc o).trans hm
  exact ((h0.set (fun h => absurd h (Nat.lt_irrefl _)) x).set (fun h => absurd h (Nat.lt_irrefl _)) y).set (fun h => absurd h (Nat.lt_irrefl _)) u
theorem tags_any (B vb : Nat) (cv : Value) (s : Cl) (w : World) (h : CellAt w B vb cv s) :
    Calls Try.prog 18 #[.pointer (some ⟨B, 0, none⟩)] w fun e w' => e = .returned (.int .u64 s.tags) ∧ w = w' := by
  have hT := h.top
  unfold Cl.top at hT
  have c10 := (blk_cell hT 10).trans rfl
  clear hT h
  go_enter Try.func18, Try.ntmps18
  go_wp2
  go_ret
  exact ⟨rfl, rfl⟩
set_option maxHeartbeats 2000000 in
theorem read_no (B vb : Nat) (cv : Value) (s : Cl) (v e : Int) (w : World) (h : CellAt w B vb cv s) (hm : s.may v = e) (he : e ≠ 0) :
    Calls Try.prog 11 #[.pointer (some ⟨B, 0, none⟩), .int .i64 v] w (Told w (.tuple #[Vl.val ⟨0, 0, 0⟩, .int .i64 e])) := by
  have HM := Lib.hid (may_any B vb cv s v (w.alloc (.cells #[.float .f64 0, .int .i64 0, .int .u64 0] 35)) (h.same ((Mod.refl _ _).alloc _)))
  rw [hm] at HM
  have t1 : (e != 0) = true := by rw [bne_iff_ne]; exact he
  have hb := blk_new w (.cells #[.float .f64 0, .int .i64 0, .int .u64 0] 35)
  have HB := Lib.hid hb
  clear hm he h hb
  go_enter Try.func11, Try.ntmps11
  go_wp2_with fail
  refine HM.out.mono ?_
  rintro d w1 ⟨rfl, hm⟩
  have hb := hm.blk HB.out (fun x => x)
  obtain ⟨r0, r1, r2⟩ := three_cells hb
  have f0 := blk_frozen hb 0
  have f1 := blk_frozen hb 1
  have f2 := blk_frozen hb 2
  have HM1 := Lib.hid (mod_res hm (.float .f64 0) (.int .i64 0) (.int .u64 0))
  have HZ := Lib.hid (three_set (x := .float .f64 0) (y := .int .i64 0) (u := .int .u64 0) hb)
  clear hm HM HB hb
  go_wp2
  generalize (((w1.setCell ⟨w.heap.size, 0, none⟩ (.float .f64 0)).setCell ⟨w.heap.size, 1, none⟩ (.int .i64 0)).setCell ⟨w.heap.size, 2, none⟩ (.int .u64 0)) = W at *
  obtain ⟨z0, z1, z2⟩ := three_cells HZ.out
  refine bodyPost_ret (v := .tuple #[.agg #[.float .f64 0, .int .i64 0, .int .u64 0], .int .i64 e]) (by simp [results, Try.results11, go_sem, z0, z1, z2]) rfl ⟨rfl, HM1.out⟩
set_option maxHeartbeats 2000000 in
theorem read_yes (B vb : Nat) (cv : Value) (s : Cl) (k : Nat) (x : Vl) (w : World) (h : CellAt w B vb cv s) (hm : s.may k = 0) (hx : s.vals[k]? = some x) :
    Calls Try.prog 11 #[.pointer (some ⟨B, 0, none⟩), .int .i64 k] w (Told w (.tuple #[x.val, .int .i64 0])) := by
  have hA := h.same (w' := w.alloc (.cells #[.float .f64 0, .int .i64 0, .int .u64 0] 35)) ((Mod.refl _ _).alloc _)
  have HM := Lib.hid (may_any B vb cv s k _ hA)
  have HA := Lib.hid hA
  rw [hm] at HM
  have hb := blk_new w (.cells #[.float .f64 0, .int .i64 0, .int .u64 0] 35)
  have HB := Lib.hid hb
  have hk0 : (0 : Int) ≤ (k : Int) := by omega
  have hk : k < s.vals.length := (List.getElem?_eq_some_iff.1 hx).1
  have hk1 : (k : Int) < (s.vals.length : Int) := by omega
  have hl := h.l16
  have HX := Lib.hid hx
  unfold Vl.val
  clear hm h hb hA hx
  go_enter Try.func11, Try.ntmps11
  go_wp2_with fail
  refine HM.out.mono ?_
  rintro d w1 ⟨rfl, hm⟩
  have hb := hm.blk HB.out (fun x => x)
  obtain ⟨r0, r1, r2⟩ := three_cells hb
  have hC := HA.out.same hm
  have hT := hC.top
  unfold Cl.top at hT
  have c9 := (blk_cell hT 9).trans rfl
  obtain ⟨v0, v1, v2⟩ := hC.val HX.out
  have f0 := blk_frozen hb 0
  have f1 := blk_frozen hb 1
  have f2 := blk_frozen hb 2
  have HM1 := Lib.hid (mod_res hm (.float .f64 x.x) (.int .i64 x.writer) (.int .u64 x.tag))
  have HZ := Lib.hid (three_set (x := .float .f64 x.x) (y := .int .i64 x.writer) (u := .int .u64 x.tag) hb)
  clear hm HM HB hb hT hC HA HX
  go_wp2
  generalize (((w1.setCell ⟨w.heap.size, 0, none⟩ (.float .f64 x.x)).setCell ⟨w.heap.size, 1, none⟩ (.int .i64 x.writer)).setCell ⟨w.heap.size, 2, none⟩ (.int .u64 x.tag)) = W at *
  obtain ⟨z0, z1, z2⟩ := three_cells HZ.out
  refine bodyPost_ret (v := .tuple #[.agg #[.float .f64 x.x, .int .i64 x.writer, .int .u64 x.tag], .int .i64 0]) (by simp [results, Try.results11, go_sem, z0, z1, z2]) rfl ⟨rfl, HM1.out⟩
end Go.Proofs.Ytpdpnhikcmpcdaa
