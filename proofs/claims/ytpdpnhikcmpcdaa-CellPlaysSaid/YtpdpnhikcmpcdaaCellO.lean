/-
  The reference's cell: NewCell, may, Read.
-/
import Derived.Test.YtpdpnhikcmpcdaaCellN
namespace Go.Proofs.Ytpdpnhikcmpcdaa
open Go.RowKit Go.Shoal

theorem Try.infoRVal : (Try.prog.info? 45).map (fun i => (i.zero, i.size, i.bytes)) = some (some (.agg #[.float .f64 0, .int .i64 0, .int .u64 0]), 3, 24) := by kernel_rfl
def Cl.rtop (s : Cl) (cv vv : Value) : Array Value :=
  #[.int .i64 s.c.n, cv, .int .i64 s.c.window, .int .i64 s.c.queue, .int .i64 s.c.first, .int .i64 s.c.most, .int .i64 s.c.body, .int .i64 s.c.engine, .int .i64 s.me, vv, .int .u64 s.tags]
structure RAt (w : World) (RB : Nat) (cv vv : Value) (s : Cl) : Prop where
  top : w.heap[RB]? = some (.cells (s.rtop cv vv) 64 (0, 0))
  vals : RowOf w 45 3 vv s.vals.length (s.vals.flatMap Vl.cells)
  sets : RowOf w 33 1 cv s.c.vars.length (setCellsV s.c.vars)
  len : s.vals.length = s.c.vars.length
  l16 : s.vals.length ≤ 16
  bits : ∀ t ∈ s.c.vars, t < 18446744073709551616
theorem RAt.mod {S : Nat → Prop} {w w' : World} {RB : Nat} {cv vv : Value} {s : Cl} (h : RAt w RB cv vv s) (hm : Mod S w w') (h1 : ¬ S RB) (h2 : ∀ q, vv.ownBlock = some q → ¬ S q) (h3 : ∀ q, cv.ownBlock = some q → ¬ S q) : RAt w' RB cv vv s :=
  ⟨hm.blk h.top h1, h.vals.mod hm h2, h.sets.mod hm h3, h.len, h.l16, h.bits⟩
theorem RAt.same {w w' : World} {RB : Nat} {cv vv : Value} {s : Cl} (h : RAt w RB cv vv s) (hm : Mod (fun _ => False) w w') : RAt w' RB cv vv s := h.mod hm (fun x => x) (fun _ _ x => x) (fun _ _ x => x)
theorem RAt.own_ne {w : World} {RB : Nat} {cv vv : Value} {s : Cl} (h : RAt w RB cv vv s) : (∀ q, vv.ownBlock = some q → q ≠ RB) ∧ (∀ q, cv.ownBlock = some q → q ≠ RB) :=
  ⟨fun q hq => by obtain ⟨cur, hc⟩ := h.vals.block hq; exact blk_ne hc h.top (by decide), fun q hq => by obtain ⟨cur, hc⟩ := h.sets.block hq; exact blk_ne hc h.top (by decide)⟩
theorem RAt.cells {w : World} {RB : Nat} {cv vv : Value} {s : Cl} (h : RAt w RB cv vv s) :
    w.cell? ⟨RB, 0, none⟩ = some (.int .i64 s.c.n) ∧ w.cell? ⟨RB, 1, none⟩ = some cv ∧ w.cell? ⟨RB, 8, none⟩ = some (.int .i64 s.me) ∧ w.cell? ⟨RB, 9, none⟩ = some vv ∧ w.cell? ⟨RB, 10, none⟩ = some (.int .u64 s.tags) := by
  have hT := h.top
  unfold Cl.rtop at hT
  exact ⟨(blk_cell hT 0).trans rfl, (blk_cell hT 1).trans rfl, (blk_cell hT 8).trans rfl, (blk_cell hT 9).trans rfl, (blk_cell hT 10).trans rfl⟩
/-- The cells of one variable. -/
theorem RAt.val {w : World} {RB b o c : Nat} {cv : Value} {s : Cl} (h : RAt w RB cv (.slice (some ⟨b, o, none⟩) s.vals.length c) s) {k : Nat} {x : Vl} (hx : s.vals[k]? = some x) :
    w.cell? ⟨b, o + k * 3, none⟩ = some (.float .f64 x.x) ∧ w.cell? ⟨b, o + k * 3 + 1, none⟩ = some (.int .i64 x.writer) ∧ w.cell? ⟨b, o + k * 3 + 2, none⟩ = some (.int .u64 x.tag) := by
  have hk := (List.getElem?_eq_some_iff.1 hx).1
  have hf := fun j (hj : j < 3) => flat_at Vl.len s.vals k j x hx hj
  have hc := fun j (hj : j < 3) => (RowOf.cell h.vals (k * 3 + j) (by omega)).trans (hf j hj)
  have h0 := hc 0 (by decide)
  have h1 := hc 1 (by decide)
  have h2 := hc 2 (by decide)
  rw [← Nat.add_assoc] at h1 h2
  exact ⟨h0, h1, h2⟩
def Cl.rmay (s : Cl) (v : Int) : Int := if v < 0 ∨ (s.vals.length : Int) ≤ v then 1 else if inSet (s.c.vars.getD v.toNat 0) s.me then 0 else 6
theorem may_eq {s : Cl} (hg : s.c.good = true) (hl : s.vals.length = s.c.vars.length) (v : Int) : s.may v = s.rmay v := by
  unfold Cl.may Cl.rmay
  by_cases h : v < 0 ∨ (s.vals.length : Int) ≤ v
  · rw [if_pos h, if_pos h]
  · rw [if_neg h, if_neg h]
    have hin : inB v 0 ((s.c.vars.length : Int) - 1) = true := (inB_iff _ _ _).2 (by omega)
    unfold Cf.keeps
    rw [hg, hin, Bool.true_and, Bool.true_and]
theorem setCells_get {l : List Nat} {k : Nat} (hk : k < l.length) : (setCellsV l)[k]? = some (.int .u64 ((l.getD k 0 : Nat) : Int)) := by
  unfold setCellsV
  rw [List.getElem?_map, List.getD_eq_getElem?_getD, List.getElem?_eq_getElem hk]
  rfl
set_option maxHeartbeats 2000000 in
theorem rmay_any (RB : Nat) (cv vv : Value) (s : Cl) (v : Int) (w : World) (h : RAt w RB cv vv s) :
    Calls Try.prog 35 #[.pointer (some ⟨RB, 0, none⟩), .int .i64 v] w (Told w (.int .i64 (s.rmay v))) := by
  obtain ⟨A, c, rfl⟩ := h.vals.form
  obtain ⟨c0, c1, c8, c9, c10⟩ := h.cells
  have hl := h.l16
  by_cases h1 : v < 0
  · have HE : Hid (s.rmay v = 1) := by show _ = _; unfold Cl.rmay; rw [if_pos (.inl h1)]
    have t1 : decide (v < 0) = true := decide_eq_true h1
    clear h
    go_enter Try.func35, Try.ntmps35
    go_wp2
    go_ret
    exact ⟨by rw [HE.out]; rfl, Mod.refl _ _⟩
  by_cases h2 : (s.vals.length : Int) ≤ v
  · have HE : Hid (s.rmay v = 1) := by show _ = _; unfold Cl.rmay; rw [if_pos (.inr h2)]
    have t1 : decide (v < 0) = false := decide_eq_false h1
    have t2 : decide ((s.vals.length : Int) ≤ v) = true := decide_eq_true h2
    clear h
    go_enter Try.func35, Try.ntmps35
    go_wp2
    go_ret
    exact ⟨by rw [HE.out]; rfl, Mod.refl _ _⟩
  obtain ⟨k, rfl⟩ := Int.eq_ofNat_of_zero_le (show 0 ≤ v by omega)
  have hk : k < s.c.vars.length := by have := h.len; omega
  have HE : Hid (s.rmay k = if inSet (s.c.vars.getD k 0) s.me then 0 else 6) := by show _ = _; unfold Cl.rmay; rw [if_neg (by omega)]; rfl
  have t1 : decide ((k : Int) < 0) = false := decide_eq_false h1
  have t2 : decide ((s.vals.length : Int) ≤ (k : Int)) = false := decide_eq_false h2
  have t2n : decide (s.vals.length ≤ k) = false := decide_eq_false (by omega)
  obtain ⟨b, o, cap, cur, rfl, _⟩ := h.sets.at (by omega)
  have ck : w.cell? ⟨b, o + k, none⟩ = some (.int .u64 ((s.c.vars.getD k 0 : Nat) : Int)) := (RowOf.cell h.sets k (by omega)).trans (setCells_get hk)
  have HI := Lib.hid (rin_any (s.c.vars.getD k 0) s.me w.drew (by
    rw [List.getD_eq_getElem?_getD, List.getElem?_eq_getElem hk]
    exact h.bits _ (List.getElem_mem hk)))
  have hi0 : (0 : Int) ≤ (k : Int) := by omega
  have hi1 : (k : Int) < (s.c.vars.length : Int) := by omega
  generalize s.c.vars.getD k 0 = t at *
  generalize s.c.vars.length = m at *
  clear h hl h1 h2
  cases hin : inSet t s.me
  all_goals
    rw [hin] at HI HE
    go_enter Try.func35, Try.ntmps35
    go_wp2
    go_still_tail 12, (by kernel_rfl)
    change wpList _ _ _ _ _ w.drew
    go_wp2_with fail
    refine HI.out.mono ?_
    rintro e w1 ⟨rfl, rfl⟩
    go_wp2
    go_ret
    exact ⟨by rw [HE.out]; rfl, (Mod.refl _ w).drew⟩
set_option maxHeartbeats 2000000 in
theorem rread_no (RB : Nat) (cv vv : Value) (s : Cl) (v e : Int) (w : World) (h : RAt w RB cv vv s) (hm : s.rmay v = e) (he : e ≠ 0) :
    Calls Try.prog 24 #[.pointer (some ⟨RB, 0, none⟩), .int .i64 v] w (Told w (.tuple #[Vl.val ⟨0, 0, 0⟩, .int .i64 e])) := by
  have HM := Lib.hid (rmay_any RB cv vv s v (w.alloc (.cells #[.float .f64 0, .int .i64 0, .int .u64 0] 45)) (h.same ((Mod.refl _ _).alloc _)))
  rw [hm] at HM
  have t1 : (e != 0) = true := by rw [bne_iff_ne]; exact he
  have hb := blk_new w (.cells #[.float .f64 0, .int .i64 0, .int .u64 0] 45)
  have HB := Lib.hid hb
  clear hm he h hb
  go_enter Try.func24, Try.ntmps24
  go_wp2_with fail
  refine HM.out.mono ?_
  rintro d w1 ⟨rfl, hm⟩
  have hb := hm.blk HB.out (fun x => x)
  obtain ⟨r0, r1, r2⟩ := three_cells hb
  have f0 := blk_frozen hb 0
  have f1 := blk_frozen hb 1
  have f2 := blk_frozen hb 2
  have HM1 := Lib.hid (mod_res hm (.float .f64 0) (.int .i64 0) (.int .u64 0))
  have HZ := Lib.hid (three_set (x := .float .f64 0) (y := .int .i64 0) (u := .int .u64 0) hb)
  clear hm HM HB hb
  go_wp2
  generalize (((w1.setCell ⟨w.heap.size, 0, none⟩ (.float .f64 0)).setCell ⟨w.heap.size, 1, none⟩ (.int .i64 0)).setCell ⟨w.heap.size, 2, none⟩ (.int .u64 0)) = W at *
  obtain ⟨z0, z1, z2⟩ := three_cells HZ.out
  refine bodyPost_ret (v := .tuple #[.agg #[.float .f64 0, .int .i64 0, .int .u64 0], .int .i64 e]) (by simp [results, Try.results24, go_sem, z0, z1, z2]) rfl ⟨rfl, HM1.out⟩
set_option maxHeartbeats 2000000 in
theorem rread_yes (RB : Nat) (cv vv : Value) (s : Cl) (k : Nat) (x : Vl) (w : World) (h : RAt w RB cv vv s) (hm : s.rmay k = 0) (hx : s.vals[k]? = some x) :
    Calls Try.prog 24 #[.pointer (some ⟨RB, 0, none⟩), .int .i64 k] w (Told w (.tuple #[x.val, .int .i64 0])) := by
  have hk : k < s.vals.length := (List.getElem?_eq_some_iff.1 hx).1
  obtain ⟨b, o, cap, cur, rfl, _⟩ := h.vals.at (by omega)
  have hA := h.same (w' := w.alloc (.cells #[.float .f64 0, .int .i64 0, .int .u64 0] 45)) ((Mod.refl _ _).alloc _)
  have HM := Lib.hid (rmay_any RB cv _ s k _ hA)
  have HA := Lib.hid hA
  rw [hm] at HM
  have hb := blk_new w (.cells #[.float .f64 0, .int .i64 0, .int .u64 0] 45)
  have HB := Lib.hid hb
  have hk0 : (0 : Int) ≤ (k : Int) := by omega
  have hk1 : (k : Int) < (s.vals.length : Int) := by omega
  have hl := h.l16
  have HX := Lib.hid hx
  unfold Vl.val
  clear hm h hb hA hx
  go_enter Try.func24, Try.ntmps24
  go_wp2_with fail
  refine HM.out.mono ?_
  rintro d w1 ⟨rfl, hm⟩
  have hb := hm.blk HB.out (fun x => x)
  obtain ⟨r0, r1, r2⟩ := three_cells hb
  have hC := HA.out.same hm
  obtain ⟨_, _, _, c9, _⟩ := hC.cells
  obtain ⟨v0, v1, v2⟩ := hC.val HX.out
  have f0 := blk_frozen hb 0
  have f1 := blk_frozen hb 1
  have f2 := blk_frozen hb 2
  have HM1 := Lib.hid (mod_res hm (.float .f64 x.x) (.int .i64 x.writer) (.int .u64 x.tag))
  have HZ := Lib.hid (three_set (x := .float .f64 x.x) (y := .int .i64 x.writer) (u := .int .u64 x.tag) hb)
  clear hm HM HB hb hC HA HX
  go_wp2
  generalize (((w1.setCell ⟨w.heap.size, 0, none⟩ (.float .f64 x.x)).setCell ⟨w.heap.size, 1, none⟩ (.int .i64 x.writer)).setCell ⟨w.heap.size, 2, none⟩ (.int .u64 x.tag)) = W at *
  obtain ⟨z0, z1, z2⟩ := three_cells HZ.out
  refine bodyPost_ret (v := .tuple #[.agg #[.float .f64 x.x, .int .i64 x.writer, .int .u64 x.tag], .int .i64 0]) (by simp [results, Try.results24, go_sem, z0, z1, z2]) rfl ⟨rfl, HM1.out⟩
end Go.Proofs.Ytpdpnhikcmpcdaa
