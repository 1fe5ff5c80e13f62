/-
  Apply.
-/
import Derived.Test.YtpdpnhikcmpcdaaCellG
namespace Go.Proofs.Ytpdpnhikcmpcdaa
open Go.RowKit Go.Shoal

theorem apply_no (B vb : Nat) (cv : Value) (s : Cl) (v e : Int) (x : Vl) (w : World) (h : CellAt w B vb cv s) (hm : s.may v = e) (he : e ≠ 0) :
    Calls Try.prog 14 #[.pointer (some ⟨B, 0, none⟩), .int .i64 v, x.val] w (Told w (.int .i64 e)) := by
  have HM := Lib.hid (may_any B vb cv s v (w.alloc (.cells #[.float .f64 x.x, .int .i64 x.writer, .int .u64 x.tag] 35)) (h.same ((Mod.refl _ _).alloc _)))
  rw [hm] at HM
  have t1 : (e != 0) = true := by rw [bne_iff_ne]; exact he
  unfold Vl.val
  clear hm he h
  go_enter Try.func14, Try.ntmps14
  go_wp2_with fail
  refine HM.out.mono ?_
  rintro d w1 ⟨rfl, hm⟩
  have HM1 : Hid (Mod (fun _ => False) w w1) := ((Mod.refl _ w).alloc _).trans hm
  clear hm HM
  go_wp2
  go_ret
  exact ⟨rfl, HM1.out⟩
/-- What may be taken over. -/
def Cl.takes (s : Cl) (x : Vl) : Prop := 0 ≤ x.writer ∧ x.writer < s.c.n ∧ x.writer ≠ s.me ∧ x.tag ≠ 0
theorem CellAt.n {w : World} {B vb : Nat} {cv : Value} {s : Cl} (h : CellAt w B vb cv s) : w.cell? ⟨B, 0, Option.none⟩ = some (.int .i64 s.c.n) := by
  have hT := h.top
  unfold Cl.top at hT
  exact (blk_cell hT 0).trans rfl
set_option maxHeartbeats 2000000 in
theorem apply_bad (B vb : Nat) (cv : Value) (s : Cl) (v : Int) (x : Vl) (w : World) (h : CellAt w B vb cv s) (hm : s.may v = 0) (hx : ¬ s.takes x) :
    Calls Try.prog 14 #[.pointer (some ⟨B, 0, none⟩), .int .i64 v, x.val] w (Told w (.int .i64 1)) := by
  have hA := h.same (w' := w.alloc (.cells #[.float .f64 x.x, .int .i64 x.writer, .int .u64 x.tag] 35)) ((Mod.refl _ _).alloc _)
  have HM := Lib.hid (may_any B vb cv s v _ hA)
  have HA := Lib.hid hA
  rw [hm] at HM
  have hb := blk_new w (.cells #[.float .f64 x.x, .int .i64 x.writer, .int .u64 x.tag] 35)
  have HB := Lib.hid hb
  have HX := Lib.hid hx
  unfold Vl.val
  clear hm h hA hb hx
  go_enter Try.func14, Try.ntmps14
  go_wp2_with fail
  refine HM.out.mono ?_
  rintro d w1 ⟨rfl, hm⟩
  have HM1 : Hid (Mod (fun _ => False) w w1) := ((Mod.refl _ w).alloc _).trans hm
  have hC := HA.out.same hm
  have c0 := hC.n
  obtain ⟨c8, c9, c10⟩ := hC.cells
  obtain ⟨b0, b1, b2⟩ := three_cells (hm.blk HB.out (fun x => x))
  clear hm HM HB HA hC
  go_wp2
  by_cases h1 : x.writer < 0
  · have t1 : decide (x.writer < 0) = true := decide_eq_true h1
    go_quiet (fail)
    go_wp2
    go_ret
    exact ⟨rfl, HM1.out.drewN _⟩
  by_cases h2 : s.c.n ≤ x.writer
  · have t1 : decide (x.writer < 0) = false := decide_eq_false h1
    have t2 : decide (s.c.n ≤ x.writer) = true := decide_eq_true h2
    go_quiet (fail)
    go_wp2
    go_ret
    exact ⟨rfl, HM1.out.drewN _⟩
  by_cases h3 : x.writer = s.me
  · have t1 : decide (x.writer < 0) = false := decide_eq_false h1
    have t2 : decide (s.c.n ≤ x.writer) = false := decide_eq_false h2
    have t3 : (x.writer == s.me) = true := beq_iff_eq.2 h3
    clear h3
    go_quiet (fail)
    go_wp2
    go_ret
    exact ⟨rfl, HM1.out.drewN _⟩
  have h4 : x.tag = 0 := by
    rcases Nat.eq_zero_or_pos x.tag with h | h
    · exact h
    · exact absurd ⟨by omega, by omega, h3, by omega⟩ HX.out
  have t1 : decide (x.writer < 0) = false := decide_eq_false h1
  have t2 : decide (s.c.n ≤ x.writer) = false := decide_eq_false h2
  have t3 : (x.writer == s.me) = false := beq_eq_false_iff_ne.2 h3
  have t4 : ((x.tag : Int) == 0) = true := by rw [beq_iff_eq]; omega
  clear h4 h3
  go_quiet (fail)
  go_wp2
  go_ret
  exact ⟨rfl, HM1.out.drewN _⟩
def Cl.took (s : Cl) (k : Nat) (x : Vl) : Cl := { s with vals := s.vals.set k ⟨plainW x.x, x.writer, x.tag⟩ }
set_option maxHeartbeats 4000000 in
theorem apply_yes (B vb : Nat) (cv : Value) (s : Cl) (k : Nat) (x : Vl) (w : World) (h : CellAt w B vb cv s) (hm : s.may k = 0) (hk : k < s.vals.length) (hx : s.takes x) :
    Calls Try.prog 14 #[.pointer (some ⟨B, 0, none⟩), .int .i64 k, x.val] w (Wrote w B vb cv (s.took k x) (.int .i64 0)) := by
  have hA := h.same (w' := w.alloc (.cells #[.float .f64 x.x, .int .i64 x.writer, .int .u64 x.tag] 35)) ((Mod.refl _ _).alloc _)
  have HM := Lib.hid (may_any B vb cv s k _ hA)
  have HA := Lib.hid hA
  rw [hm] at HM
  have hb := blk_new w (.cells #[.float .f64 x.x, .int .i64 x.writer, .int .u64 x.tag] 35)
  have HB := Lib.hid hb
  have HP := Lib.hid (plain_any' x.x)
  obtain ⟨x1, x2, x3, x4⟩ := hx
  have t1 : decide (x.writer < 0) = false := decide_eq_false (by omega)
  have t2 : decide (s.c.n ≤ x.writer) = false := decide_eq_false (by omega)
  have t3 : (x.writer == s.me) = false := beq_eq_false_iff_ne.2 x3
  have t4 : ((x.tag : Int) == 0) = false := by rw [beq_eq_false_iff_ne]; omega
  have hBz := blk_lt h.top
  have hvz := blk_lt h.vals
  have HOZ : Hid (∀ q, cv.ownBlock = some q → q < w.heap.size) := fun q hq => h.sets.lt hq
  have hk0 : (0 : Int) ≤ (k : Int) := by omega
  have hk1 : (k : Int) < (s.vals.length : Int) := by omega
  have hl := h.l16
  obtain ⟨y, hy⟩ : ∃ y, s.vals[k]? = some y := ⟨_, List.getElem?_eq_getElem hk⟩
  have HY := Lib.hid hy
  unfold Vl.val
  clear hm h hb hA hy x1 x2 x3 x4
  go_enter Try.func14, Try.ntmps14
  go_wp2_with fail
  refine HM.out.mono ?_
  rintro d w1 ⟨rfl, hm⟩
  have HM1 : Hid (Mod (fun i => i = B ∨ i = vb) w w1) := ((Mod.refl _ w).alloc _).trans (hm.mono fun _ _ x => x.elim)
  have hC := HA.out.same hm
  have HC := Lib.hid hC
  have c0 := hC.n
  obtain ⟨c8, c9, c10⟩ := hC.cells
  have hb := hm.blk HB.out (fun x => x)
  have HB1 := Lib.hid hb
  obtain ⟨b0, b1, b2⟩ := three_cells hb
  clear hm HM HB HA hC hb
  go_wp2
  go_quiet (fail)
  have HC2 : Hid (CellAt (w1.drewN nq) B vb cv s) := HC.out.same ((Mod.refl _ _).drewN nq)
  have HB2 : Hid ((w1.drewN nq).heap[w.heap.size]? = some (.cells #[.float .f64 x.x, .int .i64 x.writer, .int .u64 x.tag] 35 (0, 0))) := HB1.out
  have HM2 : Hid (Mod (fun i => i = B ∨ i = vb) w (w1.drewN nq)) := HM1.out.drewN nq
  clear c0 c8 c9 c10 b0 b1 b2 HC HB1 HM1
  generalize w1.drewN nq = u at *
  obtain ⟨b0, b1, b2⟩ := three_cells HB2.out
  have f0 := blk_frozen HB2.out 0
  have HB3 : Hid ((u.setCell ⟨w.heap.size, 0, none⟩ (.float .f64 (plainW x.x))).heap[w.heap.size]? = some (.cells #[.float .f64 (plainW x.x), .int .i64 x.writer, .int .u64 x.tag] 35 (0, 0))) := (blk_set HB2.out 0 _).trans rfl
  have hm3 : Mod (· = w.heap.size) u (u.setCell ⟨w.heap.size, 0, none⟩ (.float .f64 (plainW x.x))) := (Mod.refl (· = w.heap.size) u).set (p := ⟨w.heap.size, 0, none⟩) (fun _ => rfl) _
  have HC3 := Lib.hid (HC2.out.mod hm3 (by omega) (by omega) (fun q hq => by have := HOZ.out q hq; omega))
  have HM3 : Hid (Mod (fun i => i = B ∨ i = vb) w (u.setCell ⟨w.heap.size, 0, none⟩ (.float .f64 (plainW x.x)))) := HM2.out.trans' hm3 (fun i hi e => by omega)
  clear hm3
  go_wp2_with fail
  refine (HP.out _).mono ?_
  rintro d w2 ⟨rfl, rfl⟩
  clear HP HB2 HC2 HM2
  go_wp2_with fail
  generalize u.setCell ⟨w.heap.size, 0, none⟩ (.float .f64 (plainW x.x)) = u3 at *
  clear b0 b1 b2 f0
  obtain ⟨b0, b1, b2⟩ := three_cells HB3.out
  obtain ⟨c8, c9, c10⟩ := HC3.out.cells
  obtain ⟨v0, v1, v2⟩ := CellAt.val HC3.out HY.out
  have g0 := blk_frozen HC3.out.vals (k * 3)
  have g1 := blk_frozen HC3.out.vals (k * 3 + 1)
  have g2 := blk_frozen HC3.out.vals (k * 3 + 2)
  have HC5 := Lib.hid (CellAt.setVal (w := u3.drew) (HC3.out.same ((Mod.refl _ u3).drew)) (k := k) hk ⟨plainW x.x, x.writer, x.tag⟩)
  have HM5 : Hid (Mod (fun i => i = B ∨ i = vb) w (((u3.drew.setCell ⟨vb, k * 3, none⟩ (.float .f64 (plainW x.x))).setCell ⟨vb, k * 3 + 1, none⟩ (.int .i64 x.writer)).setCell ⟨vb, k * 3 + 2, none⟩ (.int .u64 x.tag))) :=
    ((HM3.out.drew.set (p := ⟨vb, k * 3, none⟩) (fun _ => .inr rfl) _).set (p := ⟨vb, k * 3 + 1, none⟩) (fun _ => .inr rfl) _).set (p := ⟨vb, k * 3 + 2, none⟩) (fun _ => .inr rfl) _
  go_still_tail 7, (by kernel_rfl)
  change wpList _ _ _ _ _ u3.drew
  go_wp2
  go_ret
  exact ⟨rfl, HC5.out, HM5.out⟩
end Go.Proofs.Ytpdpnhikcmpcdaa
