/-
  cell.New.
-/
import Derived.Test.YtpdpnhikcmpcdaaCellD
namespace Go.Proofs.Ytpdpnhikcmpcdaa
open Go.RowKit Go.Shoal

theorem new_no (c : Cf) (v : Value) (me : Int) (w : World) (h : SetsIn w v c.vars) (hn : ¬ (c.good = true ∧ 0 ≤ me ∧ me < c.n)) :
    Calls Try.prog 8 #[c.val v, .int .i64 me] w (Told w (.tuple #[.pointer none, .int .i64 1])) := by
  have HG := Lib.hid (good_any c v (w.alloc (.cells (c.cells v) 30)) (h.mod (S := fun _ => False) ((Mod.refl _ _).alloc _) (fun _ _ x => x)))
  unfold Cf.val Cf.cells at HG
  unfold Cf.val Cf.cells
  have hb : (w.alloc (.cells #[.int .i64 c.n, v, .int .i64 c.window, .int .i64 c.queue, .int .i64 c.first, .int .i64 c.most, .int .i64 c.body, .int .i64 c.engine] 30)).heap[w.heap.size]? = some (.cells #[.int .i64 c.n, v, .int .i64 c.window, .int .i64 c.queue, .int .i64 c.first, .int .i64 c.most, .int .i64 c.body, .int .i64 c.engine] 30 (0, 0)) := blk_new w _
  have HB := Lib.hid hb
  clear hb h
  cases hg : c.good
  · rw [hg] at HG
    clear hn
    go_enter Try.func8, Try.ntmps8
    go_wp2_with fail
    refine HG.out.mono ?_
    rintro e w1 ⟨rfl, hm⟩
    have HM : Hid (Mod (fun _ => False) w w1) := ((Mod.refl _ w).alloc _).trans hm
    clear hm HG HB
    go_wp2
    go_ret2
    exact ⟨rfl, HM.out⟩
  rw [hg] at HG
  by_cases h1 : me < 0
  · have t1 : decide (me < 0) = true := decide_eq_true h1
    clear hn
    go_enter Try.func8, Try.ntmps8
    go_wp2_with fail
    refine HG.out.mono ?_
    rintro e w1 ⟨rfl, hm⟩
    have HM : Hid (Mod (fun _ => False) w w1) := ((Mod.refl _ w).alloc _).trans hm
    clear hm HG HB
    go_wp2
    go_ret2
    exact ⟨rfl, HM.out⟩
  have h2 : c.n ≤ me := by
    rcases Int.lt_or_le me c.n with h | h
    · exact absurd ⟨hg, by omega, h⟩ hn
    · exact h
  have t1 : decide (me < 0) = false := decide_eq_false h1
  have t2 : decide (c.n ≤ me) = true := decide_eq_true h2
  clear hn
  go_enter Try.func8, Try.ntmps8
  go_wp2_with fail
  refine HG.out.mono ?_
  rintro e w1 ⟨rfl, hm⟩
  have HM : Hid (Mod (fun _ => False) w w1) := ((Mod.refl _ w).alloc _).trans hm
  have c0 := (blk_cell (hm.blk HB.out (fun x => x)) 0).trans rfl
  clear hm HG HB
  go_wp2
  go_ret2
  exact ⟨rfl, HM.out⟩
/-- A new cell. -/
def Cl.new (c : Cf) (me : Int) : Cl := ⟨c, me, List.replicate c.vars.length vl0, 0⟩
/-- It lies somewhere at or past base. -/
def NewIs (w : World) (s : Cl) (e : Ending) (w' : World) : Prop :=
  ∃ B vb cv, e = .returned (.tuple #[.pointer (some ⟨B, 0, none⟩), .int .i64 0]) ∧ CellAt w' B vb cv s ∧ w.heap.size ≤ B ∧ w.heap.size ≤ vb ∧ (∀ q, cv.ownBlock = some q → w.heap.size ≤ q) ∧ Mod (fun _ => False) w w'
def CfCells (w : World) (b : Nat) (c : Cf) (v : Value) : Prop :=
  w.cell? ⟨b, 0, none⟩ = some (.int .i64 c.n) ∧ w.cell? ⟨b, 1, none⟩ = some v ∧ w.cell? ⟨b, 2, none⟩ = some (.int .i64 c.window) ∧ w.cell? ⟨b, 3, none⟩ = some (.int .i64 c.queue) ∧ w.cell? ⟨b, 4, none⟩ = some (.int .i64 c.first) ∧ w.cell? ⟨b, 5, none⟩ = some (.int .i64 c.most) ∧ w.cell? ⟨b, 6, none⟩ = some (.int .i64 c.body) ∧ w.cell? ⟨b, 7, none⟩ = some (.int .i64 c.engine)
theorem cf_cells {w : World} {b t : Nat} {n q wi f m bo en : Int} {v : Value} (h : w.heap[b]? = some (.cells #[.int .i64 n, v, .int .i64 wi, .int .i64 q, .int .i64 f, .int .i64 m, .int .i64 bo, .int .i64 en] t (0, 0))) :
    w.cell? ⟨b, 0, none⟩ = some (.int .i64 n) ∧ w.cell? ⟨b, 1, none⟩ = some v ∧ w.cell? ⟨b, 2, none⟩ = some (.int .i64 wi) ∧ w.cell? ⟨b, 3, none⟩ = some (.int .i64 q) ∧ w.cell? ⟨b, 4, none⟩ = some (.int .i64 f) ∧ w.cell? ⟨b, 5, none⟩ = some (.int .i64 m) ∧ w.cell? ⟨b, 6, none⟩ = some (.int .i64 bo) ∧ w.cell? ⟨b, 7, none⟩ = some (.int .i64 en) :=
  ⟨(blk_cell h 0).trans rfl, (blk_cell h 1).trans rfl, (blk_cell h 2).trans rfl, (blk_cell h 3).trans rfl, (blk_cell h 4).trans rfl, (blk_cell h 5).trans rfl, (blk_cell h 6).trans rfl, (blk_cell h 7).trans rfl⟩
set_option maxHeartbeats 4000000 in
theorem new_yes (c : Cf) (v : Value) (me : Int) (w : World) (h : SetsIn w v c.vars) (hg : c.good = true) (h1 : 0 ≤ me) (h2 : me < c.n) :
    Calls Try.prog 8 #[c.val v, .int .i64 me] w (NewIs w (Cl.new c me)) := by
  have hS1 := h.mod (S := fun _ => False) (w' := w.alloc (.cells (c.cells v) 30)) ((Mod.refl _ _).alloc _) (fun _ _ x => x)
  have HG := Lib.hid (good_any c v (w.alloc (.cells (c.cells v) 30)) hS1)
  have HS1 := Lib.hid hS1
  have hl16 : c.vars.length ≤ 16 := by
    have h := hg
    unfold Cf.good at h
    simp only [Bool.and_eq_true, decide_eq_true_eq] at h
    exact h.1.1.1.1.2
  have HW : Hid (∀ t ∈ c.vars, t < 18446744073709551616) := by obtain ⟨_, _, _, _, _, hw⟩ := h; exact hw
  rw [hg] at HG
  unfold Cf.val Cf.cells at HG
  unfold Cf.cells at HS1
  unfold Cf.val Cf.cells
  have hb : (w.alloc (.cells #[.int .i64 c.n, v, .int .i64 c.window, .int .i64 c.queue, .int .i64 c.first, .int .i64 c.most, .int .i64 c.body, .int .i64 c.engine] 30)).heap[w.heap.size]? = some (.cells #[.int .i64 c.n, v, .int .i64 c.window, .int .i64 c.queue, .int .i64 c.first, .int .i64 c.most, .int .i64 c.body, .int .i64 c.engine] 30 (0, 0)) := blk_new w _
  have HB := Lib.hid hb
  have t1 : decide (me < 0) = false := decide_eq_false (by omega)
  have t2 : decide (c.n ≤ me) = false := decide_eq_false (by omega)
  clear hb h hg hS1 h1 h2
  go_enter Try.func8, Try.ntmps8
  go_wp2_with fail
  refine HG.out.mono ?_
  rintro e w1 ⟨rfl, hm⟩
  have HM1 : Hid (Mod (fun _ => False) w w1) := ((Mod.refl _ w).alloc _).trans hm
  have hb1 := hm.blk HB.out (fun x => x)
  have HB1 := Lib.hid hb1
  have c0 := (blk_cell hb1 0).trans rfl
  have c1 := (blk_cell hb1 1).trans rfl
  have HC := Lib.hid (clones_any v c.vars w1 (HS1.out.mod hm (fun _ _ x => x)) (by omega))
  have hz1 : w.heap.size + 1 ≤ w1.heap.size := by have := hm.size; simpa using this
  clear hm HG HB hb1
  go_wp2_with fail
  refine HC.out.mono ?_
  rintro e w2 ⟨v', rfl, hrow, hm, hown⟩
  obtain ⟨A', c', rfl⟩ := hrow.form
  have hb2 := hm.blk HB1.out (fun x => x)
  have f1 := blk_frozen hb2 1
  have c1' := (blk_cell hb2 1).trans rfl
  have hb3 := (blk_set hb2 1 (.slice A' c.vars.length c')).trans rfl
  have HB3 := Lib.hid hb3
  have HM2 : Hid (Mod (fun _ => False) w (w2.setCell ⟨w.heap.size, 1, none⟩ (.slice A' c.vars.length c'))) := (HM1.out.trans hm).set (p := ⟨w.heap.size, 1, none⟩) (fun h => absurd h (Nat.lt_irrefl _)) _
  have HROW : Hid (RowOf (w2.setCell ⟨w.heap.size, 1, none⟩ (.slice A' c.vars.length c')) 68 1 (.slice A' c.vars.length c') c.vars.length (setCellsV c.vars)) := hrow.keep fun q hq => Below.heap_setCell w2 ⟨w.heap.size, 1, none⟩ _ q (fun e => by have := hown q hq; have e' : q = w.heap.size := e; omega)
  have HOWN : Hid (∀ q, (Value.slice A' c.vars.length c').ownBlock = some q → w.heap.size < q) := fun q hq => by have := hown q hq; omega
  have hz2 : w.heap.size + 1 ≤ w2.heap.size := by have := hm.size; omega
  have hbn : ((w2.setCell ⟨w.heap.size, 1, none⟩ (.slice A' c.vars.length c')).drew.alloc (.cells #[.float .f64 0, .int .i64 (-1), .int .u64 0] 35)).heap[w2.heap.size]? = some (.cells #[.float .f64 0, .int .i64 (-1), .int .u64 0] 35 (0, 0)) := by
    have h := blk_new (w2.setCell ⟨w.heap.size, 1, none⟩ (.slice A' c.vars.length c')).drew (.cells #[.float .f64 0, .int .i64 (-1), .int .u64 0] 35)
    rwa [show (w2.setCell ⟨w.heap.size, 1, none⟩ (.slice A' c.vars.length c')).drew.heap.size = w2.heap.size by simp [World.setCell]] at h
  have HR := Lib.hid (repeat_any w2.heap.size c.vars.length _ hbn (by omega))
  have hb4 : ((w2.setCell ⟨w.heap.size, 1, none⟩ (.slice A' c.vars.length c')).drew.alloc (.cells #[.float .f64 0, .int .i64 (-1), .int .u64 0] 35)).heap[w.heap.size]? = _ := blk_alloc (w := (w2.setCell ⟨w.heap.size, 1, none⟩ (.slice A' c.vars.length c')).drew) hb3 _
  have HB4 := Lib.hid hb4
  clear hb3 hb4 hbn hm hown hrow hb2 HB1 HC c0 c1
  go_wp2_with fail
  go_region_held3 (fun w' => w'.cell? ⟨w.heap.size, 0, none⟩ = some (.int .i64 c.n) ∧ w'.cell? ⟨w.heap.size, 1, none⟩ = some (.slice A' c.vars.length c') ∧ w'.cell? ⟨w.heap.size, 2, none⟩ = some (.int .i64 c.window) ∧ w'.cell? ⟨w.heap.size, 3, none⟩ = some (.int .i64 c.queue) ∧ w'.cell? ⟨w.heap.size, 4, none⟩ = some (.int .i64 c.first) ∧ w'.cell? ⟨w.heap.size, 5, none⟩ = some (.int .i64 c.most) ∧ w'.cell? ⟨w.heap.size, 6, none⟩ = some (.int .i64 c.body) ∧ w'.cell? ⟨w.heap.size, 7, none⟩ = some (.int .i64 c.engine)) (first | assumption | exact cf_cells HB3.out | exact cf_cells HB4.out | exact cf_cells hb5 | exact cf_cells (blk_alloc hb5 _)) (first | (go_at_call 26; refine HR.out.mono ?_; rintro e w3 ⟨r, rfl, hr, hge, hm3⟩; have hb5 := hm3.blk HB4.out (fun x => x)))
  have HN : Hid (NewIs w (Cl.new c me) (.returned (.tuple #[.pointer (some ⟨w3.heap.size, 0, none⟩), .int .i64 0])) (w3.alloc (.cells #[.int .i64 c.n, .slice A' c.vars.length c', .int .i64 c.window, .int .i64 c.queue, .int .i64 c.first, .int .i64 c.most, .int .i64 c.body, .int .i64 c.engine, .int .i64 me, .slice (some ⟨r, 0, none⟩) c.vars.length c.vars.length, .int .u64 0] 72))) := by
    have hz3 := hm3.size
    have hz4 : w2.heap.size ≤ w3.heap.size := by simp [World.setCell] at hz3; omega
    have hlen : (List.replicate c.vars.length vl0).length = c.vars.length := List.length_replicate
    have hge' : w2.heap.size ≤ r := by simp [World.setCell] at hge; omega
    refine ⟨w3.heap.size, r, .slice A' c.vars.length c', rfl, ⟨?_, ?_, ?_, hlen, by show (List.replicate c.vars.length vl0).length ≤ 16; omega, HW.out⟩, by omega, by omega, fun q hq => Nat.le_of_lt (HOWN.out q hq), ?_⟩
    · unfold Cl.top Cl.new
      show (w3.alloc _).heap[w3.heap.size]? = some (.cells #[.int .i64 c.n, .slice A' c.vars.length c', .int .i64 c.window, .int .i64 c.queue, .int .i64 c.first, .int .i64 c.most, .int .i64 c.body, .int .i64 c.engine, .int .i64 me, .slice (some ⟨r, 0, none⟩) (List.replicate c.vars.length vl0).length (List.replicate c.vars.length vl0).length, .int .u64 0] _ (0, 0))
      rw [hlen]
      exact blk_new w3 _
    · exact blk_alloc hr _
    · exact RowOf.alloc (RowOf.mod (RowOf.alloc (w := (w2.setCell ⟨w.heap.size, 1, none⟩ (.slice A' c.vars.length c')).drew) HROW.out _) hm3 (fun _ _ x => x)) _
    · exact ((HM2.out.drew.alloc _).trans hm3).alloc _
  clear hr hge hm3 hb5 HR HROW
  go_wp2
  go_ret2
  exact HN.out
end Go.Proofs.Ytpdpnhikcmpcdaa
