/-
  A cell in memory; may, New.
-/
import Derived.Test.YtpdpnhikcmpcdaaCellC
import Derived.StillTailTactics
namespace Go.Proofs.Ytpdpnhikcmpcdaa
open Go.RowKit Go.Shoal

/-- One process's share, as data. -/
structure Cl where
  c : Cf
  me : Int
  vals : List Vl
  tags : Nat
def Cl.top (s : Cl) (cv : Value) (vb : Nat) : Array Value :=
  #[.int .i64 s.c.n, cv, .int .i64 s.c.window, .int .i64 s.c.queue, .int .i64 s.c.first, .int .i64 s.c.most, .int .i64 s.c.body, .int .i64 s.c.engine, .int .i64 s.me, .slice (some ⟨vb, 0, none⟩) s.vals.length s.vals.length, .int .u64 s.tags]
/-- It lies at block B, its variables at vb, its sets where cv says. -/
structure CellAt (w : World) (B vb : Nat) (cv : Value) (s : Cl) : Prop where
  top : w.heap[B]? = some (.cells (s.top cv vb) 72 (0, 0))
  vals : w.heap[vb]? = some (.cells (s.vals.flatMap Vl.cells).toArray 35 (0, 0))
  sets : RowOf w 68 1 cv s.c.vars.length (setCellsV s.c.vars)
  len : s.vals.length = s.c.vars.length
  l16 : s.vals.length ≤ 16
  bits : ∀ t ∈ s.c.vars, t < 18446744073709551616
theorem CellAt.in {w : World} {B vb : Nat} {cv : Value} {s : Cl} (h : CellAt w B vb cv s) : SetsIn w cv s.c.vars :=
  SetsIn.of_row h.sets (by have := h.len; have := h.l16; unfold maxLen; omega) h.bits
theorem CellAt.mod {S : Nat → Prop} {w w' : World} {B vb : Nat} {cv : Value} {s : Cl} (h : CellAt w B vb cv s) (hm : Mod S w w') (h1 : ¬ S B) (h2 : ¬ S vb) (h3 : ∀ q, cv.ownBlock = some q → ¬ S q) : CellAt w' B vb cv s :=
  ⟨hm.blk h.top h1, hm.blk h.vals h2, h.sets.mod hm h3, h.len, h.l16, h.bits⟩
theorem CellAt.same {w w' : World} {B vb : Nat} {cv : Value} {s : Cl} (h : CellAt w B vb cv s) (hm : Mod (fun _ => False) w w') : CellAt w' B vb cv s := h.mod hm (fun x => x) (fun x => x) (fun _ _ x => x)
/-- Why a variable may not be looked at. -/
def Cl.may (s : Cl) (v : Int) : Int := if v < 0 ∨ (s.vals.length : Int) ≤ v then 1 else if s.c.keeps s.me v then 0 else 6
def Told (w : World) (v : Value) (e : Ending) (w' : World) : Prop := e = .returned v ∧ Mod (fun _ => False) w w'
set_option maxHeartbeats 2000000 in
theorem may_any (B vb : Nat) (cv : Value) (s : Cl) (v : Int) (w : World) (h : CellAt w B vb cv s) :
    Calls Try.prog 28 #[.pointer (some ⟨B, 0, none⟩), .int .i64 v] w (Told w (.int .i64 (s.may v))) := by
  have hT := h.top
  unfold Cl.top at hT
  have hl := h.l16
  have c9 := (blk_cell hT 9).trans rfl
  by_cases h1 : v < 0
  · have HE : Hid (s.may v = 1) := by show _ = _; unfold Cl.may; rw [if_pos (.inl h1)]
    have t1 : decide (v < 0) = true := decide_eq_true h1
    clear hT h
    go_enter Try.func28, Try.ntmps28
    go_wp2
    go_ret
    exact ⟨by rw [HE.out]; rfl, Mod.refl _ _⟩
  by_cases h2 : (s.vals.length : Int) ≤ v
  · have HE : Hid (s.may v = 1) := by show _ = _; unfold Cl.may; rw [if_pos (.inr h2)]
    have t1 : decide (v < 0) = false := decide_eq_false h1
    have t2 : decide ((s.vals.length : Int) ≤ v) = true := decide_eq_true h2
    clear hT h
    go_enter Try.func28, Try.ntmps28
    go_wp2
    go_ret
    exact ⟨by rw [HE.out]; rfl, Mod.refl _ _⟩
  have HE : Hid (s.may v = if s.c.keeps s.me v then 0 else 6) := by show _ = _; unfold Cl.may; rw [if_neg (by omega)]
  have t1 : decide (v < 0) = false := decide_eq_false h1
  have t2 : decide ((s.vals.length : Int) ≤ v) = false := decide_eq_false h2
  have c0 := (blk_cell hT 0).trans rfl
  have c1 := (blk_cell hT 1).trans rfl
  have c2 := (blk_cell hT 2).trans rfl
  have c3 := (blk_cell hT 3).trans rfl
  have c4 := (blk_cell hT 4).trans rfl
  have c5 := (blk_cell hT 5).trans rfl
  have c6 := (blk_cell hT 6).trans rfl
  have c7 := (blk_cell hT 7).trans rfl
  have c8 := (blk_cell hT 8).trans rfl
  have HK := Lib.hid (keeps_any s.c cv s.me v w.drew h.in)
  unfold Cf.val Cf.cells at HK
  clear hT h hl
  cases hk : s.c.keeps s.me v
  all_goals
    rw [hk] at HK HE
    go_enter Try.func28, Try.ntmps28
    go_wp2
    go_still_tail 9, (by kernel_rfl)
    change wpList _ _ _ _ _ w.drew
    go_wp2_with fail
    refine HK.out.mono ?_
    rintro e w1 ⟨rfl, hm⟩
    have HM : Hid (Mod (fun _ => False) w w1) := (Mod.refl _ w).drew.trans hm
    clear hm HK
    go_wp2
    go_ret
    exact ⟨by rw [HE.out]; rfl, HM.out⟩
end Go.Proofs.Ytpdpnhikcmpcdaa
