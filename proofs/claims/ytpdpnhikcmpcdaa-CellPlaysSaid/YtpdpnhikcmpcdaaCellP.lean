/-
  The reference's cell: set.
-/
import Derived.Test.YtpdpnhikcmpcdaaCellO
namespace Go.Proofs.Ytpdpnhikcmpcdaa
open Go.RowKit Go.Shoal

def RSet (w : World) (RB : Nat) (cv : Value) (s : Cl) (v : Value) (e : Ending) (w' : World) : Prop :=
  e = .returned v ∧ ∃ vv, RAt w' RB cv vv s ∧ (∀ q, vv.ownBlock = some q → w.heap.size ≤ q) ∧ Mod (· = RB) w w'
theorem vals_one (l : List Vl) : ∀ u ∈ l.flatMap Vl.cells, u.oneCell' = true := by
  intro u hu
  obtain ⟨v, _, hu⟩ := List.mem_flatMap.1 hu
  simp only [Vl.cells, List.mem_cons, List.not_mem_nil, or_false] at hu
  rcases hu with rfl | rfl | rfl <;> rfl
theorem RAt.setRow {w w1 w2 : World} {RB b : Nat} {cv vv vv' : Value} {s : Cl} {l : List Vl} (h : RAt w RB cv vv s) (hm : Mod (· = b) w w1) (hb : w.heap.size ≤ b) (hr : RowOf w1 45 3 vv' l.length (l.flatMap Vl.cells)) (hl : l.length = s.vals.length) (he : w2 = w1.setCell ⟨RB, 9, none⟩ vv') :
    RAt w2 RB cv vv' { s with vals := l } := by
  subst he
  have hRB := blk_lt h.top
  have hT := hm.blk h.top (by omega)
  refine ⟨?_, hr.keep fun q hq => Below.heap_setCell w1 ⟨RB, 9, none⟩ vv' q (by obtain ⟨cur, hc⟩ := hr.block hq; exact blk_ne hc hT (by decide)), (h.sets.mod hm (fun q hq e => by have := h.sets.lt hq; omega)).keep fun q hq => Below.heap_setCell w1 ⟨RB, 9, none⟩ vv' q (h.own_ne.2 q hq), by show l.length = _; rw [hl]; exact h.len, by show l.length ≤ 16; rw [hl]; exact h.l16, h.bits⟩
  unfold Cl.rtop at hT ⊢
  exact (blk_set hT 9 vv').trans rfl
theorem row_val {w : World} {b o c n e : Nat} {l : List Vl} (h : RowOf w e 3 (.slice (some ⟨b, o, none⟩) n c) n (l.flatMap Vl.cells)) (hn : l.length = n) {k : Nat} {x : Vl} (hx : l[k]? = some x) :
    w.cell? ⟨b, o + k * 3, none⟩ = some (.float .f64 x.x) ∧ w.cell? ⟨b, o + k * 3 + 1, none⟩ = some (.int .i64 x.writer) ∧ w.cell? ⟨b, o + k * 3 + 2, none⟩ = some (.int .u64 x.tag) := by
  have hk := (List.getElem?_eq_some_iff.1 hx).1
  have hf := fun j (hj : j < 3) => flat_at Vl.len l k j x hx hj
  have hc := fun j (hj : j < 3) => (RowOf.cell h (k * 3 + j) (by omega)).trans (hf j hj)
  have h0 := hc 0 (by decide)
  have h1 := hc 1 (by decide)
  have h2 := hc 2 (by decide)
  rw [← Nat.add_assoc] at h1 h2
  exact ⟨h0, h1, h2⟩
set_option maxHeartbeats 4000000 in
theorem rset_any (RB : Nat) (cv vv : Value) (s : Cl) (k : Nat) (y : Vl) (w : World) (h : RAt w RB cv vv s) (hk : k < s.vals.length) :
    Calls Try.prog 36 #[.pointer (some ⟨RB, 0, none⟩), .int .i64 k, y.val] w (RSet w RB cv { s with vals := s.vals.set k y } (.tuple #[])) := by
  obtain ⟨i0, hii, hz0, hz1, hz2⟩ := info_parts Try.infoRVal
  have hl := h.l16
  have hRB := blk_lt h.top
  have hA := h.same (w' := w.alloc (.cells #[.float .f64 y.x, .int .i64 y.writer, .int .u64 y.tag] 45)) ((Mod.refl _ _).alloc _)
  have hB := h.same (w' := (w.alloc (.cells #[.float .f64 y.x, .int .i64 y.writer, .int .u64 y.tag] 45)).alloc (.cells #[] 45)) (((Mod.refl _ _).alloc _).alloc _)
  have hO := World.ownsRow_made (base := w.heap.size + 1) (e := 45) (size := 3) (w.alloc (.cells #[.float .f64 y.x, .int .i64 y.writer, .int .u64 y.tag] 45)) #[] 0 (by simp) (by unfold maxLen; omega) rfl
  rw [World.size_alloc] at hO
  have HO := Lib.hid hO
  have HSRC := Lib.hid (RowOf.src hB.vals (vals_one _))
  have HB := Lib.hid hB
  have HBOX : Hid (((w.alloc (.cells #[.float .f64 y.x, .int .i64 y.writer, .int .u64 y.tag] 45)).alloc (.cells #[] 45)).heap[w.heap.size]? = some (.cells #[.float .f64 y.x, .int .i64 y.writer, .int .u64 y.tag] 45 (0, 0))) := blk_alloc (blk_new w _) _
  obtain ⟨A, c, rfl⟩ := h.vals.form
  have hc9 := hB.cells.2.2.2.1
  have HH := Lib.hid h
  have hi0 : (0 : Int) ≤ (k : Int) := by omega
  have hi1 : (k : Int) < (s.vals.length : Int) := by omega
  have hlz : (0 : Nat) < s.vals.length := by omega
  unfold Vl.val
  clear hA hB hO h
  go_enter Try.func36, Try.ntmps36
  go_wp2_with (at_builtin; refine wpList_append_src (by rfl) _ _ 62 (by rfl) (w.heap.size + 1) 45 i0 (.agg #[.float .f64 0, .int .i64 0, .int .u64 0]) 3 24 Try.underlying62 hii hz0 hz1 hz2 rfl (by omega) (.slice (some ⟨w.heap.size + 1, 0, none⟩) 0 0) 0 [] (by rfl) HO.out (.slice A s.vals.length c) s.vals.length (s.vals.flatMap Vl.cells) (by rfl) HSRC.out (by unfold maxLen; omega) (by omega) (by simp) ?_)
  intro v1 w1 hown hgrow hat
  try simp only [Nat.zero_add, List.nil_append] at hown
  have hrow := RowOf.of_own hown
  obtain ⟨b, o, cap, cur, rfl, hcur, _, _⟩ := hrow.at hlz
  have hbge : w.heap.size + 1 ≤ b := own_base hown b rfl
  have HB1 : Hid (RAt w1 RB cv (.slice A s.vals.length c) s) := by
    have h := HB.out
    have hm : Mod (· = w.heap.size + 1) ((w.alloc (.cells #[.float .f64 y.x, .int .i64 y.writer, .int .u64 y.tag] 45)).alloc (.cells #[] 45)) w1 := Mod.of_grown hgrow (fun q e _ => by cases e; rfl)
    have h0 := HH.out
    exact h.mod hm (by omega) (fun q hq e => by have := h0.vals.lt hq; omega) (fun q hq e => by have := h0.sets.lt hq; omega)
  have hne : RB ≠ b := by omega
  have hne' : b ≠ RB := by omega
  have hbx := blk_grown HBOX.out hgrow (fun q e => by have e' : w.heap.size + 1 = q := Option.some.inj e; omega)
  obtain ⟨y0, y1, y2⟩ := three_cells hbx
  obtain ⟨_, _, _, c9, _⟩ := HB1.out.cells
  have hT := HB1.out.top
  have f9 := blk_frozen hT 9
  obtain ⟨x, hx⟩ : ∃ x, s.vals[k]? = some x := ⟨_, List.getElem?_eq_getElem hk⟩
  obtain ⟨v0, v1', v2⟩ := row_val hrow rfl hx
  have g0 := blk_frozen hcur (o + k * 3)
  have g1 := blk_frozen hcur (o + k * 3 + 1)
  have g2 := blk_frozen hcur (o + k * 3 + 2)
  have hw2 := blk_set (blk_set (blk_set hcur (o + k * 3) (.float .f64 y.x)) (o + k * 3 + 1) (.int .i64 y.writer)) (o + k * 3 + 2) (.int .u64 y.tag)
  have hrow2 := RowOf.put Vl.len (by decide) hrow rfl hk y hcur hw2
  have hm1 : Mod (· = b) w w1 := (((Mod.refl (fun _ => False) w).alloc _).alloc _ |>.grown hgrow (fun q e => by have e' : w.heap.size + 1 = q := Option.some.inj e; omega)).mono fun _ _ x => x.elim
  have hm2 : Mod (· = b) w (((w1.setCell ⟨b, o + k * 3, none⟩ (.float .f64 y.x)).setCell ⟨b, o + k * 3 + 1, none⟩ (.int .i64 y.writer)).setCell ⟨b, o + k * 3 + 2, none⟩ (.int .u64 y.tag)) :=
    ((hm1.set (p := ⟨b, o + k * 3, none⟩) (fun _ => rfl) _).set (p := ⟨b, o + k * 3 + 1, none⟩) (fun _ => rfl) _).set (p := ⟨b, o + k * 3 + 2, none⟩) (fun _ => rfl) _
  have HE : Hid (RSet w RB cv { s with vals := s.vals.set k y } (.tuple #[]) (.returned (.tuple #[])) ((((w1.setCell ⟨b, o + k * 3, none⟩ (.float .f64 y.x)).setCell ⟨b, o + k * 3 + 1, none⟩ (.int .i64 y.writer)).setCell ⟨b, o + k * 3 + 2, none⟩ (.int .u64 y.tag)).setCell ⟨RB, 9, none⟩ (.slice (some ⟨b, o, none⟩) s.vals.length cap))) := by
    have hrow3 : RowOf (((w1.setCell ⟨b, o + k * 3, none⟩ (.float .f64 y.x)).setCell ⟨b, o + k * 3 + 1, none⟩ (.int .i64 y.writer)).setCell ⟨b, o + k * 3 + 2, none⟩ (.int .u64 y.tag)) 45 3 (.slice (some ⟨b, o, none⟩) s.vals.length cap) (s.vals.set k y).length ((s.vals.set k y).flatMap Vl.cells) := by
      rw [List.length_set]
      exact hrow2
    exact ⟨rfl, _, RAt.setRow HH.out hm2 (by omega) hrow3 (List.length_set ..) rfl, fun q hq => by have e' : b = q := Option.some.inj hq; omega, (hm2.mono (T := (· = RB)) (fun i hi e => by omega)).set (p := ⟨RB, 9, none⟩) (fun _ => rfl) _⟩
  clear hown hgrow hat hrow hcur hbx hT hx hw2 hrow2 hm1 hm2 HB1 HB HBOX HSRC HO HH hc9
  go_wp2
  go_end0
  exact HE.out
end Go.Proofs.Ytpdpnhikcmpcdaa
