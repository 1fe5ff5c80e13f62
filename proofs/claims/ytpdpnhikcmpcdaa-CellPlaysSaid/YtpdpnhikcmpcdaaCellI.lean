/-
  A cell that is somewhere past base; same; some; awake.
-/
import Derived.Test.YtpdpnhikcmpcdaaCellH
namespace Go.Proofs.Ytpdpnhikcmpcdaa
open Go.RowKit Go.Shoal

structure Sits (base B vb : Nat) (cv : Value) (w0 : World) (s : Cl) (w : World) : Prop where
  at' : CellAt w B vb cv s
  b1 : base ≤ B
  b2 : base ≤ vb
  b3 : ∀ q, cv.ownBlock = some q → base ≤ q
  bel : Below base w0 w
section
variable {base B vb : Nat} {cv : Value} {w0 w w' : World} {s : Cl}
theorem Sits.size (h : Sits base B vb cv w0 s w) : base ≤ w.heap.size := by have := blk_lt h.at'.top; have := h.b1; omega
theorem Sits.same (h : Sits base B vb cv w0 s w) (hm : Mod (fun _ => False) w w') : Sits base B vb cv w0 s w' :=
  ⟨h.at'.same hm, h.b1, h.b2, h.b3, h.bel.trans (hm.below (fun _ _ x => x) h.size)⟩
theorem Sits.wrote {s' : Cl} {u : Value} {e : Ending} (h : Sits base B vb cv w0 s w) (hw : Wrote w B vb cv s' u e w') : Sits base B vb cv w0 s' w' :=
  ⟨hw.2.1, h.b1, h.b2, h.b3, h.bel.trans (hw.2.2.below (fun i hi e => by have := h.b1; have := h.b2; rcases e with rfl | rfl <;> omega) h.size)⟩
theorem Sits.new {e : Ending} (h : NewIs w s e w') : ∃ B vb cv, e = .returned (.tuple #[.pointer (some ⟨B, 0, none⟩), .int .i64 0]) ∧ Sits w.heap.size B vb cv w s w' := by
  obtain ⟨B, vb, cv, he, h1, h2, h3, h4, h5⟩ := h
  exact ⟨B, vb, cv, he, h1, h2, h3, h4, h5.none_below⟩
/-- A call that answers v and leaves the cell as s'. -/
def Ans (base B vb : Nat) (cv : Value) (w0 : World) (s : Cl) (w : World) (v : Value) (e : Ending) (w' : World) : Prop := e = .returned v ∧ Sits base B vb cv w0 s w' ∧ Mod (fun i => i = B ∨ i = vb) w w'
theorem sit_write_no (h : Sits base B vb cv w0 s w) (v e : Int) (x : Nat) (hm : s.may v = e) (he : e ≠ 0) :
    Calls Try.prog 10 #[.pointer (some ⟨B, 0, none⟩), .int .i64 v, .float .f64 x] w (Ans base B vb cv w0 s w (.tuple #[Vl.val ⟨0, 0, 0⟩, .int .i64 e])) :=
  (write_no B vb cv s v e x w h.at' hm he).mono fun _ _ ⟨h1, h2⟩ => ⟨h1, h.same h2, h2.mono fun _ _ x => x.elim⟩
theorem sit_write (h : Sits base B vb cv w0 s w) (k x : Nat) (hm : s.may k = 0) (hk : k < s.vals.length) (ht : s.tags ≤ 1000) :
    Calls Try.prog 10 #[.pointer (some ⟨B, 0, none⟩), .int .i64 k, .float .f64 x] w (Ans base B vb cv w0 (s.wrote k x) w (.tuple #[Vl.val ⟨plainW x, s.me, s.tags + 1⟩, .int .i64 0])) :=
  (write_yes B vb cv s k x w h.at' hm hk ht).mono fun _ _ hw => ⟨hw.1, h.wrote hw, hw.2.2⟩
theorem sit_apply_no (h : Sits base B vb cv w0 s w) (v e : Int) (x : Vl) (hm : s.may v = e) (he : e ≠ 0) :
    Calls Try.prog 14 #[.pointer (some ⟨B, 0, none⟩), .int .i64 v, x.val] w (Ans base B vb cv w0 s w (.int .i64 e)) :=
  (apply_no B vb cv s v e x w h.at' hm he).mono fun _ _ ⟨h1, h2⟩ => ⟨h1, h.same h2, h2.mono fun _ _ x => x.elim⟩
theorem sit_apply_bad (h : Sits base B vb cv w0 s w) (v : Int) (x : Vl) (hm : s.may v = 0) (hx : ¬ s.takes x) :
    Calls Try.prog 14 #[.pointer (some ⟨B, 0, none⟩), .int .i64 v, x.val] w (Ans base B vb cv w0 s w (.int .i64 1)) :=
  (apply_bad B vb cv s v x w h.at' hm hx).mono fun _ _ ⟨h1, h2⟩ => ⟨h1, h.same h2, h2.mono fun _ _ x => x.elim⟩
theorem sit_apply (h : Sits base B vb cv w0 s w) (k : Nat) (x : Vl) (hm : s.may k = 0) (hk : k < s.vals.length) (hx : s.takes x) :
    Calls Try.prog 14 #[.pointer (some ⟨B, 0, none⟩), .int .i64 k, x.val] w (Ans base B vb cv w0 (s.took k x) w (.int .i64 0)) :=
  (apply_yes B vb cv s k x w h.at' hm hk hx).mono fun _ _ hw => ⟨hw.1, h.wrote hw, hw.2.2⟩
theorem sit_read_no (h : Sits base B vb cv w0 s w) (v e : Int) (hm : s.may v = e) (he : e ≠ 0) :
    Calls Try.prog 11 #[.pointer (some ⟨B, 0, none⟩), .int .i64 v] w (Ans base B vb cv w0 s w (.tuple #[Vl.val ⟨0, 0, 0⟩, .int .i64 e])) :=
  (read_no B vb cv s v e w h.at' hm he).mono fun _ _ ⟨h1, h2⟩ => ⟨h1, h.same h2, h2.mono fun _ _ x => x.elim⟩
theorem sit_read (h : Sits base B vb cv w0 s w) (k : Nat) (x : Vl) (hm : s.may k = 0) (hx : s.vals[k]? = some x) :
    Calls Try.prog 11 #[.pointer (some ⟨B, 0, none⟩), .int .i64 k] w (Ans base B vb cv w0 s w (.tuple #[x.val, .int .i64 0])) :=
  (read_yes B vb cv s k x w h.at' hm hx).mono fun _ _ ⟨h1, h2⟩ => ⟨h1, h.same h2, h2.mono fun _ _ x => x.elim⟩
theorem sit_tags (h : Sits base B vb cv w0 s w) : Calls Try.prog 18 #[.pointer (some ⟨B, 0, none⟩)] w (Ans base B vb cv w0 s w (.int .u64 s.tags)) :=
  (tags_any B vb cv s w h.at').mono fun _ _ ⟨h1, h2⟩ => ⟨h1, h2 ▸ h, h2 ▸ Mod.refl _ _⟩
end
/-- Alike? -/
def Vl.same (a b : Vl) : Bool := sameW a.x b.x && a.writer == b.writer && (a.tag : Int) == (b.tag : Int)
set_option maxHeartbeats 1000000 in
theorem same_any (a b : Vl) (w : World) (ha : a.x < B64) (hb : b.x < B64) : Calls Try.prog 16 #[a.val, b.val] w (Told w (.bool (a.same b))) := by
  have HS := Lib.hid (fun w => rsame_any a.x b.x w ha hb)
  have HR : Hid (a.same b = (sameW a.x b.x && a.writer == b.writer && (a.tag : Int) == (b.tag : Int))) := rfl
  generalize a.same b = r at *
  unfold Vl.val
  clear ha hb
  cases h1 : sameW a.x b.x
  · rw [h1] at HS HR
    go_enter Try.func16, Try.ntmps16
    go_wp2_with fail
    refine (HS.out _).mono ?_
    rintro e w1 ⟨rfl, rfl⟩
    go_wp2
    go_ret
    exact ⟨by rw [HR.out]; rfl, ((Mod.refl _ _).alloc _).alloc _⟩
  rw [h1] at HS HR
  cases h2 : (a.writer == b.writer)
  · rw [h2] at HR
    go_enter Try.func16, Try.ntmps16
    go_wp2_with fail
    refine (HS.out _).mono ?_
    rintro e w1 ⟨rfl, rfl⟩
    go_wp2
    go_ret
    exact ⟨by rw [HR.out]; rfl, ((Mod.refl _ _).alloc _).alloc _⟩
  rw [h2] at HR
  go_enter Try.func16, Try.ntmps16
  go_wp2_with fail
  refine (HS.out _).mono ?_
  rintro e w1 ⟨rfl, rfl⟩
  go_wp2
  go_ret
  exact ⟨by rw [HR.out]; rfl, ((Mod.refl _ _).alloc _).alloc _⟩
/-- Three processes; a variable of 0 and 1, one of 2. -/
def someCf : Cf := ⟨3, [3, 4], 2, 3, 2, 8, 64, 1⟩
def SomeSays (w : World) (d : Ending) (w' : World) : Prop := ∃ v, d = .returned (someCf.val v) ∧ SetsIn w' v [3, 4] ∧ Mod (fun _ => False) w w'
theorem plain31 (w : World) : Calls Try.prog 9 #[.int .i64 3, .int .i64 1] w fun e w' => (∃ A c, e = .returned (.agg #[.int .i64 3, .slice A 1 c, .int .i64 2, .int .i64 3, .int .i64 2, .int .i64 8, .int .i64 64, .int .i64 1])) ∧ Mod (fun _ => False) w w' :=
  (plain_any 3 1 w).mono fun _ _ ⟨_, h1, ⟨A, c, h2, _⟩, h3⟩ => ⟨⟨A, c, by rw [h1, h2]; rfl⟩, h3⟩
theorem eight_cells {w : World} {z : Nat} {a b c d e f g i : Value} {t : TypeId} (h : w.heap[z]? = some (.cells #[a, b, c, d, e, f, g, i] t (0, 0))) :
    w.cell? ⟨z, 0, none⟩ = some a ∧ w.cell? ⟨z, 1, none⟩ = some b ∧ w.cell? ⟨z, 2, none⟩ = some c ∧ w.cell? ⟨z, 3, none⟩ = some d ∧ w.cell? ⟨z, 4, none⟩ = some e ∧ w.cell? ⟨z, 5, none⟩ = some f ∧ w.cell? ⟨z, 6, none⟩ = some g ∧ w.cell? ⟨z, 7, none⟩ = some i :=
  ⟨(blk_cell h 0).trans rfl, (blk_cell h 1).trans rfl, (blk_cell h 2).trans rfl, (blk_cell h 3).trans rfl, (blk_cell h 4).trans rfl, (blk_cell h 5).trans rfl, (blk_cell h 6).trans rfl, (blk_cell h 7).trans rfl⟩
theorem eight_set {w : World} {z : Nat} {a b c d e f g i a' b' c' d' e' f' g' i' : Value} {t : TypeId} (h : w.heap[z]? = some (.cells #[a, b, c, d, e, f, g, i] t (0, 0))) :
    ((((((((w.setCell ⟨z, 0, none⟩ a').setCell ⟨z, 1, none⟩ b').setCell ⟨z, 2, none⟩ c').setCell ⟨z, 3, none⟩ d').setCell ⟨z, 4, none⟩ e').setCell ⟨z, 5, none⟩ f').setCell ⟨z, 6, none⟩ g').setCell ⟨z, 7, none⟩ i').heap[z]? = some (.cells #[a', b', c', d', e', f', g', i'] t (0, 0)) := by
  have h0 := blk_set h 0 a'
  rw [show (#[a, b, c, d, e, f, g, i] : Array Value).setIfInBounds 0 a' = #[a', b, c, d, e, f, g, i] from rfl] at h0
  have h1 := blk_set h0 1 b'
  rw [show (#[a', b, c, d, e, f, g, i] : Array Value).setIfInBounds 1 b' = #[a', b', c, d, e, f, g, i] from rfl] at h1
  have h2 := blk_set h1 2 c'
  rw [show (#[a', b', c, d, e, f, g, i] : Array Value).setIfInBounds 2 c' = #[a', b', c', d, e, f, g, i] from rfl] at h2
  have h3 := blk_set h2 3 d'
  rw [show (#[a', b', c', d, e, f, g, i] : Array Value).setIfInBounds 3 d' = #[a', b', c', d', e, f, g, i] from rfl] at h3
  have h4 := blk_set h3 4 e'
  rw [show (#[a', b', c', d', e, f, g, i] : Array Value).setIfInBounds 4 e' = #[a', b', c', d', e', f, g, i] from rfl] at h4
  have h5 := blk_set h4 5 f'
  rw [show (#[a', b', c', d', e', f, g, i] : Array Value).setIfInBounds 5 f' = #[a', b', c', d', e', f', g, i] from rfl] at h5
  have h6 := blk_set h5 6 g'
  rw [show (#[a', b', c', d', e', f', g, i] : Array Value).setIfInBounds 6 g' = #[a', b', c', d', e', f', g', i] from rfl] at h6
  have h7 := blk_set h6 7 i'
  rw [show (#[a', b', c', d', e', f', g', i] : Array Value).setIfInBounds 7 i' = #[a', b', c', d', e', f', g', i'] from rfl] at h7
  exact h7
theorem size_set (w : World) (p : Addr) (v : Value) : (w.setCell p v).heap.size = w.heap.size := by simp [World.setCell]
theorem mod_new_set {S : Nat → Prop} {w w1 : World} (h : Mod S w w1) (j : Nat) (v : Value) : Mod S w (w1.setCell ⟨w.heap.size, j, none⟩ v) := h.set (p := ⟨w.heap.size, j, none⟩) (fun h => absurd h (Nat.lt_irrefl _)) v
theorem SetsIn.two {w : World} {g s t e c : Nat} (hb : w.heap[g]? = some (.cells #[.int .u64 (s : Int), .int .u64 (t : Int)] e (0, 0))) (hs : s < 18446744073709551616) (ht : t < 18446744073709551616) : SetsIn w (.slice (some ⟨g, 0, none⟩) 2 c) [s, t] := by
  refine ⟨_, c, rfl, by unfold maxLen; simp, .inr ⟨g, 0, rfl, blk_lt hb, fun i hi => ?_⟩, fun x hx => ?_⟩
  · have : i = 0 ∨ i = 1 := by simp at hi; omega
    rcases this with rfl | rfl
    · exact (blk_cell hb 0).trans rfl
    · exact (blk_cell hb 1).trans rfl
  · simp only [List.mem_cons, List.not_mem_nil, or_false] at hx
    rcases hx with rfl | rfl
    · exact hs
    · exact ht
set_option maxHeartbeats 2000000 in
theorem some_any' (w : World) : Calls Try.prog 13 #[] w (SomeSays w) := by
  have HP := Lib.hid (fun w => plain31 w)
  have hb := blk_new w (.cells #[.int .i64 0, .slice none 0 0, .int .i64 0, .int .i64 0, .int .i64 0, .int .i64 0, .int .i64 0, .int .i64 0] 30)
  have HB := Lib.hid hb
  clear hb
  go_enter Try.func13, Try.ntmps13
  go_wp2_with fail
  refine (HP.out _).mono ?_
  rintro e w1 ⟨⟨A1, c1, rfl⟩, hm⟩
  have hb := hm.blk HB.out (fun x => x)
  obtain ⟨r0, r1, r2, r3, r4, r5, r6, r7⟩ := eight_cells hb
  have f0 := blk_frozen hb 0
  have f1 := blk_frozen hb 1
  have f2 := blk_frozen hb 2
  have f3 := blk_frozen hb 3
  have f4 := blk_frozen hb 4
  have f5 := blk_frozen hb 5
  have f6 := blk_frozen hb 6
  have f7 := blk_frozen hb 7
  have HB1 := Lib.hid hb
  have HM1 := Lib.hid hm
  have hz : w.heap.size < w1.heap.size := blk_lt hb
  have hz2 : w.heap.size < w1.heap.size + 1 := by omega
  have hne : w.heap.size ≠ w1.heap.size := by omega
  have hne2 : w.heap.size ≠ w1.heap.size + 1 := by omega
  clear hb hm HB HP
  go_wp2
  have HZ := Lib.hid (eight_set (a' := .int .i64 3) (b' := .slice (some ⟨w1.heap.size + 1, 0, none⟩) 2 2) (c' := .int .i64 2) (d' := .int .i64 3) (e' := .int .i64 2) (f' := .int .i64 8) (g' := .int .i64 64) (i' := .int .i64 1) HB1.out)
  have HM2 := Lib.hid (mod_new_set (mod_new_set (mod_new_set (mod_new_set (mod_new_set (mod_new_set (mod_new_set (mod_new_set (((Mod.refl _ w).alloc _).trans HM1.out) 0 (.int .i64 3)) 1 (.slice (some ⟨w1.heap.size + 1, 0, none⟩) 2 2)) 2 (.int .i64 2)) 3 (.int .i64 3)) 4 (.int .i64 2)) 5 (.int .i64 8)) 6 (.int .i64 64)) 7 (.int .i64 1))
  have HSZ : Hid (((((((((w1.setCell ⟨w.heap.size, 0, none⟩ (.int .i64 3)).setCell ⟨w.heap.size, 1, none⟩ (.slice (some ⟨w1.heap.size + 1, 0, none⟩) 2 2)).setCell ⟨w.heap.size, 2, none⟩ (.int .i64 2)).setCell ⟨w.heap.size, 3, none⟩ (.int .i64 3)).setCell ⟨w.heap.size, 4, none⟩ (.int .i64 2)).setCell ⟨w.heap.size, 5, none⟩ (.int .i64 8)).setCell ⟨w.heap.size, 6, none⟩ (.int .i64 64)).setCell ⟨w.heap.size, 7, none⟩ (.int .i64 1)).heap.size = w1.heap.size) := by
    show _ = _
    simp only [size_set]
  clear HM1 HB1 r0 r1 r2 r3 r4 r5 r6 r7 f0 f1 f2 f3 f4 f5 f6 f7
  generalize ((((((((w1.setCell ⟨w.heap.size, 0, none⟩ (.int .i64 3)).setCell ⟨w.heap.size, 1, none⟩ (.slice (some ⟨w1.heap.size + 1, 0, none⟩) 2 2)).setCell ⟨w.heap.size, 2, none⟩ (.int .i64 2)).setCell ⟨w.heap.size, 3, none⟩ (.int .i64 3)).setCell ⟨w.heap.size, 4, none⟩ (.int .i64 2)).setCell ⟨w.heap.size, 5, none⟩ (.int .i64 8)).setCell ⟨w.heap.size, 6, none⟩ (.int .i64 64)).setCell ⟨w.heap.size, 7, none⟩ (.int .i64 1)) = u at *
  have hz := blk_alloc (blk_alloc HZ.out (.cells #[.int .i64 3, .slice (some ⟨w1.heap.size + 1, 0, none⟩) 2 2, .int .i64 2, .int .i64 3, .int .i64 2, .int .i64 8, .int .i64 64, .int .i64 1] 30)) (.cells #[.int .u64 3, .int .u64 4] 68)
  obtain ⟨z0, z1, z2, z3, z4, z5, z6, z7⟩ := eight_cells hz
  have hs : ((u.alloc (.cells #[.int .i64 3, .slice (some ⟨w1.heap.size + 1, 0, none⟩) 2 2, .int .i64 2, .int .i64 3, .int .i64 2, .int .i64 8, .int .i64 64, .int .i64 1] 30)).alloc (.cells #[.int .u64 3, .int .u64 4] 68)).heap[w1.heap.size + 1]? = some (.cells #[.int .u64 3, .int .u64 4] 68 (0, 0)) := by
    have h := blk_new (u.alloc (.cells #[.int .i64 3, .slice (some ⟨w1.heap.size + 1, 0, none⟩) 2 2, .int .i64 2, .int .i64 3, .int .i64 2, .int .i64 8, .int .i64 64, .int .i64 1] 30)) (.cells #[.int .u64 3, .int .u64 4] 68)
    rwa [World.size_alloc, HSZ.out] at h
  have HE : Hid (SomeSays w (.returned (.agg #[.int .i64 3, .slice (some ⟨w1.heap.size + 1, 0, none⟩) 2 2, .int .i64 2, .int .i64 3, .int .i64 2, .int .i64 8, .int .i64 64, .int .i64 1])) _) := ⟨_, rfl, SetsIn.two (s := 3) (t := 4) hs (by decide) (by decide), (HM2.out.alloc _).alloc _⟩
  refine bodyPost_ret (v := .agg #[.int .i64 3, .slice (some ⟨w1.heap.size + 1, 0, none⟩) 2 2, .int .i64 2, .int .i64 3, .int .i64 2, .int .i64 8, .int .i64 64, .int .i64 1]) ?_ rfl HE.out
  clear HE hs hz HM2 HZ HSZ
  generalize (u.alloc _).alloc _ = U at *
  simp [results, Try.results13, go_sem, z0, z1, z2, z3, z4, z5, z6, z7]
end Go.Proofs.Ytpdpnhikcmpcdaa
