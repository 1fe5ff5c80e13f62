/-
  Write, Apply.
-/
import Derived.Test.YtpdpnhikcmpcdaaCellF
namespace Go.Proofs.Ytpdpnhikcmpcdaa
open Go.RowKit Go.Shoal

theorem CellAt.own_ne {w : World} {B vb : Nat} {cv : Value} {s : Cl} (h : CellAt w B vb cv s) {q : Nat} (hq : cv.ownBlock = some q) : q ≠ B ∧ q ≠ vb := by
  obtain ⟨cur, hc⟩ := h.sets.block hq
  exact ⟨blk_ne hc h.top (by decide), blk_ne hc h.vals (by decide)⟩
theorem CellAt.setTags {w : World} {B vb : Nat} {cv : Value} {s : Cl} (h : CellAt w B vb cv s) (n : Nat) : CellAt (w.setCell ⟨B, 10, none⟩ (.int .u64 n)) B vb cv { s with tags := n } := by
  refine ⟨?_, blk_far h.vals (p := ⟨B, 10, none⟩) (blk_ne h.vals h.top (by decide)) _, h.sets.keep fun q hq => Below.heap_setCell w ⟨B, 10, none⟩ _ q (h.own_ne hq).1, h.len, h.l16, h.bits⟩
  have hT := h.top
  unfold Cl.top at hT ⊢
  exact (blk_set hT 10 (.int .u64 n)).trans rfl
theorem CellAt.setVal {w : World} {B vb : Nat} {cv : Value} {s : Cl} (h : CellAt w B vb cv s) {k : Nat} (hk : k < s.vals.length) (y : Vl) :
    CellAt (((w.setCell ⟨vb, k * 3, none⟩ (.float .f64 y.x)).setCell ⟨vb, k * 3 + 1, none⟩ (.int .i64 y.writer)).setCell ⟨vb, k * 3 + 2, none⟩ (.int .u64 y.tag)) B vb cv { s with vals := s.vals.set k y } := by
  have hne : B ≠ vb := blk_ne h.top h.vals (by decide)
  refine ⟨?_, ?_, h.sets.keep fun q hq => ?_, by show (s.vals.set k y).length = _; rw [List.length_set]; exact h.len, by show (s.vals.set k y).length ≤ 16; rw [List.length_set]; exact h.l16, h.bits⟩
  · have hT := h.top
    unfold Cl.top at hT ⊢
    show _ = some (Obj.cells #[.int .i64 s.c.n, cv, .int .i64 s.c.window, .int .i64 s.c.queue, .int .i64 s.c.first, .int .i64 s.c.most, .int .i64 s.c.body, .int .i64 s.c.engine, .int .i64 s.me, .slice (some ⟨vb, 0, none⟩) (s.vals.set k y).length (s.vals.set k y).length, .int .u64 s.tags] _ (0, 0))
    rw [List.length_set]
    exact blk_far (blk_far (blk_far hT (p := ⟨vb, k * 3, none⟩) hne _) (p := ⟨vb, k * 3 + 1, none⟩) hne _) (p := ⟨vb, k * 3 + 2, none⟩) hne _
  · rw [← flat_put Vl.len (by decide) s.vals k y hk]
    exact blk_set (blk_set (blk_set h.vals (k * 3) _) (k * 3 + 1) _) (k * 3 + 2) _
  · have := (h.own_ne hq).2
    exact ((Below.heap_setCell _ ⟨vb, k * 3 + 2, none⟩ _ q this).trans (Below.heap_setCell _ ⟨vb, k * 3 + 1, none⟩ _ q this)).trans (Below.heap_setCell _ ⟨vb, k * 3, none⟩ _ q this)
/-- What a call that writes leaves. -/
def Wrote (w : World) (B vb : Nat) (cv : Value) (s : Cl) (v : Value) (e : Ending) (w' : World) : Prop := e = .returned v ∧ CellAt w' B vb cv s ∧ Mod (fun i => i = B ∨ i = vb) w w'
theorem CellAt.cells {w : World} {B vb : Nat} {cv : Value} {s : Cl} (h : CellAt w B vb cv s) :
    w.cell? ⟨B, 8, Option.none⟩ = some (.int .i64 s.me) ∧ w.cell? ⟨B, 9, Option.none⟩ = some (.slice (some ⟨vb, 0, Option.none⟩) s.vals.length s.vals.length) ∧ w.cell? ⟨B, 10, Option.none⟩ = some (.int .u64 s.tags) := by
  have hT := h.top
  unfold Cl.top at hT
  exact ⟨(blk_cell hT 8).trans rfl, (blk_cell hT 9).trans rfl, (blk_cell hT 10).trans rfl⟩
def Cl.wrote (s : Cl) (k : Nat) (x : Nat) : Cl := { s with tags := s.tags + 1, vals := s.vals.set k ⟨plainW x, s.me, s.tags + 1⟩ }
set_option maxHeartbeats 2000000 in
theorem write_no (B vb : Nat) (cv : Value) (s : Cl) (v e : Int) (x : Nat) (w : World) (h : CellAt w B vb cv s) (hm : s.may v = e) (he : e ≠ 0) :
    Calls Try.prog 10 #[.pointer (some ⟨B, 0, none⟩), .int .i64 v, .float .f64 x] w (Told w (.tuple #[Vl.val ⟨0, 0, 0⟩, .int .i64 e])) := by
  have HM := Lib.hid (may_any B vb cv s v (w.alloc (.cells #[.float .f64 0, .int .i64 0, .int .u64 0] 35)) (h.same ((Mod.refl _ _).alloc _)))
  rw [hm] at HM
  have t1 : (e != 0) = true := by rw [bne_iff_ne]; exact he
  have hb := blk_new w (.cells #[.float .f64 0, .int .i64 0, .int .u64 0] 35)
  have HB := Lib.hid hb
  clear hm he h hb
  go_enter Try.func10, Try.ntmps10
  go_wp2_with fail
  refine HM.out.mono ?_
  rintro d w1 ⟨rfl, hm⟩
  have hb := hm.blk HB.out (fun x => x)
  obtain ⟨r0, r1, r2⟩ := three_cells hb
  have f0 := blk_frozen hb 0
  have f1 := blk_frozen hb 1
  have f2 := blk_frozen hb 2
  have HM1 := Lib.hid (mod_res hm (.float .f64 0) (.int .i64 0) (.int .u64 0))
  have HZ := Lib.hid (three_set (x := .float .f64 0) (y := .int .i64 0) (u := .int .u64 0) hb)
  clear hm HM HB hb
  go_wp2
  generalize (((w1.setCell ⟨w.heap.size, 0, none⟩ (.float .f64 0)).setCell ⟨w.heap.size, 1, none⟩ (.int .i64 0)).setCell ⟨w.heap.size, 2, none⟩ (.int .u64 0)) = W at *
  obtain ⟨z0, z1, z2⟩ := three_cells HZ.out
  refine bodyPost_ret (v := .tuple #[.agg #[.float .f64 0, .int .i64 0, .int .u64 0], .int .i64 e]) (by simp [results, Try.results10, go_sem, z0, z1, z2]) rfl ⟨rfl, HM1.out⟩
set_option maxHeartbeats 4000000 in
theorem write_yes (B vb : Nat) (cv : Value) (s : Cl) (k : Nat) (x : Nat) (w : World) (h : CellAt w B vb cv s) (hm : s.may k = 0) (hk : k < s.vals.length) (ht : s.tags ≤ 1000) :
    Calls Try.prog 10 #[.pointer (some ⟨B, 0, none⟩), .int .i64 k, .float .f64 x] w (Wrote w B vb cv (s.wrote k x) (.tuple #[Vl.val ⟨plainW x, s.me, s.tags + 1⟩, .int .i64 0])) := by
  have hA := h.same (w' := w.alloc (.cells #[.float .f64 0, .int .i64 0, .int .u64 0] 35)) ((Mod.refl _ _).alloc _)
  have HM := Lib.hid (may_any B vb cv s k _ hA)
  have HA := Lib.hid hA
  rw [hm] at HM
  have hb := blk_new w (.cells #[.float .f64 0, .int .i64 0, .int .u64 0] 35)
  have HB := Lib.hid hb
  have HP := Lib.hid (plain_any' x)
  have hBz := blk_lt h.top
  have hvz := blk_lt h.vals
  have HOZ : Hid (∀ q, cv.ownBlock = some q → q < w.heap.size) := fun q hq => h.sets.lt hq
  have hne : B ≠ vb := blk_ne h.top h.vals (by decide)
  have hk0 : (0 : Int) ≤ (k : Int) := by omega
  have hk1 : (k : Int) < (s.vals.length : Int) := by omega
  have hl := h.l16
  have ht0 : (0 : Int) ≤ (s.tags : Int) := by omega
  have ht1 : (s.tags : Int) ≤ 1000 := by omega
  obtain ⟨n, hn⟩ : ∃ n, n = s.tags + 1 := ⟨_, rfl⟩
  have HN := Lib.hid hn
  have en : (n : Int) = (s.tags : Int) + 1 := by omega
  have HEN := Lib.hid en
  obtain ⟨y, hy⟩ : ∃ y, s.vals[k]? = some y := ⟨_, List.getElem?_eq_getElem hk⟩
  have HY := Lib.hid hy
  unfold Vl.val
  clear hm h hb hA hn en hy
  go_enter Try.func10, Try.ntmps10
  go_wp2_with fail
  refine HM.out.mono ?_
  rintro d w1 ⟨rfl, hm⟩
  have hb := hm.blk HB.out (fun x => x)
  have hC := HA.out.same hm
  have hT := hC.top
  unfold Cl.top at hT
  have c10 := (blk_cell hT 10).trans rfl
  have f10 := blk_frozen hT 10
  have HCu := Lib.hid (hC.setTags n)
  have HBu : Hid ((w1.setCell ⟨B, 10, none⟩ (.int .u64 n)).heap[w.heap.size]? = some (.cells #[.float .f64 0, .int .i64 0, .int .u64 0] 35 (0, 0))) := blk_far hb (p := ⟨B, 10, none⟩) (by show w.heap.size ≠ B; omega) _
  have HMu : Hid (Mod (fun i => i = B ∨ i = vb) w (w1.setCell ⟨B, 10, none⟩ (.int .u64 n))) := (((Mod.refl _ w).alloc _).trans (hm.mono (fun _ _ x => x.elim))).set (p := ⟨B, 10, none⟩) (fun _ => .inl rfl) _
  rw [HEN.out] at HCu HBu HMu
  clear hm HM HB hb hT hC HA
  go_wp2_with fail
  generalize w1.setCell ⟨B, 10, none⟩ (Value.int IntKind.u64 ((s.tags : Int) + 1)) = u at *
  obtain ⟨q8, q9, q10⟩ := HCu.out.cells
  have q10' : u.cell? ⟨B, 10, none⟩ = some (.int .u64 (n : Int)) := q10
  obtain ⟨v0, v1, v2⟩ := CellAt.val (s := { s with tags := n }) HCu.out HY.out
  have g0 := blk_frozen HCu.out.vals (k * 3)
  have g1 := blk_frozen HCu.out.vals (k * 3 + 1)
  have g2 := blk_frozen HCu.out.vals (k * 3 + 2)
  have hC5 := CellAt.setVal (w := u.drew) (s := { s with tags := n }) (HCu.out.same ((Mod.refl _ u).drew)) (k := k) hk ⟨plainW x, s.me, n⟩
  have HC5 := Lib.hid hC5
  have HB5 : Hid ((((u.drew.setCell ⟨vb, k * 3, none⟩ (.float .f64 (plainW x))).setCell ⟨vb, k * 3 + 1, none⟩ (.int .i64 s.me)).setCell ⟨vb, k * 3 + 2, none⟩ (.int .u64 n)).heap[w.heap.size]? = some (.cells #[.float .f64 0, .int .i64 0, .int .u64 0] 35 (0, 0))) := by
    have hnz : w.heap.size ≠ vb := by omega
    exact blk_far (blk_far (blk_far (w := u.drew) HBu.out (p := ⟨vb, k * 3, none⟩) hnz _) (p := ⟨vb, k * 3 + 1, none⟩) hnz _) (p := ⟨vb, k * 3 + 2, none⟩) hnz _
  have HM5 : Hid (Mod (fun i => i = B ∨ i = vb) w (((u.drew.setCell ⟨vb, k * 3, none⟩ (.float .f64 (plainW x))).setCell ⟨vb, k * 3 + 1, none⟩ (.int .i64 s.me)).setCell ⟨vb, k * 3 + 2, none⟩ (.int .u64 n))) :=
    ((HMu.out.drew.set (p := ⟨vb, k * 3, none⟩) (fun _ => .inr rfl) _).set (p := ⟨vb, k * 3 + 1, none⟩) (fun _ => .inr rfl) _).set (p := ⟨vb, k * 3 + 2, none⟩) (fun _ => .inr rfl) _
  have hc5 := CellAt.cells hC5
  rw [List.length_set] at hc5
  have HS5 := Lib.hid hc5
  have HPX := Lib.hid (HP.out u.drew)
  clear hC5 hc5 HP q10 c10 f10
  obtain ⟨px, hpx⟩ : ∃ px, px = plainW x := ⟨_, rfl⟩
  have HPXE := Lib.hid hpx.symm
  rw [← hpx] at HC5 HB5 HM5 HS5 HPX
  clear hpx
  go_region_held3 (fun w' => w'.cell? ⟨B, 8, none⟩ = some (.int .i64 s.me) ∧ w'.cell? ⟨B, 9, none⟩ = some (.slice (some ⟨vb, 0, none⟩) s.vals.length s.vals.length) ∧ w'.cell? ⟨B, 10, none⟩ = some (.int .u64 (n : Int))) (first | assumption | exact ⟨q8, q9, q10'⟩ | exact HS5.out) (first | (go_at_call 29; refine HPX.out.mono ?_; rintro d w3 ⟨rfl, rfl⟩))
  have HC6 : Hid (CellAt ((((u.setCell ⟨vb, k * 3, none⟩ (.float .f64 px)).setCell ⟨vb, k * 3 + 1, none⟩ (.int .i64 s.me)).setCell ⟨vb, k * 3 + 2, none⟩ (.int .u64 (n : Int))).drew) B vb cv { s with tags := n, vals := s.vals.set k ⟨px, s.me, n⟩ }) := HC5.out
  have HB6 : Hid (((((u.setCell ⟨vb, k * 3, none⟩ (.float .f64 px)).setCell ⟨vb, k * 3 + 1, none⟩ (.int .i64 s.me)).setCell ⟨vb, k * 3 + 2, none⟩ (.int .u64 (n : Int))).drew).heap[w.heap.size]? = some (.cells #[.float .f64 0, .int .i64 0, .int .u64 0] 35 (0, 0))) := HB5.out
  have HM6 : Hid (Mod (fun i => i = B ∨ i = vb) w ((((u.setCell ⟨vb, k * 3, none⟩ (.float .f64 px)).setCell ⟨vb, k * 3 + 1, none⟩ (.int .i64 s.me)).setCell ⟨vb, k * 3 + 2, none⟩ (.int .u64 (n : Int))).drew)) := HM5.out
  clear HC5 HB5 HM5 HS5 v0 v1 v2 g0 g1 g2 q8 q9 q10' HCu HBu HMu HPX
  generalize (((u.setCell ⟨vb, k * 3, none⟩ (.float .f64 px)).setCell ⟨vb, k * 3 + 1, none⟩ (.int .i64 s.me)).setCell ⟨vb, k * 3 + 2, none⟩ (.int .u64 (n : Int))).drew = u5 at *
  have hc6 := CellAt.cells HC6.out
  rw [List.length_set] at hc6
  obtain ⟨q8, q9, q10⟩ := hc6
  obtain ⟨v0, v1, v2⟩ := CellAt.val (k := k) HC6.out (List.getElem?_set_self hk)
  have v0' : u5.cell? ⟨vb, k * 3, none⟩ = some (.float .f64 px) := v0
  have v1' : u5.cell? ⟨vb, k * 3 + 1, none⟩ = some (.int .i64 s.me) := v1
  have v2' : u5.cell? ⟨vb, k * 3 + 2, none⟩ = some (.int .u64 (n : Int)) := v2
  obtain ⟨r0, r1, r2⟩ := three_cells HB6.out
  have f0 := blk_frozen HB6.out 0
  have f1 := blk_frozen HB6.out 1
  have f2 := blk_frozen HB6.out 2
  have HZ := Lib.hid (three_set (x := .float .f64 px) (y := .int .i64 s.me) (u := .int .u64 (n : Int)) HB6.out)
  have HM7 : Hid (Mod (· = w.heap.size) u5 (((u5.setCell ⟨w.heap.size, 0, none⟩ (.float .f64 px)).setCell ⟨w.heap.size, 1, none⟩ (.int .i64 s.me)).setCell ⟨w.heap.size, 2, none⟩ (.int .u64 (n : Int)))) :=
    (((Mod.refl (· = w.heap.size) u5).set (p := ⟨w.heap.size, 0, none⟩) (fun _ => rfl) _).set (p := ⟨w.heap.size, 1, none⟩) (fun _ => rfl) _).set (p := ⟨w.heap.size, 2, none⟩) (fun _ => rfl) _
  clear v0 v1 v2 q8 q10 hk1 hk0
  have hi0 : (0 : Int) ≤ (k : Int) := by omega
  have hi1 : (k : Int) < (s.vals.length : Int) := by omega
  go_wp2
  generalize (((u5.setCell ⟨w.heap.size, 0, none⟩ (.float .f64 px)).setCell ⟨w.heap.size, 1, none⟩ (.int .i64 s.me)).setCell ⟨w.heap.size, 2, none⟩ (.int .u64 (n : Int))) = W at *
  obtain ⟨z0, z1, z2⟩ := three_cells HZ.out
  have HE : Hid (Wrote w B vb cv { s with tags := n, vals := s.vals.set k ⟨px, s.me, n⟩ } (.tuple #[.agg #[.float .f64 px, .int .i64 s.me, .int .u64 (n : Int)], .int .i64 0]) (.returned (.tuple #[.agg #[.float .f64 px, .int .i64 s.me, .int .u64 (n : Int)], .int .i64 0])) W) :=
    ⟨rfl, HC6.out.mod HM7.out (by omega) (by omega) (fun q hq => by have := HOZ.out q hq; omega), HM6.out.trans' (HM7.out) (fun i hi e => by omega)⟩
  have hn := HN.out
  refine bodyPost_ret (v := .tuple #[.agg #[.float .f64 px, .int .i64 s.me, .int .u64 (n : Int)], .int .i64 0]) (by simp [results, Try.results10, go_sem, z0, z1, z2]) rfl ?_
  have h := HE.out
  subst hn
  unfold Cl.wrote
  rw [HPXE.out]
  exact h
end Go.Proofs.Ytpdpnhikcmpcdaa
