/-
  The reference's cell: Write, Apply.
-/
import Derived.Test.YtpdpnhikcmpcdaaCellP
namespace Go.Proofs.Ytpdpnhikcmpcdaa
open Go.RowKit Go.Shoal

theorem RAt.setTags {w : World} {RB : Nat} {cv vv : Value} {s : Cl} (h : RAt w RB cv vv s) (n : Nat) : RAt (w.setCell ⟨RB, 10, none⟩ (.int .u64 n)) RB cv vv { s with tags := n } := by
  refine ⟨?_, h.vals.keep fun q hq => Below.heap_setCell w ⟨RB, 10, none⟩ _ q (h.own_ne.1 q hq), h.sets.keep fun q hq => Below.heap_setCell w ⟨RB, 10, none⟩ _ q (h.own_ne.2 q hq), h.len, h.l16, h.bits⟩
  have hT := h.top
  unfold Cl.rtop at hT ⊢
  exact (blk_set hT 10 (.int .u64 n)).trans rfl
theorem RAt.three {w : World} {RB : Nat} {cv vv : Value} {s : Cl} (h : RAt w RB cv vv s) : w.cell? ⟨RB, 8, none⟩ = some (.int .i64 s.me) ∧ w.cell? ⟨RB, 10, none⟩ = some (.int .u64 s.tags) := ⟨h.cells.2.2.1, h.cells.2.2.2.2⟩
def Cl.rwrote (s : Cl) (k : Nat) (x : Nat) : Cl := { s with tags := s.tags + 1, vals := s.vals.set k ⟨x, s.me, s.tags + 1⟩ }
set_option maxHeartbeats 2000000 in
theorem rwrite_no (RB : Nat) (cv vv : Value) (s : Cl) (v e : Int) (x : Nat) (w : World) (h : RAt w RB cv vv s) (hm : s.rmay v = e) (he : e ≠ 0) :
    Calls Try.prog 22 #[.pointer (some ⟨RB, 0, none⟩), .int .i64 v, .float .f64 x] w (Told w (.tuple #[Vl.val ⟨0, 0, 0⟩, .int .i64 e])) := by
  have HM := Lib.hid (rmay_any RB cv vv s v (w.alloc (.cells #[.float .f64 0, .int .i64 0, .int .u64 0] 45)) (h.same ((Mod.refl _ _).alloc _)))
  rw [hm] at HM
  have t1 : (e != 0) = true := by rw [bne_iff_ne]; exact he
  have hb := blk_new w (.cells #[.float .f64 0, .int .i64 0, .int .u64 0] 45)
  have HB := Lib.hid hb
  clear hm he h hb
  go_enter Try.func22, Try.ntmps22
  go_wp2_with fail
  refine HM.out.mono ?_
  rintro d w1 ⟨rfl, hm⟩
  have hb := hm.blk HB.out (fun x => x)
  obtain ⟨r0, r1, r2⟩ := three_cells hb
  have f0 := blk_frozen hb 0
  have f1 := blk_frozen hb 1
  have f2 := blk_frozen hb 2
  have HM1 := Lib.hid (mod_res hm (.float .f64 0) (.int .i64 0) (.int .u64 0))
  have HZ := Lib.hid (three_set (x := .float .f64 0) (y := .int .i64 0) (u := .int .u64 0) hb)
  clear hm HM HB hb
  go_wp2
  generalize (((w1.setCell ⟨w.heap.size, 0, none⟩ (.float .f64 0)).setCell ⟨w.heap.size, 1, none⟩ (.int .i64 0)).setCell ⟨w.heap.size, 2, none⟩ (.int .u64 0)) = W at *
  obtain ⟨z0, z1, z2⟩ := three_cells HZ.out
  refine bodyPost_ret (v := .tuple #[.agg #[.float .f64 0, .int .i64 0, .int .u64 0], .int .i64 e]) (by simp [results, Try.results22, go_sem, z0, z1, z2]) rfl ⟨rfl, HM1.out⟩
set_option maxHeartbeats 4000000 in
theorem rwrite_yes (RB : Nat) (cv vv : Value) (s : Cl) (k : Nat) (x : Nat) (w : World) (h : RAt w RB cv vv s) (hm : s.rmay k = 0) (hk : k < s.vals.length) (ht : s.tags ≤ 1000) :
    Calls Try.prog 22 #[.pointer (some ⟨RB, 0, none⟩), .int .i64 k, .float .f64 x] w (RSet w RB cv (s.rwrote k x) (.tuple #[Vl.val ⟨x, s.me, s.tags + 1⟩, .int .i64 0])) := by
  have hA := h.same (w' := w.alloc (.cells #[.float .f64 0, .int .i64 0, .int .u64 0] 45)) ((Mod.refl _ _).alloc _)
  have HM := Lib.hid (rmay_any RB cv vv s k _ hA)
  have HA := Lib.hid hA
  rw [hm] at HM
  have hb := blk_new w (.cells #[.float .f64 0, .int .i64 0, .int .u64 0] 45)
  have HB := Lib.hid hb
  have hBz := blk_lt h.top
  have hk0 : (0 : Int) ≤ (k : Int) := by omega
  have ht0 : (0 : Int) ≤ (s.tags : Int) := by omega
  have ht1 : (s.tags : Int) ≤ 1000 := by omega
  obtain ⟨n, hn⟩ : ∃ n, n = s.tags + 1 := ⟨_, rfl⟩
  have HN := Lib.hid hn
  have en : (n : Int) = (s.tags : Int) + 1 := by omega
  have HEN := Lib.hid en
  unfold Vl.val
  clear hm h hb hA hn en
  go_enter Try.func22, Try.ntmps22
  go_wp2_with fail
  refine HM.out.mono ?_
  rintro d w1 ⟨rfl, hm⟩
  have hb := hm.blk HB.out (fun x => x)
  have hC := HA.out.same hm
  obtain ⟨_, _, _, _, c10⟩ := hC.cells
  have f10 := blk_frozen hC.top 10
  have HCu := Lib.hid (hC.setTags n)
  have HBu : Hid ((w1.setCell ⟨RB, 10, none⟩ (.int .u64 n)).heap[w.heap.size]? = some (.cells #[.float .f64 0, .int .i64 0, .int .u64 0] 45 (0, 0))) := blk_far hb (p := ⟨RB, 10, none⟩) (by show w.heap.size ≠ RB; omega) _
  have HMu : Hid (Mod (· = RB) w (w1.setCell ⟨RB, 10, none⟩ (.int .u64 n))) := (((Mod.refl (· = RB) w).alloc _).trans (hm.mono (fun _ _ x => x.elim))).set (p := ⟨RB, 10, none⟩) (fun _ => rfl) _
  rw [HEN.out] at HCu HBu HMu
  clear hm HM HB hb hC HA
  go_wp2_with fail
  generalize w1.setCell ⟨RB, 10, none⟩ (Value.int IntKind.u64 ((s.tags : Int) + 1)) = u at *
  have q := HCu.out.three
  have HK : Hid (∀ o, (u.drew.alloc o).cell? ⟨RB, 8, none⟩ = some (.int .i64 s.me) ∧ (u.drew.alloc o).cell? ⟨RB, 10, none⟩ = some (.int .u64 (n : Int))) := fun o => (HCu.out.same (((Mod.refl _ u).drew).alloc o)).three
  obtain ⟨q8, q10⟩ := q
  have q10' : u.cell? ⟨RB, 10, none⟩ = some (.int .u64 (n : Int)) := q10
  clear q10 c10 f10
  go_region_held3 (fun w' => w'.cell? ⟨RB, 8, none⟩ = some (.int .i64 s.me) ∧ w'.cell? ⟨RB, 10, none⟩ = some (.int .u64 (n : Int))) (first | assumption | exact ⟨q8, q10'⟩ | exact HK.out _) (first | fail)
  have hmA : Mod (fun _ => False) u (u.alloc (.cells #[.float .f64 x, .int .i64 s.me, .int .u64 (n : Int)] 45)).drew := ((Mod.refl _ u).alloc _).drew
  have hRz : RB < u.heap.size := blk_lt HCu.out.top
  have hzu : w.heap.size < u.heap.size := blk_lt HBu.out
  have HS := Lib.hid (rset_any RB cv vv { s with tags := n } k ⟨x, s.me, n⟩ _ (HCu.out.same hmA) hk)
  have HQ5 : Hid ((u.alloc (.cells #[.float .f64 x, .int .i64 s.me, .int .u64 (n : Int)] 45)).drew.heap[u.heap.size]? = some (.cells #[.float .f64 x, .int .i64 s.me, .int .u64 (n : Int)] 45 (0, 0))) := blk_new u _
  have HB5 := Lib.hid (hmA.blk HBu.out (fun x => x))
  have HM5 : Hid (Mod (· = RB) w (u.alloc (.cells #[.float .f64 x, .int .i64 s.me, .int .u64 (n : Int)] 45)).drew) := HMu.out.trans (hmA.mono fun _ _ x => x.elim)
  unfold Vl.val at HS
  clear hmA HCu HBu HMu HK q8 q10'
  go_wp2_with fail
  refine HS.out.mono ?_
  rintro d w5 ⟨rfl, vv', hR, hown, hm⟩
  have hq := hm.blk HQ5.out (by omega)
  have hz := hm.blk HB5.out (by omega)
  obtain ⟨v0, v1, v2⟩ := three_cells hq
  obtain ⟨r0, r1, r2⟩ := three_cells hz
  have f0 := blk_frozen hz 0
  have f1 := blk_frozen hz 1
  have f2 := blk_frozen hz 2
  have HZ := Lib.hid (three_set (x := .float .f64 x) (y := .int .i64 s.me) (u := .int .u64 (n : Int)) hz)
  have HM6 : Hid (Mod (· = RB) w w5) := HM5.out.trans hm
  have HM7 : Hid (Mod (· = w.heap.size) w5 (((w5.setCell ⟨w.heap.size, 0, none⟩ (.float .f64 x)).setCell ⟨w.heap.size, 1, none⟩ (.int .i64 s.me)).setCell ⟨w.heap.size, 2, none⟩ (.int .u64 (n : Int)))) :=
    (((Mod.refl (· = w.heap.size) w5).set (p := ⟨w.heap.size, 0, none⟩) (fun _ => rfl) _).set (p := ⟨w.heap.size, 1, none⟩) (fun _ => rfl) _).set (p := ⟨w.heap.size, 2, none⟩) (fun _ => rfl) _
  have HR := Lib.hid hR
  have HOWN := Lib.hid hown
  have hsz : (u.alloc (.cells #[.float .f64 x, .int .i64 s.me, .int .u64 (n : Int)] 45)).drew.heap.size = u.heap.size + 1 := by show (u.alloc _).heap.size = _; simp
  have hOZ : Hid (∀ q, vv'.ownBlock = some q → w.heap.size < q) := fun q hq => by have := hown q hq; omega
  have hCZ : Hid (∀ q, cv.ownBlock = some q → q ≠ w.heap.size) := fun q hq e => by
    obtain ⟨cur, hc⟩ := hR.sets.block hq
    rw [e, hz] at hc
    cases hc
  clear hq hz hm hR hown HS HQ5 HB5 HM5 hsz
  go_wp2
  generalize (((w5.setCell ⟨w.heap.size, 0, none⟩ (.float .f64 x)).setCell ⟨w.heap.size, 1, none⟩ (.int .i64 s.me)).setCell ⟨w.heap.size, 2, none⟩ (.int .u64 (n : Int))) = W at *
  obtain ⟨z0, z1, z2⟩ := three_cells HZ.out
  have HE : Hid (RSet w RB cv { s with tags := n, vals := s.vals.set k ⟨x, s.me, n⟩ } (.tuple #[.agg #[.float .f64 x, .int .i64 s.me, .int .u64 (n : Int)], .int .i64 0]) (.returned (.tuple #[.agg #[.float .f64 x, .int .i64 s.me, .int .u64 (n : Int)], .int .i64 0])) W) :=
    ⟨rfl, vv', HR.out.mod HM7.out (by omega) (fun q hq => by have := hOZ.out q hq; omega) (fun q hq => hCZ.out q hq), fun q hq => Nat.le_of_lt (hOZ.out q hq), HM6.out.trans' (HM7.out) (fun i hi e => by omega)⟩
  have hn := HN.out
  refine bodyPost_ret (v := .tuple #[.agg #[.float .f64 x, .int .i64 s.me, .int .u64 (n : Int)], .int .i64 0]) (by simp [results, Try.results22, go_sem, z0, z1, z2]) rfl ?_
  have h := HE.out
  subst hn
  exact h
theorem rapply_no (RB : Nat) (cv vv : Value) (s : Cl) (v e : Int) (x : Vl) (w : World) (h : RAt w RB cv vv s) (hm : s.rmay v = e) (he : e ≠ 0) :
    Calls Try.prog 23 #[.pointer (some ⟨RB, 0, none⟩), .int .i64 v, x.val] w (Told w (.int .i64 e)) := by
  have HM := Lib.hid (rmay_any RB cv vv s v (w.alloc (.cells #[.float .f64 x.x, .int .i64 x.writer, .int .u64 x.tag] 45)) (h.same ((Mod.refl _ _).alloc _)))
  rw [hm] at HM
  have t1 : (e != 0) = true := by rw [bne_iff_ne]; exact he
  unfold Vl.val
  clear hm he h
  go_enter Try.func23, Try.ntmps23
  go_wp2_with fail
  refine HM.out.mono ?_
  rintro d w1 ⟨rfl, hm⟩
  have HM1 : Hid (Mod (fun _ => False) w w1) := ((Mod.refl _ w).alloc _).trans hm
  clear hm HM
  go_wp2
  go_ret
  exact ⟨rfl, HM1.out⟩
set_option maxHeartbeats 2000000 in
theorem rapply_bad (RB : Nat) (cv vv : Value) (s : Cl) (v : Int) (x : Vl) (w : World) (h : RAt w RB cv vv s) (hm : s.rmay v = 0) (hx : ¬ s.takes x) :
    Calls Try.prog 23 #[.pointer (some ⟨RB, 0, none⟩), .int .i64 v, x.val] w (Told w (.int .i64 1)) := by
  have hA := h.same (w' := w.alloc (.cells #[.float .f64 x.x, .int .i64 x.writer, .int .u64 x.tag] 45)) ((Mod.refl _ _).alloc _)
  have HM := Lib.hid (rmay_any RB cv vv s v _ hA)
  have HA := Lib.hid hA
  rw [hm] at HM
  have hb := blk_new w (.cells #[.float .f64 x.x, .int .i64 x.writer, .int .u64 x.tag] 45)
  have HB := Lib.hid hb
  have HX := Lib.hid hx
  unfold Vl.val
  clear hm h hA hb hx
  go_enter Try.func23, Try.ntmps23
  go_wp2_with fail
  refine HM.out.mono ?_
  rintro d w1 ⟨rfl, hm⟩
  have HM1 : Hid (Mod (fun _ => False) w w1) := ((Mod.refl _ w).alloc _).trans hm
  have hC := HA.out.same hm
  obtain ⟨c0, _, c8, _, _⟩ := hC.cells
  obtain ⟨b0, b1, b2⟩ := three_cells (hm.blk HB.out (fun x => x))
  clear hm HM HB HA hC
  go_wp2
  by_cases h1 : x.writer < 0
  · have t1 : decide (x.writer < 0) = true := decide_eq_true h1
    go_quiet (fail)
    go_wp2
    go_ret
    exact ⟨rfl, HM1.out.drewN _⟩
  by_cases h2 : s.c.n ≤ x.writer
  · have t1 : decide (x.writer < 0) = false := decide_eq_false h1
    have t2 : decide (s.c.n ≤ x.writer) = true := decide_eq_true h2
    go_quiet (fail)
    go_wp2
    go_ret
    exact ⟨rfl, HM1.out.drewN _⟩
  by_cases h3 : x.writer = s.me
  · have t1 : decide (x.writer < 0) = false := decide_eq_false h1
    have t2 : decide (s.c.n ≤ x.writer) = false := decide_eq_false h2
    have t3 : (x.writer == s.me) = true := beq_iff_eq.2 h3
    clear h3
    go_quiet (fail)
    go_wp2
    go_ret
    exact ⟨rfl, HM1.out.drewN _⟩
  have h4 : x.tag = 0 := by
    rcases Nat.eq_zero_or_pos x.tag with h | h
    · exact h
    · exact absurd ⟨by omega, by omega, h3, by omega⟩ HX.out
  have t1 : decide (x.writer < 0) = false := decide_eq_false h1
  have t2 : decide (s.c.n ≤ x.writer) = false := decide_eq_false h2
  have t3 : (x.writer == s.me) = false := beq_eq_false_iff_ne.2 h3
  have t4 : ((x.tag : Int) == 0) = true := by rw [beq_iff_eq]; omega
  clear h4 h3
  go_quiet (fail)
  go_wp2
  go_ret
  exact ⟨rfl, HM1.out.drewN _⟩
def Cl.rtook (s : Cl) (k : Nat) (x : Vl) : Cl := { s with vals := s.vals.set k x }
set_option maxHeartbeats 4000000 in
theorem rapply_yes (RB : Nat) (cv vv : Value) (s : Cl) (k : Nat) (x : Vl) (w : World) (h : RAt w RB cv vv s) (hm : s.rmay k = 0) (hk : k < s.vals.length) (hx : s.takes x) :
    Calls Try.prog 23 #[.pointer (some ⟨RB, 0, none⟩), .int .i64 k, x.val] w (RSet w RB cv (s.rtook k x) (.int .i64 0)) := by
  have hA := h.same (w' := w.alloc (.cells #[.float .f64 x.x, .int .i64 x.writer, .int .u64 x.tag] 45)) ((Mod.refl _ _).alloc _)
  have HM := Lib.hid (rmay_any RB cv vv s k _ hA)
  have HA := Lib.hid hA
  rw [hm] at HM
  have hb := blk_new w (.cells #[.float .f64 x.x, .int .i64 x.writer, .int .u64 x.tag] 45)
  have HB := Lib.hid hb
  obtain ⟨x1, x2, x3, x4⟩ := hx
  have t1 : decide (x.writer < 0) = false := decide_eq_false (by omega)
  have t2 : decide (s.c.n ≤ x.writer) = false := decide_eq_false (by omega)
  have t3 : (x.writer == s.me) = false := beq_eq_false_iff_ne.2 x3
  have t4 : ((x.tag : Int) == 0) = false := by rw [beq_eq_false_iff_ne]; omega
  have hBz := blk_lt h.top
  unfold Vl.val
  clear hm h hb hA x1 x2 x3 x4
  go_enter Try.func23, Try.ntmps23
  go_wp2_with fail
  refine HM.out.mono ?_
  rintro d w1 ⟨rfl, hm⟩
  have HM1 : Hid (Mod (fun _ => False) w w1) := ((Mod.refl _ w).alloc _).trans hm
  have hC := HA.out.same hm
  have HC := Lib.hid hC
  obtain ⟨c0, _, c8, _, _⟩ := hC.cells
  have hb := hm.blk HB.out (fun x => x)
  obtain ⟨b0, b1, b2⟩ := three_cells hb
  clear hm HM HB HA hC hb
  go_wp2
  go_quiet (fail)
  have HS := Lib.hid (rset_any RB cv vv s k x (w1.drewN nq) (HC.out.same ((Mod.refl _ _).drewN nq)) hk)
  have HM2 : Hid (Mod (fun _ => False) w (w1.drewN nq)) := HM1.out.drewN nq
  unfold Vl.val at HS
  clear HC HM1
  go_wp2_with fail
  refine HS.out.mono ?_
  rintro d w5 ⟨rfl, vv', hR, hown, hm⟩
  have HE : Hid (RSet w RB cv (s.rtook k x) (.int .i64 0) (.returned (.int .i64 0)) w5) := ⟨rfl, vv', hR, fun q hq => by have := hown q hq; have := HM2.out.size; omega, (HM2.out.mono fun _ _ x => x.elim).trans hm⟩
  clear hR hown hm HS
  go_wp2
  go_ret
  exact HE.out
end Go.Proofs.Ytpdpnhikcmpcdaa
