/-
  The reference's SameEvent.
-/
import Derived.Test.YtlklbdnlpljaiaaDoorFmU
namespace Go.Proofs.YtlklbdnlpljaiaaDoor
open Go.RowKit Go.Shoal

set_option maxRecDepth 100000 in
set_option maxHeartbeats 16000000 in
theorem rsameE_any (a b : Ev) (ha : a.x < B64) (hb : b.x < B64) (w : World) : Calls Tryd.prog 20 #[a.agg, b.agg] w fun q w' => q = .returned (.bool (sameE a b)) ∧ Mod (fun _ => False) w w' := by
  obtain ⟨k, p, f, n, d, v, x, g, r⟩ := a
  obtain ⟨k', p', f', n', d', v', x', g', r'⟩ := b
  dsimp only at ha hb
  have HSA : Hid (∀ W, Calls Tryd.prog 32 #[.float .f64 x, .float .f64 x'] W fun q w' => q = .returned (.bool (sameW x x')) ∧ W = w') := fun W => rsame_any x x' W ha hb
  obtain ⟨R, hR⟩ : ∃ R, R = sameE ⟨k, p, f, n, d, v, x, g, r⟩ ⟨k', p', f', n', d', v', x', g', r'⟩ := ⟨_, rfl⟩
  rw [← hR]
  unfold sameE restB at hR
  dsimp only at hR
  generalize sameW x x' = SB at *
  show Calls Tryd.prog 20 #[.agg #[.int .i64 k, .int .i64 p, .int .i64 f, .int .u64 n, .int .u64 d, .int .i64 v, .float .f64 x, .int .u64 g, .int .i64 r], .agg #[.int .i64 k', .int .i64 p', .int .i64 f', .int .u64 n', .int .u64 d', .int .i64 v', .float .f64 x', .int .u64 g', .int .i64 r']] w _
  have h1 : ((w.alloc (.cells #[.int .i64 k, .int .i64 p, .int .i64 f, .int .u64 n, .int .u64 d, .int .i64 v, .float .f64 x, .int .u64 g, .int .i64 r] 44)).alloc (.cells #[.int .i64 k', .int .i64 p', .int .i64 f', .int .u64 n', .int .u64 d', .int .i64 v', .float .f64 x', .int .u64 g', .int .i64 r'] 44)).heap[w.heap.size]? = some (.cells #[.int .i64 k, .int .i64 p, .int .i64 f, .int .u64 n, .int .u64 d, .int .i64 v, .float .f64 x, .int .u64 g, .int .i64 r] 44 (0, 0)) := blk_alloc (blk_new w _) _
  have h2 : ((w.alloc (.cells #[.int .i64 k, .int .i64 p, .int .i64 f, .int .u64 n, .int .u64 d, .int .i64 v, .float .f64 x, .int .u64 g, .int .i64 r] 44)).alloc (.cells #[.int .i64 k', .int .i64 p', .int .i64 f', .int .u64 n', .int .u64 d', .int .i64 v', .float .f64 x', .int .u64 g', .int .i64 r'] 44)).heap[w.heap.size + 1]? = some (.cells #[.int .i64 k', .int .i64 p', .int .i64 f', .int .u64 n', .int .u64 d', .int .i64 v', .float .f64 x', .int .u64 g', .int .i64 r'] 44 (0, 0)) := by
    have h := blk_new (w.alloc (.cells #[.int .i64 k, .int .i64 p, .int .i64 f, .int .u64 n, .int .u64 d, .int .i64 v, .float .f64 x, .int .u64 g, .int .i64 r] 44)) (.cells #[.int .i64 k', .int .i64 p', .int .i64 f', .int .u64 n', .int .u64 d', .int .i64 v', .float .f64 x', .int .u64 g', .int .i64 r'] 44)
    rw [show (w.alloc (.cells #[.int .i64 k, .int .i64 p, .int .i64 f, .int .u64 n, .int .u64 d, .int .i64 v, .float .f64 x, .int .u64 g, .int .i64 r] 44)).heap.size = w.heap.size + 1 by simp] at h
    exact h
  obtain ⟨a0, a1, a2, a3, a4, a5, a6, a7, a8⟩ := nine_cells h1
  obtain ⟨b0, b1, b2, b3, b4, b5, b6, b7, b8⟩ := nine_cells h2
  have HM : Hid (Mod (fun _ => False) w ((w.alloc (.cells #[.int .i64 k, .int .i64 p, .int .i64 f, .int .u64 n, .int .u64 d, .int .i64 v, .float .f64 x, .int .u64 g, .int .i64 r] 44)).alloc (.cells #[.int .i64 k', .int .i64 p', .int .i64 f', .int .u64 n', .int .u64 d', .int .i64 v', .float .f64 x', .int .u64 g', .int .i64 r'] 44))) := ((Mod.refl _ _).alloc _).alloc _
  clear ha hb h1 h2
  by_cases qk : k = k'
  rotate_left
  · have tk : (k == k') = false := beq_eq_false_iff_ne.2 qk
    have hR : R = false := by rw [hR]; simp [tk]
    clear qk
    go_enter Tryd.func20, Tryd.ntmps20
    go_wp2
    go_ret
    exact ⟨by rw [hR]; rfl, HM.out⟩
  have tk : (k == k') = true := beq_iff_eq.2 qk
  rw [tk, Bool.true_and] at hR
  clear qk
  by_cases qp : p = p'
  rotate_left
  · have tp : (p == p') = false := beq_eq_false_iff_ne.2 qp
    have hR : R = false := by rw [hR]; simp [tp]
    clear qp
    go_enter Tryd.func20, Tryd.ntmps20
    go_wp2
    go_ret
    exact ⟨by rw [hR]; rfl, HM.out⟩
  have tp : (p == p') = true := beq_iff_eq.2 qp
  rw [tp, Bool.true_and] at hR
  clear qp
  by_cases qf : f = f'
  rotate_left
  · have tf : (f == f') = false := beq_eq_false_iff_ne.2 qf
    have hR : R = false := by rw [hR]; simp [tf]
    clear qf
    go_enter Tryd.func20, Tryd.ntmps20
    go_wp2
    go_ret
    exact ⟨by rw [hR]; rfl, HM.out⟩
  have tf : (f == f') = true := beq_iff_eq.2 qf
  rw [tf, Bool.true_and] at hR
  clear qf
  by_cases qn : n = n'
  rotate_left
  · have tn : ((n : Int) == (n' : Int)) = false := beq_eq_false_iff_ne.2 (by omega)
    have un : (n == n') = false := beq_eq_false_iff_ne.2 qn
    have hR : R = false := by rw [hR]; simp [un]
    clear qn
    go_enter Tryd.func20, Tryd.ntmps20
    go_wp2
    go_ret
    exact ⟨by rw [hR]; rfl, HM.out⟩
  have tn : ((n : Int) == (n' : Int)) = true := beq_iff_eq.2 (by omega)
  have un : (n == n') = true := beq_iff_eq.2 qn
  rw [un, Bool.true_and] at hR
  clear qn un
  by_cases qd : d = d'
  rotate_left
  · have td : ((d : Int) == (d' : Int)) = false := beq_eq_false_iff_ne.2 (by omega)
    have ud : (d == d') = false := beq_eq_false_iff_ne.2 qd
    have hR : R = false := by rw [hR]; simp [ud]
    clear qd
    go_enter Tryd.func20, Tryd.ntmps20
    go_wp2
    go_ret
    exact ⟨by rw [hR]; rfl, HM.out⟩
  have td : ((d : Int) == (d' : Int)) = true := beq_iff_eq.2 (by omega)
  have ud : (d == d') = true := beq_iff_eq.2 qd
  rw [ud, Bool.true_and] at hR
  clear qd ud
  by_cases qv : v = v'
  rotate_left
  · have tv : (v == v') = false := beq_eq_false_iff_ne.2 qv
    have hR : R = false := by rw [hR]; simp [tv]
    clear qv
    go_enter Tryd.func20, Tryd.ntmps20
    go_wp2
    go_ret
    exact ⟨by rw [hR]; rfl, HM.out⟩
  have tv : (v == v') = true := beq_iff_eq.2 qv
  rw [tv, Bool.true_and] at hR
  clear qv
  cases SB with
  | false =>
    have hR : R = false := by rw [hR]; simp
    go_enter Tryd.func20, Tryd.ntmps20
    go_wp2_with fail
    refine (HSA.out _).mono ?_
    rintro q w1 ⟨rfl, rfl⟩
    go_wp2
    go_ret
    exact ⟨by rw [hR]; rfl, HM.out⟩
  | true =>
  rw [Bool.and_true] at hR
  by_cases qg : g = g'
  rotate_left
  · have tg : ((g : Int) == (g' : Int)) = false := beq_eq_false_iff_ne.2 (by omega)
    have ug : (g == g') = false := beq_eq_false_iff_ne.2 qg
    have hR : R = false := by rw [hR]; simp [ug]
    clear qg
    go_enter Tryd.func20, Tryd.ntmps20
    go_wp2_with fail
    refine (HSA.out _).mono ?_
    rintro q w1 ⟨rfl, rfl⟩
    go_wp2
    go_ret
    exact ⟨by rw [hR]; rfl, HM.out⟩
  have tg : ((g : Int) == (g' : Int)) = true := beq_iff_eq.2 (by omega)
  have ug : (g == g') = true := beq_iff_eq.2 qg
  rw [ug, Bool.true_and] at hR
  clear qg ug
  by_cases qr : r = r'
  rotate_left
  · have tr : (r == r') = false := beq_eq_false_iff_ne.2 qr
    have hR : R = false := by rw [hR]; simp [tr]
    clear qr
    go_enter Tryd.func20, Tryd.ntmps20
    go_wp2_with fail
    refine (HSA.out _).mono ?_
    rintro q w1 ⟨rfl, rfl⟩
    go_wp2
    go_ret
    exact ⟨by rw [hR]; rfl, HM.out⟩
  have tr : (r == r') = true := beq_iff_eq.2 qr
  rw [tr] at hR
  clear qr
  go_enter Tryd.func20, Tryd.ntmps20
  go_wp2_with fail
  refine (HSA.out _).mono ?_
  rintro q w1 ⟨rfl, rfl⟩
  go_wp2
  go_ret
  exact ⟨by rw [hR]; rfl, HM.out⟩
end Go.Proofs.YtlklbdnlpljaiaaDoor
