/-
  film.Same.
-/
import Derived.Test.YtlklbdnlpljaiaaDoorFmL
import Derived.Laws.StructEq
namespace Go.Proofs.YtlklbdnlpljaiaaDoor
open Go.RowKit Go.Shoal

/-- Alike but for the numbers with a point. -/
def restB (k p f : Int) (n d : Nat) (v : Int) (g : Nat) (r : Int) (k' p' f' : Int) (n' d' : Nat) (v' : Int) (g' : Nat) (r' : Int) : Bool :=
  k == k' && (p == p' && (f == f' && (n == n' && (d == d' && (v == v' && (g == g' && r == r'))))))
def sameE (a b : Ev) : Bool := restB a.kind a.p a.frm a.num a.dst a.var a.tag a.err b.kind b.p b.frm b.num b.dst b.var b.tag b.err && sameW a.x b.x
theorem eq_zero (W : World) : (Op.equalIn 9999 28 (.float .f64 0) (.float .f64 0)).run Tryd.prog W = .ok true W := by kernel_rfl
theorem eq_ev (k p f v r k' p' f' v' r' : Int) (n d g n' d' g' : Nat) (W : World) :
    (binOp .eql 31 (.agg #[.int .i64 k, .int .i64 p, .int .i64 f, .int .u64 n, .int .u64 d, .int .i64 v, .float .f64 0, .int .u64 g, .int .i64 r]) (.agg #[.int .i64 k', .int .i64 p', .int .i64 f', .int .u64 n', .int .u64 d', .int .i64 v', .float .f64 0, .int .u64 g', .int .i64 r'])).run Tryd.prog W = .ok (.bool (restB k p f n d v g r k' p' f' n' d' v' g' r')) W := by
  have hz := eq_zero W
  unfold restB
  go_simp
  by_cases h1 : k = k'
  · by_cases h2 : p = p'
    · by_cases h3 : f = f'
      · by_cases h4 : n = n'
        · by_cases h5 : d = d'
          · by_cases h6 : v = v'
            · by_cases h7 : g = g'
              · by_cases h8 : r = r'
                · simp [h1, h2, h3, h4, h5, h6, h7, h8]
                · simp [h1, h2, h3, h4, h5, h6, h7, h8]
              · have e : ¬ (g : Int) = (g' : Int) := by omega
                simp [h1, h2, h3, h4, h5, h6, h7, e]
            · simp [h1, h2, h3, h4, h5, h6]
          · have e : ¬ (d : Int) = (d' : Int) := by omega
            simp [h1, h2, h3, h4, h5, e]
        · have e : ¬ (n : Int) = (n' : Int) := by omega
          simp [h1, h2, h3, h4, e]
      · simp [h1, h2, h3]
    · simp [h1, h2]
  · simp [h1]
theorem nine_cells {w : World} {X : Nat} {k p f n d v x g r : Value} {t : Nat} (hx : w.heap[X]? = some (.cells #[k, p, f, n, d, v, x, g, r] t (0, 0))) :
    w.cell? ⟨X, 0, none⟩ = some k ∧ w.cell? ⟨X, 1, none⟩ = some p ∧ w.cell? ⟨X, 2, none⟩ = some f ∧ w.cell? ⟨X, 3, none⟩ = some n ∧ w.cell? ⟨X, 4, none⟩ = some d ∧ w.cell? ⟨X, 5, none⟩ = some v ∧ w.cell? ⟨X, 6, none⟩ = some x ∧ w.cell? ⟨X, 7, none⟩ = some g ∧ w.cell? ⟨X, 8, none⟩ = some r :=
  ⟨(blk_cell hx 0).trans rfl, (blk_cell hx 1).trans rfl, (blk_cell hx 2).trans rfl, (blk_cell hx 3).trans rfl, (blk_cell hx 4).trans rfl, (blk_cell hx 5).trans rfl, (blk_cell hx 6).trans rfl, (blk_cell hx 7).trans rfl, (blk_cell hx 8).trans rfl⟩
set_option maxRecDepth 100000 in
set_option maxHeartbeats 8000000 in
theorem fsame_any (a b : Ev) (ha : a.x < B64) (hb : b.x < B64) (w : World) : Calls Tryd.prog 14 #[a.agg, b.agg] w fun q w' => q = .returned (.bool (sameE a b)) ∧ Mod (fun _ => False) w w' := by
  obtain ⟨k, p, f, n, d, v, x, g, r⟩ := a
  obtain ⟨k', p', f', n', d', v', x', g', r'⟩ := b
  unfold sameE
  dsimp only at ha hb ⊢
  have HSA : Hid (∀ W, Calls Tryd.prog 27 #[.float .f64 x, .float .f64 x'] W fun q w' => q = .returned (.bool (sameW x x')) ∧ W = w') := fun W => same_any x x' W ha hb
  have heq := eq_ev k p f v r k' p' f' v' r' n d g n' d' g'
  show Calls Tryd.prog 14 #[.agg #[.int .i64 k, .int .i64 p, .int .i64 f, .int .u64 n, .int .u64 d, .int .i64 v, .float .f64 x, .int .u64 g, .int .i64 r], .agg #[.int .i64 k', .int .i64 p', .int .i64 f', .int .u64 n', .int .u64 d', .int .i64 v', .float .f64 x', .int .u64 g', .int .i64 r']] w _
  generalize restB k p f n d v g r k' p' f' n' d' v' g' r' = RB at *
  generalize sameW x x' = SB at *
  have HB2 : Hid (((w.alloc (.cells #[.int .i64 k, .int .i64 p, .int .i64 f, .int .u64 n, .int .u64 d, .int .i64 v, .float .f64 x, .int .u64 g, .int .i64 r] 31)).alloc (.cells #[.int .i64 k', .int .i64 p', .int .i64 f', .int .u64 n', .int .u64 d', .int .i64 v', .float .f64 x', .int .u64 g', .int .i64 r'] 31)).heap[w.heap.size + 1]? = some (.cells #[.int .i64 k', .int .i64 p', .int .i64 f', .int .u64 n', .int .u64 d', .int .i64 v', .float .f64 x', .int .u64 g', .int .i64 r'] 31 (0, 0))) := by
    have h := blk_new (w.alloc (.cells #[.int .i64 k, .int .i64 p, .int .i64 f, .int .u64 n, .int .u64 d, .int .i64 v, .float .f64 x, .int .u64 g, .int .i64 r] 31)) (.cells #[.int .i64 k', .int .i64 p', .int .i64 f', .int .u64 n', .int .u64 d', .int .i64 v', .float .f64 x', .int .u64 g', .int .i64 r'] 31)
    rw [show (w.alloc (.cells #[.int .i64 k, .int .i64 p, .int .i64 f, .int .u64 n, .int .u64 d, .int .i64 v, .float .f64 x, .int .u64 g, .int .i64 r] 31)).heap.size = w.heap.size + 1 by simp] at h
    exact h
  have HB1 : Hid (((w.alloc (.cells #[.int .i64 k, .int .i64 p, .int .i64 f, .int .u64 n, .int .u64 d, .int .i64 v, .float .f64 x, .int .u64 g, .int .i64 r] 31)).alloc (.cells #[.int .i64 k', .int .i64 p', .int .i64 f', .int .u64 n', .int .u64 d', .int .i64 v', .float .f64 x', .int .u64 g', .int .i64 r'] 31)).heap[w.heap.size]? = some (.cells #[.int .i64 k, .int .i64 p, .int .i64 f, .int .u64 n, .int .u64 d, .int .i64 v, .float .f64 x, .int .u64 g, .int .i64 r] 31 (0, 0))) := blk_alloc (blk_new w _) _
  have HM : Hid (Mod (fun _ => False) w ((w.alloc (.cells #[.int .i64 k, .int .i64 p, .int .i64 f, .int .u64 n, .int .u64 d, .int .i64 v, .float .f64 x, .int .u64 g, .int .i64 r] 31)).alloc (.cells #[.int .i64 k', .int .i64 p', .int .i64 f', .int .u64 n', .int .u64 d', .int .i64 v', .float .f64 x', .int .u64 g', .int .i64 r'] 31))) := ((Mod.refl _ _).alloc _).alloc _
  have hx6 := (blk_cell HB1.out 6).trans rfl
  have hy6 := (blk_cell HB2.out 6).trans rfl
  clear ha hb
  go_enter Tryd.func14, Tryd.ntmps14
  go_wp2_with fail
  generalize (w.alloc (.cells #[.int .i64 k, .int .i64 p, .int .i64 f, .int .u64 n, .int .u64 d, .int .i64 v, .float .f64 x, .int .u64 g, .int .i64 r] 31)).alloc (.cells #[.int .i64 k', .int .i64 p', .int .i64 f', .int .u64 n', .int .u64 d', .int .i64 v', .float .f64 x', .int .u64 g', .int .i64 r'] 31) = W2 at *
  go_quiet (fail)
  have HN : Hid ((((W2.drewN nq).setCell ⟨w.heap.size, 6, none⟩ (.float .f64 0)).setCell ⟨w.heap.size + 1, 6, none⟩ (.float .f64 0)).heap[w.heap.size]? = some (.cells #[.int .i64 k, .int .i64 p, .int .i64 f, .int .u64 n, .int .u64 d, .int .i64 v, .float .f64 0, .int .u64 g, .int .i64 r] 31 (0, 0))) :=
    blk_far ((blk_set (w := W2.drewN nq) HB1.out 6 (.float .f64 0)).trans rfl) (p := ⟨w.heap.size + 1, 6, none⟩) (show w.heap.size ≠ w.heap.size + 1 by omega) _
  have HN' : Hid ((((W2.drewN nq).setCell ⟨w.heap.size, 6, none⟩ (.float .f64 0)).setCell ⟨w.heap.size + 1, 6, none⟩ (.float .f64 0)).heap[w.heap.size + 1]? = some (.cells #[.int .i64 k', .int .i64 p', .int .i64 f', .int .u64 n', .int .u64 d', .int .i64 v', .float .f64 0, .int .u64 g', .int .i64 r'] 31 (0, 0))) :=
    (blk_set (blk_far (w := W2.drewN nq) HB2.out (p := ⟨w.heap.size, 6, none⟩) (show w.heap.size + 1 ≠ w.heap.size by omega) (.float .f64 0)) 6 (.float .f64 0)).trans rfl
  have HM2 : Hid (Mod (fun _ => False) w (((W2.drewN nq).setCell ⟨w.heap.size, 6, none⟩ (.float .f64 0)).setCell ⟨w.heap.size + 1, 6, none⟩ (.float .f64 0))) := ((HM.out.drewN nq).set (p := ⟨w.heap.size, 6, none⟩) (fun h => absurd h (Nat.lt_irrefl _)) _).set (p := ⟨w.heap.size + 1, 6, none⟩) (fun h => absurd h (by show ¬ w.heap.size + 1 < w.heap.size; omega)) _
  have f6 := blk_frozen HB1.out 6
  have g6 := blk_frozen HB2.out 6
  have hne : ¬ w.heap.size = w.heap.size + 1 := by omega
  obtain ⟨a0, a1, a2, a3, a4, a5, a6, a7, a8⟩ := nine_cells HN.out
  obtain ⟨b0, b1, b2, b3, b4, b5, b6, b7, b8⟩ := nine_cells HN'.out
  clear HB1 HB2 HM
  cases RB with
  | false =>
    go_wp2
    go_ret
    exact ⟨rfl, HM2.out⟩
  | true =>
    go_wp2_with fail
    refine (HSA.out _).mono ?_
    rintro q w1 ⟨rfl, rfl⟩
    go_wp2
    go_ret
    exact ⟨rfl, HM2.out⟩
end Go.Proofs.YtlklbdnlpljaiaaDoor
