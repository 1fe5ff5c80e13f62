/-
  event; the reference's SameEvent.
-/
import Derived.Test.YtlklbdnlpljaiaaDoorFmN
namespace Go.Proofs.YtlklbdnlpljaiaaDoor
open Go.RowKit Go.Shoal

set_option maxRecDepth 100000 in
set_option maxHeartbeats 8000000 in
theorem event_any (e : Ev) (w : World) : Calls Tryd.prog 18 #[e.agg] w fun q w' => q = .returned e.agg ∧ Mod (fun _ => False) w w' := by
  obtain ⟨k, p, f, n, d, v, x, g, r⟩ := e
  show Calls Tryd.prog 18 #[.agg #[.int .i64 k, .int .i64 p, .int .i64 f, .int .u64 n, .int .u64 d, .int .i64 v, .float .f64 x, .int .u64 g, .int .i64 r]] w fun q w' => q = .returned (.agg #[.int .i64 k, .int .i64 p, .int .i64 f, .int .u64 n, .int .u64 d, .int .i64 v, .float .f64 x, .int .u64 g, .int .i64 r]) ∧ Mod (fun _ => False) w w'
  have hb : ((w.alloc (.cells #[.int .i64 k, .int .i64 p, .int .i64 f, .int .u64 n, .int .u64 d, .int .i64 v, .float .f64 x, .int .u64 g, .int .i64 r] 31)).alloc (.cells #[.int .i64 0, .int .i64 0, .int .i64 0, .int .u64 0, .int .u64 0, .int .i64 0, .float .f64 0, .int .u64 0, .int .i64 0] 44)).heap[w.heap.size]? = some (.cells #[.int .i64 k, .int .i64 p, .int .i64 f, .int .u64 n, .int .u64 d, .int .i64 v, .float .f64 x, .int .u64 g, .int .i64 r] 31 (0, 0)) := blk_alloc (blk_new w _) _
  obtain ⟨b0, b1, b2, b3, b4, b5, b6, b7, b8⟩ := nine_cells hb
  have hc : ((w.alloc (.cells #[.int .i64 k, .int .i64 p, .int .i64 f, .int .u64 n, .int .u64 d, .int .i64 v, .float .f64 x, .int .u64 g, .int .i64 r] 31)).alloc (.cells #[.int .i64 k, .int .i64 p, .int .i64 f, .int .u64 n, .int .u64 d, .int .i64 v, .float .f64 x, .int .u64 g, .int .i64 r] 44)).heap[w.heap.size + 1]? = some (.cells #[.int .i64 k, .int .i64 p, .int .i64 f, .int .u64 n, .int .u64 d, .int .i64 v, .float .f64 x, .int .u64 g, .int .i64 r] 44 (0, 0)) := by
    have h := blk_new (w.alloc (.cells #[.int .i64 k, .int .i64 p, .int .i64 f, .int .u64 n, .int .u64 d, .int .i64 v, .float .f64 x, .int .u64 g, .int .i64 r] 31)) (.cells #[.int .i64 k, .int .i64 p, .int .i64 f, .int .u64 n, .int .u64 d, .int .i64 v, .float .f64 x, .int .u64 g, .int .i64 r] 44)
    rw [show (w.alloc (.cells #[.int .i64 k, .int .i64 p, .int .i64 f, .int .u64 n, .int .u64 d, .int .i64 v, .float .f64 x, .int .u64 g, .int .i64 r] 31)).heap.size = w.heap.size + 1 by simp] at h
    exact h
  obtain ⟨c0, c1, c2, c3, c4, c5, c6, c7, c8⟩ := nine_cells hc
  have HM : Hid (Mod (fun _ => False) w ((w.alloc (.cells #[.int .i64 k, .int .i64 p, .int .i64 f, .int .u64 n, .int .u64 d, .int .i64 v, .float .f64 x, .int .u64 g, .int .i64 r] 31)).alloc (.cells #[.int .i64 k, .int .i64 p, .int .i64 f, .int .u64 n, .int .u64 d, .int .i64 v, .float .f64 x, .int .u64 g, .int .i64 r] 44))) := ((Mod.refl _ _).alloc _).alloc _
  clear hb hc
  go_enter Tryd.func18, Tryd.ntmps18
  go_wp2
  clear b0 b1 b2 b3 b4 b5 b6 b7 b8
  generalize (w.alloc (.cells #[.int .i64 k, .int .i64 p, .int .i64 f, .int .u64 n, .int .u64 d, .int .i64 v, .float .f64 x, .int .u64 g, .int .i64 r] 31)).alloc (.cells #[.int .i64 k, .int .i64 p, .int .i64 f, .int .u64 n, .int .u64 d, .int .i64 v, .float .f64 x, .int .u64 g, .int .i64 r] 44) = W at *
  try simp only [Exit.inBlock, Exit.then]
  refine bodyPost_ret (v := .agg #[.int .i64 k, .int .i64 p, .int .i64 f, .int .u64 n, .int .u64 d, .int .i64 v, .float .f64 x, .int .u64 g, .int .i64 r]) (by simp [results, Tryd.results18, go_sem, c0, c1, c2, c3, c4, c5, c6, c7, c8]) rfl ?_
  exact ⟨rfl, HM.out⟩
end Go.Proofs.YtlklbdnlpljaiaaDoor
