/-
  PlaceSays' walk from what came in.
-/
import Derived.Test.YtcnjllkmliphkaaDoorKeepT
import Derived.Test.YtcnjllkmliphkaaDoorKeepI
namespace Go.Proofs.YtcnjllkmliphkaaDoor
open Go.RowKit Go.Shoal Go.WideShapes
theorem ps_walk {H : Type} {enc : TypeId × Value → H} {b0 : Nat} {d : DataW H} {ps : List MemPlace} (w : World) (hT : Tab w) (v : Value) (hok : Value.okWide Tryd.prog w .any b0 26 v)
    (h : DataW.Trod enc Tryd.prog w 0 (fun _ => true) true 26 v d ps) (p : Int) (_ : (Lit.int .i64 p).wf = true) (x : Int) (_ : (Lit.int .i64 x).wf = true) (t : Int) (ht : (Lit.int .u64 t).wf = true) :
    Calls Tryd.prog 4 #[v, .int .i64 p, .int .i64 x, .int .u64 t] w fun d w' => d = .returned (.bool true) ∧ Below w.heap.size w w' := by
  obtain ⟨c, u, rfl, hS, _⟩ := open_config hok h
  have ht' := wf_u64 ht
  obtain ⟨t, rfl⟩ := Int.eq_ofNat_of_zero_le ht'.1
  have : Calls Tryd.prog 4 #[c.val u, .int .i64 p, .int .i64 x, .int .u64 (t : Int)] w fun d w' => d = .returned (.bool true) ∧ Below w.heap.size w w' := by
    by_cases hl : 30 < c.vars.length
    · exact (ps_long c u p x t w hS hl).mono fun _ _ ⟨x, y⟩ => ⟨x, y.none_below⟩
    · exact (ps_short c u p x t w hS hT (by omega) (by omega)).mono fun _ _ ⟨x, y⟩ => ⟨x, y.none_below⟩
  unfold Cf.val at this ⊢
  exact this
end Go.Proofs.YtcnjllkmliphkaaDoor
