/-
  PlaceMay's walk from what came in.
-/
import Derived.Test.YtcnjllkmliphkaaPlaceH
namespace Go.Proofs.Ytcnjllkmliphkaa
open Go.RowKit Go.Shoal Go.WideShapes
theorem pm_walk {H : Type} {enc : TypeId × Value → H} {b0 : Nat} {d : DataW H} {ps : List MemPlace} (w : World) (v : Value) (hok : Value.okWide Try.prog w .any b0 25 v)
    (h : DataW.Trod enc Try.prog w 0 (fun _ => true) true 25 v d ps) (p : Int) (_ : (Lit.int .i64 p).wf = true) (s : Int) (hs : (Lit.int .u64 s).wf = true) (t : Int) (ht : (Lit.int .u64 t).wf = true) :
    Calls Try.prog 4 #[v, .int .i64 p, .int .u64 s, .int .u64 t] w fun d w' => d = .returned (.bool true) ∧ Below w.heap.size w w' := by
  obtain ⟨c, u, rfl, hS, _⟩ := open_config hok h
  have := pm_any c u p s t w hS hs ht
  unfold Cf.val at this ⊢
  exact this
end Go.Proofs.Ytcnjllkmliphkaa
