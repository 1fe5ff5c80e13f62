/-
  PlaceKnown's walk.
-/
import Derived.Test.YtcnjllkmliphkaaDoorKeepJ
import Derived.Test.YtcnjllkmliphkaaDoorKeepH
namespace Go.Proofs.YtcnjllkmliphkaaDoor
open Go.RowKit Go.Shoal
theorem known_walk (w : World) (hT : Tab w) : Calls Tryd.prog 3 #[] w fun d w' => d = .returned (.bool true) ∧ Below w.heap.size w w' :=
  (known_any w hT).mono fun _ _ ⟨x, y⟩ => ⟨x, y.none_below⟩
end Go.Proofs.YtcnjllkmliphkaaDoor
