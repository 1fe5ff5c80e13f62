/-
  What the rows give of memory.
-/
import Derived.Test.YtkmfbddiebigfaaDoorDsH
namespace Go.Proofs.YtkmfbddiebigfaaDoor
open Go.RowKit Go.Shoal
theorem laid_order {W : World} (h : laidMetH Tryd.prog Rows.dsetOrderRow.laid W) (hs : W.ShapedOpen Tryd.prog) : Tab W ∧ Errs W := laid_all h (by rfl) (by rfl) (by rfl) hs
theorem laid_back {W : World} (h : laidMetH Tryd.prog Rows.dsetBackRow.laid W) (hs : W.ShapedOpen Tryd.prog) : Tab W ∧ Errs W := laid_all h (by rfl) (by rfl) (by rfl) hs
theorem laid_known {W : World} (h : laidMetH Tryd.prog Rows.dsetKnownRow.laid W) (hs : W.ShapedOpen Tryd.prog) : Tab W ∧ Errs W := laid_all h (by rfl) (by rfl) (by rfl) hs
theorem laid_says {W : World} (h : laidMetH Tryd.prog Rows.dsetSaysRow.laid W) (hs : W.ShapedOpen Tryd.prog) : Tab W ∧ Errs W := laid_all h (by rfl) (by rfl) (by rfl) hs
end Go.Proofs.YtkmfbddiebigfaaDoor
