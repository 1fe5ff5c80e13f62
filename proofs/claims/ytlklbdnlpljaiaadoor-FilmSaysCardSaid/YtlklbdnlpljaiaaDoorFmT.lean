/-
  What the rows give of memory.
-/
import Derived.Test.YtlklbdnlpljaiaaDoorFmB
import Derived.Test.YtlklbdnlpljaiaaDoorRows
import Derived.LaidSub
namespace Go.Proofs.YtlklbdnlpljaiaaDoor
open Go.RowKit Go.Shoal Go.WideShapes

theorem gTab : Tryd.prog.globalNamed "math/bits.deBruijn64tab" = some 2 := by kernel_rfl
theorem gTabType : (Tryd.prog.globals[2]?).map (·.type) = some 112 := by kernel_rfl
theorem cellsTab : Tryd.prog.cellsOf 112 = 64 := by kernel_rfl
theorem cellsU8 : Tryd.prog.cellsOf 5 = 1 := by kernel_rfl
theorem gTab32 : Tryd.prog.globalNamed "math/bits.deBruijn32tab" = some 4 := by kernel_rfl
theorem gPowType : (Tryd.prog.globals[1]?).map (·.type) = some 107 := by kernel_rfl
theorem cellsPow : Tryd.prog.cellsOf 107 = 20 := by kernel_rfl
theorem cellsU64 : Tryd.prog.cellsOf 26 = 1 := by kernel_rfl
theorem pow_data : (Rows.laid_internal_strconv_uint64pow10 : DataW Unit) = Lib.tabData .u64 Lib.pow10Tab := by kernel_rfl
theorem laid_tabs {l : List (String × DataW Unit)} {W : World} (h : laidMetH Tryd.prog l W) (h0 : l.filter (fun x => x.1 == "math/bits.deBruijn64tab") = [("math/bits.deBruijn64tab", Rows.laid_math_bits_deBruijn64tab)])
    (h1 : l.filter (fun x => x.1 == "internal/strconv.uint64pow10") = [("internal/strconv.uint64pow10", Rows.laid_internal_strconv_uint64pow10)]) (h2 : l.filter (fun x => x.1 == "math/bits.deBruijn32tab") = [("math/bits.deBruijn32tab", Rows.laid_math_bits_deBruijn32tab)]) : Tab W := by
  have g0 : laidMetH Tryd.prog [("math/bits.deBruijn64tab", Rows.laid_math_bits_deBruijn64tab)] W := h0 ▸ h.filter (fun x => x.1 == "math/bits.deBruijn64tab")
  have g1 : laidMet Tryd.prog [("internal/strconv.uint64pow10", Rows.laid_internal_strconv_uint64pow10)] W := (laidMetH_iff.1 (h1 ▸ h.filter (fun x => x.1 == "internal/strconv.uint64pow10") : laidMetH Tryd.prog [("internal/strconv.uint64pow10", Rows.laid_internal_strconv_uint64pow10)] W)).1
  have g2 : laidMet Tryd.prog [("math/bits.deBruijn32tab", Rows.laid_math_bits_deBruijn32tab)] W := (laidMetH_iff.1 (h2 ▸ h.filter (fun x => x.1 == "math/bits.deBruijn32tab") : laidMetH Tryd.prog [("math/bits.deBruijn32tab", Rows.laid_math_bits_deBruijn32tab)] W)).1
  have ht : Lib.TabIs Tryd.prog W "math/bits.deBruijn64tab" .u8 (Lib.deBruijn64tab.map fun (k : Nat) => (k : Int)) :=
    Lib.tabIs_of_head (rest := []) gTab gTabType Tryd.underlying112 Tryd.underlying5 cellsU8 cellsTab (laidMetH_iff.1 g0).1
  have hp : Lib.TabIs Tryd.prog W "internal/strconv.uint64pow10" .u64 Lib.pow10Tab := by
    rw [pow_data] at g1
    exact Lib.tabIs_of_head (rest := []) gPow gPowType Tryd.underlying107 Tryd.underlying26 cellsU64 cellsPow g1
  have hs : 4 < W.heap.size := by
    obtain ⟨ps, ⟨g', t', cs, fuel, p, q, hg', ht', hvar, hd, _, _⟩, _⟩ := g2
    obtain rfl := Option.some.inj (gTab32.symm.trans hg')
    unfold World.var? at hvar
    rw [gTab32] at hvar
    simp only [Option.bind_some] at hvar
    exact Classical.byContradiction fun hh => by
      rw [Array.getElem?_eq_none (show W.heap.size ≤ 4 by omega)] at hvar
      cases hvar
  refine ⟨hs, fun j hj => ?_, hp⟩
  have hl : j < Lib.deBruijn64tab.length := hj
  have h1 := ht.cell gTab j (by rw [List.length_map]; exact hl)
  rw [h1, List.getD_eq_getElem?_getD, List.getD_eq_getElem?_getD, List.getElem?_map, List.getElem?_eq_getElem hl]
  rfl
theorem laid_parts {W : World} (h : laidMetH Tryd.prog Rows.filmPartsRow.laid W) : Tab W := laid_tabs h (by rfl) (by rfl) (by rfl)
theorem laid_texts {W : World} (h : laidMetH Tryd.prog Rows.filmTextsRow.laid W) : Tab W := laid_tabs h (by rfl) (by rfl) (by rfl)
theorem laid_known {W : World} (h : laidMetH Tryd.prog Rows.filmKnownRow.laid W) : Tab W := laid_tabs h (by rfl) (by rfl) (by rfl)
theorem laid_says {W : World} (h : laidMetH Tryd.prog Rows.filmSaysRow.laid W) : Tab W := laid_tabs h (by rfl) (by rfl) (by rfl)
end Go.Proofs.YtlklbdnlpljaiaaDoor
