/-
  The laid table, out of the row; FloOrder from what came in.
-/
import Derived.Test.YtgpjipgbighplaaDoorFlH
import Derived.Test.YtgpjipgbighplaaDoorRows
import Derived.LaidSub
namespace Go.Proofs.YtgpjipgbighplaaDoor
open Go.RowKit Go.Shoal Go.WideShapes
theorem gTab : Tryd.prog.globalNamed "math/bits.deBruijn64tab" = some 6 := by kernel_rfl
theorem gTabType : (Tryd.prog.globals[6]?).map (·.type) = some 109 := by kernel_rfl
theorem cellsTab : Tryd.prog.cellsOf 109 = 64 := by kernel_rfl
theorem cellsU8 : Tryd.prog.cellsOf 5 = 1 := by kernel_rfl
theorem tab_one {W : World} (h : laidMetH Tryd.prog [("math/bits.deBruijn64tab", Rows.laid_math_bits_deBruijn64tab)] W) : Tab W := by
  have ht : Lib.TabIs Tryd.prog W "math/bits.deBruijn64tab" .u8 (Lib.deBruijn64tab.map fun (k : Nat) => (k : Int)) :=
    Lib.tabIs_of_head (rest := []) gTab gTabType Tryd.underlying109 Tryd.underlying5 cellsU8 cellsTab h
  have hc : ∀ j, j < 64 → W.cell? ⟨6, j, none⟩ = some (.int .u8 ((Lib.deBruijn64tab.getD j 0 : Nat) : Int)) := fun j hj => by
    have hl : j < Lib.deBruijn64tab.length := hj
    have h1 := ht.cell gTab j (by rw [List.length_map]; exact hl)
    rw [h1, List.getD_eq_getElem?_getD, List.getD_eq_getElem?_getD, List.getElem?_map, List.getElem?_eq_getElem hl]
    rfl
  exact ⟨World.block_lt_of_cell? W _ (hc 0 (by decide)), hc⟩
theorem laid_order {W : World} (h : laidMetH Tryd.prog Rows.floOrderRow.laid W) : Tab W := tab_one (h.filter (fun x => x.1 == "math/bits.deBruijn64tab"))
theorem laid_signs {W : World} (h : laidMetH Tryd.prog Rows.floSignsRow.laid W) : Tab W := tab_one (h.filter (fun x => x.1 == "math/bits.deBruijn64tab"))
theorem laid_next {W : World} (h : laidMetH Tryd.prog Rows.floNextRow.laid W) : Tab W := tab_one (h.filter (fun x => x.1 == "math/bits.deBruijn64tab"))
theorem laid_ends {W : World} (h : laidMetH Tryd.prog Rows.floEndsRow.laid W) : Tab W := tab_one (h.filter (fun x => x.1 == "math/bits.deBruijn64tab"))
theorem wf_f64 {b : Nat} (h : (Lit.float .f64 b).wf = true) : b < B64 := by
  rw [b64_is]
  simpa [Lit.wf] using h
theorem order_walk (W : World) (hT : Tab W) (a : Nat) (ha : (Lit.float .f64 a).wf = true) (b : Nat) (hb : (Lit.float .f64 b).wf = true) (c : Nat) (hc : (Lit.float .f64 c).wf = true) :
    Calls Tryd.prog 3 #[.float .f64 a, .float .f64 b, .float .f64 c] W fun e w' => e = .returned (.bool true) ∧ Below W.heap.size W w' :=
  (order_any a b c (wf_f64 ha) (wf_f64 hb) (wf_f64 hc) W hT).mono fun _ _ ⟨x, y⟩ => ⟨x, y.none_below⟩
end Go.Proofs.YtgpjipgbighplaaDoor
