/-
  The laid table, out of the row; PlaceKeepers' walk from what came in.
-/
import Derived.Test.YtcnjllkmliphkaaDoorKeepH
import Derived.Test.YtcnjllkmliphkaaDoorPlaceG
import Derived.Test.YtcnjllkmliphkaaDoorRows
namespace Go.Proofs.YtcnjllkmliphkaaDoor
open Go.RowKit Go.Shoal Go.WideShapes
theorem gTab : Tryd.prog.globalNamed "math/bits.deBruijn64tab" = some 0 := by kernel_rfl
theorem gTabType : (Tryd.prog.globals[0]?).map (·.type) = some 59 := by kernel_rfl
theorem cellsTab : Tryd.prog.cellsOf 59 = 64 := by kernel_rfl
theorem cellsU8 : Tryd.prog.cellsOf 5 = 1 := by kernel_rfl
theorem laid_tab {W : World} (h : laidMetH Tryd.prog [("math/bits.deBruijn64tab", Rows.laid_math_bits_deBruijn64tab)] W) : Tab W := by
  have ht : Lib.TabIs Tryd.prog W "math/bits.deBruijn64tab" .u8 (Lib.deBruijn64tab.map fun (k : Nat) => (k : Int)) :=
    Lib.tabIs_of_head (rest := []) gTab gTabType Tryd.underlying59 Tryd.underlying5 cellsU8 cellsTab h
  have hc : ∀ j, j < 64 → W.cell? ⟨0, j, none⟩ = some (.int .u8 ((Lib.deBruijn64tab.getD j 0 : Nat) : Int)) := fun j hj => by
    have hl : j < Lib.deBruijn64tab.length := hj
    have h1 := ht.cell gTab j (by rw [List.length_map]; exact hl)
    rw [h1, List.getD_eq_getElem?_getD, List.getD_eq_getElem?_getD, List.getElem?_map, List.getElem?_eq_getElem hl]
    rfl
  exact ⟨World.block_lt_of_cell? W _ (hc 0 (by decide)), hc⟩
theorem kp_walk {H : Type} {enc : TypeId × Value → H} {b0 : Nat} {d : DataW H} {ps : List MemPlace} (w : World) (hT : Tab w) (v : Value) (hok : Value.okWide Tryd.prog w .any b0 26 v)
    (h : DataW.Trod enc Tryd.prog w 0 (fun _ => true) true 26 v d ps) (x : Int) (_ : (Lit.int .i64 x).wf = true) :
    Calls Tryd.prog 5 #[v, .int .i64 x] w fun d w' => d = .returned (.bool true) ∧ Below w.heap.size w w' := by
  obtain ⟨c, u, rfl, hS, _⟩ := open_config hok h
  have : Calls Tryd.prog 5 #[c.val u, .int .i64 x] w fun d w' => d = .returned (.bool true) ∧ Below w.heap.size w w' := by
    by_cases hl : 30 < c.vars.length
    · exact (kp_long c u x w hS hl).mono fun _ _ ⟨x, y⟩ => ⟨x, y.none_below⟩
    · exact (kp_short c u x w hS hT (by omega)).mono fun _ _ ⟨x, y⟩ => ⟨x, y.none_below⟩
  unfold Cf.val at this ⊢
  exact this
end Go.Proofs.YtcnjllkmliphkaaDoor
