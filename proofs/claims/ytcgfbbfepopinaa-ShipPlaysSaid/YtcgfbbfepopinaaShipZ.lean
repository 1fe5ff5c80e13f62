/-
  ShipPlays: what came in.
-/
import Derived.Test.YtcgfbbfepopinaaShipY
namespace Go.Proofs.Ytcgfbbfepopinaa
open Go.RowKit Go.Shoal
theorem plays_any (win que f m : Int) (v : Value) (l : List ActS) (w : World) (hz : ActsS w v l) :
    Calls Try.prog 7 #[.int .i64 win, .int .i64 que, .int .i64 f, .int .i64 m, v] w fun e w' => e = .returned (.bool true) ∧ Below w.heap.size w w' := by
  by_cases h : Bad win que f m
  · exact plays_out win que f m v w h
  · unfold Bad at h
    obtain ⟨a, rfl⟩ := Int.eq_ofNat_of_zero_le (show 0 ≤ win by omega)
    obtain ⟨b, rfl⟩ := Int.eq_ofNat_of_zero_le (show 0 ≤ que by omega)
    exact plays_in a b f m v l w hz (by omega) (by omega) (by omega) (by omega) (by omega) (by omega) (by omega)
theorem plays_walk {H : Type} {enc : TypeId × Value → H} {b0 : Nat} {d : DataW H} {ps : List MemPlace} (W : World) (win : Int) (_ : (Lit.int .i64 win).wf = true) (que : Int) (_ : (Lit.int .i64 que).wf = true) (f : Int) (_ : (Lit.int .i64 f).wf = true) (m : Int) (_ : (Lit.int .i64 m).wf = true) (v : Value) (hok : Value.okWide Try.prog W .any b0 41 v)
    (h : DataW.Trod enc Try.prog W 0 (fun _ => true) true 41 v d ps) : Calls Try.prog 7 #[.int .i64 win, .int .i64 que, .int .i64 f, .int .i64 m, v] W fun e w' => e = .returned (.bool true) ∧ Below W.heap.size W w' := by
  obtain ⟨l, hz⟩ := open_rows (C := 4) (cells := ActS.cells) (fit := fun _ => True) Try.underlying41 (show Try.prog.cellsOf 43 = 4 by kernel_rfl) (by decide) actS_of hok h
  exact plays_any win que f m v l W hz
end Go.Proofs.Ytcgfbbfepopinaa
