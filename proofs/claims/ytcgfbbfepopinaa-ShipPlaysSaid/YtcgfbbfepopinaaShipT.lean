/-
  ShipOrder: what came in.
-/
import Derived.Test.YtcgfbbfepopinaaShipS
namespace Go.Proofs.Ytcgfbbfepopinaa
open Go.RowKit Go.Shoal
theorem actS_of {H : Type} {enc : TypeId × Value → H} {W : World} {base : Nat} {spare : Nat → Bool} {held : Bool} (n : Nat) (cs : List Value) (y : DataW H × List MemPlace) (hl : cs.length = 4)
    (h : DataW.trod enc Try.prog W base spare held n 43 cs = some y) : ∃ a : ActS, cs = a.cells ∧ True := by
  obtain ⟨c0, c1, c2, c3, rfl⟩ : ∃ c0 c1 c2 c3, cs = [c0, c1, c2, c3] := by
    match cs, hl with
    | [a, b, c, d], _ => exact ⟨a, b, c, d, rfl⟩
  obtain ⟨k0, y0, h0⟩ := field_of_trod Try.underlying43 h 0 _ rfl rfl (by kernel_rfl) (by simp)
  obtain ⟨k1, y1, h1⟩ := field_of_trod Try.underlying43 h 1 _ rfl rfl (by kernel_rfl) (by simp)
  obtain ⟨k2, y2, h2⟩ := field_of_trod Try.underlying43 h 2 _ rfl rfl (by kernel_rfl) (by simp)
  obtain ⟨k3, y3, h3⟩ := field_of_trod Try.underlying43 h 3 _ rfl rfl (by kernel_rfl) (by simp)
  obtain ⟨a0, e0, _⟩ := int_of_trod Try.underlying3 h0
  obtain ⟨a1, e1, w1⟩ := int_of_trod Try.underlying34 h1
  obtain ⟨a2, e2, _⟩ := string_of_trod Try.underlying9 h2
  obtain ⟨a3, e3⟩ := bool_of_trod Try.underlying4 h3
  obtain ⟨a1, rfl⟩ := Int.eq_ofNat_of_zero_le (wf_u64 w1).1
  refine ⟨⟨a0, a1, a2, a3⟩, ?_, trivial⟩
  have f0 : c0 = _ := e0
  have f1 : c1 = _ := e1
  have f2 : c2 = _ := e2
  have f3 : c3 = _ := e3
  rw [f0, f1, f2, f3]
  rfl
theorem order_any (win que : Int) (v : Value) (l : List ActS) (w : World) (hz : ActsS w v l) :
    Calls Try.prog 4 #[.int .i64 win, .int .i64 que, v] w fun e w' => e = .returned (.bool true) ∧ Below w.heap.size w w' := by
  by_cases h : win < 1 ∨ (1 ≤ win ∧ 16 < win) ∨ (1 ≤ win ∧ win ≤ 16 ∧ que < 2) ∨ (1 ≤ win ∧ win ≤ 16 ∧ 2 ≤ que ∧ 32 < que) ∨ (1 ≤ win ∧ win ≤ 16 ∧ 2 ≤ que ∧ que ≤ 32 ∧ 100 < l.length)
  · exact order_out win que v l w hz h
  · obtain ⟨m, rfl⟩ := Int.eq_ofNat_of_zero_le (show 0 ≤ win by omega)
    obtain ⟨n, rfl⟩ := Int.eq_ofNat_of_zero_le (show 0 ≤ que by omega)
    exact order_in m n v l w hz (by omega) (by omega) (by omega) (by omega) (by omega)
theorem order_walk {H : Type} {enc : TypeId × Value → H} {b0 : Nat} {d : DataW H} {ps : List MemPlace} (W : World) (win : Int) (_ : (Lit.int .i64 win).wf = true) (que : Int) (_ : (Lit.int .i64 que).wf = true) (v : Value) (hok : Value.okWide Try.prog W .any b0 41 v)
    (h : DataW.Trod enc Try.prog W 0 (fun _ => true) true 41 v d ps) : Calls Try.prog 4 #[.int .i64 win, .int .i64 que, v] W fun e w' => e = .returned (.bool true) ∧ Below W.heap.size W w' := by
  obtain ⟨l, hz⟩ := open_rows (C := 4) (cells := ActS.cells) (fit := fun _ => True) Try.underlying41 (show Try.prog.cellsOf 43 = 4 by kernel_rfl) (by decide) actS_of hok h
  exact order_any win que v l W hz
end Go.Proofs.Ytcgfbbfepopinaa
