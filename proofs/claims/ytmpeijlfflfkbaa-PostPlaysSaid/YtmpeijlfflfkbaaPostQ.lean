/-
  PostPlays: what came in.
-/
import Derived.Test.YtmpeijlfflfkbaaPostP
namespace Go.Proofs.Ytmpeijlfflfkbaa
open Go.RowKit Go.Shoal Go.Conc
theorem act_of {H : Type} {enc : TypeId × Value → H} {W : World} {base : Nat} {spare : Nat → Bool} {held : Bool} (n : Nat) (cs : List Value) (y : DataW H × List MemPlace) (hl : cs.length = 4)
    (h : DataW.trod enc Try.prog W base spare held n 51 cs = some y) : ∃ a : Act4, cs = a.cells ∧ True := by
  obtain ⟨c0, c1, c2, c3, rfl⟩ : ∃ c0 c1 c2 c3, cs = [c0, c1, c2, c3] := by
    match cs, hl with
    | [a, b, c, d], _ => exact ⟨a, b, c, d, rfl⟩
  obtain ⟨k0, y0, h0⟩ := field_of_trod Try.underlying51 h 0 _ rfl rfl (by kernel_rfl) (by simp)
  obtain ⟨k1, y1, h1⟩ := field_of_trod Try.underlying51 h 1 _ rfl rfl (by kernel_rfl) (by simp)
  obtain ⟨k2, y2, h2⟩ := field_of_trod Try.underlying51 h 2 _ rfl rfl (by kernel_rfl) (by simp)
  obtain ⟨k3, y3, h3⟩ := field_of_trod Try.underlying51 h 3 _ rfl rfl (by kernel_rfl) (by simp)
  obtain ⟨a0, e0, _⟩ := int_of_trod Try.underlying3 h0
  obtain ⟨a1, e1, _⟩ := int_of_trod Try.underlying3 h1
  obtain ⟨a2, e2, _⟩ := int_of_trod Try.underlying3 h2
  obtain ⟨a3, e3, _⟩ := int_of_trod Try.underlying3 h3
  refine ⟨⟨a0, a1, a2, a3⟩, ?_, trivial⟩
  have f0 : c0 = _ := e0
  have f1 : c1 = _ := e1
  have f2 : c2 = _ := e2
  have f3 : c3 = _ := e3
  rw [f0, f1, f2, f3]
  rfl
theorem plays_walk {H : Type} {enc : TypeId × Value → H} {b0 : Nat} {d : DataW H} {ps : List MemPlace} (W : World) (n : Int) (_ : (Lit.int .i64 n).wf = true) (room : Int) (_ : (Lit.int .i64 room).wf = true) (v : Value) (hok : Value.okWide Try.prog W .any b0 45 v)
    (h : DataW.Trod enc Try.prog W 0 (fun _ => true) true 45 v d ps) : Calls Try.prog 6 #[.int .i64 n, .int .i64 room, v] W fun e w' => e = .returned (.bool true) ∧ Below W.heap.size W w' := by
  obtain ⟨l, hz⟩ := open_rows (C := 4) (cells := Act4.cells) (fit := fun _ => True) Try.underlying45 (show Try.prog.cellsOf 51 = 4 by kernel_rfl) (by decide) act_of hok h
  exact plays_any n room v l W hz
end Go.Proofs.Ytmpeijlfflfkbaa
