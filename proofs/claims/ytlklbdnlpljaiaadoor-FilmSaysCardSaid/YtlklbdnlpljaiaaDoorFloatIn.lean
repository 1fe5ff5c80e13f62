/-
  Floats that came in.
-/
import Derived.Test.YtlklbdnlpljaiaaDoorElems
import Derived.Test.YtlklbdnlpljaiaaDoorFloat
namespace Go.Shoal
open Go.RowKit Go.ChangeShapes Go.WideShapes Go.ChangeAt
section
variable {H : Type} {enc : TypeId × Value → H} {P : Program} {w : World} {base : Nat} {spare : Nat → Bool} {held : Bool} {fuel : Nat}
theorem float_of_trod {t : TypeId} {v : Value} {x : DataW H × List MemPlace} (ht : P.underlying t = some (.float .f64)) (h : DataW.trod enc P w base spare held fuel t [v] = some x) : ∃ b, v = .float .f64 b ∧ b < B64 := by
  have hw : ∃ b, v = .float .f64 b ∧ (Lit.float .f64 b).wf = true := by
    cases fuel with
    | zero => simp [DataW.trod] at h
    | succ n =>
      unfold DataW.trod at h
      rw [ht] at h
      split at h <;> simp_all
  obtain ⟨b, rfl, hb⟩ := hw
  have h : b < 2 ^ 64 := by simpa [Lit.wf] using hb
  exact ⟨b, rfl, h⟩
end
def fltCells (b : Nat) : List Value := [.float .f64 b]
/-- A slice of floats that came in. -/
def Flts (w : World) (v : Value) (l : List Nat) : Prop := ElemsIn 1 fltCells (fun b => b < B64) w v l
end Go.Shoal
