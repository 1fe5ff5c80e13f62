/-
  No cell of these rows narrows 'for every input' (looked for: loops, veiled, ifaces, maps, wideKeys, modest, calm, conditions, laid).
  DERIVED. THE GIVEN ROWS OF THIS SEAT. 4 by the template 'for every input the law returns true; each argument reads behind the call as it read before'; 0 by the template 'total and deterministic' (their statements: YtipnmepalmielaaTotals.lean).
  GIVEN WITH THE SEED: the statements are not yours to turn. If you find one false, say at which input.
  Laid BY PROGRAM, IN A SANDBOX (cutbox-rows.mjs): the forced cells as the released guide's own fill.sh prints them over the translation c16aa957474513eb… (all of the seat's roots in one cut). By AI agents, Wed Nov 11 2026. No macro, syntax, notation, axiom, sorry.
-/
import Derived.Test.YtipnmepalmielaaChecked
import GoSem.Claim
import GoSem.ClaimJoined
import GoSem.ClaimMapViews
import Derived.JoinedTies
import Derived.KernelRfl
namespace Go.Proofs.Ytipnmepalmielaa
/- THE CELL 'sum', in the pinned program and in every row, IS THE sha256 OF THE DUMP (.gsa) THAT YtipnmepalmielaaProg.lean LOADS. Nothing in Lean hashes anything: it is a label: what it is worth is what the hold of that sum in a sandbox is worth. -/
noncomputable def Try.pinned : Pinned := { name := "ytipnmepalmielaa", sum := "c16aa957474513eb0165d3a546805fcf55764b66d0ddfbdd24018d3805c329a7", checked := Try.checked }
namespace Rows
def none {H : Type} : Left H := { results := [], args := [] }

/-- 'shoallaw11.PaceSteps': WHATEVER THE INPUT: true; the input reads as it did. -/
def paceStepsSpec : ChangeSpec := { name := "paceSteps", fn := fun _ => fun
  | [d1, d2, d3] => { results := [.lit (.bool true)], args := [d1, d2, d3] }
  | _ => none }
def paceStepsRow : OpenClaim := { program := "ytipnmepalmielaa", sum := "c16aa957474513eb0165d3a546805fcf55764b66d0ddfbdd24018d3805c329a7", func := "shoal/shoallaw11.PaceSteps", spec := "paceSteps", apart := false }
def PaceStepsSaid : Prop := paceStepsRow.holds Try.pinned (OpenSpec.ofChange paceStepsSpec)

/-- ITS FALSE NEIGHBOUR: 'it returns false'. Refute it at one input. -/
def paceStepsWrong : ChangeSpec := { name := "paceSteps", fn := fun _ => fun
  | [d1, d2, d3] => { results := [.lit (.bool false)], args := [d1, d2, d3] }
  | _ => none }
def PaceStepsWrongFalsely : Prop := paceStepsRow.holds Try.pinned (OpenSpec.ofChange paceStepsWrong)

/-- 'shoallaw11.PaceStops': WHATEVER THE INPUT: true; the input reads as it did. -/
def paceStopsSpec : ChangeSpec := { name := "paceStops", fn := fun _ => fun
  | [d1, d2, d3, d4] => { results := [.lit (.bool true)], args := [d1, d2, d3, d4] }
  | _ => none }
def paceStopsRow : OpenClaim := { program := "ytipnmepalmielaa", sum := "c16aa957474513eb0165d3a546805fcf55764b66d0ddfbdd24018d3805c329a7", func := "shoal/shoallaw11.PaceStops", spec := "paceStops", apart := false }
def PaceStopsSaid : Prop := paceStopsRow.holds Try.pinned (OpenSpec.ofChange paceStopsSpec)

/-- ITS FALSE NEIGHBOUR: 'it returns false'. Refute it at one input. -/
def paceStopsWrong : ChangeSpec := { name := "paceStops", fn := fun _ => fun
  | [d1, d2, d3, d4] => { results := [.lit (.bool false)], args := [d1, d2, d3, d4] }
  | _ => none }
def PaceStopsWrongFalsely : Prop := paceStopsRow.holds Try.pinned (OpenSpec.ofChange paceStopsWrong)

/-- 'shoallaw11.PaceKnown': WHATEVER THE INPUT: true; the input reads as it did. -/
def paceKnownSpec : ChangeSpec := { name := "paceKnown", fn := fun _ => fun
  | [] => { results := [.lit (.bool true)], args := [] }
  | _ => none }
def paceKnownRow : OpenClaim := { program := "ytipnmepalmielaa", sum := "c16aa957474513eb0165d3a546805fcf55764b66d0ddfbdd24018d3805c329a7", func := "shoal/shoallaw11.PaceKnown", spec := "paceKnown", apart := false }
def PaceKnownSaid : Prop := paceKnownRow.holds Try.pinned (OpenSpec.ofChange paceKnownSpec)

/-- ITS FALSE NEIGHBOUR: 'it returns false'. Refute it at one input. -/
def paceKnownWrong : ChangeSpec := { name := "paceKnown", fn := fun _ => fun
  | [] => { results := [.lit (.bool false)], args := [] }
  | _ => none }
def PaceKnownWrongFalsely : Prop := paceKnownRow.holds Try.pinned (OpenSpec.ofChange paceKnownWrong)

/-- 'shoallaw11.PacePlays': WHATEVER THE INPUT: true; the input reads as it did. -/
def pacePlaysSpec : ChangeSpec := { name := "pacePlays", fn := fun _ => fun
  | [d1, d2, d3] => { results := [.lit (.bool true)], args := [d1, d2, d3] }
  | _ => none }
def pacePlaysRow : OpenClaim := { program := "ytipnmepalmielaa", sum := "c16aa957474513eb0165d3a546805fcf55764b66d0ddfbdd24018d3805c329a7", func := "shoal/shoallaw11.PacePlays", spec := "pacePlays", apart := false }
def PacePlaysSaid : Prop := pacePlaysRow.holds Try.pinned (OpenSpec.ofChange pacePlaysSpec)

/-- ITS FALSE NEIGHBOUR: 'it returns false'. Refute it at one input. -/
def pacePlaysWrong : ChangeSpec := { name := "pacePlays", fn := fun _ => fun
  | [d1, d2, d3] => { results := [.lit (.bool false)], args := [d1, d2, d3] }
  | _ => none }
def PacePlaysWrongFalsely : Prop := pacePlaysRow.holds Try.pinned (OpenSpec.ofChange pacePlaysWrong)

/- THE SECOND FORM. 'bulk': how many values and letters a reading holds, each counted each time it is reached (what is shared counts as often as it is met; a slice's spare places count too). A statement '..UptoSaid' is the law's where the arguments, and the package variables that the reading takes, are together of bulk at most 1048576: NARROWER than '..Said'. Prove '..Said' where nothing that the law and all that it calls make is longer than what came in: it says more and counts as full. Else prove '..UptoSaid'. A law counts once. -/
mutual
def uptoBulk {H : Type} : DataW H → Nat
  | .lit (.string bytes) => bytes.length + 1
  | .lit _ => 1
  | .nil => 1
  | .ptr d => uptoBulk d + 1
  | .slice elems spare => uptoBulkAll elems + uptoBulkAll spare + 1
  | .agg parts => uptoBulkAll parts + 1
  | .iface _ d => uptoBulk d + 1
  | .map entries => uptoBulkEntries entries + 1
  | .held _ => 1
def uptoBulkAll {H : Type} : List (DataW H) → Nat
  | [] => 0
  | d :: r => uptoBulk d + uptoBulkAll r
def uptoBulkEntries {H : Type} : List (Lit × DataW H) → Nat
  | [] => 0
  | x :: r => uptoBulkEntry x + uptoBulkEntries r
def uptoBulkEntry {H : Type} : Lit × DataW H → Nat
  | (.string bytes, d) => bytes.length + uptoBulk d + 1
  | (_, d) => uptoBulk d + 1
 end
def uptoSmall : (H : Type) → List (DataW H) → Bool := fun _ ds => decide (uptoBulkAll ds ≤ 1048576)
def OpenSpec.upto (s : _root_.Go.ChangeSpec) : _root_.Go.OpenSpec := { _root_.Go.OpenSpec.ofChange s with cond := some uptoSmall }

/-- 'shoallaw11.PaceSteps', WHERE WHAT IT READS IS OF BULK AT MOST 1048576: true; the input reads as it did. -/
def paceStepsUptoRow : OpenClaim := { program := "ytipnmepalmielaa", sum := "c16aa957474513eb0165d3a546805fcf55764b66d0ddfbdd24018d3805c329a7", func := "shoal/shoallaw11.PaceSteps", spec := "paceSteps", apart := false, narrowed := true }
def PaceStepsUptoSaid : Prop := paceStepsUptoRow.holds Try.pinned (OpenSpec.upto paceStepsSpec)

/-- 'shoallaw11.PaceStops', WHERE WHAT IT READS IS OF BULK AT MOST 1048576: true; the input reads as it did. -/
def paceStopsUptoRow : OpenClaim := { program := "ytipnmepalmielaa", sum := "c16aa957474513eb0165d3a546805fcf55764b66d0ddfbdd24018d3805c329a7", func := "shoal/shoallaw11.PaceStops", spec := "paceStops", apart := false, narrowed := true }
def PaceStopsUptoSaid : Prop := paceStopsUptoRow.holds Try.pinned (OpenSpec.upto paceStopsSpec)

/-- 'shoallaw11.PaceKnown', WHERE WHAT IT READS IS OF BULK AT MOST 1048576: true; the input reads as it did. -/
def paceKnownUptoRow : OpenClaim := { program := "ytipnmepalmielaa", sum := "c16aa957474513eb0165d3a546805fcf55764b66d0ddfbdd24018d3805c329a7", func := "shoal/shoallaw11.PaceKnown", spec := "paceKnown", apart := false, narrowed := true }
def PaceKnownUptoSaid : Prop := paceKnownUptoRow.holds Try.pinned (OpenSpec.upto paceKnownSpec)

/-- 'shoallaw11.PacePlays', WHERE WHAT IT READS IS OF BULK AT MOST 1048576: true; the input reads as it did. -/
def pacePlaysUptoRow : OpenClaim := { program := "ytipnmepalmielaa", sum := "c16aa957474513eb0165d3a546805fcf55764b66d0ddfbdd24018d3805c329a7", func := "shoal/shoallaw11.PacePlays", spec := "pacePlays", apart := false, narrowed := true }
def PacePlaysUptoSaid : Prop := pacePlaysUptoRow.holds Try.pinned (OpenSpec.upto pacePlaysSpec)

end Rows
end Go.Proofs.Ytipnmepalmielaa
