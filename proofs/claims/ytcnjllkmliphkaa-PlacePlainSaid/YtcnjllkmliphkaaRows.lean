/-
  No cell of these rows narrows 'for every input' (looked for: loops, veiled, ifaces, maps, wideKeys, modest, calm, conditions, laid).
  DERIVED. THE GIVEN ROWS OF THIS SEAT. 2 by the template 'for every input the law returns true; each argument reads behind the call as it read before'; 0 by the template 'total and deterministic' (their statements: YtcnjllkmliphkaaTotals.lean).
  GIVEN WITH THE SEED: the statements are not yours to turn. If you find one false, say at which input.
  Laid BY PROGRAM, IN A SANDBOX (cutbox-rows.mjs): the forced cells as the released guide's own fill.sh prints them over the translation 3a485d2437f5353a… (all of the seat's roots in one cut). By AI agents, Wed Nov 11 2026. No macro, syntax, notation, axiom, sorry.
-/
import Derived.Test.YtcnjllkmliphkaaChecked
import GoSem.Claim
import GoSem.ClaimJoined
import GoSem.ClaimMapViews
import Derived.JoinedTies
import Derived.KernelRfl
namespace Go.Proofs.Ytcnjllkmliphkaa
/- THE CELL 'sum', in the pinned program and in every row, IS THE sha256 OF THE DUMP (.gsa) THAT YtcnjllkmliphkaaProg.lean LOADS. Nothing in Lean hashes anything: it is a label: what it is worth is what the hold of that sum in a sandbox is worth. -/
noncomputable def Try.pinned : Pinned := { name := "ytcnjllkmliphkaa", sum := "3a485d2437f5353aa9aa056548111f09dc7a529456e1fddf3ed571fa176ceca0", checked := Try.checked }
namespace Rows
def none {H : Type} : Left H := { results := [], args := [] }

/-- 'shoallaw6.PlacePlain': WHATEVER THE INPUT: true; the input reads as it did. -/
def placePlainSpec : ChangeSpec := { name := "placePlain", fn := fun _ => fun
  | [d1, d2, d3] => { results := [.lit (.bool true)], args := [d1, d2, d3] }
  | _ => none }
def placePlainRow : OpenClaim := { program := "ytcnjllkmliphkaa", sum := "3a485d2437f5353aa9aa056548111f09dc7a529456e1fddf3ed571fa176ceca0", func := "shoal/shoallaw6.PlacePlain", spec := "placePlain", unfollowed := true, recurses := true, apart := false }
def PlacePlainSaid : Prop := placePlainRow.holds Try.pinned (OpenSpec.ofChange placePlainSpec)

/-- ITS FALSE NEIGHBOUR: 'it returns false'. Refute it at one input. -/
def placePlainWrong : ChangeSpec := { name := "placePlain", fn := fun _ => fun
  | [d1, d2, d3] => { results := [.lit (.bool false)], args := [d1, d2, d3] }
  | _ => none }
def PlacePlainWrongFalsely : Prop := placePlainRow.holds Try.pinned (OpenSpec.ofChange placePlainWrong)

/-- 'shoallaw6.PlaceMay': WHATEVER THE INPUT: true; the input reads as it did. -/
def placeMaySpec : ChangeSpec := { name := "placeMay", fn := fun _ => fun
  | [d1, d2, d3, d4] => { results := [.lit (.bool true)], args := [d1, d2, d3, d4] }
  | _ => none }
def placeMayRow : OpenClaim := { program := "ytcnjllkmliphkaa", sum := "3a485d2437f5353aa9aa056548111f09dc7a529456e1fddf3ed571fa176ceca0", func := "shoal/shoallaw6.PlaceMay", spec := "placeMay", unfollowed := true, recurses := true, apart := false }
def PlaceMaySaid : Prop := placeMayRow.holds Try.pinned (OpenSpec.ofChange placeMaySpec)

/-- ITS FALSE NEIGHBOUR: 'it returns false'. Refute it at one input. -/
def placeMayWrong : ChangeSpec := { name := "placeMay", fn := fun _ => fun
  | [d1, d2, d3, d4] => { results := [.lit (.bool false)], args := [d1, d2, d3, d4] }
  | _ => none }
def PlaceMayWrongFalsely : Prop := placeMayRow.holds Try.pinned (OpenSpec.ofChange placeMayWrong)

/- THE SECOND FORM. 'bulk': how many values and letters a reading holds, each counted each time it is reached (what is shared counts as often as it is met; a slice's spare places count too). A statement '..UptoSaid' is the law's where the arguments, and the package variables that the reading takes, are together of bulk at most 1048576: NARROWER than '..Said'. Prove '..Said' where nothing that the law and all that it calls make is longer than what came in: it says more and counts as full. Else prove '..UptoSaid'. A law counts once. -/
mutual
def uptoBulk {H : Type} : DataW H → Nat
  | .lit (.string bytes) => bytes.length + 1
  | .lit _ => 1
  | .nil => 1
  | .ptr d => uptoBulk d + 1
  | .slice elems spare => uptoBulkAll elems + uptoBulkAll spare + 1
  | .agg parts => uptoBulkAll parts + 1
  | .iface _ d => uptoBulk d + 1
  | .map entries => uptoBulkEntries entries + 1
  | .held _ => 1
def uptoBulkAll {H : Type} : List (DataW H) → Nat
  | [] => 0
  | d :: r => uptoBulk d + uptoBulkAll r
def uptoBulkEntries {H : Type} : List (Lit × DataW H) → Nat
  | [] => 0
  | x :: r => uptoBulkEntry x + uptoBulkEntries r
def uptoBulkEntry {H : Type} : Lit × DataW H → Nat
  | (.string bytes, d) => bytes.length + uptoBulk d + 1
  | (_, d) => uptoBulk d + 1
 end
def uptoSmall : (H : Type) → List (DataW H) → Bool := fun _ ds => decide (uptoBulkAll ds ≤ 1048576)
def OpenSpec.upto (s : _root_.Go.ChangeSpec) : _root_.Go.OpenSpec := { _root_.Go.OpenSpec.ofChange s with cond := some uptoSmall }

/-- 'shoallaw6.PlacePlain', WHERE WHAT IT READS IS OF BULK AT MOST 1048576: true; the input reads as it did. -/
def placePlainUptoRow : OpenClaim := { program := "ytcnjllkmliphkaa", sum := "3a485d2437f5353aa9aa056548111f09dc7a529456e1fddf3ed571fa176ceca0", func := "shoal/shoallaw6.PlacePlain", spec := "placePlain", unfollowed := true, recurses := true, apart := false, narrowed := true }
def PlacePlainUptoSaid : Prop := placePlainUptoRow.holds Try.pinned (OpenSpec.upto placePlainSpec)

/-- 'shoallaw6.PlaceMay', WHERE WHAT IT READS IS OF BULK AT MOST 1048576: true; the input reads as it did. -/
def placeMayUptoRow : OpenClaim := { program := "ytcnjllkmliphkaa", sum := "3a485d2437f5353aa9aa056548111f09dc7a529456e1fddf3ed571fa176ceca0", func := "shoal/shoallaw6.PlaceMay", spec := "placeMay", unfollowed := true, recurses := true, apart := false, narrowed := true }
def PlaceMayUptoSaid : Prop := placeMayUptoRow.holds Try.pinned (OpenSpec.upto placeMaySpec)

end Rows
end Go.Proofs.Ytcnjllkmliphkaa
