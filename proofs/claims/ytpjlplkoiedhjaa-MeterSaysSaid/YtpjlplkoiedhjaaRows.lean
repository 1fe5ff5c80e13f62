/-
  No cell of these rows narrows 'for every input' (looked for: loops, veiled, ifaces, maps, wideKeys, modest, calm, conditions, laid).
  DERIVED. THE GIVEN ROWS OF THIS SEAT. 5 by the template 'for every input the law returns true; each argument reads behind the call as it read before'; 0 by the template 'total and deterministic' (their statements: YtpjlplkoiedhjaaTotals.lean).
  GIVEN WITH THE SEED: the statements are not yours to turn. If you find one false, say at which input.
  Laid BY PROGRAM, IN A SANDBOX (cutbox-rows.mjs): the forced cells as the released guide's own fill.sh prints them over the translation 4cae6d2fcb0a505e… (all of the seat's roots in one cut). By AI agents, Wed Nov 11 2026. No macro, syntax, notation, axiom, sorry.
-/
import Derived.Test.YtpjlplkoiedhjaaChecked
import GoSem.Claim
import GoSem.ClaimJoined
import GoSem.ClaimMapViews
import Derived.JoinedTies
import Derived.KernelRfl
namespace Go.Proofs.Ytpjlplkoiedhjaa
/- THE CELL 'sum', in the pinned program and in every row, IS THE sha256 OF THE DUMP (.gsa) THAT YtpjlplkoiedhjaaProg.lean LOADS. Nothing in Lean hashes anything: it is a label: what it is worth is what the hold of that sum in a sandbox is worth. -/
noncomputable def Try.pinned : Pinned := { name := "ytpjlplkoiedhjaa", sum := "4cae6d2fcb0a505e03865136a5599b3d46eef4185e6d39aea888856fb1e67a09", checked := Try.checked }
namespace Rows
def none {H : Type} : Left H := { results := [], args := [] }

/-- 'shoallaw2.MeterOne': WHATEVER THE INPUT: true; the input reads as it did. -/
def meterOneSpec : ChangeSpec := { name := "meterOne", fn := fun _ => fun
  | [d1, d2] => { results := [.lit (.bool true)], args := [d1, d2] }
  | _ => none }
def meterOneRow : OpenClaim := { program := "ytpjlplkoiedhjaa", sum := "4cae6d2fcb0a505e03865136a5599b3d46eef4185e6d39aea888856fb1e67a09", func := "shoal/shoallaw2.MeterOne", spec := "meterOne", inPlace := ["math.Float64frombits", "math.Float64bits", "slices.overlaps[uint64]"], apart := false }
def MeterOneSaid : Prop := meterOneRow.holds Try.pinned (OpenSpec.ofChange meterOneSpec)

/-- ITS FALSE NEIGHBOUR: 'it returns false'. Refute it at one input. -/
def meterOneWrong : ChangeSpec := { name := "meterOne", fn := fun _ => fun
  | [d1, d2] => { results := [.lit (.bool false)], args := [d1, d2] }
  | _ => none }
def MeterOneWrongFalsely : Prop := meterOneRow.holds Try.pinned (OpenSpec.ofChange meterOneWrong)

/-- 'shoallaw2.MeterRanks': WHATEVER THE INPUT: true; the input reads as it did. -/
def meterRanksSpec : ChangeSpec := { name := "meterRanks", fn := fun _ => fun
  | [d1, d2, d3] => { results := [.lit (.bool true)], args := [d1, d2, d3] }
  | _ => none }
def meterRanksRow : OpenClaim := { program := "ytpjlplkoiedhjaa", sum := "4cae6d2fcb0a505e03865136a5599b3d46eef4185e6d39aea888856fb1e67a09", func := "shoal/shoallaw2.MeterRanks", spec := "meterRanks", inPlace := ["math.Float64frombits", "math.Float64bits", "slices.overlaps[uint64]"], apart := false }
def MeterRanksSaid : Prop := meterRanksRow.holds Try.pinned (OpenSpec.ofChange meterRanksSpec)

/-- ITS FALSE NEIGHBOUR: 'it returns false'. Refute it at one input. -/
def meterRanksWrong : ChangeSpec := { name := "meterRanks", fn := fun _ => fun
  | [d1, d2, d3] => { results := [.lit (.bool false)], args := [d1, d2, d3] }
  | _ => none }
def MeterRanksWrongFalsely : Prop := meterRanksRow.holds Try.pinned (OpenSpec.ofChange meterRanksWrong)

/-- 'shoallaw2.MeterSays': WHATEVER THE INPUT: true; the input reads as it did. -/
def meterSaysSpec : ChangeSpec := { name := "meterSays", fn := fun _ => fun
  | [d1, d2] => { results := [.lit (.bool true)], args := [d1, d2] }
  | _ => none }
def meterSaysRow : OpenClaim := { program := "ytpjlplkoiedhjaa", sum := "4cae6d2fcb0a505e03865136a5599b3d46eef4185e6d39aea888856fb1e67a09", func := "shoal/shoallaw2.MeterSays", spec := "meterSays", inPlace := ["math.Float64frombits", "math.Float64bits", "slices.overlaps[uint64]"], apart := false }
def MeterSaysSaid : Prop := meterSaysRow.holds Try.pinned (OpenSpec.ofChange meterSaysSpec)

/-- ITS FALSE NEIGHBOUR: 'it returns false'. Refute it at one input. -/
def meterSaysWrong : ChangeSpec := { name := "meterSays", fn := fun _ => fun
  | [d1, d2] => { results := [.lit (.bool false)], args := [d1, d2] }
  | _ => none }
def MeterSaysWrongFalsely : Prop := meterSaysRow.holds Try.pinned (OpenSpec.ofChange meterSaysWrong)

/-- 'shoallaw2.MeterNone': WHATEVER THE INPUT: true; the input reads as it did. -/
def meterNoneSpec : ChangeSpec := { name := "meterNone", fn := fun _ => fun
  | [d1, d2] => { results := [.lit (.bool true)], args := [d1, d2] }
  | _ => none }
def meterNoneRow : OpenClaim := { program := "ytpjlplkoiedhjaa", sum := "4cae6d2fcb0a505e03865136a5599b3d46eef4185e6d39aea888856fb1e67a09", func := "shoal/shoallaw2.MeterNone", spec := "meterNone", inPlace := ["math.Float64frombits", "math.Float64bits", "slices.overlaps[uint64]"], apart := false }
def MeterNoneSaid : Prop := meterNoneRow.holds Try.pinned (OpenSpec.ofChange meterNoneSpec)

/-- ITS FALSE NEIGHBOUR: 'it returns false'. Refute it at one input. -/
def meterNoneWrong : ChangeSpec := { name := "meterNone", fn := fun _ => fun
  | [d1, d2] => { results := [.lit (.bool false)], args := [d1, d2] }
  | _ => none }
def MeterNoneWrongFalsely : Prop := meterNoneRow.holds Try.pinned (OpenSpec.ofChange meterNoneWrong)

/-- 'shoallaw2.MeterKnown': WHATEVER THE INPUT: true; the input reads as it did. -/
def meterKnownSpec : ChangeSpec := { name := "meterKnown", fn := fun _ => fun
  | [] => { results := [.lit (.bool true)], args := [] }
  | _ => none }
def meterKnownRow : OpenClaim := { program := "ytpjlplkoiedhjaa", sum := "4cae6d2fcb0a505e03865136a5599b3d46eef4185e6d39aea888856fb1e67a09", func := "shoal/shoallaw2.MeterKnown", spec := "meterKnown", inPlace := ["math.Float64frombits", "math.Float64bits", "slices.overlaps[uint64]"], apart := false }
def MeterKnownSaid : Prop := meterKnownRow.holds Try.pinned (OpenSpec.ofChange meterKnownSpec)

/-- ITS FALSE NEIGHBOUR: 'it returns false'. Refute it at one input. -/
def meterKnownWrong : ChangeSpec := { name := "meterKnown", fn := fun _ => fun
  | [] => { results := [.lit (.bool false)], args := [] }
  | _ => none }
def MeterKnownWrongFalsely : Prop := meterKnownRow.holds Try.pinned (OpenSpec.ofChange meterKnownWrong)

/- THE SECOND FORM. 'bulk': how many values and letters a reading holds, each counted each time it is reached (what is shared counts as often as it is met; a slice's spare places count too). A statement '..UptoSaid' is the law's where the arguments, and the package variables that the reading takes, are together of bulk at most 1048576: NARROWER than '..Said'. Prove '..Said' where nothing that the law and all that it calls make is longer than what came in: it says more and counts as full. Else prove '..UptoSaid'. A law counts once. -/
mutual
def uptoBulk {H : Type} : DataW H → Nat
  | .lit (.string bytes) => bytes.length + 1
  | .lit _ => 1
  | .nil => 1
  | .ptr d => uptoBulk d + 1
  | .slice elems spare => uptoBulkAll elems + uptoBulkAll spare + 1
  | .agg parts => uptoBulkAll parts + 1
  | .iface _ d => uptoBulk d + 1
  | .map entries => uptoBulkEntries entries + 1
  | .held _ => 1
def uptoBulkAll {H : Type} : List (DataW H) → Nat
  | [] => 0
  | d :: r => uptoBulk d + uptoBulkAll r
def uptoBulkEntries {H : Type} : List (Lit × DataW H) → Nat
  | [] => 0
  | x :: r => uptoBulkEntry x + uptoBulkEntries r
def uptoBulkEntry {H : Type} : Lit × DataW H → Nat
  | (.string bytes, d) => bytes.length + uptoBulk d + 1
  | (_, d) => uptoBulk d + 1
 end
def uptoSmall : (H : Type) → List (DataW H) → Bool := fun _ ds => decide (uptoBulkAll ds ≤ 1048576)
def OpenSpec.upto (s : _root_.Go.ChangeSpec) : _root_.Go.OpenSpec := { _root_.Go.OpenSpec.ofChange s with cond := some uptoSmall }

/-- 'shoallaw2.MeterOne', WHERE WHAT IT READS IS OF BULK AT MOST 1048576: true; the input reads as it did. -/
def meterOneUptoRow : OpenClaim := { program := "ytpjlplkoiedhjaa", sum := "4cae6d2fcb0a505e03865136a5599b3d46eef4185e6d39aea888856fb1e67a09", func := "shoal/shoallaw2.MeterOne", spec := "meterOne", inPlace := ["math.Float64frombits", "math.Float64bits", "slices.overlaps[uint64]"], apart := false, narrowed := true }
def MeterOneUptoSaid : Prop := meterOneUptoRow.holds Try.pinned (OpenSpec.upto meterOneSpec)

/-- 'shoallaw2.MeterRanks', WHERE WHAT IT READS IS OF BULK AT MOST 1048576: true; the input reads as it did. -/
def meterRanksUptoRow : OpenClaim := { program := "ytpjlplkoiedhjaa", sum := "4cae6d2fcb0a505e03865136a5599b3d46eef4185e6d39aea888856fb1e67a09", func := "shoal/shoallaw2.MeterRanks", spec := "meterRanks", inPlace := ["math.Float64frombits", "math.Float64bits", "slices.overlaps[uint64]"], apart := false, narrowed := true }
def MeterRanksUptoSaid : Prop := meterRanksUptoRow.holds Try.pinned (OpenSpec.upto meterRanksSpec)

/-- 'shoallaw2.MeterSays', WHERE WHAT IT READS IS OF BULK AT MOST 1048576: true; the input reads as it did. -/
def meterSaysUptoRow : OpenClaim := { program := "ytpjlplkoiedhjaa", sum := "4cae6d2fcb0a505e03865136a5599b3d46eef4185e6d39aea888856fb1e67a09", func := "shoal/shoallaw2.MeterSays", spec := "meterSays", inPlace := ["math.Float64frombits", "math.Float64bits", "slices.overlaps[uint64]"], apart := false, narrowed := true }
def MeterSaysUptoSaid : Prop := meterSaysUptoRow.holds Try.pinned (OpenSpec.upto meterSaysSpec)

/-- 'shoallaw2.MeterNone', WHERE WHAT IT READS IS OF BULK AT MOST 1048576: true; the input reads as it did. -/
def meterNoneUptoRow : OpenClaim := { program := "ytpjlplkoiedhjaa", sum := "4cae6d2fcb0a505e03865136a5599b3d46eef4185e6d39aea888856fb1e67a09", func := "shoal/shoallaw2.MeterNone", spec := "meterNone", inPlace := ["math.Float64frombits", "math.Float64bits", "slices.overlaps[uint64]"], apart := false, narrowed := true }
def MeterNoneUptoSaid : Prop := meterNoneUptoRow.holds Try.pinned (OpenSpec.upto meterNoneSpec)

/-- 'shoallaw2.MeterKnown', WHERE WHAT IT READS IS OF BULK AT MOST 1048576: true; the input reads as it did. -/
def meterKnownUptoRow : OpenClaim := { program := "ytpjlplkoiedhjaa", sum := "4cae6d2fcb0a505e03865136a5599b3d46eef4185e6d39aea888856fb1e67a09", func := "shoal/shoallaw2.MeterKnown", spec := "meterKnown", inPlace := ["math.Float64frombits", "math.Float64bits", "slices.overlaps[uint64]"], apart := false, narrowed := true }
def MeterKnownUptoSaid : Prop := meterKnownUptoRow.holds Try.pinned (OpenSpec.upto meterKnownSpec)

end Rows
end Go.Proofs.Ytpjlplkoiedhjaa
