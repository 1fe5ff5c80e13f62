/-
  No cell of these rows narrows 'for every input' (looked for: loops, veiled, ifaces, maps, wideKeys, modest, calm, conditions, laid).
  DERIVED. THE GIVEN ROWS OF THIS SEAT. 4 by the template 'for every input the law returns true; each argument reads behind the call as it read before'; 0 by the template 'total and deterministic' (their statements: YtpdpnhikcmpcdaaTotals.lean).
  GIVEN WITH THE SEED: the statements are not yours to turn. If you find one false, say at which input.
  Laid BY PROGRAM, IN A SANDBOX (cutbox-rows.mjs): the forced cells as the released guide's own fill.sh prints them over the translation 4379489c8d6c147b… (all of the seat's roots in one cut). By AI agents, Wed Nov 11 2026. No macro, syntax, notation, axiom, sorry.
-/
import Derived.Test.YtpdpnhikcmpcdaaChecked
import GoSem.Claim
import GoSem.ClaimJoined
import GoSem.ClaimMapViews
import Derived.JoinedTies
import Derived.KernelRfl
namespace Go.Proofs.Ytpdpnhikcmpcdaa
/- THE CELL 'sum', in the pinned program and in every row, IS THE sha256 OF THE DUMP (.gsa) THAT YtpdpnhikcmpcdaaProg.lean LOADS. Nothing in Lean hashes anything: it is a label: what it is worth is what the hold of that sum in a sandbox is worth. -/
noncomputable def Try.pinned : Pinned := { name := "ytpdpnhikcmpcdaa", sum := "4379489c8d6c147b17da40bb8a83397222fdfae0d29a76755e38690cf1c9c50d", checked := Try.checked }
namespace Rows
def none {H : Type} : Left H := { results := [], args := [] }

/-- 'shoallaw23.CellEdges': WHATEVER THE INPUT: true; the input reads as it did. -/
def cellEdgesSpec : ChangeSpec := { name := "cellEdges", fn := fun _ => fun
  | [d] => { results := [.lit (.bool true)], args := [d] }
  | _ => none }
def cellEdgesRow : OpenClaim := { program := "ytpdpnhikcmpcdaa", sum := "4379489c8d6c147b17da40bb8a83397222fdfae0d29a76755e38690cf1c9c50d", func := "shoal/shoallaw23.CellEdges", spec := "cellEdges", inPlace := ["math.Float64frombits", "math.Float64bits"], unfollowed := true, recurses := true, apart := false }
def CellEdgesSaid : Prop := cellEdgesRow.holds Try.pinned (OpenSpec.ofChange cellEdgesSpec)

/-- ITS FALSE NEIGHBOUR: 'it returns false'. Refute it at one input. -/
def cellEdgesWrong : ChangeSpec := { name := "cellEdges", fn := fun _ => fun
  | [d] => { results := [.lit (.bool false)], args := [d] }
  | _ => none }
def CellEdgesWrongFalsely : Prop := cellEdgesRow.holds Try.pinned (OpenSpec.ofChange cellEdgesWrong)

/-- 'shoallaw23.CellKnown': WHATEVER THE INPUT: true; the input reads as it did. -/
def cellKnownSpec : ChangeSpec := { name := "cellKnown", fn := fun _ => fun
  | [] => { results := [.lit (.bool true)], args := [] }
  | _ => none }
def cellKnownRow : OpenClaim := { program := "ytpdpnhikcmpcdaa", sum := "4379489c8d6c147b17da40bb8a83397222fdfae0d29a76755e38690cf1c9c50d", func := "shoal/shoallaw23.CellKnown", spec := "cellKnown", inPlace := ["math.Float64frombits", "math.Float64bits"], unfollowed := true, recurses := true, apart := false }
def CellKnownSaid : Prop := cellKnownRow.holds Try.pinned (OpenSpec.ofChange cellKnownSpec)

/-- ITS FALSE NEIGHBOUR: 'it returns false'. Refute it at one input. -/
def cellKnownWrong : ChangeSpec := { name := "cellKnown", fn := fun _ => fun
  | [] => { results := [.lit (.bool false)], args := [] }
  | _ => none }
def CellKnownWrongFalsely : Prop := cellKnownRow.holds Try.pinned (OpenSpec.ofChange cellKnownWrong)

/-- 'shoallaw23.CellPlays': WHATEVER THE INPUT: true; the input reads as it did. -/
def cellPlaysSpec : ChangeSpec := { name := "cellPlays", fn := fun _ => fun
  | [d1, d2, d3] => { results := [.lit (.bool true)], args := [d1, d2, d3] }
  | _ => none }
def cellPlaysRow : OpenClaim := { program := "ytpdpnhikcmpcdaa", sum := "4379489c8d6c147b17da40bb8a83397222fdfae0d29a76755e38690cf1c9c50d", func := "shoal/shoallaw23.CellPlays", spec := "cellPlays", inPlace := ["math.Float64frombits", "math.Float64bits"], unfollowed := true, recurses := true, apart := false }
def CellPlaysSaid : Prop := cellPlaysRow.holds Try.pinned (OpenSpec.ofChange cellPlaysSpec)

/-- ITS FALSE NEIGHBOUR: 'it returns false'. Refute it at one input. -/
def cellPlaysWrong : ChangeSpec := { name := "cellPlays", fn := fun _ => fun
  | [d1, d2, d3] => { results := [.lit (.bool false)], args := [d1, d2, d3] }
  | _ => none }
def CellPlaysWrongFalsely : Prop := cellPlaysRow.holds Try.pinned (OpenSpec.ofChange cellPlaysWrong)

/-- 'shoallaw23.CellTags': WHATEVER THE INPUT: true; the input reads as it did. -/
def cellTagsSpec : ChangeSpec := { name := "cellTags", fn := fun _ => fun
  | [d] => { results := [.lit (.bool true)], args := [d] }
  | _ => none }
def cellTagsRow : OpenClaim := { program := "ytpdpnhikcmpcdaa", sum := "4379489c8d6c147b17da40bb8a83397222fdfae0d29a76755e38690cf1c9c50d", func := "shoal/shoallaw23.CellTags", spec := "cellTags", inPlace := ["math.Float64frombits", "math.Float64bits"], unfollowed := true, recurses := true, apart := false }
def CellTagsSaid : Prop := cellTagsRow.holds Try.pinned (OpenSpec.ofChange cellTagsSpec)

/-- ITS FALSE NEIGHBOUR: 'it returns false'. Refute it at one input. -/
def cellTagsWrong : ChangeSpec := { name := "cellTags", fn := fun _ => fun
  | [d] => { results := [.lit (.bool false)], args := [d] }
  | _ => none }
def CellTagsWrongFalsely : Prop := cellTagsRow.holds Try.pinned (OpenSpec.ofChange cellTagsWrong)

/- THE SECOND FORM. 'bulk': how many values and letters a reading holds, each counted each time it is reached (what is shared counts as often as it is met; a slice's spare places count too). A statement '..UptoSaid' is the law's where the arguments, and the package variables that the reading takes, are together of bulk at most 1048576: NARROWER than '..Said'. Prove '..Said' where nothing that the law and all that it calls make is longer than what came in: it says more and counts as full. Else prove '..UptoSaid'. A law counts once. -/
mutual
def uptoBulk {H : Type} : DataW H → Nat
  | .lit (.string bytes) => bytes.length + 1
  | .lit _ => 1
  | .nil => 1
  | .ptr d => uptoBulk d + 1
  | .slice elems spare => uptoBulkAll elems + uptoBulkAll spare + 1
  | .agg parts => uptoBulkAll parts + 1
  | .iface _ d => uptoBulk d + 1
  | .map entries => uptoBulkEntries entries + 1
  | .held _ => 1
def uptoBulkAll {H : Type} : List (DataW H) → Nat
  | [] => 0
  | d :: r => uptoBulk d + uptoBulkAll r
def uptoBulkEntries {H : Type} : List (Lit × DataW H) → Nat
  | [] => 0
  | x :: r => uptoBulkEntry x + uptoBulkEntries r
def uptoBulkEntry {H : Type} : Lit × DataW H → Nat
  | (.string bytes, d) => bytes.length + uptoBulk d + 1
  | (_, d) => uptoBulk d + 1
 end
def uptoSmall : (H : Type) → List (DataW H) → Bool := fun _ ds => decide (uptoBulkAll ds ≤ 1048576)
def OpenSpec.upto (s : _root_.Go.ChangeSpec) : _root_.Go.OpenSpec := { _root_.Go.OpenSpec.ofChange s with cond := some uptoSmall }

/-- 'shoallaw23.CellEdges', WHERE WHAT IT READS IS OF BULK AT MOST 1048576: true; the input reads as it did. -/
def cellEdgesUptoRow : OpenClaim := { program := "ytpdpnhikcmpcdaa", sum := "4379489c8d6c147b17da40bb8a83397222fdfae0d29a76755e38690cf1c9c50d", func := "shoal/shoallaw23.CellEdges", spec := "cellEdges", inPlace := ["math.Float64frombits", "math.Float64bits"], unfollowed := true, recurses := true, apart := false, narrowed := true }
def CellEdgesUptoSaid : Prop := cellEdgesUptoRow.holds Try.pinned (OpenSpec.upto cellEdgesSpec)

/-- 'shoallaw23.CellKnown', WHERE WHAT IT READS IS OF BULK AT MOST 1048576: true; the input reads as it did. -/
def cellKnownUptoRow : OpenClaim := { program := "ytpdpnhikcmpcdaa", sum := "4379489c8d6c147b17da40bb8a83397222fdfae0d29a76755e38690cf1c9c50d", func := "shoal/shoallaw23.CellKnown", spec := "cellKnown", inPlace := ["math.Float64frombits", "math.Float64bits"], unfollowed := true, recurses := true, apart := false, narrowed := true }
def CellKnownUptoSaid : Prop := cellKnownUptoRow.holds Try.pinned (OpenSpec.upto cellKnownSpec)

/-- 'shoallaw23.CellPlays', WHERE WHAT IT READS IS OF BULK AT MOST 1048576: true; the input reads as it did. -/
def cellPlaysUptoRow : OpenClaim := { program := "ytpdpnhikcmpcdaa", sum := "4379489c8d6c147b17da40bb8a83397222fdfae0d29a76755e38690cf1c9c50d", func := "shoal/shoallaw23.CellPlays", spec := "cellPlays", inPlace := ["math.Float64frombits", "math.Float64bits"], unfollowed := true, recurses := true, apart := false, narrowed := true }
def CellPlaysUptoSaid : Prop := cellPlaysUptoRow.holds Try.pinned (OpenSpec.upto cellPlaysSpec)

/-- 'shoallaw23.CellTags', WHERE WHAT IT READS IS OF BULK AT MOST 1048576: true; the input reads as it did. -/
def cellTagsUptoRow : OpenClaim := { program := "ytpdpnhikcmpcdaa", sum := "4379489c8d6c147b17da40bb8a83397222fdfae0d29a76755e38690cf1c9c50d", func := "shoal/shoallaw23.CellTags", spec := "cellTags", inPlace := ["math.Float64frombits", "math.Float64bits"], unfollowed := true, recurses := true, apart := false, narrowed := true }
def CellTagsUptoSaid : Prop := cellTagsUptoRow.holds Try.pinned (OpenSpec.upto cellTagsSpec)

end Rows
end Go.Proofs.Ytpdpnhikcmpcdaa
