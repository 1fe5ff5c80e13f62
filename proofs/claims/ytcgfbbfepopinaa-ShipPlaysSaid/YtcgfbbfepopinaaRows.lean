/-
  No cell of these rows narrows 'for every input' (looked for: loops, veiled, ifaces, maps, wideKeys, modest, calm, conditions, laid).
  DERIVED. THE GIVEN ROWS OF THIS SEAT. 5 by the template 'for every input the law returns true; each argument reads behind the call as it read before'; 0 by the template 'total and deterministic' (their statements: YtcgfbbfepopinaaTotals.lean).
  GIVEN WITH THE SEED: the statements are not yours to turn. If you find one false, say at which input.
  Laid BY PROGRAM, IN A SANDBOX (cutbox-rows.mjs): the forced cells as the released guide's own fill.sh prints them over the translation 82f349dbfbbc5dec… (all of the seat's roots in one cut). By AI agents, Wed Nov 11 2026. No macro, syntax, notation, axiom, sorry.
-/
import Derived.Test.YtcgfbbfepopinaaChecked
import GoSem.Claim
import GoSem.ClaimJoined
import GoSem.ClaimMapViews
import Derived.JoinedTies
import Derived.KernelRfl
namespace Go.Proofs.Ytcgfbbfepopinaa
/- THE CELL 'sum', in the pinned program and in every row, IS THE sha256 OF THE DUMP (.gsa) THAT YtcgfbbfepopinaaProg.lean LOADS. Nothing in Lean hashes anything: it is a label: what it is worth is what the hold of that sum in a sandbox is worth. -/
noncomputable def Try.pinned : Pinned := { name := "ytcgfbbfepopinaa", sum := "82f349dbfbbc5dec94ae31ea0c8e760ca141ce0354e8a0f9afc252bd4d1fecba", checked := Try.checked }
namespace Rows
def none {H : Type} : Left H := { results := [], args := [] }

/-- 'shoallaw12.ShipDrains': WHATEVER THE INPUT: true; the input reads as it did. -/
def shipDrainsSpec : ChangeSpec := { name := "shipDrains", fn := fun _ => fun
  | [d1, d2] => { results := [.lit (.bool true)], args := [d1, d2] }
  | _ => none }
def shipDrainsRow : OpenClaim := { program := "ytcgfbbfepopinaa", sum := "82f349dbfbbc5dec94ae31ea0c8e760ca141ce0354e8a0f9afc252bd4d1fecba", func := "shoal/shoallaw12.ShipDrains", spec := "shipDrains", unfollowed := true, recurses := true, apart := false }
def ShipDrainsSaid : Prop := shipDrainsRow.holds Try.pinned (OpenSpec.ofChange shipDrainsSpec)

/-- ITS FALSE NEIGHBOUR: 'it returns false'. Refute it at one input. -/
def shipDrainsWrong : ChangeSpec := { name := "shipDrains", fn := fun _ => fun
  | [d1, d2] => { results := [.lit (.bool false)], args := [d1, d2] }
  | _ => none }
def ShipDrainsWrongFalsely : Prop := shipDrainsRow.holds Try.pinned (OpenSpec.ofChange shipDrainsWrong)

/-- 'shoallaw12.ShipOrder': WHATEVER THE INPUT: true; the input reads as it did. -/
def shipOrderSpec : ChangeSpec := { name := "shipOrder", fn := fun _ => fun
  | [d1, d2, d3] => { results := [.lit (.bool true)], args := [d1, d2, d3] }
  | _ => none }
def shipOrderRow : OpenClaim := { program := "ytcgfbbfepopinaa", sum := "82f349dbfbbc5dec94ae31ea0c8e760ca141ce0354e8a0f9afc252bd4d1fecba", func := "shoal/shoallaw12.ShipOrder", spec := "shipOrder", unfollowed := true, recurses := true, apart := false }
def ShipOrderSaid : Prop := shipOrderRow.holds Try.pinned (OpenSpec.ofChange shipOrderSpec)

/-- ITS FALSE NEIGHBOUR: 'it returns false'. Refute it at one input. -/
def shipOrderWrong : ChangeSpec := { name := "shipOrder", fn := fun _ => fun
  | [d1, d2, d3] => { results := [.lit (.bool false)], args := [d1, d2, d3] }
  | _ => none }
def ShipOrderWrongFalsely : Prop := shipOrderRow.holds Try.pinned (OpenSpec.ofChange shipOrderWrong)

/-- 'shoallaw12.ShipAgain': WHATEVER THE INPUT: true; the input reads as it did. -/
def shipAgainSpec : ChangeSpec := { name := "shipAgain", fn := fun _ => fun
  | [d1, d2] => { results := [.lit (.bool true)], args := [d1, d2] }
  | _ => none }
def shipAgainRow : OpenClaim := { program := "ytcgfbbfepopinaa", sum := "82f349dbfbbc5dec94ae31ea0c8e760ca141ce0354e8a0f9afc252bd4d1fecba", func := "shoal/shoallaw12.ShipAgain", spec := "shipAgain", unfollowed := true, recurses := true, apart := false }
def ShipAgainSaid : Prop := shipAgainRow.holds Try.pinned (OpenSpec.ofChange shipAgainSpec)

/-- ITS FALSE NEIGHBOUR: 'it returns false'. Refute it at one input. -/
def shipAgainWrong : ChangeSpec := { name := "shipAgain", fn := fun _ => fun
  | [d1, d2] => { results := [.lit (.bool false)], args := [d1, d2] }
  | _ => none }
def ShipAgainWrongFalsely : Prop := shipAgainRow.holds Try.pinned (OpenSpec.ofChange shipAgainWrong)

/-- 'shoallaw12.ShipKnown': WHATEVER THE INPUT: true; the input reads as it did. -/
def shipKnownSpec : ChangeSpec := { name := "shipKnown", fn := fun _ => fun
  | [] => { results := [.lit (.bool true)], args := [] }
  | _ => none }
def shipKnownRow : OpenClaim := { program := "ytcgfbbfepopinaa", sum := "82f349dbfbbc5dec94ae31ea0c8e760ca141ce0354e8a0f9afc252bd4d1fecba", func := "shoal/shoallaw12.ShipKnown", spec := "shipKnown", unfollowed := true, recurses := true, apart := false }
def ShipKnownSaid : Prop := shipKnownRow.holds Try.pinned (OpenSpec.ofChange shipKnownSpec)

/-- ITS FALSE NEIGHBOUR: 'it returns false'. Refute it at one input. -/
def shipKnownWrong : ChangeSpec := { name := "shipKnown", fn := fun _ => fun
  | [] => { results := [.lit (.bool false)], args := [] }
  | _ => none }
def ShipKnownWrongFalsely : Prop := shipKnownRow.holds Try.pinned (OpenSpec.ofChange shipKnownWrong)

/-- 'shoallaw12.ShipPlays': WHATEVER THE INPUT: true; the input reads as it did. -/
def shipPlaysSpec : ChangeSpec := { name := "shipPlays", fn := fun _ => fun
  | [d1, d2, d3, d4, d5] => { results := [.lit (.bool true)], args := [d1, d2, d3, d4, d5] }
  | _ => none }
def shipPlaysRow : OpenClaim := { program := "ytcgfbbfepopinaa", sum := "82f349dbfbbc5dec94ae31ea0c8e760ca141ce0354e8a0f9afc252bd4d1fecba", func := "shoal/shoallaw12.ShipPlays", spec := "shipPlays", unfollowed := true, recurses := true, apart := false }
def ShipPlaysSaid : Prop := shipPlaysRow.holds Try.pinned (OpenSpec.ofChange shipPlaysSpec)

/-- ITS FALSE NEIGHBOUR: 'it returns false'. Refute it at one input. -/
def shipPlaysWrong : ChangeSpec := { name := "shipPlays", fn := fun _ => fun
  | [d1, d2, d3, d4, d5] => { results := [.lit (.bool false)], args := [d1, d2, d3, d4, d5] }
  | _ => none }
def ShipPlaysWrongFalsely : Prop := shipPlaysRow.holds Try.pinned (OpenSpec.ofChange shipPlaysWrong)

/- THE SECOND FORM. 'bulk': how many values and letters a reading holds, each counted each time it is reached (what is shared counts as often as it is met; a slice's spare places count too). A statement '..UptoSaid' is the law's where the arguments, and the package variables that the reading takes, are together of bulk at most 1048576: NARROWER than '..Said'. Prove '..Said' where nothing that the law and all that it calls make is longer than what came in: it says more and counts as full. Else prove '..UptoSaid'. A law counts once. -/
mutual
def uptoBulk {H : Type} : DataW H → Nat
  | .lit (.string bytes) => bytes.length + 1
  | .lit _ => 1
  | .nil => 1
  | .ptr d => uptoBulk d + 1
  | .slice elems spare => uptoBulkAll elems + uptoBulkAll spare + 1
  | .agg parts => uptoBulkAll parts + 1
  | .iface _ d => uptoBulk d + 1
  | .map entries => uptoBulkEntries entries + 1
  | .held _ => 1
def uptoBulkAll {H : Type} : List (DataW H) → Nat
  | [] => 0
  | d :: r => uptoBulk d + uptoBulkAll r
def uptoBulkEntries {H : Type} : List (Lit × DataW H) → Nat
  | [] => 0
  | x :: r => uptoBulkEntry x + uptoBulkEntries r
def uptoBulkEntry {H : Type} : Lit × DataW H → Nat
  | (.string bytes, d) => bytes.length + uptoBulk d + 1
  | (_, d) => uptoBulk d + 1
 end
def uptoSmall : (H : Type) → List (DataW H) → Bool := fun _ ds => decide (uptoBulkAll ds ≤ 1048576)
def OpenSpec.upto (s : _root_.Go.ChangeSpec) : _root_.Go.OpenSpec := { _root_.Go.OpenSpec.ofChange s with cond := some uptoSmall }

/-- 'shoallaw12.ShipDrains', WHERE WHAT IT READS IS OF BULK AT MOST 1048576: true; the input reads as it did. -/
def shipDrainsUptoRow : OpenClaim := { program := "ytcgfbbfepopinaa", sum := "82f349dbfbbc5dec94ae31ea0c8e760ca141ce0354e8a0f9afc252bd4d1fecba", func := "shoal/shoallaw12.ShipDrains", spec := "shipDrains", unfollowed := true, recurses := true, apart := false, narrowed := true }
def ShipDrainsUptoSaid : Prop := shipDrainsUptoRow.holds Try.pinned (OpenSpec.upto shipDrainsSpec)

/-- 'shoallaw12.ShipOrder', WHERE WHAT IT READS IS OF BULK AT MOST 1048576: true; the input reads as it did. -/
def shipOrderUptoRow : OpenClaim := { program := "ytcgfbbfepopinaa", sum := "82f349dbfbbc5dec94ae31ea0c8e760ca141ce0354e8a0f9afc252bd4d1fecba", func := "shoal/shoallaw12.ShipOrder", spec := "shipOrder", unfollowed := true, recurses := true, apart := false, narrowed := true }
def ShipOrderUptoSaid : Prop := shipOrderUptoRow.holds Try.pinned (OpenSpec.upto shipOrderSpec)

/-- 'shoallaw12.ShipAgain', WHERE WHAT IT READS IS OF BULK AT MOST 1048576: true; the input reads as it did. -/
def shipAgainUptoRow : OpenClaim := { program := "ytcgfbbfepopinaa", sum := "82f349dbfbbc5dec94ae31ea0c8e760ca141ce0354e8a0f9afc252bd4d1fecba", func := "shoal/shoallaw12.ShipAgain", spec := "shipAgain", unfollowed := true, recurses := true, apart := false, narrowed := true }
def ShipAgainUptoSaid : Prop := shipAgainUptoRow.holds Try.pinned (OpenSpec.upto shipAgainSpec)

/-- 'shoallaw12.ShipKnown', WHERE WHAT IT READS IS OF BULK AT MOST 1048576: true; the input reads as it did. -/
def shipKnownUptoRow : OpenClaim := { program := "ytcgfbbfepopinaa", sum := "82f349dbfbbc5dec94ae31ea0c8e760ca141ce0354e8a0f9afc252bd4d1fecba", func := "shoal/shoallaw12.ShipKnown", spec := "shipKnown", unfollowed := true, recurses := true, apart := false, narrowed := true }
def ShipKnownUptoSaid : Prop := shipKnownUptoRow.holds Try.pinned (OpenSpec.upto shipKnownSpec)

/-- 'shoallaw12.ShipPlays', WHERE WHAT IT READS IS OF BULK AT MOST 1048576: true; the input reads as it did. -/
def shipPlaysUptoRow : OpenClaim := { program := "ytcgfbbfepopinaa", sum := "82f349dbfbbc5dec94ae31ea0c8e760ca141ce0354e8a0f9afc252bd4d1fecba", func := "shoal/shoallaw12.ShipPlays", spec := "shipPlays", unfollowed := true, recurses := true, apart := false, narrowed := true }
def ShipPlaysUptoSaid : Prop := shipPlaysUptoRow.holds Try.pinned (OpenSpec.upto shipPlaysSpec)

end Rows
end Go.Proofs.Ytcgfbbfepopinaa
