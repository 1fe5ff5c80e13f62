/-
  No cell of these rows narrows 'for every input' (looked for: loops, veiled, ifaces, maps, wideKeys, modest, calm, conditions, laid).
  DERIVED. THE GIVEN ROWS OF THIS SEAT. 5 by the template 'for every input the law returns true; each argument reads behind the call as it read before'; 0 by the template 'total and deterministic' (their statements: YteicceikaecfcaaTotals.lean).
  GIVEN WITH THE SEED: the statements are not yours to turn. If you find one false, say at which input.
  Laid BY PROGRAM, IN A SANDBOX (cutbox-rows.mjs): the forced cells as the released guide's own fill.sh prints them over the translation 4170407cb7465dfc… (all of the seat's roots in one cut). By AI agents, Wed Nov 11 2026. No macro, syntax, notation, axiom, sorry.
-/
import Derived.Test.YteicceikaecfcaaChecked
import GoSem.Claim
import GoSem.ClaimJoined
import GoSem.ClaimMapViews
import Derived.JoinedTies
import Derived.KernelRfl
namespace Go.Proofs.Yteicceikaecfcaa
/- THE CELL 'sum', in the pinned program and in every row, IS THE sha256 OF THE DUMP (.gsa) THAT YteicceikaecfcaaProg.lean LOADS. Nothing in Lean hashes anything: it is a label: what it is worth is what the hold of that sum in a sandbox is worth. -/
noncomputable def Try.pinned : Pinned := { name := "yteicceikaecfcaa", sum := "4170407cb7465dfc2f4c67b545a820b6b65d6e9b2cb7d9dc44c049e2869e4965", checked := Try.checked }
namespace Rows
def none {H : Type} : Left H := { results := [], args := [] }

/-- 'shoallaw21.PastOrder': WHATEVER THE INPUT: true; the input reads as it did. -/
def pastOrderSpec : ChangeSpec := { name := "pastOrder", fn := fun _ => fun
  | [d1, d2] => { results := [.lit (.bool true)], args := [d1, d2] }
  | _ => none }
def pastOrderRow : OpenClaim := { program := "yteicceikaecfcaa", sum := "4170407cb7465dfc2f4c67b545a820b6b65d6e9b2cb7d9dc44c049e2869e4965", func := "shoal/shoallaw21.PastOrder", spec := "pastOrder", unfollowed := true, recurses := true, apart := false }
def PastOrderSaid : Prop := pastOrderRow.holds Try.pinned (OpenSpec.ofChange pastOrderSpec)

/-- ITS FALSE NEIGHBOUR: 'it returns false'. Refute it at one input. -/
def pastOrderWrong : ChangeSpec := { name := "pastOrder", fn := fun _ => fun
  | [d1, d2] => { results := [.lit (.bool false)], args := [d1, d2] }
  | _ => none }
def PastOrderWrongFalsely : Prop := pastOrderRow.holds Try.pinned (OpenSpec.ofChange pastOrderWrong)

/-- 'shoallaw21.PastChain': WHATEVER THE INPUT: true; the input reads as it did. -/
def pastChainSpec : ChangeSpec := { name := "pastChain", fn := fun _ => fun
  | [d1, d2] => { results := [.lit (.bool true)], args := [d1, d2] }
  | _ => none }
def pastChainRow : OpenClaim := { program := "yteicceikaecfcaa", sum := "4170407cb7465dfc2f4c67b545a820b6b65d6e9b2cb7d9dc44c049e2869e4965", func := "shoal/shoallaw21.PastChain", spec := "pastChain", unfollowed := true, recurses := true, apart := false }
def PastChainSaid : Prop := pastChainRow.holds Try.pinned (OpenSpec.ofChange pastChainSpec)

/-- ITS FALSE NEIGHBOUR: 'it returns false'. Refute it at one input. -/
def pastChainWrong : ChangeSpec := { name := "pastChain", fn := fun _ => fun
  | [d1, d2] => { results := [.lit (.bool false)], args := [d1, d2] }
  | _ => none }
def PastChainWrongFalsely : Prop := pastChainRow.holds Try.pinned (OpenSpec.ofChange pastChainWrong)

/-- 'shoallaw21.PastOnce': WHATEVER THE INPUT: true; the input reads as it did. -/
def pastOnceSpec : ChangeSpec := { name := "pastOnce", fn := fun _ => fun
  | [d1, d2, d3] => { results := [.lit (.bool true)], args := [d1, d2, d3] }
  | _ => none }
def pastOnceRow : OpenClaim := { program := "yteicceikaecfcaa", sum := "4170407cb7465dfc2f4c67b545a820b6b65d6e9b2cb7d9dc44c049e2869e4965", func := "shoal/shoallaw21.PastOnce", spec := "pastOnce", unfollowed := true, recurses := true, apart := false }
def PastOnceSaid : Prop := pastOnceRow.holds Try.pinned (OpenSpec.ofChange pastOnceSpec)

/-- ITS FALSE NEIGHBOUR: 'it returns false'. Refute it at one input. -/
def pastOnceWrong : ChangeSpec := { name := "pastOnce", fn := fun _ => fun
  | [d1, d2, d3] => { results := [.lit (.bool false)], args := [d1, d2, d3] }
  | _ => none }
def PastOnceWrongFalsely : Prop := pastOnceRow.holds Try.pinned (OpenSpec.ofChange pastOnceWrong)

/-- 'shoallaw21.PastKnown': WHATEVER THE INPUT: true; the input reads as it did. -/
def pastKnownSpec : ChangeSpec := { name := "pastKnown", fn := fun _ => fun
  | [] => { results := [.lit (.bool true)], args := [] }
  | _ => none }
def pastKnownRow : OpenClaim := { program := "yteicceikaecfcaa", sum := "4170407cb7465dfc2f4c67b545a820b6b65d6e9b2cb7d9dc44c049e2869e4965", func := "shoal/shoallaw21.PastKnown", spec := "pastKnown", unfollowed := true, recurses := true, apart := false }
def PastKnownSaid : Prop := pastKnownRow.holds Try.pinned (OpenSpec.ofChange pastKnownSpec)

/-- ITS FALSE NEIGHBOUR: 'it returns false'. Refute it at one input. -/
def pastKnownWrong : ChangeSpec := { name := "pastKnown", fn := fun _ => fun
  | [] => { results := [.lit (.bool false)], args := [] }
  | _ => none }
def PastKnownWrongFalsely : Prop := pastKnownRow.holds Try.pinned (OpenSpec.ofChange pastKnownWrong)

/-- 'shoallaw21.PastPlays': WHATEVER THE INPUT: true; the input reads as it did. -/
def pastPlaysSpec : ChangeSpec := { name := "pastPlays", fn := fun _ => fun
  | [d1, d2] => { results := [.lit (.bool true)], args := [d1, d2] }
  | _ => none }
def pastPlaysRow : OpenClaim := { program := "yteicceikaecfcaa", sum := "4170407cb7465dfc2f4c67b545a820b6b65d6e9b2cb7d9dc44c049e2869e4965", func := "shoal/shoallaw21.PastPlays", spec := "pastPlays", unfollowed := true, recurses := true, apart := false }
def PastPlaysSaid : Prop := pastPlaysRow.holds Try.pinned (OpenSpec.ofChange pastPlaysSpec)

/-- ITS FALSE NEIGHBOUR: 'it returns false'. Refute it at one input. -/
def pastPlaysWrong : ChangeSpec := { name := "pastPlays", fn := fun _ => fun
  | [d1, d2] => { results := [.lit (.bool false)], args := [d1, d2] }
  | _ => none }
def PastPlaysWrongFalsely : Prop := pastPlaysRow.holds Try.pinned (OpenSpec.ofChange pastPlaysWrong)

/- THE SECOND FORM. 'bulk': how many values and letters a reading holds, each counted each time it is reached (what is shared counts as often as it is met; a slice's spare places count too). A statement '..UptoSaid' is the law's where the arguments, and the package variables that the reading takes, are together of bulk at most 1048576: NARROWER than '..Said'. Prove '..Said' where nothing that the law and all that it calls make is longer than what came in: it says more and counts as full. Else prove '..UptoSaid'. A law counts once. -/
mutual
def uptoBulk {H : Type} : DataW H → Nat
  | .lit (.string bytes) => bytes.length + 1
  | .lit _ => 1
  | .nil => 1
  | .ptr d => uptoBulk d + 1
  | .slice elems spare => uptoBulkAll elems + uptoBulkAll spare + 1
  | .agg parts => uptoBulkAll parts + 1
  | .iface _ d => uptoBulk d + 1
  | .map entries => uptoBulkEntries entries + 1
  | .held _ => 1
def uptoBulkAll {H : Type} : List (DataW H) → Nat
  | [] => 0
  | d :: r => uptoBulk d + uptoBulkAll r
def uptoBulkEntries {H : Type} : List (Lit × DataW H) → Nat
  | [] => 0
  | x :: r => uptoBulkEntry x + uptoBulkEntries r
def uptoBulkEntry {H : Type} : Lit × DataW H → Nat
  | (.string bytes, d) => bytes.length + uptoBulk d + 1
  | (_, d) => uptoBulk d + 1
 end
def uptoSmall : (H : Type) → List (DataW H) → Bool := fun _ ds => decide (uptoBulkAll ds ≤ 1048576)
def OpenSpec.upto (s : _root_.Go.ChangeSpec) : _root_.Go.OpenSpec := { _root_.Go.OpenSpec.ofChange s with cond := some uptoSmall }

/-- 'shoallaw21.PastOrder', WHERE WHAT IT READS IS OF BULK AT MOST 1048576: true; the input reads as it did. -/
def pastOrderUptoRow : OpenClaim := { program := "yteicceikaecfcaa", sum := "4170407cb7465dfc2f4c67b545a820b6b65d6e9b2cb7d9dc44c049e2869e4965", func := "shoal/shoallaw21.PastOrder", spec := "pastOrder", unfollowed := true, recurses := true, apart := false, narrowed := true }
def PastOrderUptoSaid : Prop := pastOrderUptoRow.holds Try.pinned (OpenSpec.upto pastOrderSpec)

/-- 'shoallaw21.PastChain', WHERE WHAT IT READS IS OF BULK AT MOST 1048576: true; the input reads as it did. -/
def pastChainUptoRow : OpenClaim := { program := "yteicceikaecfcaa", sum := "4170407cb7465dfc2f4c67b545a820b6b65d6e9b2cb7d9dc44c049e2869e4965", func := "shoal/shoallaw21.PastChain", spec := "pastChain", unfollowed := true, recurses := true, apart := false, narrowed := true }
def PastChainUptoSaid : Prop := pastChainUptoRow.holds Try.pinned (OpenSpec.upto pastChainSpec)

/-- 'shoallaw21.PastOnce', WHERE WHAT IT READS IS OF BULK AT MOST 1048576: true; the input reads as it did. -/
def pastOnceUptoRow : OpenClaim := { program := "yteicceikaecfcaa", sum := "4170407cb7465dfc2f4c67b545a820b6b65d6e9b2cb7d9dc44c049e2869e4965", func := "shoal/shoallaw21.PastOnce", spec := "pastOnce", unfollowed := true, recurses := true, apart := false, narrowed := true }
def PastOnceUptoSaid : Prop := pastOnceUptoRow.holds Try.pinned (OpenSpec.upto pastOnceSpec)

/-- 'shoallaw21.PastKnown', WHERE WHAT IT READS IS OF BULK AT MOST 1048576: true; the input reads as it did. -/
def pastKnownUptoRow : OpenClaim := { program := "yteicceikaecfcaa", sum := "4170407cb7465dfc2f4c67b545a820b6b65d6e9b2cb7d9dc44c049e2869e4965", func := "shoal/shoallaw21.PastKnown", spec := "pastKnown", unfollowed := true, recurses := true, apart := false, narrowed := true }
def PastKnownUptoSaid : Prop := pastKnownUptoRow.holds Try.pinned (OpenSpec.upto pastKnownSpec)

/-- 'shoallaw21.PastPlays', WHERE WHAT IT READS IS OF BULK AT MOST 1048576: true; the input reads as it did. -/
def pastPlaysUptoRow : OpenClaim := { program := "yteicceikaecfcaa", sum := "4170407cb7465dfc2f4c67b545a820b6b65d6e9b2cb7d9dc44c049e2869e4965", func := "shoal/shoallaw21.PastPlays", spec := "pastPlays", unfollowed := true, recurses := true, apart := false, narrowed := true }
def PastPlaysUptoSaid : Prop := pastPlaysUptoRow.holds Try.pinned (OpenSpec.upto pastPlaysSpec)

end Rows
end Go.Proofs.Yteicceikaecfcaa
