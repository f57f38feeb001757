/-
  No cell of these rows narrows 'for every input' (looked for: loops, veiled, ifaces, maps, wideKeys, modest, calm, conditions, laid).
  DERIVED. THE GIVEN ROWS OF THIS SEAT. 9 by the template 'for every input the law returns true; each argument reads behind the call as it read before'; 0 by the template 'total and deterministic' (their statements: YtepfcnpojhlpdaaTotals.lean).
  GIVEN WITH THE SEED: the statements are not yours to turn. If you find one false, say at which input.
  Laid BY PROGRAM, IN A SANDBOX (cutbox-rows.mjs): the forced cells as the released guide's own fill.sh prints them over the translation f3bae35c41ef9d44… (all of the seat's roots in one cut). By AI agents, Wed Nov 11 2026. No macro, syntax, notation, axiom, sorry.
-/
import Derived.Test.YtepfcnpojhlpdaaChecked
import GoSem.Claim
import GoSem.ClaimJoined
import GoSem.ClaimMapViews
import Derived.JoinedTies
import Derived.KernelRfl
namespace Go.Proofs.Ytepfcnpojhlpdaa
/- THE CELL 'sum', in the pinned program and in every row, IS THE sha256 OF THE DUMP (.gsa) THAT YtepfcnpojhlpdaaProg.lean LOADS. Nothing in Lean hashes anything: it is a label: what it is worth is what the hold of that sum in a sandbox is worth. -/
noncomputable def Try.pinned : Pinned := { name := "ytepfcnpojhlpdaa", sum := "f3bae35c41ef9d4464ccefaa2b28cdd4216bb2b93c73926520b2fb8459321593", checked := Try.checked }
namespace Rows
def none {H : Type} : Left H := { results := [], args := [] }

/-- 'laws.FnExactIsPrefixOf': WHATEVER THE INPUT: true; the input reads as it did. -/
def fnExactIsPrefixOfSpec : ChangeSpec := { name := "fnExactIsPrefixOf", fn := fun _ => fun
  | [d1, d2] => { results := [.lit (.bool true)], args := [d1, d2] }
  | _ => none }
def fnExactIsPrefixOfRow : OpenClaim := { program := "ytepfcnpojhlpdaa", sum := "f3bae35c41ef9d4464ccefaa2b28cdd4216bb2b93c73926520b2fb8459321593", func := "loop.example/g00509/laws.FnExactIsPrefixOf", spec := "fnExactIsPrefixOf", apart := false }
def FnExactIsPrefixOfSaid : Prop := fnExactIsPrefixOfRow.holds Try.pinned (OpenSpec.ofChange fnExactIsPrefixOfSpec)

/-- ITS FALSE NEIGHBOUR: 'it returns false'. Refute it at one input. -/
def fnExactIsPrefixOfWrong : ChangeSpec := { name := "fnExactIsPrefixOf", fn := fun _ => fun
  | [d1, d2] => { results := [.lit (.bool false)], args := [d1, d2] }
  | _ => none }
def FnExactIsPrefixOfWrongFalsely : Prop := fnExactIsPrefixOfRow.holds Try.pinned (OpenSpec.ofChange fnExactIsPrefixOfWrong)

/-- 'laws.FnExactExpectedOutput': WHATEVER THE INPUT: true; the input reads as it did. -/
def fnExactExpectedOutputSpec : ChangeSpec := { name := "fnExactExpectedOutput", fn := fun _ => fun
  | [d1, d2] => { results := [.lit (.bool true)], args := [d1, d2] }
  | _ => none }
def fnExactExpectedOutputRow : OpenClaim := { program := "ytepfcnpojhlpdaa", sum := "f3bae35c41ef9d4464ccefaa2b28cdd4216bb2b93c73926520b2fb8459321593", func := "loop.example/g00509/laws.FnExactExpectedOutput", spec := "fnExactExpectedOutput", apart := false }
def FnExactExpectedOutputSaid : Prop := fnExactExpectedOutputRow.holds Try.pinned (OpenSpec.ofChange fnExactExpectedOutputSpec)

/-- ITS FALSE NEIGHBOUR: 'it returns false'. Refute it at one input. -/
def fnExactExpectedOutputWrong : ChangeSpec := { name := "fnExactExpectedOutput", fn := fun _ => fun
  | [d1, d2] => { results := [.lit (.bool false)], args := [d1, d2] }
  | _ => none }
def FnExactExpectedOutputWrongFalsely : Prop := fnExactExpectedOutputRow.holds Try.pinned (OpenSpec.ofChange fnExactExpectedOutputWrong)

/-- 'laws.FnExactEqualQueues': WHATEVER THE INPUT: true; the input reads as it did. -/
def fnExactEqualQueuesSpec : ChangeSpec := { name := "fnExactEqualQueues", fn := fun _ => fun
  | [d1, d2] => { results := [.lit (.bool true)], args := [d1, d2] }
  | _ => none }
def fnExactEqualQueuesRow : OpenClaim := { program := "ytepfcnpojhlpdaa", sum := "f3bae35c41ef9d4464ccefaa2b28cdd4216bb2b93c73926520b2fb8459321593", func := "loop.example/g00509/laws.FnExactEqualQueues", spec := "fnExactEqualQueues", apart := false }
def FnExactEqualQueuesSaid : Prop := fnExactEqualQueuesRow.holds Try.pinned (OpenSpec.ofChange fnExactEqualQueuesSpec)

/-- ITS FALSE NEIGHBOUR: 'it returns false'. Refute it at one input. -/
def fnExactEqualQueuesWrong : ChangeSpec := { name := "fnExactEqualQueues", fn := fun _ => fun
  | [d1, d2] => { results := [.lit (.bool false)], args := [d1, d2] }
  | _ => none }
def FnExactEqualQueuesWrongFalsely : Prop := fnExactEqualQueuesRow.holds Try.pinned (OpenSpec.ofChange fnExactEqualQueuesWrong)

/-- 'laws.FnHandoverOrder': WHATEVER THE INPUT: true; the input reads as it did. -/
def fnHandoverOrderSpec : ChangeSpec := { name := "fnHandoverOrder", fn := fun _ => fun
  | [d] => { results := [.lit (.bool true)], args := [d] }
  | _ => none }
def fnHandoverOrderRow : OpenClaim := { program := "ytepfcnpojhlpdaa", sum := "f3bae35c41ef9d4464ccefaa2b28cdd4216bb2b93c73926520b2fb8459321593", func := "loop.example/g00509/laws.FnHandoverOrder", spec := "fnHandoverOrder", apart := false }
def FnHandoverOrderSaid : Prop := fnHandoverOrderRow.holds Try.pinned (OpenSpec.ofChange fnHandoverOrderSpec)

/-- ITS FALSE NEIGHBOUR: 'it returns false'. Refute it at one input. -/
def fnHandoverOrderWrong : ChangeSpec := { name := "fnHandoverOrder", fn := fun _ => fun
  | [d] => { results := [.lit (.bool false)], args := [d] }
  | _ => none }
def FnHandoverOrderWrongFalsely : Prop := fnHandoverOrderRow.holds Try.pinned (OpenSpec.ofChange fnHandoverOrderWrong)

/-- 'laws.FnExactPushForwarded': WHATEVER THE INPUT: true; the input reads as it did. -/
def fnExactPushForwardedSpec : ChangeSpec := { name := "fnExactPushForwarded", fn := fun _ => fun
  | [d1, d2] => { results := [.lit (.bool true)], args := [d1, d2] }
  | _ => none }
def fnExactPushForwardedRow : OpenClaim := { program := "ytepfcnpojhlpdaa", sum := "f3bae35c41ef9d4464ccefaa2b28cdd4216bb2b93c73926520b2fb8459321593", func := "loop.example/g00509/laws.FnExactPushForwarded", spec := "fnExactPushForwarded", apart := false }
def FnExactPushForwardedSaid : Prop := fnExactPushForwardedRow.holds Try.pinned (OpenSpec.ofChange fnExactPushForwardedSpec)

/-- ITS FALSE NEIGHBOUR: 'it returns false'. Refute it at one input. -/
def fnExactPushForwardedWrong : ChangeSpec := { name := "fnExactPushForwarded", fn := fun _ => fun
  | [d1, d2] => { results := [.lit (.bool false)], args := [d1, d2] }
  | _ => none }
def FnExactPushForwardedWrongFalsely : Prop := fnExactPushForwardedRow.holds Try.pinned (OpenSpec.ofChange fnExactPushForwardedWrong)

/-- 'laws.FnExactPushEndMarker': WHATEVER THE INPUT: true; the input reads as it did. -/
def fnExactPushEndMarkerSpec : ChangeSpec := { name := "fnExactPushEndMarker", fn := fun _ => fun
  | [d] => { results := [.lit (.bool true)], args := [d] }
  | _ => none }
def fnExactPushEndMarkerRow : OpenClaim := { program := "ytepfcnpojhlpdaa", sum := "f3bae35c41ef9d4464ccefaa2b28cdd4216bb2b93c73926520b2fb8459321593", func := "loop.example/g00509/laws.FnExactPushEndMarker", spec := "fnExactPushEndMarker", apart := false }
def FnExactPushEndMarkerSaid : Prop := fnExactPushEndMarkerRow.holds Try.pinned (OpenSpec.ofChange fnExactPushEndMarkerSpec)

/-- ITS FALSE NEIGHBOUR: 'it returns false'. Refute it at one input. -/
def fnExactPushEndMarkerWrong : ChangeSpec := { name := "fnExactPushEndMarker", fn := fun _ => fun
  | [d] => { results := [.lit (.bool false)], args := [d] }
  | _ => none }
def FnExactPushEndMarkerWrongFalsely : Prop := fnExactPushEndMarkerRow.holds Try.pinned (OpenSpec.ofChange fnExactPushEndMarkerWrong)

/-- 'laws.FnExactPushDirect': WHATEVER THE INPUT: true; the input reads as it did. -/
def fnExactPushDirectSpec : ChangeSpec := { name := "fnExactPushDirect", fn := fun _ => fun
  | [d1, d2] => { results := [.lit (.bool true)], args := [d1, d2] }
  | _ => none }
def fnExactPushDirectRow : OpenClaim := { program := "ytepfcnpojhlpdaa", sum := "f3bae35c41ef9d4464ccefaa2b28cdd4216bb2b93c73926520b2fb8459321593", func := "loop.example/g00509/laws.FnExactPushDirect", spec := "fnExactPushDirect", apart := false }
def FnExactPushDirectSaid : Prop := fnExactPushDirectRow.holds Try.pinned (OpenSpec.ofChange fnExactPushDirectSpec)

/-- ITS FALSE NEIGHBOUR: 'it returns false'. Refute it at one input. -/
def fnExactPushDirectWrong : ChangeSpec := { name := "fnExactPushDirect", fn := fun _ => fun
  | [d1, d2] => { results := [.lit (.bool false)], args := [d1, d2] }
  | _ => none }
def FnExactPushDirectWrongFalsely : Prop := fnExactPushDirectRow.holds Try.pinned (OpenSpec.ofChange fnExactPushDirectWrong)

/-- 'laws.FnEndMarker': WHATEVER THE INPUT: true; the input reads as it did. -/
def fnEndMarkerSpec : ChangeSpec := { name := "fnEndMarker", fn := fun _ => fun
  | [d] => { results := [.lit (.bool true)], args := [d] }
  | _ => none }
def fnEndMarkerRow : OpenClaim := { program := "ytepfcnpojhlpdaa", sum := "f3bae35c41ef9d4464ccefaa2b28cdd4216bb2b93c73926520b2fb8459321593", func := "loop.example/g00509/laws.FnEndMarker", spec := "fnEndMarker", apart := false }
def FnEndMarkerSaid : Prop := fnEndMarkerRow.holds Try.pinned (OpenSpec.ofChange fnEndMarkerSpec)

/-- ITS FALSE NEIGHBOUR: 'it returns false'. Refute it at one input. -/
def fnEndMarkerWrong : ChangeSpec := { name := "fnEndMarker", fn := fun _ => fun
  | [d] => { results := [.lit (.bool false)], args := [d] }
  | _ => none }
def FnEndMarkerWrongFalsely : Prop := fnEndMarkerRow.holds Try.pinned (OpenSpec.ofChange fnEndMarkerWrong)

/-- 'laws.FnExactReplayHandover': WHATEVER THE INPUT: true; the input reads as it did. -/
def fnExactReplayHandoverSpec : ChangeSpec := { name := "fnExactReplayHandover", fn := fun _ => fun
  | [d1, d2, d3] => { results := [.lit (.bool true)], args := [d1, d2, d3] }
  | _ => none }
def fnExactReplayHandoverRow : OpenClaim := { program := "ytepfcnpojhlpdaa", sum := "f3bae35c41ef9d4464ccefaa2b28cdd4216bb2b93c73926520b2fb8459321593", func := "loop.example/g00509/laws.FnExactReplayHandover", spec := "fnExactReplayHandover", apart := false }
def FnExactReplayHandoverSaid : Prop := fnExactReplayHandoverRow.holds Try.pinned (OpenSpec.ofChange fnExactReplayHandoverSpec)

/-- ITS FALSE NEIGHBOUR: 'it returns false'. Refute it at one input. -/
def fnExactReplayHandoverWrong : ChangeSpec := { name := "fnExactReplayHandover", fn := fun _ => fun
  | [d1, d2, d3] => { results := [.lit (.bool false)], args := [d1, d2, d3] }
  | _ => none }
def FnExactReplayHandoverWrongFalsely : Prop := fnExactReplayHandoverRow.holds Try.pinned (OpenSpec.ofChange fnExactReplayHandoverWrong)

/- THE SECOND FORM. 'bulk': how many values and letters a reading holds, each counted each time it is reached (what is shared counts as often as it is met; a slice's spare places count too). A statement '..UptoSaid' is the law's where the arguments, and the package variables that the reading takes, are together of bulk at most 1048576: NARROWER than '..Said'. Prove '..Said' where nothing that the law and all that it calls make is longer than what came in: it says more and counts as full. Else prove '..UptoSaid'. A law counts once. -/
mutual
def uptoBulk {H : Type} : DataW H → Nat
  | .lit (.string bytes) => bytes.length + 1
  | .lit _ => 1
  | .nil => 1
  | .ptr d => uptoBulk d + 1
  | .slice elems spare => uptoBulkAll elems + uptoBulkAll spare + 1
  | .agg parts => uptoBulkAll parts + 1
  | .iface _ d => uptoBulk d + 1
  | .map entries => uptoBulkEntries entries + 1
  | .held _ => 1
def uptoBulkAll {H : Type} : List (DataW H) → Nat
  | [] => 0
  | d :: r => uptoBulk d + uptoBulkAll r
def uptoBulkEntries {H : Type} : List (Lit × DataW H) → Nat
  | [] => 0
  | x :: r => uptoBulkEntry x + uptoBulkEntries r
def uptoBulkEntry {H : Type} : Lit × DataW H → Nat
  | (.string bytes, d) => bytes.length + uptoBulk d + 1
  | (_, d) => uptoBulk d + 1
 end
def uptoSmall : (H : Type) → List (DataW H) → Bool := fun _ ds => decide (uptoBulkAll ds ≤ 1048576)
def OpenSpec.upto (s : _root_.Go.ChangeSpec) : _root_.Go.OpenSpec := { _root_.Go.OpenSpec.ofChange s with cond := some uptoSmall }

/-- 'laws.FnExactIsPrefixOf', WHERE WHAT IT READS IS OF BULK AT MOST 1048576: true; the input reads as it did. -/
def fnExactIsPrefixOfUptoRow : OpenClaim := { program := "ytepfcnpojhlpdaa", sum := "f3bae35c41ef9d4464ccefaa2b28cdd4216bb2b93c73926520b2fb8459321593", func := "loop.example/g00509/laws.FnExactIsPrefixOf", spec := "fnExactIsPrefixOf", apart := false, narrowed := true }
def FnExactIsPrefixOfUptoSaid : Prop := fnExactIsPrefixOfUptoRow.holds Try.pinned (OpenSpec.upto fnExactIsPrefixOfSpec)

/-- 'laws.FnExactExpectedOutput', WHERE WHAT IT READS IS OF BULK AT MOST 1048576: true; the input reads as it did. -/
def fnExactExpectedOutputUptoRow : OpenClaim := { program := "ytepfcnpojhlpdaa", sum := "f3bae35c41ef9d4464ccefaa2b28cdd4216bb2b93c73926520b2fb8459321593", func := "loop.example/g00509/laws.FnExactExpectedOutput", spec := "fnExactExpectedOutput", apart := false, narrowed := true }
def FnExactExpectedOutputUptoSaid : Prop := fnExactExpectedOutputUptoRow.holds Try.pinned (OpenSpec.upto fnExactExpectedOutputSpec)

/-- 'laws.FnExactEqualQueues', WHERE WHAT IT READS IS OF BULK AT MOST 1048576: true; the input reads as it did. -/
def fnExactEqualQueuesUptoRow : OpenClaim := { program := "ytepfcnpojhlpdaa", sum := "f3bae35c41ef9d4464ccefaa2b28cdd4216bb2b93c73926520b2fb8459321593", func := "loop.example/g00509/laws.FnExactEqualQueues", spec := "fnExactEqualQueues", apart := false, narrowed := true }
def FnExactEqualQueuesUptoSaid : Prop := fnExactEqualQueuesUptoRow.holds Try.pinned (OpenSpec.upto fnExactEqualQueuesSpec)

/-- 'laws.FnHandoverOrder', WHERE WHAT IT READS IS OF BULK AT MOST 1048576: true; the input reads as it did. -/
def fnHandoverOrderUptoRow : OpenClaim := { program := "ytepfcnpojhlpdaa", sum := "f3bae35c41ef9d4464ccefaa2b28cdd4216bb2b93c73926520b2fb8459321593", func := "loop.example/g00509/laws.FnHandoverOrder", spec := "fnHandoverOrder", apart := false, narrowed := true }
def FnHandoverOrderUptoSaid : Prop := fnHandoverOrderUptoRow.holds Try.pinned (OpenSpec.upto fnHandoverOrderSpec)

/-- 'laws.FnExactPushForwarded', WHERE WHAT IT READS IS OF BULK AT MOST 1048576: true; the input reads as it did. -/
def fnExactPushForwardedUptoRow : OpenClaim := { program := "ytepfcnpojhlpdaa", sum := "f3bae35c41ef9d4464ccefaa2b28cdd4216bb2b93c73926520b2fb8459321593", func := "loop.example/g00509/laws.FnExactPushForwarded", spec := "fnExactPushForwarded", apart := false, narrowed := true }
def FnExactPushForwardedUptoSaid : Prop := fnExactPushForwardedUptoRow.holds Try.pinned (OpenSpec.upto fnExactPushForwardedSpec)

/-- 'laws.FnExactPushEndMarker', WHERE WHAT IT READS IS OF BULK AT MOST 1048576: true; the input reads as it did. -/
def fnExactPushEndMarkerUptoRow : OpenClaim := { program := "ytepfcnpojhlpdaa", sum := "f3bae35c41ef9d4464ccefaa2b28cdd4216bb2b93c73926520b2fb8459321593", func := "loop.example/g00509/laws.FnExactPushEndMarker", spec := "fnExactPushEndMarker", apart := false, narrowed := true }
def FnExactPushEndMarkerUptoSaid : Prop := fnExactPushEndMarkerUptoRow.holds Try.pinned (OpenSpec.upto fnExactPushEndMarkerSpec)

/-- 'laws.FnExactPushDirect', WHERE WHAT IT READS IS OF BULK AT MOST 1048576: true; the input reads as it did. -/
def fnExactPushDirectUptoRow : OpenClaim := { program := "ytepfcnpojhlpdaa", sum := "f3bae35c41ef9d4464ccefaa2b28cdd4216bb2b93c73926520b2fb8459321593", func := "loop.example/g00509/laws.FnExactPushDirect", spec := "fnExactPushDirect", apart := false, narrowed := true }
def FnExactPushDirectUptoSaid : Prop := fnExactPushDirectUptoRow.holds Try.pinned (OpenSpec.upto fnExactPushDirectSpec)

/-- 'laws.FnEndMarker', WHERE WHAT IT READS IS OF BULK AT MOST 1048576: true; the input reads as it did. -/
def fnEndMarkerUptoRow : OpenClaim := { program := "ytepfcnpojhlpdaa", sum := "f3bae35c41ef9d4464ccefaa2b28cdd4216bb2b93c73926520b2fb8459321593", func := "loop.example/g00509/laws.FnEndMarker", spec := "fnEndMarker", apart := false, narrowed := true }
def FnEndMarkerUptoSaid : Prop := fnEndMarkerUptoRow.holds Try.pinned (OpenSpec.upto fnEndMarkerSpec)

/-- 'laws.FnExactReplayHandover', WHERE WHAT IT READS IS OF BULK AT MOST 1048576: true; the input reads as it did. -/
def fnExactReplayHandoverUptoRow : OpenClaim := { program := "ytepfcnpojhlpdaa", sum := "f3bae35c41ef9d4464ccefaa2b28cdd4216bb2b93c73926520b2fb8459321593", func := "loop.example/g00509/laws.FnExactReplayHandover", spec := "fnExactReplayHandover", apart := false, narrowed := true }
def FnExactReplayHandoverUptoSaid : Prop := fnExactReplayHandoverUptoRow.holds Try.pinned (OpenSpec.upto fnExactReplayHandoverSpec)

end Rows
end Go.Proofs.Ytepfcnpojhlpdaa
