/-
  No cell of these rows narrows 'for every input' (looked for: loops, veiled, ifaces, maps, wideKeys, modest, calm, conditions, laid).
  DERIVED. THE GIVEN ROWS OF THIS SEAT. 10 by the template 'for every input the law returns true; each argument reads behind the call as it read before'; 0 by the template 'total and deterministic' (their statements: YtidefcakodnffaaTotals.lean).
  GIVEN WITH THE SEED: the statements are not yours to turn. If you find one false, say at which input.
  Laid BY PROGRAM, IN A SANDBOX (cutbox-rows.mjs): the forced cells as the released guide's own fill.sh prints them over the translation c4a938f490d3cb52… (all of the seat's roots in one cut). By AI agents, Wed Nov 11 2026. No macro, syntax, notation, axiom, sorry.
-/
import Derived.Test.YtidefcakodnffaaChecked
import GoSem.Claim
import GoSem.ClaimJoined
import GoSem.ClaimMapViews
import Derived.JoinedTies
import Derived.KernelRfl
namespace Go.Proofs.Ytidefcakodnffaa
/- THE CELL 'sum', in the pinned program and in every row, IS THE sha256 OF THE DUMP (.gsa) THAT YtidefcakodnffaaProg.lean LOADS. Nothing in Lean hashes anything: it is a label: what it is worth is what the hold of that sum in a sandbox is worth. -/
noncomputable def Try.pinned : Pinned := { name := "ytidefcakodnffaa", sum := "c4a938f490d3cb521d9ce73f3d3daead701955476a6ae2082b5903c00a60dd82", checked := Try.checked }
namespace Rows
def none {H : Type} : Left H := { results := [], args := [] }

/-- 'laws.FnExactIsValidPool': WHATEVER THE INPUT: true; the input reads as it did. -/
def fnExactIsValidPoolSpec : ChangeSpec := { name := "fnExactIsValidPool", fn := fun _ => fun
  | [d] => { results := [.lit (.bool true)], args := [d] }
  | _ => none }
def fnExactIsValidPoolRow : OpenClaim := { program := "ytidefcakodnffaa", sum := "c4a938f490d3cb521d9ce73f3d3daead701955476a6ae2082b5903c00a60dd82", func := "loop.example/g00509/laws.FnExactIsValidPool", spec := "fnExactIsValidPool", apart := false }
def FnExactIsValidPoolSaid : Prop := fnExactIsValidPoolRow.holds Try.pinned (OpenSpec.ofChange fnExactIsValidPoolSpec)

/-- ITS FALSE NEIGHBOUR: 'it returns false'. Refute it at one input. -/
def fnExactIsValidPoolWrong : ChangeSpec := { name := "fnExactIsValidPool", fn := fun _ => fun
  | [d] => { results := [.lit (.bool false)], args := [d] }
  | _ => none }
def FnExactIsValidPoolWrongFalsely : Prop := fnExactIsValidPoolRow.holds Try.pinned (OpenSpec.ofChange fnExactIsValidPoolWrong)

/-- 'laws.FnExactIsServerUp': WHATEVER THE INPUT: true; the input reads as it did. -/
def fnExactIsServerUpSpec : ChangeSpec := { name := "fnExactIsServerUp", fn := fun _ => fun
  | [d1, d2] => { results := [.lit (.bool true)], args := [d1, d2] }
  | _ => none }
def fnExactIsServerUpRow : OpenClaim := { program := "ytidefcakodnffaa", sum := "c4a938f490d3cb521d9ce73f3d3daead701955476a6ae2082b5903c00a60dd82", func := "loop.example/g00509/laws.FnExactIsServerUp", spec := "fnExactIsServerUp", apart := false }
def FnExactIsServerUpSaid : Prop := fnExactIsServerUpRow.holds Try.pinned (OpenSpec.ofChange fnExactIsServerUpSpec)

/-- ITS FALSE NEIGHBOUR: 'it returns false'. Refute it at one input. -/
def fnExactIsServerUpWrong : ChangeSpec := { name := "fnExactIsServerUp", fn := fun _ => fun
  | [d1, d2] => { results := [.lit (.bool false)], args := [d1, d2] }
  | _ => none }
def FnExactIsServerUpWrongFalsely : Prop := fnExactIsServerUpRow.holds Try.pinned (OpenSpec.ofChange fnExactIsServerUpWrong)

/-- 'laws.FnExactRendezvousWeight': WHATEVER THE INPUT: true; the input reads as it did. -/
def fnExactRendezvousWeightSpec : ChangeSpec := { name := "fnExactRendezvousWeight", fn := fun _ => fun
  | [d1, d2] => { results := [.lit (.bool true)], args := [d1, d2] }
  | _ => none }
def fnExactRendezvousWeightRow : OpenClaim := { program := "ytidefcakodnffaa", sum := "c4a938f490d3cb521d9ce73f3d3daead701955476a6ae2082b5903c00a60dd82", func := "loop.example/g00509/laws.FnExactRendezvousWeight", spec := "fnExactRendezvousWeight", apart := false }
def FnExactRendezvousWeightSaid : Prop := fnExactRendezvousWeightRow.holds Try.pinned (OpenSpec.ofChange fnExactRendezvousWeightSpec)

/-- ITS FALSE NEIGHBOUR: 'it returns false'. Refute it at one input. -/
def fnExactRendezvousWeightWrong : ChangeSpec := { name := "fnExactRendezvousWeight", fn := fun _ => fun
  | [d1, d2] => { results := [.lit (.bool false)], args := [d1, d2] }
  | _ => none }
def FnExactRendezvousWeightWrongFalsely : Prop := fnExactRendezvousWeightRow.holds Try.pinned (OpenSpec.ofChange fnExactRendezvousWeightWrong)

/-- 'laws.FnExactFormatPool': WHATEVER THE INPUT: true; the input reads as it did. -/
def fnExactFormatPoolSpec : ChangeSpec := { name := "fnExactFormatPool", fn := fun _ => fun
  | [d] => { results := [.lit (.bool true)], args := [d] }
  | _ => none }
def fnExactFormatPoolRow : OpenClaim := { program := "ytidefcakodnffaa", sum := "c4a938f490d3cb521d9ce73f3d3daead701955476a6ae2082b5903c00a60dd82", func := "loop.example/g00509/laws.FnExactFormatPool", spec := "fnExactFormatPool", apart := false }
def FnExactFormatPoolSaid : Prop := fnExactFormatPoolRow.holds Try.pinned (OpenSpec.ofChange fnExactFormatPoolSpec)

/-- ITS FALSE NEIGHBOUR: 'it returns false'. Refute it at one input. -/
def fnExactFormatPoolWrong : ChangeSpec := { name := "fnExactFormatPool", fn := fun _ => fun
  | [d] => { results := [.lit (.bool false)], args := [d] }
  | _ => none }
def FnExactFormatPoolWrongFalsely : Prop := fnExactFormatPoolRow.holds Try.pinned (OpenSpec.ofChange fnExactFormatPoolWrong)

/-- 'laws.FnExactSetServerUp': WHATEVER THE INPUT: true; the input reads as it did. -/
def fnExactSetServerUpSpec : ChangeSpec := { name := "fnExactSetServerUp", fn := fun _ => fun
  | [d1, d2, d3] => { results := [.lit (.bool true)], args := [d1, d2, d3] }
  | _ => none }
def fnExactSetServerUpRow : OpenClaim := { program := "ytidefcakodnffaa", sum := "c4a938f490d3cb521d9ce73f3d3daead701955476a6ae2082b5903c00a60dd82", func := "loop.example/g00509/laws.FnExactSetServerUp", spec := "fnExactSetServerUp", apart := false }
def FnExactSetServerUpSaid : Prop := fnExactSetServerUpRow.holds Try.pinned (OpenSpec.ofChange fnExactSetServerUpSpec)

/-- ITS FALSE NEIGHBOUR: 'it returns false'. Refute it at one input. -/
def fnExactSetServerUpWrong : ChangeSpec := { name := "fnExactSetServerUp", fn := fun _ => fun
  | [d1, d2, d3] => { results := [.lit (.bool false)], args := [d1, d2, d3] }
  | _ => none }
def FnExactSetServerUpWrongFalsely : Prop := fnExactSetServerUpRow.holds Try.pinned (OpenSpec.ofChange fnExactSetServerUpWrong)

/-- 'laws.FnExactSelectServer': WHATEVER THE INPUT: true; the input reads as it did. -/
def fnExactSelectServerSpec : ChangeSpec := { name := "fnExactSelectServer", fn := fun _ => fun
  | [d1, d2] => { results := [.lit (.bool true)], args := [d1, d2] }
  | _ => none }
def fnExactSelectServerRow : OpenClaim := { program := "ytidefcakodnffaa", sum := "c4a938f490d3cb521d9ce73f3d3daead701955476a6ae2082b5903c00a60dd82", func := "loop.example/g00509/laws.FnExactSelectServer", spec := "fnExactSelectServer", apart := false }
def FnExactSelectServerSaid : Prop := fnExactSelectServerRow.holds Try.pinned (OpenSpec.ofChange fnExactSelectServerSpec)

/-- ITS FALSE NEIGHBOUR: 'it returns false'. Refute it at one input. -/
def fnExactSelectServerWrong : ChangeSpec := { name := "fnExactSelectServer", fn := fun _ => fun
  | [d1, d2] => { results := [.lit (.bool false)], args := [d1, d2] }
  | _ => none }
def FnExactSelectServerWrongFalsely : Prop := fnExactSelectServerRow.holds Try.pinned (OpenSpec.ofChange fnExactSelectServerWrong)

/-- 'laws.FnExactBackupServer': WHATEVER THE INPUT: true; the input reads as it did. -/
def fnExactBackupServerSpec : ChangeSpec := { name := "fnExactBackupServer", fn := fun _ => fun
  | [d1, d2] => { results := [.lit (.bool true)], args := [d1, d2] }
  | _ => none }
def fnExactBackupServerRow : OpenClaim := { program := "ytidefcakodnffaa", sum := "c4a938f490d3cb521d9ce73f3d3daead701955476a6ae2082b5903c00a60dd82", func := "loop.example/g00509/laws.FnExactBackupServer", spec := "fnExactBackupServer", apart := false }
def FnExactBackupServerSaid : Prop := fnExactBackupServerRow.holds Try.pinned (OpenSpec.ofChange fnExactBackupServerSpec)

/-- ITS FALSE NEIGHBOUR: 'it returns false'. Refute it at one input. -/
def fnExactBackupServerWrong : ChangeSpec := { name := "fnExactBackupServer", fn := fun _ => fun
  | [d1, d2] => { results := [.lit (.bool false)], args := [d1, d2] }
  | _ => none }
def FnExactBackupServerWrongFalsely : Prop := fnExactBackupServerRow.holds Try.pinned (OpenSpec.ofChange fnExactBackupServerWrong)

/-- 'laws.FnServerSelection': WHATEVER THE INPUT: true; the input reads as it did. -/
def fnServerSelectionSpec : ChangeSpec := { name := "fnServerSelection", fn := fun _ => fun
  | [d] => { results := [.lit (.bool true)], args := [d] }
  | _ => none }
def fnServerSelectionRow : OpenClaim := { program := "ytidefcakodnffaa", sum := "c4a938f490d3cb521d9ce73f3d3daead701955476a6ae2082b5903c00a60dd82", func := "loop.example/g00509/laws.FnServerSelection", spec := "fnServerSelection", apart := false }
def FnServerSelectionSaid : Prop := fnServerSelectionRow.holds Try.pinned (OpenSpec.ofChange fnServerSelectionSpec)

/-- ITS FALSE NEIGHBOUR: 'it returns false'. Refute it at one input. -/
def fnServerSelectionWrong : ChangeSpec := { name := "fnServerSelection", fn := fun _ => fun
  | [d] => { results := [.lit (.bool false)], args := [d] }
  | _ => none }
def FnServerSelectionWrongFalsely : Prop := fnServerSelectionRow.holds Try.pinned (OpenSpec.ofChange fnServerSelectionWrong)

/-- 'laws.FnExactMovedSessions': WHATEVER THE INPUT: true; the input reads as it did. -/
def fnExactMovedSessionsSpec : ChangeSpec := { name := "fnExactMovedSessions", fn := fun _ => fun
  | [d1, d2, d3] => { results := [.lit (.bool true)], args := [d1, d2, d3] }
  | _ => none }
def fnExactMovedSessionsRow : OpenClaim := { program := "ytidefcakodnffaa", sum := "c4a938f490d3cb521d9ce73f3d3daead701955476a6ae2082b5903c00a60dd82", func := "loop.example/g00509/laws.FnExactMovedSessions", spec := "fnExactMovedSessions", apart := false }
def FnExactMovedSessionsSaid : Prop := fnExactMovedSessionsRow.holds Try.pinned (OpenSpec.ofChange fnExactMovedSessionsSpec)

/-- ITS FALSE NEIGHBOUR: 'it returns false'. Refute it at one input. -/
def fnExactMovedSessionsWrong : ChangeSpec := { name := "fnExactMovedSessions", fn := fun _ => fun
  | [d1, d2, d3] => { results := [.lit (.bool false)], args := [d1, d2, d3] }
  | _ => none }
def FnExactMovedSessionsWrongFalsely : Prop := fnExactMovedSessionsRow.holds Try.pinned (OpenSpec.ofChange fnExactMovedSessionsWrong)

/-- 'laws.FnMinimalMovement': WHATEVER THE INPUT: true; the input reads as it did. -/
def fnMinimalMovementSpec : ChangeSpec := { name := "fnMinimalMovement", fn := fun _ => fun
  | [d] => { results := [.lit (.bool true)], args := [d] }
  | _ => none }
def fnMinimalMovementRow : OpenClaim := { program := "ytidefcakodnffaa", sum := "c4a938f490d3cb521d9ce73f3d3daead701955476a6ae2082b5903c00a60dd82", func := "loop.example/g00509/laws.FnMinimalMovement", spec := "fnMinimalMovement", apart := false }
def FnMinimalMovementSaid : Prop := fnMinimalMovementRow.holds Try.pinned (OpenSpec.ofChange fnMinimalMovementSpec)

/-- ITS FALSE NEIGHBOUR: 'it returns false'. Refute it at one input. -/
def fnMinimalMovementWrong : ChangeSpec := { name := "fnMinimalMovement", fn := fun _ => fun
  | [d] => { results := [.lit (.bool false)], args := [d] }
  | _ => none }
def FnMinimalMovementWrongFalsely : Prop := fnMinimalMovementRow.holds Try.pinned (OpenSpec.ofChange fnMinimalMovementWrong)

/- THE SECOND FORM. 'bulk': how many values and letters a reading holds, each counted each time it is reached (what is shared counts as often as it is met; a slice's spare places count too). A statement '..UptoSaid' is the law's where the arguments, and the package variables that the reading takes, are together of bulk at most 1048576: NARROWER than '..Said'. Prove '..Said' where nothing that the law and all that it calls make is longer than what came in: it says more and counts as full. Else prove '..UptoSaid'. A law counts once. -/
mutual
def uptoBulk {H : Type} : DataW H → Nat
  | .lit (.string bytes) => bytes.length + 1
  | .lit _ => 1
  | .nil => 1
  | .ptr d => uptoBulk d + 1
  | .slice elems spare => uptoBulkAll elems + uptoBulkAll spare + 1
  | .agg parts => uptoBulkAll parts + 1
  | .iface _ d => uptoBulk d + 1
  | .map entries => uptoBulkEntries entries + 1
  | .held _ => 1
def uptoBulkAll {H : Type} : List (DataW H) → Nat
  | [] => 0
  | d :: r => uptoBulk d + uptoBulkAll r
def uptoBulkEntries {H : Type} : List (Lit × DataW H) → Nat
  | [] => 0
  | x :: r => uptoBulkEntry x + uptoBulkEntries r
def uptoBulkEntry {H : Type} : Lit × DataW H → Nat
  | (.string bytes, d) => bytes.length + uptoBulk d + 1
  | (_, d) => uptoBulk d + 1
 end
def uptoSmall : (H : Type) → List (DataW H) → Bool := fun _ ds => decide (uptoBulkAll ds ≤ 1048576)
def OpenSpec.upto (s : _root_.Go.ChangeSpec) : _root_.Go.OpenSpec := { _root_.Go.OpenSpec.ofChange s with cond := some uptoSmall }

/-- 'laws.FnExactIsValidPool', WHERE WHAT IT READS IS OF BULK AT MOST 1048576: true; the input reads as it did. -/
def fnExactIsValidPoolUptoRow : OpenClaim := { program := "ytidefcakodnffaa", sum := "c4a938f490d3cb521d9ce73f3d3daead701955476a6ae2082b5903c00a60dd82", func := "loop.example/g00509/laws.FnExactIsValidPool", spec := "fnExactIsValidPool", apart := false, narrowed := true }
def FnExactIsValidPoolUptoSaid : Prop := fnExactIsValidPoolUptoRow.holds Try.pinned (OpenSpec.upto fnExactIsValidPoolSpec)

/-- 'laws.FnExactIsServerUp', WHERE WHAT IT READS IS OF BULK AT MOST 1048576: true; the input reads as it did. -/
def fnExactIsServerUpUptoRow : OpenClaim := { program := "ytidefcakodnffaa", sum := "c4a938f490d3cb521d9ce73f3d3daead701955476a6ae2082b5903c00a60dd82", func := "loop.example/g00509/laws.FnExactIsServerUp", spec := "fnExactIsServerUp", apart := false, narrowed := true }
def FnExactIsServerUpUptoSaid : Prop := fnExactIsServerUpUptoRow.holds Try.pinned (OpenSpec.upto fnExactIsServerUpSpec)

/-- 'laws.FnExactRendezvousWeight', WHERE WHAT IT READS IS OF BULK AT MOST 1048576: true; the input reads as it did. -/
def fnExactRendezvousWeightUptoRow : OpenClaim := { program := "ytidefcakodnffaa", sum := "c4a938f490d3cb521d9ce73f3d3daead701955476a6ae2082b5903c00a60dd82", func := "loop.example/g00509/laws.FnExactRendezvousWeight", spec := "fnExactRendezvousWeight", apart := false, narrowed := true }
def FnExactRendezvousWeightUptoSaid : Prop := fnExactRendezvousWeightUptoRow.holds Try.pinned (OpenSpec.upto fnExactRendezvousWeightSpec)

/-- 'laws.FnExactFormatPool', WHERE WHAT IT READS IS OF BULK AT MOST 1048576: true; the input reads as it did. -/
def fnExactFormatPoolUptoRow : OpenClaim := { program := "ytidefcakodnffaa", sum := "c4a938f490d3cb521d9ce73f3d3daead701955476a6ae2082b5903c00a60dd82", func := "loop.example/g00509/laws.FnExactFormatPool", spec := "fnExactFormatPool", apart := false, narrowed := true }
def FnExactFormatPoolUptoSaid : Prop := fnExactFormatPoolUptoRow.holds Try.pinned (OpenSpec.upto fnExactFormatPoolSpec)

/-- 'laws.FnExactSetServerUp', WHERE WHAT IT READS IS OF BULK AT MOST 1048576: true; the input reads as it did. -/
def fnExactSetServerUpUptoRow : OpenClaim := { program := "ytidefcakodnffaa", sum := "c4a938f490d3cb521d9ce73f3d3daead701955476a6ae2082b5903c00a60dd82", func := "loop.example/g00509/laws.FnExactSetServerUp", spec := "fnExactSetServerUp", apart := false, narrowed := true }
def FnExactSetServerUpUptoSaid : Prop := fnExactSetServerUpUptoRow.holds Try.pinned (OpenSpec.upto fnExactSetServerUpSpec)

/-- 'laws.FnExactSelectServer', WHERE WHAT IT READS IS OF BULK AT MOST 1048576: true; the input reads as it did. -/
def fnExactSelectServerUptoRow : OpenClaim := { program := "ytidefcakodnffaa", sum := "c4a938f490d3cb521d9ce73f3d3daead701955476a6ae2082b5903c00a60dd82", func := "loop.example/g00509/laws.FnExactSelectServer", spec := "fnExactSelectServer", apart := false, narrowed := true }
def FnExactSelectServerUptoSaid : Prop := fnExactSelectServerUptoRow.holds Try.pinned (OpenSpec.upto fnExactSelectServerSpec)

/-- 'laws.FnExactBackupServer', WHERE WHAT IT READS IS OF BULK AT MOST 1048576: true; the input reads as it did. -/
def fnExactBackupServerUptoRow : OpenClaim := { program := "ytidefcakodnffaa", sum := "c4a938f490d3cb521d9ce73f3d3daead701955476a6ae2082b5903c00a60dd82", func := "loop.example/g00509/laws.FnExactBackupServer", spec := "fnExactBackupServer", apart := false, narrowed := true }
def FnExactBackupServerUptoSaid : Prop := fnExactBackupServerUptoRow.holds Try.pinned (OpenSpec.upto fnExactBackupServerSpec)

/-- 'laws.FnServerSelection', WHERE WHAT IT READS IS OF BULK AT MOST 1048576: true; the input reads as it did. -/
def fnServerSelectionUptoRow : OpenClaim := { program := "ytidefcakodnffaa", sum := "c4a938f490d3cb521d9ce73f3d3daead701955476a6ae2082b5903c00a60dd82", func := "loop.example/g00509/laws.FnServerSelection", spec := "fnServerSelection", apart := false, narrowed := true }
def FnServerSelectionUptoSaid : Prop := fnServerSelectionUptoRow.holds Try.pinned (OpenSpec.upto fnServerSelectionSpec)

/-- 'laws.FnExactMovedSessions', WHERE WHAT IT READS IS OF BULK AT MOST 1048576: true; the input reads as it did. -/
def fnExactMovedSessionsUptoRow : OpenClaim := { program := "ytidefcakodnffaa", sum := "c4a938f490d3cb521d9ce73f3d3daead701955476a6ae2082b5903c00a60dd82", func := "loop.example/g00509/laws.FnExactMovedSessions", spec := "fnExactMovedSessions", apart := false, narrowed := true }
def FnExactMovedSessionsUptoSaid : Prop := fnExactMovedSessionsUptoRow.holds Try.pinned (OpenSpec.upto fnExactMovedSessionsSpec)

/-- 'laws.FnMinimalMovement', WHERE WHAT IT READS IS OF BULK AT MOST 1048576: true; the input reads as it did. -/
def fnMinimalMovementUptoRow : OpenClaim := { program := "ytidefcakodnffaa", sum := "c4a938f490d3cb521d9ce73f3d3daead701955476a6ae2082b5903c00a60dd82", func := "loop.example/g00509/laws.FnMinimalMovement", spec := "fnMinimalMovement", apart := false, narrowed := true }
def FnMinimalMovementUptoSaid : Prop := fnMinimalMovementUptoRow.holds Try.pinned (OpenSpec.upto fnMinimalMovementSpec)

end Rows
end Go.Proofs.Ytidefcakodnffaa
