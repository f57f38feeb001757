/-
  No cell of these rows narrows 'for every input' (looked for: loops, veiled, ifaces, maps, wideKeys, modest, calm, conditions, laid).
  DERIVED. THE GIVEN ROWS OF THIS SEAT. 6 by the template 'for every input the law returns true; each argument reads behind the call as it read before'; 0 by the template 'total and deterministic' (their statements: YtkcedoehehjceaaTotals.lean).
  GIVEN WITH THE SEED: the statements are not yours to turn. If you find one false, say at which input.
  Laid BY PROGRAM, IN A SANDBOX (cutbox-rows.mjs): the forced cells as the released guide's own fill.sh prints them over the translation 29b8b668e4172a2b… (all of the seat's roots in one cut). By AI agents, Wed Nov 11 2026. No macro, syntax, notation, axiom, sorry.
-/
import Derived.Test.YtkcedoehehjceaaChecked
import GoSem.Claim
import GoSem.ClaimJoined
import GoSem.ClaimMapViews
import Derived.JoinedTies
import Derived.KernelRfl
namespace Go.Proofs.Ytkcedoehehjceaa
/- THE CELL 'sum', in the pinned program and in every row, IS THE sha256 OF THE DUMP (.gsa) THAT YtkcedoehehjceaaProg.lean LOADS. Nothing in Lean hashes anything: it is a label: what it is worth is what the hold of that sum in a sandbox is worth. -/
noncomputable def Try.pinned : Pinned := { name := "ytkcedoehehjceaa", sum := "29b8b668e4172a2b1b862b5b425d860ea1391d84591b3e889c63f2715ecd15ab", checked := Try.checked }
namespace Rows
def none {H : Type} : Left H := { results := [], args := [] }

/-- 'laws.FnExactIsValidPaging': WHATEVER THE INPUT: true; the input reads as it did. -/
def fnExactIsValidPagingSpec : ChangeSpec := { name := "fnExactIsValidPaging", fn := fun _ => fun
  | [d] => { results := [.lit (.bool true)], args := [d] }
  | _ => none }
def fnExactIsValidPagingRow : OpenClaim := { program := "ytkcedoehehjceaa", sum := "29b8b668e4172a2b1b862b5b425d860ea1391d84591b3e889c63f2715ecd15ab", func := "loop.example/g00509/laws.FnExactIsValidPaging", spec := "fnExactIsValidPaging", apart := false }
def FnExactIsValidPagingSaid : Prop := fnExactIsValidPagingRow.holds Try.pinned (OpenSpec.ofChange fnExactIsValidPagingSpec)

/-- ITS FALSE NEIGHBOUR: 'it returns false'. Refute it at one input. -/
def fnExactIsValidPagingWrong : ChangeSpec := { name := "fnExactIsValidPaging", fn := fun _ => fun
  | [d] => { results := [.lit (.bool false)], args := [d] }
  | _ => none }
def FnExactIsValidPagingWrongFalsely : Prop := fnExactIsValidPagingRow.holds Try.pinned (OpenSpec.ofChange fnExactIsValidPagingWrong)

/-- 'laws.FnPagingStates': WHATEVER THE INPUT: true; the input reads as it did. -/
def fnPagingStatesSpec : ChangeSpec := { name := "fnPagingStates", fn := fun _ => fun
  | [d] => { results := [.lit (.bool true)], args := [d] }
  | _ => none }
def fnPagingStatesRow : OpenClaim := { program := "ytkcedoehehjceaa", sum := "29b8b668e4172a2b1b862b5b425d860ea1391d84591b3e889c63f2715ecd15ab", func := "loop.example/g00509/laws.FnPagingStates", spec := "fnPagingStates", apart := false }
def FnPagingStatesSaid : Prop := fnPagingStatesRow.holds Try.pinned (OpenSpec.ofChange fnPagingStatesSpec)

/-- ITS FALSE NEIGHBOUR: 'it returns false'. Refute it at one input. -/
def fnPagingStatesWrong : ChangeSpec := { name := "fnPagingStates", fn := fun _ => fun
  | [d] => { results := [.lit (.bool false)], args := [d] }
  | _ => none }
def FnPagingStatesWrongFalsely : Prop := fnPagingStatesRow.holds Try.pinned (OpenSpec.ofChange fnPagingStatesWrong)

/-- 'laws.FnPagingReaches': WHATEVER THE INPUT: true; the input reads as it did. -/
def fnPagingReachesSpec : ChangeSpec := { name := "fnPagingReaches", fn := fun _ => fun
  | [d] => { results := [.lit (.bool true)], args := [d] }
  | _ => none }
def fnPagingReachesRow : OpenClaim := { program := "ytkcedoehehjceaa", sum := "29b8b668e4172a2b1b862b5b425d860ea1391d84591b3e889c63f2715ecd15ab", func := "loop.example/g00509/laws.FnPagingReaches", spec := "fnPagingReaches", apart := false }
def FnPagingReachesSaid : Prop := fnPagingReachesRow.holds Try.pinned (OpenSpec.ofChange fnPagingReachesSpec)

/-- ITS FALSE NEIGHBOUR: 'it returns false'. Refute it at one input. -/
def fnPagingReachesWrong : ChangeSpec := { name := "fnPagingReaches", fn := fun _ => fun
  | [d] => { results := [.lit (.bool false)], args := [d] }
  | _ => none }
def FnPagingReachesWrongFalsely : Prop := fnPagingReachesRow.holds Try.pinned (OpenSpec.ofChange fnPagingReachesWrong)

/-- 'laws.FnExactPagingCells': WHATEVER THE INPUT: true; the input reads as it did. -/
def fnExactPagingCellsSpec : ChangeSpec := { name := "fnExactPagingCells", fn := fun _ => fun
  | [d1, d2, d3] => { results := [.lit (.bool true)], args := [d1, d2, d3] }
  | _ => none }
def fnExactPagingCellsRow : OpenClaim := { program := "ytkcedoehehjceaa", sum := "29b8b668e4172a2b1b862b5b425d860ea1391d84591b3e889c63f2715ecd15ab", func := "loop.example/g00509/laws.FnExactPagingCells", spec := "fnExactPagingCells", apart := false }
def FnExactPagingCellsSaid : Prop := fnExactPagingCellsRow.holds Try.pinned (OpenSpec.ofChange fnExactPagingCellsSpec)

/-- ITS FALSE NEIGHBOUR: 'it returns false'. Refute it at one input. -/
def fnExactPagingCellsWrong : ChangeSpec := { name := "fnExactPagingCells", fn := fun _ => fun
  | [d1, d2, d3] => { results := [.lit (.bool false)], args := [d1, d2, d3] }
  | _ => none }
def FnExactPagingCellsWrongFalsely : Prop := fnExactPagingCellsRow.holds Try.pinned (OpenSpec.ofChange fnExactPagingCellsWrong)

/-- 'laws.FnExactTicksUntilPaged': WHATEVER THE INPUT: true; the input reads as it did. -/
def fnExactTicksUntilPagedSpec : ChangeSpec := { name := "fnExactTicksUntilPaged", fn := fun _ => fun
  | [d1, d2, d3] => { results := [.lit (.bool true)], args := [d1, d2, d3] }
  | _ => none }
def fnExactTicksUntilPagedRow : OpenClaim := { program := "ytkcedoehehjceaa", sum := "29b8b668e4172a2b1b862b5b425d860ea1391d84591b3e889c63f2715ecd15ab", func := "loop.example/g00509/laws.FnExactTicksUntilPaged", spec := "fnExactTicksUntilPaged", apart := false }
def FnExactTicksUntilPagedSaid : Prop := fnExactTicksUntilPagedRow.holds Try.pinned (OpenSpec.ofChange fnExactTicksUntilPagedSpec)

/-- ITS FALSE NEIGHBOUR: 'it returns false'. Refute it at one input. -/
def fnExactTicksUntilPagedWrong : ChangeSpec := { name := "fnExactTicksUntilPaged", fn := fun _ => fun
  | [d1, d2, d3] => { results := [.lit (.bool false)], args := [d1, d2, d3] }
  | _ => none }
def FnExactTicksUntilPagedWrongFalsely : Prop := fnExactTicksUntilPagedRow.holds Try.pinned (OpenSpec.ofChange fnExactTicksUntilPagedWrong)

/-- 'laws.FnExactTickPaging': WHATEVER THE INPUT: true; the input reads as it did. -/
def fnExactTickPagingSpec : ChangeSpec := { name := "fnExactTickPaging", fn := fun _ => fun
  | [d1, d2] => { results := [.lit (.bool true)], args := [d1, d2] }
  | _ => none }
def fnExactTickPagingRow : OpenClaim := { program := "ytkcedoehehjceaa", sum := "29b8b668e4172a2b1b862b5b425d860ea1391d84591b3e889c63f2715ecd15ab", func := "loop.example/g00509/laws.FnExactTickPaging", spec := "fnExactTickPaging", apart := false }
def FnExactTickPagingSaid : Prop := fnExactTickPagingRow.holds Try.pinned (OpenSpec.ofChange fnExactTickPagingSpec)

/-- ITS FALSE NEIGHBOUR: 'it returns false'. Refute it at one input. -/
def fnExactTickPagingWrong : ChangeSpec := { name := "fnExactTickPaging", fn := fun _ => fun
  | [d1, d2] => { results := [.lit (.bool false)], args := [d1, d2] }
  | _ => none }
def FnExactTickPagingWrongFalsely : Prop := fnExactTickPagingRow.holds Try.pinned (OpenSpec.ofChange fnExactTickPagingWrong)

/- THE SECOND FORM. 'bulk': how many values and letters a reading holds, each counted each time it is reached (what is shared counts as often as it is met; a slice's spare places count too). A statement '..UptoSaid' is the law's where the arguments, and the package variables that the reading takes, are together of bulk at most 1048576: NARROWER than '..Said'. Prove '..Said' where nothing that the law and all that it calls make is longer than what came in: it says more and counts as full. Else prove '..UptoSaid'. A law counts once. -/
mutual
def uptoBulk {H : Type} : DataW H → Nat
  | .lit (.string bytes) => bytes.length + 1
  | .lit _ => 1
  | .nil => 1
  | .ptr d => uptoBulk d + 1
  | .slice elems spare => uptoBulkAll elems + uptoBulkAll spare + 1
  | .agg parts => uptoBulkAll parts + 1
  | .iface _ d => uptoBulk d + 1
  | .map entries => uptoBulkEntries entries + 1
  | .held _ => 1
def uptoBulkAll {H : Type} : List (DataW H) → Nat
  | [] => 0
  | d :: r => uptoBulk d + uptoBulkAll r
def uptoBulkEntries {H : Type} : List (Lit × DataW H) → Nat
  | [] => 0
  | x :: r => uptoBulkEntry x + uptoBulkEntries r
def uptoBulkEntry {H : Type} : Lit × DataW H → Nat
  | (.string bytes, d) => bytes.length + uptoBulk d + 1
  | (_, d) => uptoBulk d + 1
 end
def uptoSmall : (H : Type) → List (DataW H) → Bool := fun _ ds => decide (uptoBulkAll ds ≤ 1048576)
def OpenSpec.upto (s : _root_.Go.ChangeSpec) : _root_.Go.OpenSpec := { _root_.Go.OpenSpec.ofChange s with cond := some uptoSmall }

/-- 'laws.FnExactIsValidPaging', WHERE WHAT IT READS IS OF BULK AT MOST 1048576: true; the input reads as it did. -/
def fnExactIsValidPagingUptoRow : OpenClaim := { program := "ytkcedoehehjceaa", sum := "29b8b668e4172a2b1b862b5b425d860ea1391d84591b3e889c63f2715ecd15ab", func := "loop.example/g00509/laws.FnExactIsValidPaging", spec := "fnExactIsValidPaging", apart := false, narrowed := true }
def FnExactIsValidPagingUptoSaid : Prop := fnExactIsValidPagingUptoRow.holds Try.pinned (OpenSpec.upto fnExactIsValidPagingSpec)

/-- 'laws.FnPagingStates', WHERE WHAT IT READS IS OF BULK AT MOST 1048576: true; the input reads as it did. -/
def fnPagingStatesUptoRow : OpenClaim := { program := "ytkcedoehehjceaa", sum := "29b8b668e4172a2b1b862b5b425d860ea1391d84591b3e889c63f2715ecd15ab", func := "loop.example/g00509/laws.FnPagingStates", spec := "fnPagingStates", apart := false, narrowed := true }
def FnPagingStatesUptoSaid : Prop := fnPagingStatesUptoRow.holds Try.pinned (OpenSpec.upto fnPagingStatesSpec)

/-- 'laws.FnPagingReaches', WHERE WHAT IT READS IS OF BULK AT MOST 1048576: true; the input reads as it did. -/
def fnPagingReachesUptoRow : OpenClaim := { program := "ytkcedoehehjceaa", sum := "29b8b668e4172a2b1b862b5b425d860ea1391d84591b3e889c63f2715ecd15ab", func := "loop.example/g00509/laws.FnPagingReaches", spec := "fnPagingReaches", apart := false, narrowed := true }
def FnPagingReachesUptoSaid : Prop := fnPagingReachesUptoRow.holds Try.pinned (OpenSpec.upto fnPagingReachesSpec)

/-- 'laws.FnExactPagingCells', WHERE WHAT IT READS IS OF BULK AT MOST 1048576: true; the input reads as it did. -/
def fnExactPagingCellsUptoRow : OpenClaim := { program := "ytkcedoehehjceaa", sum := "29b8b668e4172a2b1b862b5b425d860ea1391d84591b3e889c63f2715ecd15ab", func := "loop.example/g00509/laws.FnExactPagingCells", spec := "fnExactPagingCells", apart := false, narrowed := true }
def FnExactPagingCellsUptoSaid : Prop := fnExactPagingCellsUptoRow.holds Try.pinned (OpenSpec.upto fnExactPagingCellsSpec)

/-- 'laws.FnExactTicksUntilPaged', WHERE WHAT IT READS IS OF BULK AT MOST 1048576: true; the input reads as it did. -/
def fnExactTicksUntilPagedUptoRow : OpenClaim := { program := "ytkcedoehehjceaa", sum := "29b8b668e4172a2b1b862b5b425d860ea1391d84591b3e889c63f2715ecd15ab", func := "loop.example/g00509/laws.FnExactTicksUntilPaged", spec := "fnExactTicksUntilPaged", apart := false, narrowed := true }
def FnExactTicksUntilPagedUptoSaid : Prop := fnExactTicksUntilPagedUptoRow.holds Try.pinned (OpenSpec.upto fnExactTicksUntilPagedSpec)

/-- 'laws.FnExactTickPaging', WHERE WHAT IT READS IS OF BULK AT MOST 1048576: true; the input reads as it did. -/
def fnExactTickPagingUptoRow : OpenClaim := { program := "ytkcedoehehjceaa", sum := "29b8b668e4172a2b1b862b5b425d860ea1391d84591b3e889c63f2715ecd15ab", func := "loop.example/g00509/laws.FnExactTickPaging", spec := "fnExactTickPaging", apart := false, narrowed := true }
def FnExactTickPagingUptoSaid : Prop := fnExactTickPagingUptoRow.holds Try.pinned (OpenSpec.upto fnExactTickPagingSpec)

end Rows
end Go.Proofs.Ytkcedoehehjceaa
