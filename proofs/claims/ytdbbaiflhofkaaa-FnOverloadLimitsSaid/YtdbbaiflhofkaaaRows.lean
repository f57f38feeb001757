/-
  No cell of these rows narrows 'for every input' (looked for: loops, veiled, ifaces, maps, wideKeys, modest, calm, conditions, laid).
  DERIVED. THE GIVEN ROWS OF THIS SEAT. 9 by the template 'for every input the law returns true; each argument reads behind the call as it read before'; 0 by the template 'total and deterministic' (their statements: YtdbbaiflhofkaaaTotals.lean).
  GIVEN WITH THE SEED: the statements are not yours to turn. If you find one false, say at which input.
  Laid BY PROGRAM, IN A SANDBOX (cutbox-rows.mjs): the forced cells as the released guide's own fill.sh prints them over the translation a0b2c4e014621c2a… (all of the seat's roots in one cut). By AI agents, Wed Nov 11 2026. No macro, syntax, notation, axiom, sorry.
-/
import Derived.Test.YtdbbaiflhofkaaaChecked
import GoSem.Claim
import GoSem.ClaimJoined
import GoSem.ClaimMapViews
import Derived.JoinedTies
import Derived.KernelRfl
namespace Go.Proofs.Ytdbbaiflhofkaaa
/- THE CELL 'sum', in the pinned program and in every row, IS THE sha256 OF THE DUMP (.gsa) THAT YtdbbaiflhofkaaaProg.lean LOADS. Nothing in Lean hashes anything: it is a label: what it is worth is what the hold of that sum in a sandbox is worth. -/
noncomputable def Try.pinned : Pinned := { name := "ytdbbaiflhofkaaa", sum := "a0b2c4e014621c2a9a0bcbfcea1e8a00de3824017433055d1af5d3c907d2fa8b", checked := Try.checked }
namespace Rows
def none {H : Type} : Left H := { results := [], args := [] }

/-- 'laws.FnExactIsValidOverloadControl': WHATEVER THE INPUT: true; the input reads as it did. -/
def fnExactIsValidOverloadControlSpec : ChangeSpec := { name := "fnExactIsValidOverloadControl", fn := fun _ => fun
  | [d] => { results := [.lit (.bool true)], args := [d] }
  | _ => none }
def fnExactIsValidOverloadControlRow : OpenClaim := { program := "ytdbbaiflhofkaaa", sum := "a0b2c4e014621c2a9a0bcbfcea1e8a00de3824017433055d1af5d3c907d2fa8b", func := "loop.example/g00509/laws.FnExactIsValidOverloadControl", spec := "fnExactIsValidOverloadControl", apart := false }
def FnExactIsValidOverloadControlSaid : Prop := fnExactIsValidOverloadControlRow.holds Try.pinned (OpenSpec.ofChange fnExactIsValidOverloadControlSpec)

/-- ITS FALSE NEIGHBOUR: 'it returns false'. Refute it at one input. -/
def fnExactIsValidOverloadControlWrong : ChangeSpec := { name := "fnExactIsValidOverloadControl", fn := fun _ => fun
  | [d] => { results := [.lit (.bool false)], args := [d] }
  | _ => none }
def FnExactIsValidOverloadControlWrongFalsely : Prop := fnExactIsValidOverloadControlRow.holds Try.pinned (OpenSpec.ofChange fnExactIsValidOverloadControlWrong)

/-- 'laws.FnExactClassLimit': WHATEVER THE INPUT: true; the input reads as it did. -/
def fnExactClassLimitSpec : ChangeSpec := { name := "fnExactClassLimit", fn := fun _ => fun
  | [d1, d2] => { results := [.lit (.bool true)], args := [d1, d2] }
  | _ => none }
def fnExactClassLimitRow : OpenClaim := { program := "ytdbbaiflhofkaaa", sum := "a0b2c4e014621c2a9a0bcbfcea1e8a00de3824017433055d1af5d3c907d2fa8b", func := "loop.example/g00509/laws.FnExactClassLimit", spec := "fnExactClassLimit", apart := false }
def FnExactClassLimitSaid : Prop := fnExactClassLimitRow.holds Try.pinned (OpenSpec.ofChange fnExactClassLimitSpec)

/-- ITS FALSE NEIGHBOUR: 'it returns false'. Refute it at one input. -/
def fnExactClassLimitWrong : ChangeSpec := { name := "fnExactClassLimit", fn := fun _ => fun
  | [d1, d2] => { results := [.lit (.bool false)], args := [d1, d2] }
  | _ => none }
def FnExactClassLimitWrongFalsely : Prop := fnExactClassLimitRow.holds Try.pinned (OpenSpec.ofChange fnExactClassLimitWrong)

/-- 'laws.FnExactBackoffTicks': WHATEVER THE INPUT: true; the input reads as it did. -/
def fnExactBackoffTicksSpec : ChangeSpec := { name := "fnExactBackoffTicks", fn := fun _ => fun
  | [d1, d2] => { results := [.lit (.bool true)], args := [d1, d2] }
  | _ => none }
def fnExactBackoffTicksRow : OpenClaim := { program := "ytdbbaiflhofkaaa", sum := "a0b2c4e014621c2a9a0bcbfcea1e8a00de3824017433055d1af5d3c907d2fa8b", func := "loop.example/g00509/laws.FnExactBackoffTicks", spec := "fnExactBackoffTicks", apart := false }
def FnExactBackoffTicksSaid : Prop := fnExactBackoffTicksRow.holds Try.pinned (OpenSpec.ofChange fnExactBackoffTicksSpec)

/-- ITS FALSE NEIGHBOUR: 'it returns false'. Refute it at one input. -/
def fnExactBackoffTicksWrong : ChangeSpec := { name := "fnExactBackoffTicks", fn := fun _ => fun
  | [d1, d2] => { results := [.lit (.bool false)], args := [d1, d2] }
  | _ => none }
def FnExactBackoffTicksWrongFalsely : Prop := fnExactBackoffTicksRow.holds Try.pinned (OpenSpec.ofChange fnExactBackoffTicksWrong)

/-- 'laws.FnBackoff': WHATEVER THE INPUT: true; the input reads as it did. -/
def fnBackoffSpec : ChangeSpec := { name := "fnBackoff", fn := fun _ => fun
  | [d] => { results := [.lit (.bool true)], args := [d] }
  | _ => none }
def fnBackoffRow : OpenClaim := { program := "ytdbbaiflhofkaaa", sum := "a0b2c4e014621c2a9a0bcbfcea1e8a00de3824017433055d1af5d3c907d2fa8b", func := "loop.example/g00509/laws.FnBackoff", spec := "fnBackoff", apart := false }
def FnBackoffSaid : Prop := fnBackoffRow.holds Try.pinned (OpenSpec.ofChange fnBackoffSpec)

/-- ITS FALSE NEIGHBOUR: 'it returns false'. Refute it at one input. -/
def fnBackoffWrong : ChangeSpec := { name := "fnBackoff", fn := fun _ => fun
  | [d] => { results := [.lit (.bool false)], args := [d] }
  | _ => none }
def FnBackoffWrongFalsely : Prop := fnBackoffRow.holds Try.pinned (OpenSpec.ofChange fnBackoffWrong)

/-- 'laws.FnExactAdmitRequest': WHATEVER THE INPUT: true; the input reads as it did. -/
def fnExactAdmitRequestSpec : ChangeSpec := { name := "fnExactAdmitRequest", fn := fun _ => fun
  | [d1, d2, d3] => { results := [.lit (.bool true)], args := [d1, d2, d3] }
  | _ => none }
def fnExactAdmitRequestRow : OpenClaim := { program := "ytdbbaiflhofkaaa", sum := "a0b2c4e014621c2a9a0bcbfcea1e8a00de3824017433055d1af5d3c907d2fa8b", func := "loop.example/g00509/laws.FnExactAdmitRequest", spec := "fnExactAdmitRequest", apart := false }
def FnExactAdmitRequestSaid : Prop := fnExactAdmitRequestRow.holds Try.pinned (OpenSpec.ofChange fnExactAdmitRequestSpec)

/-- ITS FALSE NEIGHBOUR: 'it returns false'. Refute it at one input. -/
def fnExactAdmitRequestWrong : ChangeSpec := { name := "fnExactAdmitRequest", fn := fun _ => fun
  | [d1, d2, d3] => { results := [.lit (.bool false)], args := [d1, d2, d3] }
  | _ => none }
def FnExactAdmitRequestWrongFalsely : Prop := fnExactAdmitRequestRow.holds Try.pinned (OpenSpec.ofChange fnExactAdmitRequestWrong)

/-- 'laws.FnRequestPriority': WHATEVER THE INPUT: true; the input reads as it did. -/
def fnRequestPrioritySpec : ChangeSpec := { name := "fnRequestPriority", fn := fun _ => fun
  | [d] => { results := [.lit (.bool true)], args := [d] }
  | _ => none }
def fnRequestPriorityRow : OpenClaim := { program := "ytdbbaiflhofkaaa", sum := "a0b2c4e014621c2a9a0bcbfcea1e8a00de3824017433055d1af5d3c907d2fa8b", func := "loop.example/g00509/laws.FnRequestPriority", spec := "fnRequestPriority", apart := false }
def FnRequestPrioritySaid : Prop := fnRequestPriorityRow.holds Try.pinned (OpenSpec.ofChange fnRequestPrioritySpec)

/-- ITS FALSE NEIGHBOUR: 'it returns false'. Refute it at one input. -/
def fnRequestPriorityWrong : ChangeSpec := { name := "fnRequestPriority", fn := fun _ => fun
  | [d] => { results := [.lit (.bool false)], args := [d] }
  | _ => none }
def FnRequestPriorityWrongFalsely : Prop := fnRequestPriorityRow.holds Try.pinned (OpenSpec.ofChange fnRequestPriorityWrong)

/-- 'laws.FnOverloadLimits': WHATEVER THE INPUT: true; the input reads as it did. -/
def fnOverloadLimitsSpec : ChangeSpec := { name := "fnOverloadLimits", fn := fun _ => fun
  | [d] => { results := [.lit (.bool true)], args := [d] }
  | _ => none }
def fnOverloadLimitsRow : OpenClaim := { program := "ytdbbaiflhofkaaa", sum := "a0b2c4e014621c2a9a0bcbfcea1e8a00de3824017433055d1af5d3c907d2fa8b", func := "loop.example/g00509/laws.FnOverloadLimits", spec := "fnOverloadLimits", apart := false }
def FnOverloadLimitsSaid : Prop := fnOverloadLimitsRow.holds Try.pinned (OpenSpec.ofChange fnOverloadLimitsSpec)

/-- ITS FALSE NEIGHBOUR: 'it returns false'. Refute it at one input. -/
def fnOverloadLimitsWrong : ChangeSpec := { name := "fnOverloadLimits", fn := fun _ => fun
  | [d] => { results := [.lit (.bool false)], args := [d] }
  | _ => none }
def FnOverloadLimitsWrongFalsely : Prop := fnOverloadLimitsRow.holds Try.pinned (OpenSpec.ofChange fnOverloadLimitsWrong)

/-- 'laws.FnExactAdmitBatch': WHATEVER THE INPUT: true; the input reads as it did. -/
def fnExactAdmitBatchSpec : ChangeSpec := { name := "fnExactAdmitBatch", fn := fun _ => fun
  | [d1, d2, d3] => { results := [.lit (.bool true)], args := [d1, d2, d3] }
  | _ => none }
def fnExactAdmitBatchRow : OpenClaim := { program := "ytdbbaiflhofkaaa", sum := "a0b2c4e014621c2a9a0bcbfcea1e8a00de3824017433055d1af5d3c907d2fa8b", func := "loop.example/g00509/laws.FnExactAdmitBatch", spec := "fnExactAdmitBatch", apart := false }
def FnExactAdmitBatchSaid : Prop := fnExactAdmitBatchRow.holds Try.pinned (OpenSpec.ofChange fnExactAdmitBatchSpec)

/-- ITS FALSE NEIGHBOUR: 'it returns false'. Refute it at one input. -/
def fnExactAdmitBatchWrong : ChangeSpec := { name := "fnExactAdmitBatch", fn := fun _ => fun
  | [d1, d2, d3] => { results := [.lit (.bool false)], args := [d1, d2, d3] }
  | _ => none }
def FnExactAdmitBatchWrongFalsely : Prop := fnExactAdmitBatchRow.holds Try.pinned (OpenSpec.ofChange fnExactAdmitBatchWrong)

/-- 'laws.FnExactRejectedRequests': WHATEVER THE INPUT: true; the input reads as it did. -/
def fnExactRejectedRequestsSpec : ChangeSpec := { name := "fnExactRejectedRequests", fn := fun _ => fun
  | [d1, d2, d3] => { results := [.lit (.bool true)], args := [d1, d2, d3] }
  | _ => none }
def fnExactRejectedRequestsRow : OpenClaim := { program := "ytdbbaiflhofkaaa", sum := "a0b2c4e014621c2a9a0bcbfcea1e8a00de3824017433055d1af5d3c907d2fa8b", func := "loop.example/g00509/laws.FnExactRejectedRequests", spec := "fnExactRejectedRequests", apart := false }
def FnExactRejectedRequestsSaid : Prop := fnExactRejectedRequestsRow.holds Try.pinned (OpenSpec.ofChange fnExactRejectedRequestsSpec)

/-- ITS FALSE NEIGHBOUR: 'it returns false'. Refute it at one input. -/
def fnExactRejectedRequestsWrong : ChangeSpec := { name := "fnExactRejectedRequests", fn := fun _ => fun
  | [d1, d2, d3] => { results := [.lit (.bool false)], args := [d1, d2, d3] }
  | _ => none }
def FnExactRejectedRequestsWrongFalsely : Prop := fnExactRejectedRequestsRow.holds Try.pinned (OpenSpec.ofChange fnExactRejectedRequestsWrong)

/- THE SECOND FORM. 'bulk': how many values and letters a reading holds, each counted each time it is reached (what is shared counts as often as it is met; a slice's spare places count too). A statement '..UptoSaid' is the law's where the arguments, and the package variables that the reading takes, are together of bulk at most 1048576: NARROWER than '..Said'. Prove '..Said' where nothing that the law and all that it calls make is longer than what came in: it says more and counts as full. Else prove '..UptoSaid'. A law counts once. -/
mutual
def uptoBulk {H : Type} : DataW H → Nat
  | .lit (.string bytes) => bytes.length + 1
  | .lit _ => 1
  | .nil => 1
  | .ptr d => uptoBulk d + 1
  | .slice elems spare => uptoBulkAll elems + uptoBulkAll spare + 1
  | .agg parts => uptoBulkAll parts + 1
  | .iface _ d => uptoBulk d + 1
  | .map entries => uptoBulkEntries entries + 1
  | .held _ => 1
def uptoBulkAll {H : Type} : List (DataW H) → Nat
  | [] => 0
  | d :: r => uptoBulk d + uptoBulkAll r
def uptoBulkEntries {H : Type} : List (Lit × DataW H) → Nat
  | [] => 0
  | x :: r => uptoBulkEntry x + uptoBulkEntries r
def uptoBulkEntry {H : Type} : Lit × DataW H → Nat
  | (.string bytes, d) => bytes.length + uptoBulk d + 1
  | (_, d) => uptoBulk d + 1
 end
def uptoSmall : (H : Type) → List (DataW H) → Bool := fun _ ds => decide (uptoBulkAll ds ≤ 1048576)
def OpenSpec.upto (s : _root_.Go.ChangeSpec) : _root_.Go.OpenSpec := { _root_.Go.OpenSpec.ofChange s with cond := some uptoSmall }

/-- 'laws.FnExactIsValidOverloadControl', WHERE WHAT IT READS IS OF BULK AT MOST 1048576: true; the input reads as it did. -/
def fnExactIsValidOverloadControlUptoRow : OpenClaim := { program := "ytdbbaiflhofkaaa", sum := "a0b2c4e014621c2a9a0bcbfcea1e8a00de3824017433055d1af5d3c907d2fa8b", func := "loop.example/g00509/laws.FnExactIsValidOverloadControl", spec := "fnExactIsValidOverloadControl", apart := false, narrowed := true }
def FnExactIsValidOverloadControlUptoSaid : Prop := fnExactIsValidOverloadControlUptoRow.holds Try.pinned (OpenSpec.upto fnExactIsValidOverloadControlSpec)

/-- 'laws.FnExactClassLimit', WHERE WHAT IT READS IS OF BULK AT MOST 1048576: true; the input reads as it did. -/
def fnExactClassLimitUptoRow : OpenClaim := { program := "ytdbbaiflhofkaaa", sum := "a0b2c4e014621c2a9a0bcbfcea1e8a00de3824017433055d1af5d3c907d2fa8b", func := "loop.example/g00509/laws.FnExactClassLimit", spec := "fnExactClassLimit", apart := false, narrowed := true }
def FnExactClassLimitUptoSaid : Prop := fnExactClassLimitUptoRow.holds Try.pinned (OpenSpec.upto fnExactClassLimitSpec)

/-- 'laws.FnExactBackoffTicks', WHERE WHAT IT READS IS OF BULK AT MOST 1048576: true; the input reads as it did. -/
def fnExactBackoffTicksUptoRow : OpenClaim := { program := "ytdbbaiflhofkaaa", sum := "a0b2c4e014621c2a9a0bcbfcea1e8a00de3824017433055d1af5d3c907d2fa8b", func := "loop.example/g00509/laws.FnExactBackoffTicks", spec := "fnExactBackoffTicks", apart := false, narrowed := true }
def FnExactBackoffTicksUptoSaid : Prop := fnExactBackoffTicksUptoRow.holds Try.pinned (OpenSpec.upto fnExactBackoffTicksSpec)

/-- 'laws.FnBackoff', WHERE WHAT IT READS IS OF BULK AT MOST 1048576: true; the input reads as it did. -/
def fnBackoffUptoRow : OpenClaim := { program := "ytdbbaiflhofkaaa", sum := "a0b2c4e014621c2a9a0bcbfcea1e8a00de3824017433055d1af5d3c907d2fa8b", func := "loop.example/g00509/laws.FnBackoff", spec := "fnBackoff", apart := false, narrowed := true }
def FnBackoffUptoSaid : Prop := fnBackoffUptoRow.holds Try.pinned (OpenSpec.upto fnBackoffSpec)

/-- 'laws.FnExactAdmitRequest', WHERE WHAT IT READS IS OF BULK AT MOST 1048576: true; the input reads as it did. -/
def fnExactAdmitRequestUptoRow : OpenClaim := { program := "ytdbbaiflhofkaaa", sum := "a0b2c4e014621c2a9a0bcbfcea1e8a00de3824017433055d1af5d3c907d2fa8b", func := "loop.example/g00509/laws.FnExactAdmitRequest", spec := "fnExactAdmitRequest", apart := false, narrowed := true }
def FnExactAdmitRequestUptoSaid : Prop := fnExactAdmitRequestUptoRow.holds Try.pinned (OpenSpec.upto fnExactAdmitRequestSpec)

/-- 'laws.FnRequestPriority', WHERE WHAT IT READS IS OF BULK AT MOST 1048576: true; the input reads as it did. -/
def fnRequestPriorityUptoRow : OpenClaim := { program := "ytdbbaiflhofkaaa", sum := "a0b2c4e014621c2a9a0bcbfcea1e8a00de3824017433055d1af5d3c907d2fa8b", func := "loop.example/g00509/laws.FnRequestPriority", spec := "fnRequestPriority", apart := false, narrowed := true }
def FnRequestPriorityUptoSaid : Prop := fnRequestPriorityUptoRow.holds Try.pinned (OpenSpec.upto fnRequestPrioritySpec)

/-- 'laws.FnOverloadLimits', WHERE WHAT IT READS IS OF BULK AT MOST 1048576: true; the input reads as it did. -/
def fnOverloadLimitsUptoRow : OpenClaim := { program := "ytdbbaiflhofkaaa", sum := "a0b2c4e014621c2a9a0bcbfcea1e8a00de3824017433055d1af5d3c907d2fa8b", func := "loop.example/g00509/laws.FnOverloadLimits", spec := "fnOverloadLimits", apart := false, narrowed := true }
def FnOverloadLimitsUptoSaid : Prop := fnOverloadLimitsUptoRow.holds Try.pinned (OpenSpec.upto fnOverloadLimitsSpec)

/-- 'laws.FnExactAdmitBatch', WHERE WHAT IT READS IS OF BULK AT MOST 1048576: true; the input reads as it did. -/
def fnExactAdmitBatchUptoRow : OpenClaim := { program := "ytdbbaiflhofkaaa", sum := "a0b2c4e014621c2a9a0bcbfcea1e8a00de3824017433055d1af5d3c907d2fa8b", func := "loop.example/g00509/laws.FnExactAdmitBatch", spec := "fnExactAdmitBatch", apart := false, narrowed := true }
def FnExactAdmitBatchUptoSaid : Prop := fnExactAdmitBatchUptoRow.holds Try.pinned (OpenSpec.upto fnExactAdmitBatchSpec)

/-- 'laws.FnExactRejectedRequests', WHERE WHAT IT READS IS OF BULK AT MOST 1048576: true; the input reads as it did. -/
def fnExactRejectedRequestsUptoRow : OpenClaim := { program := "ytdbbaiflhofkaaa", sum := "a0b2c4e014621c2a9a0bcbfcea1e8a00de3824017433055d1af5d3c907d2fa8b", func := "loop.example/g00509/laws.FnExactRejectedRequests", spec := "fnExactRejectedRequests", apart := false, narrowed := true }
def FnExactRejectedRequestsUptoSaid : Prop := fnExactRejectedRequestsUptoRow.holds Try.pinned (OpenSpec.upto fnExactRejectedRequestsSpec)

end Rows
end Go.Proofs.Ytdbbaiflhofkaaa
