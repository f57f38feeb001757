/-
  No cell of these rows narrows 'for every input' (looked for: loops, veiled, ifaces, maps, wideKeys, modest, calm, conditions, laid).
  DERIVED. THE GIVEN ROWS OF THIS SEAT. 7 by the template 'for every input the law returns true; each argument reads behind the call as it read before'; 0 by the template 'total and deterministic' (their statements: YtpbempcbodoajaaTotals.lean).
  GIVEN WITH THE SEED: the statements are not yours to turn. If you find one false, say at which input.
  Laid BY PROGRAM, IN A SANDBOX (cutbox-rows.mjs): the forced cells as the released guide's own fill.sh prints them over the translation 267eb23b96c1de91… (all of the seat's roots in one cut). By AI agents, Wed Nov 11 2026. No macro, syntax, notation, axiom, sorry.
-/
import Derived.Test.YtpbempcbodoajaaChecked
import GoSem.Claim
import GoSem.ClaimJoined
import GoSem.ClaimMapViews
import Derived.JoinedTies
import Derived.KernelRfl
namespace Go.Proofs.Ytpbempcbodoajaa
/- THE CELL 'sum', in the pinned program and in every row, IS THE sha256 OF THE DUMP (.gsa) THAT YtpbempcbodoajaaProg.lean LOADS. Nothing in Lean hashes anything: it is a label: what it is worth is what the hold of that sum in a sandbox is worth. -/
noncomputable def Try.pinned : Pinned := { name := "ytpbempcbodoajaa", sum := "267eb23b96c1de9105c8c9399819208dcc482f9e84ca491936884985df43dc0c", checked := Try.checked }
namespace Rows
def none {H : Type} : Left H := { results := [], args := [] }

/-- 'laws.FnExactRequiresMAC': WHATEVER THE INPUT: true; the input reads as it did. -/
def fnExactRequiresMACSpec : ChangeSpec := { name := "fnExactRequiresMAC", fn := fun _ => fun
  | [d] => { results := [.lit (.bool true)], args := [d] }
  | _ => none }
def fnExactRequiresMACRow : OpenClaim := { program := "ytpbempcbodoajaa", sum := "267eb23b96c1de9105c8c9399819208dcc482f9e84ca491936884985df43dc0c", func := "loop.example/g00509/laws.FnExactRequiresMAC", spec := "fnExactRequiresMAC", apart := false }
def FnExactRequiresMACSaid : Prop := fnExactRequiresMACRow.holds Try.pinned (OpenSpec.ofChange fnExactRequiresMACSpec)

/-- ITS FALSE NEIGHBOUR: 'it returns false'. Refute it at one input. -/
def fnExactRequiresMACWrong : ChangeSpec := { name := "fnExactRequiresMAC", fn := fun _ => fun
  | [d] => { results := [.lit (.bool false)], args := [d] }
  | _ => none }
def FnExactRequiresMACWrongFalsely : Prop := fnExactRequiresMACRow.holds Try.pinned (OpenSpec.ofChange fnExactRequiresMACWrong)

/-- 'laws.FnExactIsValidSignal': WHATEVER THE INPUT: true; the input reads as it did. -/
def fnExactIsValidSignalSpec : ChangeSpec := { name := "fnExactIsValidSignal", fn := fun _ => fun
  | [d] => { results := [.lit (.bool true)], args := [d] }
  | _ => none }
def fnExactIsValidSignalRow : OpenClaim := { program := "ytpbempcbodoajaa", sum := "267eb23b96c1de9105c8c9399819208dcc482f9e84ca491936884985df43dc0c", func := "loop.example/g00509/laws.FnExactIsValidSignal", spec := "fnExactIsValidSignal", apart := false }
def FnExactIsValidSignalSaid : Prop := fnExactIsValidSignalRow.holds Try.pinned (OpenSpec.ofChange fnExactIsValidSignalSpec)

/-- ITS FALSE NEIGHBOUR: 'it returns false'. Refute it at one input. -/
def fnExactIsValidSignalWrong : ChangeSpec := { name := "fnExactIsValidSignal", fn := fun _ => fun
  | [d] => { results := [.lit (.bool false)], args := [d] }
  | _ => none }
def FnExactIsValidSignalWrongFalsely : Prop := fnExactIsValidSignalRow.holds Try.pinned (OpenSpec.ofChange fnExactIsValidSignalWrong)

/-- 'laws.FnExactChallengeRand': WHATEVER THE INPUT: true; the input reads as it did. -/
def fnExactChallengeRandSpec : ChangeSpec := { name := "fnExactChallengeRand", fn := fun _ => fun
  | [d1, d2] => { results := [.lit (.bool true)], args := [d1, d2] }
  | _ => none }
def fnExactChallengeRandRow : OpenClaim := { program := "ytpbempcbodoajaa", sum := "267eb23b96c1de9105c8c9399819208dcc482f9e84ca491936884985df43dc0c", func := "loop.example/g00509/laws.FnExactChallengeRand", spec := "fnExactChallengeRand", apart := false }
def FnExactChallengeRandSaid : Prop := fnExactChallengeRandRow.holds Try.pinned (OpenSpec.ofChange fnExactChallengeRandSpec)

/-- ITS FALSE NEIGHBOUR: 'it returns false'. Refute it at one input. -/
def fnExactChallengeRandWrong : ChangeSpec := { name := "fnExactChallengeRand", fn := fun _ => fun
  | [d1, d2] => { results := [.lit (.bool false)], args := [d1, d2] }
  | _ => none }
def FnExactChallengeRandWrongFalsely : Prop := fnExactChallengeRandRow.holds Try.pinned (OpenSpec.ofChange fnExactChallengeRandWrong)

/-- 'laws.FnExactSignalMAC': WHATEVER THE INPUT: true; the input reads as it did. -/
def fnExactSignalMACSpec : ChangeSpec := { name := "fnExactSignalMAC", fn := fun _ => fun
  | [d1, d2] => { results := [.lit (.bool true)], args := [d1, d2] }
  | _ => none }
def fnExactSignalMACRow : OpenClaim := { program := "ytpbempcbodoajaa", sum := "267eb23b96c1de9105c8c9399819208dcc482f9e84ca491936884985df43dc0c", func := "loop.example/g00509/laws.FnExactSignalMAC", spec := "fnExactSignalMAC", apart := false }
def FnExactSignalMACSaid : Prop := fnExactSignalMACRow.holds Try.pinned (OpenSpec.ofChange fnExactSignalMACSpec)

/-- ITS FALSE NEIGHBOUR: 'it returns false'. Refute it at one input. -/
def fnExactSignalMACWrong : ChangeSpec := { name := "fnExactSignalMAC", fn := fun _ => fun
  | [d1, d2] => { results := [.lit (.bool false)], args := [d1, d2] }
  | _ => none }
def FnExactSignalMACWrongFalsely : Prop := fnExactSignalMACRow.holds Try.pinned (OpenSpec.ofChange fnExactSignalMACWrong)

/-- 'laws.FnExactVerifySignal': WHATEVER THE INPUT: true; the input reads as it did. -/
def fnExactVerifySignalSpec : ChangeSpec := { name := "fnExactVerifySignal", fn := fun _ => fun
  | [d1, d2] => { results := [.lit (.bool true)], args := [d1, d2] }
  | _ => none }
def fnExactVerifySignalRow : OpenClaim := { program := "ytpbempcbodoajaa", sum := "267eb23b96c1de9105c8c9399819208dcc482f9e84ca491936884985df43dc0c", func := "loop.example/g00509/laws.FnExactVerifySignal", spec := "fnExactVerifySignal", apart := false }
def FnExactVerifySignalSaid : Prop := fnExactVerifySignalRow.holds Try.pinned (OpenSpec.ofChange fnExactVerifySignalSpec)

/-- ITS FALSE NEIGHBOUR: 'it returns false'. Refute it at one input. -/
def fnExactVerifySignalWrong : ChangeSpec := { name := "fnExactVerifySignal", fn := fun _ => fun
  | [d1, d2] => { results := [.lit (.bool false)], args := [d1, d2] }
  | _ => none }
def FnExactVerifySignalWrongFalsely : Prop := fnExactVerifySignalRow.holds Try.pinned (OpenSpec.ofChange fnExactVerifySignalWrong)

/-- 'laws.FnExactSignSignal': WHATEVER THE INPUT: true; the input reads as it did. -/
def fnExactSignSignalSpec : ChangeSpec := { name := "fnExactSignSignal", fn := fun _ => fun
  | [d1, d2] => { results := [.lit (.bool true)], args := [d1, d2] }
  | _ => none }
def fnExactSignSignalRow : OpenClaim := { program := "ytpbempcbodoajaa", sum := "267eb23b96c1de9105c8c9399819208dcc482f9e84ca491936884985df43dc0c", func := "loop.example/g00509/laws.FnExactSignSignal", spec := "fnExactSignSignal", apart := false }
def FnExactSignSignalSaid : Prop := fnExactSignSignalRow.holds Try.pinned (OpenSpec.ofChange fnExactSignSignalSpec)

/-- ITS FALSE NEIGHBOUR: 'it returns false'. Refute it at one input. -/
def fnExactSignSignalWrong : ChangeSpec := { name := "fnExactSignSignal", fn := fun _ => fun
  | [d1, d2] => { results := [.lit (.bool false)], args := [d1, d2] }
  | _ => none }
def FnExactSignSignalWrongFalsely : Prop := fnExactSignSignalRow.holds Try.pinned (OpenSpec.ofChange fnExactSignSignalWrong)

/-- 'laws.FnSignalMACs': WHATEVER THE INPUT: true; the input reads as it did. -/
def fnSignalMACsSpec : ChangeSpec := { name := "fnSignalMACs", fn := fun _ => fun
  | [d] => { results := [.lit (.bool true)], args := [d] }
  | _ => none }
def fnSignalMACsRow : OpenClaim := { program := "ytpbempcbodoajaa", sum := "267eb23b96c1de9105c8c9399819208dcc482f9e84ca491936884985df43dc0c", func := "loop.example/g00509/laws.FnSignalMACs", spec := "fnSignalMACs", apart := false }
def FnSignalMACsSaid : Prop := fnSignalMACsRow.holds Try.pinned (OpenSpec.ofChange fnSignalMACsSpec)

/-- ITS FALSE NEIGHBOUR: 'it returns false'. Refute it at one input. -/
def fnSignalMACsWrong : ChangeSpec := { name := "fnSignalMACs", fn := fun _ => fun
  | [d] => { results := [.lit (.bool false)], args := [d] }
  | _ => none }
def FnSignalMACsWrongFalsely : Prop := fnSignalMACsRow.holds Try.pinned (OpenSpec.ofChange fnSignalMACsWrong)

/- THE SECOND FORM. 'bulk': how many values and letters a reading holds, each counted each time it is reached (what is shared counts as often as it is met; a slice's spare places count too). A statement '..UptoSaid' is the law's where the arguments, and the package variables that the reading takes, are together of bulk at most 1048576: NARROWER than '..Said'. Prove '..Said' where nothing that the law and all that it calls make is longer than what came in: it says more and counts as full. Else prove '..UptoSaid'. A law counts once. -/
mutual
def uptoBulk {H : Type} : DataW H → Nat
  | .lit (.string bytes) => bytes.length + 1
  | .lit _ => 1
  | .nil => 1
  | .ptr d => uptoBulk d + 1
  | .slice elems spare => uptoBulkAll elems + uptoBulkAll spare + 1
  | .agg parts => uptoBulkAll parts + 1
  | .iface _ d => uptoBulk d + 1
  | .map entries => uptoBulkEntries entries + 1
  | .held _ => 1
def uptoBulkAll {H : Type} : List (DataW H) → Nat
  | [] => 0
  | d :: r => uptoBulk d + uptoBulkAll r
def uptoBulkEntries {H : Type} : List (Lit × DataW H) → Nat
  | [] => 0
  | x :: r => uptoBulkEntry x + uptoBulkEntries r
def uptoBulkEntry {H : Type} : Lit × DataW H → Nat
  | (.string bytes, d) => bytes.length + uptoBulk d + 1
  | (_, d) => uptoBulk d + 1
 end
def uptoSmall : (H : Type) → List (DataW H) → Bool := fun _ ds => decide (uptoBulkAll ds ≤ 1048576)
def OpenSpec.upto (s : _root_.Go.ChangeSpec) : _root_.Go.OpenSpec := { _root_.Go.OpenSpec.ofChange s with cond := some uptoSmall }

/-- 'laws.FnExactRequiresMAC', WHERE WHAT IT READS IS OF BULK AT MOST 1048576: true; the input reads as it did. -/
def fnExactRequiresMACUptoRow : OpenClaim := { program := "ytpbempcbodoajaa", sum := "267eb23b96c1de9105c8c9399819208dcc482f9e84ca491936884985df43dc0c", func := "loop.example/g00509/laws.FnExactRequiresMAC", spec := "fnExactRequiresMAC", apart := false, narrowed := true }
def FnExactRequiresMACUptoSaid : Prop := fnExactRequiresMACUptoRow.holds Try.pinned (OpenSpec.upto fnExactRequiresMACSpec)

/-- 'laws.FnExactIsValidSignal', WHERE WHAT IT READS IS OF BULK AT MOST 1048576: true; the input reads as it did. -/
def fnExactIsValidSignalUptoRow : OpenClaim := { program := "ytpbempcbodoajaa", sum := "267eb23b96c1de9105c8c9399819208dcc482f9e84ca491936884985df43dc0c", func := "loop.example/g00509/laws.FnExactIsValidSignal", spec := "fnExactIsValidSignal", apart := false, narrowed := true }
def FnExactIsValidSignalUptoSaid : Prop := fnExactIsValidSignalUptoRow.holds Try.pinned (OpenSpec.upto fnExactIsValidSignalSpec)

/-- 'laws.FnExactChallengeRand', WHERE WHAT IT READS IS OF BULK AT MOST 1048576: true; the input reads as it did. -/
def fnExactChallengeRandUptoRow : OpenClaim := { program := "ytpbempcbodoajaa", sum := "267eb23b96c1de9105c8c9399819208dcc482f9e84ca491936884985df43dc0c", func := "loop.example/g00509/laws.FnExactChallengeRand", spec := "fnExactChallengeRand", apart := false, narrowed := true }
def FnExactChallengeRandUptoSaid : Prop := fnExactChallengeRandUptoRow.holds Try.pinned (OpenSpec.upto fnExactChallengeRandSpec)

/-- 'laws.FnExactSignalMAC', WHERE WHAT IT READS IS OF BULK AT MOST 1048576: true; the input reads as it did. -/
def fnExactSignalMACUptoRow : OpenClaim := { program := "ytpbempcbodoajaa", sum := "267eb23b96c1de9105c8c9399819208dcc482f9e84ca491936884985df43dc0c", func := "loop.example/g00509/laws.FnExactSignalMAC", spec := "fnExactSignalMAC", apart := false, narrowed := true }
def FnExactSignalMACUptoSaid : Prop := fnExactSignalMACUptoRow.holds Try.pinned (OpenSpec.upto fnExactSignalMACSpec)

/-- 'laws.FnExactVerifySignal', WHERE WHAT IT READS IS OF BULK AT MOST 1048576: true; the input reads as it did. -/
def fnExactVerifySignalUptoRow : OpenClaim := { program := "ytpbempcbodoajaa", sum := "267eb23b96c1de9105c8c9399819208dcc482f9e84ca491936884985df43dc0c", func := "loop.example/g00509/laws.FnExactVerifySignal", spec := "fnExactVerifySignal", apart := false, narrowed := true }
def FnExactVerifySignalUptoSaid : Prop := fnExactVerifySignalUptoRow.holds Try.pinned (OpenSpec.upto fnExactVerifySignalSpec)

/-- 'laws.FnExactSignSignal', WHERE WHAT IT READS IS OF BULK AT MOST 1048576: true; the input reads as it did. -/
def fnExactSignSignalUptoRow : OpenClaim := { program := "ytpbempcbodoajaa", sum := "267eb23b96c1de9105c8c9399819208dcc482f9e84ca491936884985df43dc0c", func := "loop.example/g00509/laws.FnExactSignSignal", spec := "fnExactSignSignal", apart := false, narrowed := true }
def FnExactSignSignalUptoSaid : Prop := fnExactSignSignalUptoRow.holds Try.pinned (OpenSpec.upto fnExactSignSignalSpec)

/-- 'laws.FnSignalMACs', WHERE WHAT IT READS IS OF BULK AT MOST 1048576: true; the input reads as it did. -/
def fnSignalMACsUptoRow : OpenClaim := { program := "ytpbempcbodoajaa", sum := "267eb23b96c1de9105c8c9399819208dcc482f9e84ca491936884985df43dc0c", func := "loop.example/g00509/laws.FnSignalMACs", spec := "fnSignalMACs", apart := false, narrowed := true }
def FnSignalMACsUptoSaid : Prop := fnSignalMACsUptoRow.holds Try.pinned (OpenSpec.upto fnSignalMACsSpec)

end Rows
end Go.Proofs.Ytpbempcbodoajaa
