/-
  No cell of these rows narrows 'for every input' (looked for: loops, veiled, ifaces, maps, wideKeys, modest, calm, conditions, laid).
  DERIVED. THE GIVEN ROWS OF THIS SEAT. 8 by the template 'for every input the law returns true; each argument reads behind the call as it read before'; 0 by the template 'total and deterministic' (their statements: YtfkeiegajaofdaaTotals.lean).
  GIVEN WITH THE SEED: the statements are not yours to turn. If you find one false, say at which input.
  Laid BY PROGRAM, IN A SANDBOX (cutbox-rows.mjs): the forced cells as the released guide's own fill.sh prints them over the translation 643fd1b8b3e71860… (all of the seat's roots in one cut). By AI agents, Wed Nov 11 2026. No macro, syntax, notation, axiom, sorry.
-/
import Derived.Test.YtfkeiegajaofdaaChecked
import GoSem.Claim
import GoSem.ClaimJoined
import GoSem.ClaimMapViews
import Derived.JoinedTies
import Derived.KernelRfl
namespace Go.Proofs.Ytfkeiegajaofdaa
/- THE CELL 'sum', in the pinned program and in every row, IS THE sha256 OF THE DUMP (.gsa) THAT YtfkeiegajaofdaaProg.lean LOADS. Nothing in Lean hashes anything: it is a label: what it is worth is what the hold of that sum in a sandbox is worth. -/
noncomputable def Try.pinned : Pinned := { name := "ytfkeiegajaofdaa", sum := "643fd1b8b3e7186005e0ccf46c0c4415af66c9d872257ed7f591533edece6652", checked := Try.checked }
namespace Rows
def none {H : Type} : Left H := { results := [], args := [] }

/-- 'laws.FnExactOpenRadio': WHATEVER THE INPUT: true; the input reads as it did. -/
def fnExactOpenRadioSpec : ChangeSpec := { name := "fnExactOpenRadio", fn := fun _ => fun
  | [d1, d2, d3, d4] => { results := [.lit (.bool true)], args := [d1, d2, d3, d4] }
  | _ => none }
def fnExactOpenRadioRow : OpenClaim := { program := "ytfkeiegajaofdaa", sum := "643fd1b8b3e7186005e0ccf46c0c4415af66c9d872257ed7f591533edece6652", func := "loop.example/g00509/laws.FnExactOpenRadio", spec := "fnExactOpenRadio", apart := false }
def FnExactOpenRadioSaid : Prop := fnExactOpenRadioRow.holds Try.pinned (OpenSpec.ofChange fnExactOpenRadioSpec)

/-- ITS FALSE NEIGHBOUR: 'it returns false'. Refute it at one input. -/
def fnExactOpenRadioWrong : ChangeSpec := { name := "fnExactOpenRadio", fn := fun _ => fun
  | [d1, d2, d3, d4] => { results := [.lit (.bool false)], args := [d1, d2, d3, d4] }
  | _ => none }
def FnExactOpenRadioWrongFalsely : Prop := fnExactOpenRadioRow.holds Try.pinned (OpenSpec.ofChange fnExactOpenRadioWrong)

/-- 'laws.FnExactEqualRadio': WHATEVER THE INPUT: true; the input reads as it did. -/
def fnExactEqualRadioSpec : ChangeSpec := { name := "fnExactEqualRadio", fn := fun _ => fun
  | [d1, d2] => { results := [.lit (.bool true)], args := [d1, d2] }
  | _ => none }
def fnExactEqualRadioRow : OpenClaim := { program := "ytfkeiegajaofdaa", sum := "643fd1b8b3e7186005e0ccf46c0c4415af66c9d872257ed7f591533edece6652", func := "loop.example/g00509/laws.FnExactEqualRadio", spec := "fnExactEqualRadio", apart := false }
def FnExactEqualRadioSaid : Prop := fnExactEqualRadioRow.holds Try.pinned (OpenSpec.ofChange fnExactEqualRadioSpec)

/-- ITS FALSE NEIGHBOUR: 'it returns false'. Refute it at one input. -/
def fnExactEqualRadioWrong : ChangeSpec := { name := "fnExactEqualRadio", fn := fun _ => fun
  | [d1, d2] => { results := [.lit (.bool false)], args := [d1, d2] }
  | _ => none }
def FnExactEqualRadioWrongFalsely : Prop := fnExactEqualRadioRow.holds Try.pinned (OpenSpec.ofChange fnExactEqualRadioWrong)

/-- 'laws.FnRadioEncoding': WHATEVER THE INPUT: true; the input reads as it did. -/
def fnRadioEncodingSpec : ChangeSpec := { name := "fnRadioEncoding", fn := fun _ => fun
  | [d] => { results := [.lit (.bool true)], args := [d] }
  | _ => none }
def fnRadioEncodingRow : OpenClaim := { program := "ytfkeiegajaofdaa", sum := "643fd1b8b3e7186005e0ccf46c0c4415af66c9d872257ed7f591533edece6652", func := "loop.example/g00509/laws.FnRadioEncoding", spec := "fnRadioEncoding", apart := false }
def FnRadioEncodingSaid : Prop := fnRadioEncodingRow.holds Try.pinned (OpenSpec.ofChange fnRadioEncodingSpec)

/-- ITS FALSE NEIGHBOUR: 'it returns false'. Refute it at one input. -/
def fnRadioEncodingWrong : ChangeSpec := { name := "fnRadioEncoding", fn := fun _ => fun
  | [d] => { results := [.lit (.bool false)], args := [d] }
  | _ => none }
def FnRadioEncodingWrongFalsely : Prop := fnRadioEncodingRow.holds Try.pinned (OpenSpec.ofChange fnRadioEncodingWrong)

/-- 'laws.FnRadioSealing': WHATEVER THE INPUT: true; the input reads as it did. -/
def fnRadioSealingSpec : ChangeSpec := { name := "fnRadioSealing", fn := fun _ => fun
  | [d] => { results := [.lit (.bool true)], args := [d] }
  | _ => none }
def fnRadioSealingRow : OpenClaim := { program := "ytfkeiegajaofdaa", sum := "643fd1b8b3e7186005e0ccf46c0c4415af66c9d872257ed7f591533edece6652", func := "loop.example/g00509/laws.FnRadioSealing", spec := "fnRadioSealing", apart := false }
def FnRadioSealingSaid : Prop := fnRadioSealingRow.holds Try.pinned (OpenSpec.ofChange fnRadioSealingSpec)

/-- ITS FALSE NEIGHBOUR: 'it returns false'. Refute it at one input. -/
def fnRadioSealingWrong : ChangeSpec := { name := "fnRadioSealing", fn := fun _ => fun
  | [d] => { results := [.lit (.bool false)], args := [d] }
  | _ => none }
def FnRadioSealingWrongFalsely : Prop := fnRadioSealingRow.holds Try.pinned (OpenSpec.ofChange fnRadioSealingWrong)

/-- 'laws.FnExactEncodeRadio': WHATEVER THE INPUT: true; the input reads as it did. -/
def fnExactEncodeRadioSpec : ChangeSpec := { name := "fnExactEncodeRadio", fn := fun _ => fun
  | [d] => { results := [.lit (.bool true)], args := [d] }
  | _ => none }
def fnExactEncodeRadioRow : OpenClaim := { program := "ytfkeiegajaofdaa", sum := "643fd1b8b3e7186005e0ccf46c0c4415af66c9d872257ed7f591533edece6652", func := "loop.example/g00509/laws.FnExactEncodeRadio", spec := "fnExactEncodeRadio", apart := false }
def FnExactEncodeRadioSaid : Prop := fnExactEncodeRadioRow.holds Try.pinned (OpenSpec.ofChange fnExactEncodeRadioSpec)

/-- ITS FALSE NEIGHBOUR: 'it returns false'. Refute it at one input. -/
def fnExactEncodeRadioWrong : ChangeSpec := { name := "fnExactEncodeRadio", fn := fun _ => fun
  | [d] => { results := [.lit (.bool false)], args := [d] }
  | _ => none }
def FnExactEncodeRadioWrongFalsely : Prop := fnExactEncodeRadioRow.holds Try.pinned (OpenSpec.ofChange fnExactEncodeRadioWrong)

/-- 'laws.FnExactVerifyRadio': WHATEVER THE INPUT: true; the input reads as it did. -/
def fnExactVerifyRadioSpec : ChangeSpec := { name := "fnExactVerifyRadio", fn := fun _ => fun
  | [d1, d2] => { results := [.lit (.bool true)], args := [d1, d2] }
  | _ => none }
def fnExactVerifyRadioRow : OpenClaim := { program := "ytfkeiegajaofdaa", sum := "643fd1b8b3e7186005e0ccf46c0c4415af66c9d872257ed7f591533edece6652", func := "loop.example/g00509/laws.FnExactVerifyRadio", spec := "fnExactVerifyRadio", apart := false }
def FnExactVerifyRadioSaid : Prop := fnExactVerifyRadioRow.holds Try.pinned (OpenSpec.ofChange fnExactVerifyRadioSpec)

/-- ITS FALSE NEIGHBOUR: 'it returns false'. Refute it at one input. -/
def fnExactVerifyRadioWrong : ChangeSpec := { name := "fnExactVerifyRadio", fn := fun _ => fun
  | [d1, d2] => { results := [.lit (.bool false)], args := [d1, d2] }
  | _ => none }
def FnExactVerifyRadioWrongFalsely : Prop := fnExactVerifyRadioRow.holds Try.pinned (OpenSpec.ofChange fnExactVerifyRadioWrong)

/-- 'laws.FnExactDecodeRadio': WHATEVER THE INPUT: true; the input reads as it did. -/
def fnExactDecodeRadioSpec : ChangeSpec := { name := "fnExactDecodeRadio", fn := fun _ => fun
  | [d] => { results := [.lit (.bool true)], args := [d] }
  | _ => none }
def fnExactDecodeRadioRow : OpenClaim := { program := "ytfkeiegajaofdaa", sum := "643fd1b8b3e7186005e0ccf46c0c4415af66c9d872257ed7f591533edece6652", func := "loop.example/g00509/laws.FnExactDecodeRadio", spec := "fnExactDecodeRadio", apart := false }
def FnExactDecodeRadioSaid : Prop := fnExactDecodeRadioRow.holds Try.pinned (OpenSpec.ofChange fnExactDecodeRadioSpec)

/-- ITS FALSE NEIGHBOUR: 'it returns false'. Refute it at one input. -/
def fnExactDecodeRadioWrong : ChangeSpec := { name := "fnExactDecodeRadio", fn := fun _ => fun
  | [d] => { results := [.lit (.bool false)], args := [d] }
  | _ => none }
def FnExactDecodeRadioWrongFalsely : Prop := fnExactDecodeRadioRow.holds Try.pinned (OpenSpec.ofChange fnExactDecodeRadioWrong)

/-- 'laws.FnExactSealRadio': WHATEVER THE INPUT: true; the input reads as it did. -/
def fnExactSealRadioSpec : ChangeSpec := { name := "fnExactSealRadio", fn := fun _ => fun
  | [d1, d2, d3, d4] => { results := [.lit (.bool true)], args := [d1, d2, d3, d4] }
  | _ => none }
def fnExactSealRadioRow : OpenClaim := { program := "ytfkeiegajaofdaa", sum := "643fd1b8b3e7186005e0ccf46c0c4415af66c9d872257ed7f591533edece6652", func := "loop.example/g00509/laws.FnExactSealRadio", spec := "fnExactSealRadio", apart := false }
def FnExactSealRadioSaid : Prop := fnExactSealRadioRow.holds Try.pinned (OpenSpec.ofChange fnExactSealRadioSpec)

/-- ITS FALSE NEIGHBOUR: 'it returns false'. Refute it at one input. -/
def fnExactSealRadioWrong : ChangeSpec := { name := "fnExactSealRadio", fn := fun _ => fun
  | [d1, d2, d3, d4] => { results := [.lit (.bool false)], args := [d1, d2, d3, d4] }
  | _ => none }
def FnExactSealRadioWrongFalsely : Prop := fnExactSealRadioRow.holds Try.pinned (OpenSpec.ofChange fnExactSealRadioWrong)

/- THE SECOND FORM. 'bulk': how many values and letters a reading holds, each counted each time it is reached (what is shared counts as often as it is met; a slice's spare places count too). A statement '..UptoSaid' is the law's where the arguments, and the package variables that the reading takes, are together of bulk at most 1048576: NARROWER than '..Said'. Prove '..Said' where nothing that the law and all that it calls make is longer than what came in: it says more and counts as full. Else prove '..UptoSaid'. A law counts once. -/
mutual
def uptoBulk {H : Type} : DataW H → Nat
  | .lit (.string bytes) => bytes.length + 1
  | .lit _ => 1
  | .nil => 1
  | .ptr d => uptoBulk d + 1
  | .slice elems spare => uptoBulkAll elems + uptoBulkAll spare + 1
  | .agg parts => uptoBulkAll parts + 1
  | .iface _ d => uptoBulk d + 1
  | .map entries => uptoBulkEntries entries + 1
  | .held _ => 1
def uptoBulkAll {H : Type} : List (DataW H) → Nat
  | [] => 0
  | d :: r => uptoBulk d + uptoBulkAll r
def uptoBulkEntries {H : Type} : List (Lit × DataW H) → Nat
  | [] => 0
  | x :: r => uptoBulkEntry x + uptoBulkEntries r
def uptoBulkEntry {H : Type} : Lit × DataW H → Nat
  | (.string bytes, d) => bytes.length + uptoBulk d + 1
  | (_, d) => uptoBulk d + 1
 end
def uptoSmall : (H : Type) → List (DataW H) → Bool := fun _ ds => decide (uptoBulkAll ds ≤ 1048576)
def OpenSpec.upto (s : _root_.Go.ChangeSpec) : _root_.Go.OpenSpec := { _root_.Go.OpenSpec.ofChange s with cond := some uptoSmall }

/-- 'laws.FnExactOpenRadio', WHERE WHAT IT READS IS OF BULK AT MOST 1048576: true; the input reads as it did. -/
def fnExactOpenRadioUptoRow : OpenClaim := { program := "ytfkeiegajaofdaa", sum := "643fd1b8b3e7186005e0ccf46c0c4415af66c9d872257ed7f591533edece6652", func := "loop.example/g00509/laws.FnExactOpenRadio", spec := "fnExactOpenRadio", apart := false, narrowed := true }
def FnExactOpenRadioUptoSaid : Prop := fnExactOpenRadioUptoRow.holds Try.pinned (OpenSpec.upto fnExactOpenRadioSpec)

/-- 'laws.FnExactEqualRadio', WHERE WHAT IT READS IS OF BULK AT MOST 1048576: true; the input reads as it did. -/
def fnExactEqualRadioUptoRow : OpenClaim := { program := "ytfkeiegajaofdaa", sum := "643fd1b8b3e7186005e0ccf46c0c4415af66c9d872257ed7f591533edece6652", func := "loop.example/g00509/laws.FnExactEqualRadio", spec := "fnExactEqualRadio", apart := false, narrowed := true }
def FnExactEqualRadioUptoSaid : Prop := fnExactEqualRadioUptoRow.holds Try.pinned (OpenSpec.upto fnExactEqualRadioSpec)

/-- 'laws.FnRadioEncoding', WHERE WHAT IT READS IS OF BULK AT MOST 1048576: true; the input reads as it did. -/
def fnRadioEncodingUptoRow : OpenClaim := { program := "ytfkeiegajaofdaa", sum := "643fd1b8b3e7186005e0ccf46c0c4415af66c9d872257ed7f591533edece6652", func := "loop.example/g00509/laws.FnRadioEncoding", spec := "fnRadioEncoding", apart := false, narrowed := true }
def FnRadioEncodingUptoSaid : Prop := fnRadioEncodingUptoRow.holds Try.pinned (OpenSpec.upto fnRadioEncodingSpec)

/-- 'laws.FnRadioSealing', WHERE WHAT IT READS IS OF BULK AT MOST 1048576: true; the input reads as it did. -/
def fnRadioSealingUptoRow : OpenClaim := { program := "ytfkeiegajaofdaa", sum := "643fd1b8b3e7186005e0ccf46c0c4415af66c9d872257ed7f591533edece6652", func := "loop.example/g00509/laws.FnRadioSealing", spec := "fnRadioSealing", apart := false, narrowed := true }
def FnRadioSealingUptoSaid : Prop := fnRadioSealingUptoRow.holds Try.pinned (OpenSpec.upto fnRadioSealingSpec)

/-- 'laws.FnExactEncodeRadio', WHERE WHAT IT READS IS OF BULK AT MOST 1048576: true; the input reads as it did. -/
def fnExactEncodeRadioUptoRow : OpenClaim := { program := "ytfkeiegajaofdaa", sum := "643fd1b8b3e7186005e0ccf46c0c4415af66c9d872257ed7f591533edece6652", func := "loop.example/g00509/laws.FnExactEncodeRadio", spec := "fnExactEncodeRadio", apart := false, narrowed := true }
def FnExactEncodeRadioUptoSaid : Prop := fnExactEncodeRadioUptoRow.holds Try.pinned (OpenSpec.upto fnExactEncodeRadioSpec)

/-- 'laws.FnExactVerifyRadio', WHERE WHAT IT READS IS OF BULK AT MOST 1048576: true; the input reads as it did. -/
def fnExactVerifyRadioUptoRow : OpenClaim := { program := "ytfkeiegajaofdaa", sum := "643fd1b8b3e7186005e0ccf46c0c4415af66c9d872257ed7f591533edece6652", func := "loop.example/g00509/laws.FnExactVerifyRadio", spec := "fnExactVerifyRadio", apart := false, narrowed := true }
def FnExactVerifyRadioUptoSaid : Prop := fnExactVerifyRadioUptoRow.holds Try.pinned (OpenSpec.upto fnExactVerifyRadioSpec)

/-- 'laws.FnExactDecodeRadio', WHERE WHAT IT READS IS OF BULK AT MOST 1048576: true; the input reads as it did. -/
def fnExactDecodeRadioUptoRow : OpenClaim := { program := "ytfkeiegajaofdaa", sum := "643fd1b8b3e7186005e0ccf46c0c4415af66c9d872257ed7f591533edece6652", func := "loop.example/g00509/laws.FnExactDecodeRadio", spec := "fnExactDecodeRadio", apart := false, narrowed := true }
def FnExactDecodeRadioUptoSaid : Prop := fnExactDecodeRadioUptoRow.holds Try.pinned (OpenSpec.upto fnExactDecodeRadioSpec)

/-- 'laws.FnExactSealRadio', WHERE WHAT IT READS IS OF BULK AT MOST 1048576: true; the input reads as it did. -/
def fnExactSealRadioUptoRow : OpenClaim := { program := "ytfkeiegajaofdaa", sum := "643fd1b8b3e7186005e0ccf46c0c4415af66c9d872257ed7f591533edece6652", func := "loop.example/g00509/laws.FnExactSealRadio", spec := "fnExactSealRadio", apart := false, narrowed := true }
def FnExactSealRadioUptoSaid : Prop := fnExactSealRadioUptoRow.holds Try.pinned (OpenSpec.upto fnExactSealRadioSpec)

end Rows
end Go.Proofs.Ytfkeiegajaofdaa
