/-
  No cell of these rows narrows 'for every input' (looked for: loops, veiled, ifaces, maps, wideKeys, modest, calm, conditions, laid).
  DERIVED. THE GIVEN ROWS OF THIS SEAT. 11 by the template 'for every input the law returns true; each argument reads behind the call as it read before'; 0 by the template 'total and deterministic' (their statements: YtchkiohikhfecaaTotals.lean).
  GIVEN WITH THE SEED: the statements are not yours to turn. If you find one false, say at which input.
  Laid BY PROGRAM, IN A SANDBOX (cutbox-rows.mjs): the forced cells as the released guide's own fill.sh prints them over the translation c375823b31edf23b… (all of the seat's roots in one cut). By AI agents, Wed Nov 11 2026. No macro, syntax, notation, axiom, sorry.
-/
import Derived.Test.YtchkiohikhfecaaChecked
import GoSem.Claim
import GoSem.ClaimJoined
import GoSem.ClaimMapViews
import Derived.JoinedTies
import Derived.KernelRfl
namespace Go.Proofs.Ytchkiohikhfecaa
/- THE CELL 'sum', in the pinned program and in every row, IS THE sha256 OF THE DUMP (.gsa) THAT YtchkiohikhfecaaProg.lean LOADS. Nothing in Lean hashes anything: it is a label: what it is worth is what the hold of that sum in a sandbox is worth. -/
noncomputable def Try.pinned : Pinned := { name := "ytchkiohikhfecaa", sum := "c375823b31edf23b1055e70cefdf9f85ba56f0e9f7660273351396a26826fd75", checked := Try.checked }
namespace Rows
def none {H : Type} : Left H := { results := [], args := [] }

/-- 'laws.FnExactReceivePacket': WHATEVER THE INPUT: true; the input reads as it did. -/
def fnExactReceivePacketSpec : ChangeSpec := { name := "fnExactReceivePacket", fn := fun _ => fun
  | [d1, d2] => { results := [.lit (.bool true)], args := [d1, d2] }
  | _ => none }
def fnExactReceivePacketRow : OpenClaim := { program := "ytchkiohikhfecaa", sum := "c375823b31edf23b1055e70cefdf9f85ba56f0e9f7660273351396a26826fd75", func := "loop.example/g00509/laws.FnExactReceivePacket", spec := "fnExactReceivePacket", apart := false }
def FnExactReceivePacketSaid : Prop := fnExactReceivePacketRow.holds Try.pinned (OpenSpec.ofChange fnExactReceivePacketSpec)

/-- ITS FALSE NEIGHBOUR: 'it returns false'. Refute it at one input. -/
def fnExactReceivePacketWrong : ChangeSpec := { name := "fnExactReceivePacket", fn := fun _ => fun
  | [d1, d2] => { results := [.lit (.bool false)], args := [d1, d2] }
  | _ => none }
def FnExactReceivePacketWrongFalsely : Prop := fnExactReceivePacketRow.holds Try.pinned (OpenSpec.ofChange fnExactReceivePacketWrong)

/-- 'laws.FnReordering': WHATEVER THE INPUT: true; the input reads as it did. -/
def fnReorderingSpec : ChangeSpec := { name := "fnReordering", fn := fun _ => fun
  | [d] => { results := [.lit (.bool true)], args := [d] }
  | _ => none }
def fnReorderingRow : OpenClaim := { program := "ytchkiohikhfecaa", sum := "c375823b31edf23b1055e70cefdf9f85ba56f0e9f7660273351396a26826fd75", func := "loop.example/g00509/laws.FnReordering", spec := "fnReordering", apart := false }
def FnReorderingSaid : Prop := fnReorderingRow.holds Try.pinned (OpenSpec.ofChange fnReorderingSpec)

/-- ITS FALSE NEIGHBOUR: 'it returns false'. Refute it at one input. -/
def fnReorderingWrong : ChangeSpec := { name := "fnReordering", fn := fun _ => fun
  | [d] => { results := [.lit (.bool false)], args := [d] }
  | _ => none }
def FnReorderingWrongFalsely : Prop := fnReorderingRow.holds Try.pinned (OpenSpec.ofChange fnReorderingWrong)

/-- 'laws.FnExactIsValidSender': WHATEVER THE INPUT: true; the input reads as it did. -/
def fnExactIsValidSenderSpec : ChangeSpec := { name := "fnExactIsValidSender", fn := fun _ => fun
  | [d] => { results := [.lit (.bool true)], args := [d] }
  | _ => none }
def fnExactIsValidSenderRow : OpenClaim := { program := "ytchkiohikhfecaa", sum := "c375823b31edf23b1055e70cefdf9f85ba56f0e9f7660273351396a26826fd75", func := "loop.example/g00509/laws.FnExactIsValidSender", spec := "fnExactIsValidSender", apart := false }
def FnExactIsValidSenderSaid : Prop := fnExactIsValidSenderRow.holds Try.pinned (OpenSpec.ofChange fnExactIsValidSenderSpec)

/-- ITS FALSE NEIGHBOUR: 'it returns false'. Refute it at one input. -/
def fnExactIsValidSenderWrong : ChangeSpec := { name := "fnExactIsValidSender", fn := fun _ => fun
  | [d] => { results := [.lit (.bool false)], args := [d] }
  | _ => none }
def FnExactIsValidSenderWrongFalsely : Prop := fnExactIsValidSenderRow.holds Try.pinned (OpenSpec.ofChange fnExactIsValidSenderWrong)

/-- 'laws.FnExactEqualSenders': WHATEVER THE INPUT: true; the input reads as it did. -/
def fnExactEqualSendersSpec : ChangeSpec := { name := "fnExactEqualSenders", fn := fun _ => fun
  | [d1, d2] => { results := [.lit (.bool true)], args := [d1, d2] }
  | _ => none }
def fnExactEqualSendersRow : OpenClaim := { program := "ytchkiohikhfecaa", sum := "c375823b31edf23b1055e70cefdf9f85ba56f0e9f7660273351396a26826fd75", func := "loop.example/g00509/laws.FnExactEqualSenders", spec := "fnExactEqualSenders", apart := false }
def FnExactEqualSendersSaid : Prop := fnExactEqualSendersRow.holds Try.pinned (OpenSpec.ofChange fnExactEqualSendersSpec)

/-- ITS FALSE NEIGHBOUR: 'it returns false'. Refute it at one input. -/
def fnExactEqualSendersWrong : ChangeSpec := { name := "fnExactEqualSenders", fn := fun _ => fun
  | [d1, d2] => { results := [.lit (.bool false)], args := [d1, d2] }
  | _ => none }
def FnExactEqualSendersWrongFalsely : Prop := fnExactEqualSendersRow.holds Try.pinned (OpenSpec.ofChange fnExactEqualSendersWrong)

/-- 'laws.FnExactEqualBuffers': WHATEVER THE INPUT: true; the input reads as it did. -/
def fnExactEqualBuffersSpec : ChangeSpec := { name := "fnExactEqualBuffers", fn := fun _ => fun
  | [d1, d2] => { results := [.lit (.bool true)], args := [d1, d2] }
  | _ => none }
def fnExactEqualBuffersRow : OpenClaim := { program := "ytchkiohikhfecaa", sum := "c375823b31edf23b1055e70cefdf9f85ba56f0e9f7660273351396a26826fd75", func := "loop.example/g00509/laws.FnExactEqualBuffers", spec := "fnExactEqualBuffers", apart := false }
def FnExactEqualBuffersSaid : Prop := fnExactEqualBuffersRow.holds Try.pinned (OpenSpec.ofChange fnExactEqualBuffersSpec)

/-- ITS FALSE NEIGHBOUR: 'it returns false'. Refute it at one input. -/
def fnExactEqualBuffersWrong : ChangeSpec := { name := "fnExactEqualBuffers", fn := fun _ => fun
  | [d1, d2] => { results := [.lit (.bool false)], args := [d1, d2] }
  | _ => none }
def FnExactEqualBuffersWrongFalsely : Prop := fnExactEqualBuffersRow.holds Try.pinned (OpenSpec.ofChange fnExactEqualBuffersWrong)

/-- 'laws.FnSendWindows': WHATEVER THE INPUT: true; the input reads as it did. -/
def fnSendWindowsSpec : ChangeSpec := { name := "fnSendWindows", fn := fun _ => fun
  | [d] => { results := [.lit (.bool true)], args := [d] }
  | _ => none }
def fnSendWindowsRow : OpenClaim := { program := "ytchkiohikhfecaa", sum := "c375823b31edf23b1055e70cefdf9f85ba56f0e9f7660273351396a26826fd75", func := "loop.example/g00509/laws.FnSendWindows", spec := "fnSendWindows", apart := false }
def FnSendWindowsSaid : Prop := fnSendWindowsRow.holds Try.pinned (OpenSpec.ofChange fnSendWindowsSpec)

/-- ITS FALSE NEIGHBOUR: 'it returns false'. Refute it at one input. -/
def fnSendWindowsWrong : ChangeSpec := { name := "fnSendWindows", fn := fun _ => fun
  | [d] => { results := [.lit (.bool false)], args := [d] }
  | _ => none }
def FnSendWindowsWrongFalsely : Prop := fnSendWindowsRow.holds Try.pinned (OpenSpec.ofChange fnSendWindowsWrong)

/-- 'laws.FnExactIsValidReceiver': WHATEVER THE INPUT: true; the input reads as it did. -/
def fnExactIsValidReceiverSpec : ChangeSpec := { name := "fnExactIsValidReceiver", fn := fun _ => fun
  | [d] => { results := [.lit (.bool true)], args := [d] }
  | _ => none }
def fnExactIsValidReceiverRow : OpenClaim := { program := "ytchkiohikhfecaa", sum := "c375823b31edf23b1055e70cefdf9f85ba56f0e9f7660273351396a26826fd75", func := "loop.example/g00509/laws.FnExactIsValidReceiver", spec := "fnExactIsValidReceiver", apart := false }
def FnExactIsValidReceiverSaid : Prop := fnExactIsValidReceiverRow.holds Try.pinned (OpenSpec.ofChange fnExactIsValidReceiverSpec)

/-- ITS FALSE NEIGHBOUR: 'it returns false'. Refute it at one input. -/
def fnExactIsValidReceiverWrong : ChangeSpec := { name := "fnExactIsValidReceiver", fn := fun _ => fun
  | [d] => { results := [.lit (.bool false)], args := [d] }
  | _ => none }
def FnExactIsValidReceiverWrongFalsely : Prop := fnExactIsValidReceiverRow.holds Try.pinned (OpenSpec.ofChange fnExactIsValidReceiverWrong)

/-- 'laws.FnExactAcknowledgeBelow': WHATEVER THE INPUT: true; the input reads as it did. -/
def fnExactAcknowledgeBelowSpec : ChangeSpec := { name := "fnExactAcknowledgeBelow", fn := fun _ => fun
  | [d1, d2] => { results := [.lit (.bool true)], args := [d1, d2] }
  | _ => none }
def fnExactAcknowledgeBelowRow : OpenClaim := { program := "ytchkiohikhfecaa", sum := "c375823b31edf23b1055e70cefdf9f85ba56f0e9f7660273351396a26826fd75", func := "loop.example/g00509/laws.FnExactAcknowledgeBelow", spec := "fnExactAcknowledgeBelow", apart := false }
def FnExactAcknowledgeBelowSaid : Prop := fnExactAcknowledgeBelowRow.holds Try.pinned (OpenSpec.ofChange fnExactAcknowledgeBelowSpec)

/-- ITS FALSE NEIGHBOUR: 'it returns false'. Refute it at one input. -/
def fnExactAcknowledgeBelowWrong : ChangeSpec := { name := "fnExactAcknowledgeBelow", fn := fun _ => fun
  | [d1, d2] => { results := [.lit (.bool false)], args := [d1, d2] }
  | _ => none }
def FnExactAcknowledgeBelowWrongFalsely : Prop := fnExactAcknowledgeBelowRow.holds Try.pinned (OpenSpec.ofChange fnExactAcknowledgeBelowWrong)

/-- 'laws.FnExactEqualReceivers': WHATEVER THE INPUT: true; the input reads as it did. -/
def fnExactEqualReceiversSpec : ChangeSpec := { name := "fnExactEqualReceivers", fn := fun _ => fun
  | [d1, d2] => { results := [.lit (.bool true)], args := [d1, d2] }
  | _ => none }
def fnExactEqualReceiversRow : OpenClaim := { program := "ytchkiohikhfecaa", sum := "c375823b31edf23b1055e70cefdf9f85ba56f0e9f7660273351396a26826fd75", func := "loop.example/g00509/laws.FnExactEqualReceivers", spec := "fnExactEqualReceivers", apart := false }
def FnExactEqualReceiversSaid : Prop := fnExactEqualReceiversRow.holds Try.pinned (OpenSpec.ofChange fnExactEqualReceiversSpec)

/-- ITS FALSE NEIGHBOUR: 'it returns false'. Refute it at one input. -/
def fnExactEqualReceiversWrong : ChangeSpec := { name := "fnExactEqualReceivers", fn := fun _ => fun
  | [d1, d2] => { results := [.lit (.bool false)], args := [d1, d2] }
  | _ => none }
def FnExactEqualReceiversWrongFalsely : Prop := fnExactEqualReceiversRow.holds Try.pinned (OpenSpec.ofChange fnExactEqualReceiversWrong)

/-- 'laws.FnExactSendPacket': WHATEVER THE INPUT: true; the input reads as it did. -/
def fnExactSendPacketSpec : ChangeSpec := { name := "fnExactSendPacket", fn := fun _ => fun
  | [d1, d2] => { results := [.lit (.bool true)], args := [d1, d2] }
  | _ => none }
def fnExactSendPacketRow : OpenClaim := { program := "ytchkiohikhfecaa", sum := "c375823b31edf23b1055e70cefdf9f85ba56f0e9f7660273351396a26826fd75", func := "loop.example/g00509/laws.FnExactSendPacket", spec := "fnExactSendPacket", apart := false }
def FnExactSendPacketSaid : Prop := fnExactSendPacketRow.holds Try.pinned (OpenSpec.ofChange fnExactSendPacketSpec)

/-- ITS FALSE NEIGHBOUR: 'it returns false'. Refute it at one input. -/
def fnExactSendPacketWrong : ChangeSpec := { name := "fnExactSendPacket", fn := fun _ => fun
  | [d1, d2] => { results := [.lit (.bool false)], args := [d1, d2] }
  | _ => none }
def FnExactSendPacketWrongFalsely : Prop := fnExactSendPacketRow.holds Try.pinned (OpenSpec.ofChange fnExactSendPacketWrong)

/-- 'laws.FnReceiveWindows': WHATEVER THE INPUT: true; the input reads as it did. -/
def fnReceiveWindowsSpec : ChangeSpec := { name := "fnReceiveWindows", fn := fun _ => fun
  | [d] => { results := [.lit (.bool true)], args := [d] }
  | _ => none }
def fnReceiveWindowsRow : OpenClaim := { program := "ytchkiohikhfecaa", sum := "c375823b31edf23b1055e70cefdf9f85ba56f0e9f7660273351396a26826fd75", func := "loop.example/g00509/laws.FnReceiveWindows", spec := "fnReceiveWindows", apart := false }
def FnReceiveWindowsSaid : Prop := fnReceiveWindowsRow.holds Try.pinned (OpenSpec.ofChange fnReceiveWindowsSpec)

/-- ITS FALSE NEIGHBOUR: 'it returns false'. Refute it at one input. -/
def fnReceiveWindowsWrong : ChangeSpec := { name := "fnReceiveWindows", fn := fun _ => fun
  | [d] => { results := [.lit (.bool false)], args := [d] }
  | _ => none }
def FnReceiveWindowsWrongFalsely : Prop := fnReceiveWindowsRow.holds Try.pinned (OpenSpec.ofChange fnReceiveWindowsWrong)

/- THE SECOND FORM. 'bulk': how many values and letters a reading holds, each counted each time it is reached (what is shared counts as often as it is met; a slice's spare places count too). A statement '..UptoSaid' is the law's where the arguments, and the package variables that the reading takes, are together of bulk at most 1048576: NARROWER than '..Said'. Prove '..Said' where nothing that the law and all that it calls make is longer than what came in: it says more and counts as full. Else prove '..UptoSaid'. A law counts once. -/
mutual
def uptoBulk {H : Type} : DataW H → Nat
  | .lit (.string bytes) => bytes.length + 1
  | .lit _ => 1
  | .nil => 1
  | .ptr d => uptoBulk d + 1
  | .slice elems spare => uptoBulkAll elems + uptoBulkAll spare + 1
  | .agg parts => uptoBulkAll parts + 1
  | .iface _ d => uptoBulk d + 1
  | .map entries => uptoBulkEntries entries + 1
  | .held _ => 1
def uptoBulkAll {H : Type} : List (DataW H) → Nat
  | [] => 0
  | d :: r => uptoBulk d + uptoBulkAll r
def uptoBulkEntries {H : Type} : List (Lit × DataW H) → Nat
  | [] => 0
  | x :: r => uptoBulkEntry x + uptoBulkEntries r
def uptoBulkEntry {H : Type} : Lit × DataW H → Nat
  | (.string bytes, d) => bytes.length + uptoBulk d + 1
  | (_, d) => uptoBulk d + 1
 end
def uptoSmall : (H : Type) → List (DataW H) → Bool := fun _ ds => decide (uptoBulkAll ds ≤ 1048576)
def OpenSpec.upto (s : _root_.Go.ChangeSpec) : _root_.Go.OpenSpec := { _root_.Go.OpenSpec.ofChange s with cond := some uptoSmall }

/-- 'laws.FnExactReceivePacket', WHERE WHAT IT READS IS OF BULK AT MOST 1048576: true; the input reads as it did. -/
def fnExactReceivePacketUptoRow : OpenClaim := { program := "ytchkiohikhfecaa", sum := "c375823b31edf23b1055e70cefdf9f85ba56f0e9f7660273351396a26826fd75", func := "loop.example/g00509/laws.FnExactReceivePacket", spec := "fnExactReceivePacket", apart := false, narrowed := true }
def FnExactReceivePacketUptoSaid : Prop := fnExactReceivePacketUptoRow.holds Try.pinned (OpenSpec.upto fnExactReceivePacketSpec)

/-- 'laws.FnReordering', WHERE WHAT IT READS IS OF BULK AT MOST 1048576: true; the input reads as it did. -/
def fnReorderingUptoRow : OpenClaim := { program := "ytchkiohikhfecaa", sum := "c375823b31edf23b1055e70cefdf9f85ba56f0e9f7660273351396a26826fd75", func := "loop.example/g00509/laws.FnReordering", spec := "fnReordering", apart := false, narrowed := true }
def FnReorderingUptoSaid : Prop := fnReorderingUptoRow.holds Try.pinned (OpenSpec.upto fnReorderingSpec)

/-- 'laws.FnExactIsValidSender', WHERE WHAT IT READS IS OF BULK AT MOST 1048576: true; the input reads as it did. -/
def fnExactIsValidSenderUptoRow : OpenClaim := { program := "ytchkiohikhfecaa", sum := "c375823b31edf23b1055e70cefdf9f85ba56f0e9f7660273351396a26826fd75", func := "loop.example/g00509/laws.FnExactIsValidSender", spec := "fnExactIsValidSender", apart := false, narrowed := true }
def FnExactIsValidSenderUptoSaid : Prop := fnExactIsValidSenderUptoRow.holds Try.pinned (OpenSpec.upto fnExactIsValidSenderSpec)

/-- 'laws.FnExactEqualSenders', WHERE WHAT IT READS IS OF BULK AT MOST 1048576: true; the input reads as it did. -/
def fnExactEqualSendersUptoRow : OpenClaim := { program := "ytchkiohikhfecaa", sum := "c375823b31edf23b1055e70cefdf9f85ba56f0e9f7660273351396a26826fd75", func := "loop.example/g00509/laws.FnExactEqualSenders", spec := "fnExactEqualSenders", apart := false, narrowed := true }
def FnExactEqualSendersUptoSaid : Prop := fnExactEqualSendersUptoRow.holds Try.pinned (OpenSpec.upto fnExactEqualSendersSpec)

/-- 'laws.FnExactEqualBuffers', WHERE WHAT IT READS IS OF BULK AT MOST 1048576: true; the input reads as it did. -/
def fnExactEqualBuffersUptoRow : OpenClaim := { program := "ytchkiohikhfecaa", sum := "c375823b31edf23b1055e70cefdf9f85ba56f0e9f7660273351396a26826fd75", func := "loop.example/g00509/laws.FnExactEqualBuffers", spec := "fnExactEqualBuffers", apart := false, narrowed := true }
def FnExactEqualBuffersUptoSaid : Prop := fnExactEqualBuffersUptoRow.holds Try.pinned (OpenSpec.upto fnExactEqualBuffersSpec)

/-- 'laws.FnSendWindows', WHERE WHAT IT READS IS OF BULK AT MOST 1048576: true; the input reads as it did. -/
def fnSendWindowsUptoRow : OpenClaim := { program := "ytchkiohikhfecaa", sum := "c375823b31edf23b1055e70cefdf9f85ba56f0e9f7660273351396a26826fd75", func := "loop.example/g00509/laws.FnSendWindows", spec := "fnSendWindows", apart := false, narrowed := true }
def FnSendWindowsUptoSaid : Prop := fnSendWindowsUptoRow.holds Try.pinned (OpenSpec.upto fnSendWindowsSpec)

/-- 'laws.FnExactIsValidReceiver', WHERE WHAT IT READS IS OF BULK AT MOST 1048576: true; the input reads as it did. -/
def fnExactIsValidReceiverUptoRow : OpenClaim := { program := "ytchkiohikhfecaa", sum := "c375823b31edf23b1055e70cefdf9f85ba56f0e9f7660273351396a26826fd75", func := "loop.example/g00509/laws.FnExactIsValidReceiver", spec := "fnExactIsValidReceiver", apart := false, narrowed := true }
def FnExactIsValidReceiverUptoSaid : Prop := fnExactIsValidReceiverUptoRow.holds Try.pinned (OpenSpec.upto fnExactIsValidReceiverSpec)

/-- 'laws.FnExactAcknowledgeBelow', WHERE WHAT IT READS IS OF BULK AT MOST 1048576: true; the input reads as it did. -/
def fnExactAcknowledgeBelowUptoRow : OpenClaim := { program := "ytchkiohikhfecaa", sum := "c375823b31edf23b1055e70cefdf9f85ba56f0e9f7660273351396a26826fd75", func := "loop.example/g00509/laws.FnExactAcknowledgeBelow", spec := "fnExactAcknowledgeBelow", apart := false, narrowed := true }
def FnExactAcknowledgeBelowUptoSaid : Prop := fnExactAcknowledgeBelowUptoRow.holds Try.pinned (OpenSpec.upto fnExactAcknowledgeBelowSpec)

/-- 'laws.FnExactEqualReceivers', WHERE WHAT IT READS IS OF BULK AT MOST 1048576: true; the input reads as it did. -/
def fnExactEqualReceiversUptoRow : OpenClaim := { program := "ytchkiohikhfecaa", sum := "c375823b31edf23b1055e70cefdf9f85ba56f0e9f7660273351396a26826fd75", func := "loop.example/g00509/laws.FnExactEqualReceivers", spec := "fnExactEqualReceivers", apart := false, narrowed := true }
def FnExactEqualReceiversUptoSaid : Prop := fnExactEqualReceiversUptoRow.holds Try.pinned (OpenSpec.upto fnExactEqualReceiversSpec)

/-- 'laws.FnExactSendPacket', WHERE WHAT IT READS IS OF BULK AT MOST 1048576: true; the input reads as it did. -/
def fnExactSendPacketUptoRow : OpenClaim := { program := "ytchkiohikhfecaa", sum := "c375823b31edf23b1055e70cefdf9f85ba56f0e9f7660273351396a26826fd75", func := "loop.example/g00509/laws.FnExactSendPacket", spec := "fnExactSendPacket", apart := false, narrowed := true }
def FnExactSendPacketUptoSaid : Prop := fnExactSendPacketUptoRow.holds Try.pinned (OpenSpec.upto fnExactSendPacketSpec)

/-- 'laws.FnReceiveWindows', WHERE WHAT IT READS IS OF BULK AT MOST 1048576: true; the input reads as it did. -/
def fnReceiveWindowsUptoRow : OpenClaim := { program := "ytchkiohikhfecaa", sum := "c375823b31edf23b1055e70cefdf9f85ba56f0e9f7660273351396a26826fd75", func := "loop.example/g00509/laws.FnReceiveWindows", spec := "fnReceiveWindows", apart := false, narrowed := true }
def FnReceiveWindowsUptoSaid : Prop := fnReceiveWindowsUptoRow.holds Try.pinned (OpenSpec.upto fnReceiveWindowsSpec)

end Rows
end Go.Proofs.Ytchkiohikhfecaa
