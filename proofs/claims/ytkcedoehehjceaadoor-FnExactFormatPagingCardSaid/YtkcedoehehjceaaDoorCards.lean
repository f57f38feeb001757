/-
  DERIVED. GIVEN WITH THE SEED: THE CARDS: each row of YtkcedoehehjceaaDoorRows.lean that lists a variable, with what it lists TIED to the program's text (the seventh form; the later family's looks); each row that meets fmt, with fmt's text TOLD by the authors' own Lean function (tested against real Go, not proved from fmt's source: count such statements apart). THE CARD IS WHAT COUNTS. Prove the row's statement (the work); the ties are given (YtkcedoehehjceaaDoorTie.lean); close each card by the builder's one call (the guide's Derived/Test/ToyasCard.lean, 'card_holds'). Laid BY PROGRAM, IN A SANDBOX (cutbox-door.mjs). By AI agents, Wed Nov 11 2026. No macro, syntax, notation, axiom, sorry.
-/
import Derived.Test.YtkcedoehehjceaaDoorRows
import GoSem.ClaimSeven
namespace Go.Proofs.YtkcedoehehjceaaDoor
namespace Rows

/-- THE TIED CARD OF 'laws.FnExactFormatPaging'. -/
def fnExactFormatPagingCard : Claim7 := { stood := { row := fnExactFormatPagingRow, standIns := [], harness := (true, "a9f2572866585ce70bdffa356bf90e9d904dba6048f89a50e7d58046ecc980c0"), looks := false }, kinds := [], alts := [], laidByText := true, laidKinds := [.data, .data, .data], laidTests := true, laidLooks := .later }
def FnExactFormatPagingCardSaid : Prop := Claim7.holds Tryd.pinned (.plain (OpenSpec.ofChange fnExactFormatPagingSpec)) fnExactFormatPagingCard

/-- THE SECOND FORM's CARD OF 'laws.FnExactFormatPaging'. -/
def fnExactFormatPagingUptoCard : Claim7 := { stood := { row := fnExactFormatPagingUptoRow, standIns := [], harness := (true, "a9f2572866585ce70bdffa356bf90e9d904dba6048f89a50e7d58046ecc980c0"), looks := false }, kinds := [], alts := [], laidByText := true, laidKinds := [.data, .data, .data], laidTests := true, laidLooks := .later }
def FnExactFormatPagingUptoCardSaid : Prop := Claim7.holds Tryd.pinned (.plain (OpenSpec.upto fnExactFormatPagingSpec)) fnExactFormatPagingUptoCard
end Rows
end Go.Proofs.YtkcedoehehjceaaDoor
