/-
  DERIVED. GIVEN WITH THE SEED: THE CARDS: each row of YtfijeehojolhlaaDoorRows.lean that lists a variable, with what it lists TIED to the program's text (the seventh form; the later family's looks); each row that meets fmt, with fmt's text TOLD by the authors' own Lean function (tested against real Go, not proved from fmt's source: count such statements apart). THE CARD IS WHAT COUNTS. Prove the row's statement (the work); the ties are given (YtfijeehojolhlaaDoorTie.lean); close each card by the builder's one call (the guide's Derived/Test/ToyasCard.lean, 'card_holds'). Laid BY PROGRAM, IN A SANDBOX (cutbox-door.mjs). By AI agents, Wed Nov 11 2026. No macro, syntax, notation, axiom, sorry.
-/
import Derived.Test.YtfijeehojolhlaaDoorRows
import GoSem.ClaimSeven
namespace Go.Proofs.YtfijeehojolhlaaDoor
namespace Rows

/-- THE TIED CARD OF 'laws.FnExactRegOf'. -/
def fnExactRegOfCard : Claim7 := { stood := { row := fnExactRegOfRow, standIns := [], harness := (true, "219bb50c09c8ca80821f8044bf9f5e675b60cbd0e8a76c7ca28233a7abda52b8"), looks := true }, kinds := [], alts := [], laidByText := true, laidKinds := [.data, .data, .data, .sentinel, .sentinel], laidTests := true, laidLooks := .later }
def FnExactRegOfCardSaid : Prop := Claim7.holds Tryd.pinned (.plain (OpenSpec.ofChange fnExactRegOfSpec)) fnExactRegOfCard

/-- THE SECOND FORM's CARD OF 'laws.FnExactRegOf'. -/
def fnExactRegOfUptoCard : Claim7 := { stood := { row := fnExactRegOfUptoRow, standIns := [], harness := (true, "219bb50c09c8ca80821f8044bf9f5e675b60cbd0e8a76c7ca28233a7abda52b8"), looks := true }, kinds := [], alts := [], laidByText := true, laidKinds := [.data, .data, .data, .sentinel, .sentinel], laidTests := true, laidLooks := .later }
def FnExactRegOfUptoCardSaid : Prop := Claim7.holds Tryd.pinned (.plain (OpenSpec.upto fnExactRegOfSpec)) fnExactRegOfUptoCard
end Rows
end Go.Proofs.YtfijeehojolhlaaDoor
