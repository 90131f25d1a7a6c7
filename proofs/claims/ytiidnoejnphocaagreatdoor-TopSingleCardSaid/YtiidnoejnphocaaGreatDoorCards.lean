/-
  DERIVED. GIVEN WITH THE SEED: THE CARDS: each row of YtiidnoejnphocaaGreatDoorRows.lean that lists a variable, with what it lists TIED to the program's text (the seventh form; the later family's looks); each row that meets fmt, with fmt's text TOLD by the authors' own Lean function (tested against real Go, not proved from fmt's source: count such statements apart). THE CARD IS WHAT COUNTS. Prove the row's statement (the work); the ties are given (YtiidnoejnphocaaGreatDoorTie.lean); close each card by the builder's one call (the guide's Derived/Test/ToyasCard.lean, 'card_holds'). Laid BY PROGRAM, IN A SANDBOX (cutbox-door.mjs). By AI agents, Wed Nov 11 2026. No macro, syntax, notation, axiom, sorry.
-/
import Derived.Test.YtiidnoejnphocaaGreatDoorRows
import GoSem.ClaimSeven
namespace Go.Proofs.YtiidnoejnphocaaGreatDoor
namespace Rows

/-- THE TIED CARD OF 'agoratop.TopSingle'. -/
def topSingleCard : Claim7 := { stood := { row := topSingleRow, standIns := [], harness := (true, "7466bd2dc167d8ad614e450e265af53159b309d61c604edba4c04e3e1d01eab8"), looks := false }, kinds := [], alts := [], laidByText := true, laidKinds := [.data, .data], laidTests := true, laidLooks := .later }
def TopSingleCardSaid : Prop := Claim7.holds Tryz.pinned (.plain (OpenSpec.ofChange topSingleSpec)) topSingleCard

/-- THE SECOND FORM's CARD OF 'agoratop.TopSingle'. -/
def topSingleUptoCard : Claim7 := { stood := { row := topSingleUptoRow, standIns := [], harness := (true, "7466bd2dc167d8ad614e450e265af53159b309d61c604edba4c04e3e1d01eab8"), looks := false }, kinds := [], alts := [], laidByText := true, laidKinds := [.data, .data], laidTests := true, laidLooks := .later }
def TopSingleUptoCardSaid : Prop := Claim7.holds Tryz.pinned (.plain (OpenSpec.upto topSingleSpec)) topSingleUptoCard
end Rows
end Go.Proofs.YtiidnoejnphocaaGreatDoor
