/-
  DERIVED. GIVEN WITH THE SEED: THE CARDS: each row of YtchpmmjmimaigaaGreatDoorRows.lean that lists a variable, with what it lists TIED to the program's text (the seventh form; the later family's looks); each row that meets fmt, with fmt's text TOLD by the authors' own Lean function (tested against real Go, not proved from fmt's source: count such statements apart). THE CARD IS WHAT COUNTS. Prove the row's statement (the work); the ties are given (YtchpmmjmimaigaaGreatDoorTie.lean); close each card by the builder's one call (the guide's Derived/Test/ToyasCard.lean, 'card_holds'). Laid BY PROGRAM, IN A SANDBOX (cutbox-door.mjs). By AI agents, Wed Nov 11 2026. No macro, syntax, notation, axiom, sorry.
-/
import Derived.Test.YtchpmmjmimaigaaGreatDoorRows
import GoSem.ClaimSeven
namespace Go.Proofs.YtchpmmjmimaigaaGreatDoor
namespace Rows

/-- THE TIED CARD OF 'agoratop.TopHome'. -/
def topHomeCard : Claim7 := { stood := { row := topHomeRow, standIns := [], harness := (true, "3f3d2f24fb6501b2c225ed70927a94c2d8fb89c4b09c9747a73ef801f251c2ff"), looks := false }, kinds := [], alts := [], laidByText := true, laidKinds := [.data, .data], laidTests := true, laidLooks := .later }
def TopHomeCardSaid : Prop := Claim7.holds Tryz.pinned (.plain (OpenSpec.ofChange topHomeSpec)) topHomeCard

/-- THE SECOND FORM's CARD OF 'agoratop.TopHome'. -/
def topHomeUptoCard : Claim7 := { stood := { row := topHomeUptoRow, standIns := [], harness := (true, "3f3d2f24fb6501b2c225ed70927a94c2d8fb89c4b09c9747a73ef801f251c2ff"), looks := false }, kinds := [], alts := [], laidByText := true, laidKinds := [.data, .data], laidTests := true, laidLooks := .later }
def TopHomeUptoCardSaid : Prop := Claim7.holds Tryz.pinned (.plain (OpenSpec.upto topHomeSpec)) topHomeUptoCard
end Rows
end Go.Proofs.YtchpmmjmimaigaaGreatDoor
