/-
  DERIVED. GIVEN WITH THE SEED: THE CARDS: each row of YtipfggegddlgdaaGreatDoorRows.lean that lists a variable, with what it lists TIED to the program's text (the seventh form; the later family's looks); each row that meets fmt, with fmt's text TOLD by the authors' own Lean function (tested against real Go, not proved from fmt's source: count such statements apart). THE CARD IS WHAT COUNTS. Prove the row's statement (the work); the ties are given (YtipfggegddlgdaaGreatDoorTie.lean); close each card by the builder's one call (the guide's Derived/Test/ToyasCard.lean, 'card_holds'). Laid BY PROGRAM, IN A SANDBOX (cutbox-door.mjs). By AI agents, Wed Nov 11 2026. No macro, syntax, notation, axiom, sorry.
-/
import Derived.Test.YtipfggegddlgdaaGreatDoorRows
import GoSem.ClaimSeven
namespace Go.Proofs.YtipfggegddlgdaaGreatDoor
namespace Rows

/-- THE TIED CARD OF 'agoratop.TopPrivacy'. -/
def topPrivacyCard : Claim7 := { stood := { row := topPrivacyRow, standIns := [], harness := (true, "18ff30e6727b66414edccb42f7251db9bb3d6df38849fead6d84b9cb18eba787"), looks := false }, kinds := [], alts := [], laidByText := true, laidKinds := [.data, .data], laidTests := true, laidLooks := .later }
def TopPrivacyCardSaid : Prop := Claim7.holds Tryz.pinned (.plain (OpenSpec.ofChange topPrivacySpec)) topPrivacyCard

/-- THE SECOND FORM's CARD OF 'agoratop.TopPrivacy'. -/
def topPrivacyUptoCard : Claim7 := { stood := { row := topPrivacyUptoRow, standIns := [], harness := (true, "18ff30e6727b66414edccb42f7251db9bb3d6df38849fead6d84b9cb18eba787"), looks := false }, kinds := [], alts := [], laidByText := true, laidKinds := [.data, .data], laidTests := true, laidLooks := .later }
def TopPrivacyUptoCardSaid : Prop := Claim7.holds Tryz.pinned (.plain (OpenSpec.upto topPrivacySpec)) topPrivacyUptoCard
end Rows
end Go.Proofs.YtipfggegddlgdaaGreatDoor
