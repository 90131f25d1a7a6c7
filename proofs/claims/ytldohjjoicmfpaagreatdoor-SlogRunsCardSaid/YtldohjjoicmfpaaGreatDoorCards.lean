/-
  DERIVED. GIVEN WITH THE SEED: THE CARDS: each row of YtldohjjoicmfpaaGreatDoorRows.lean that lists a variable, with what it lists TIED to the program's text (the seventh form; the later family's looks); each row that meets fmt, with fmt's text TOLD by the authors' own Lean function (tested against real Go, not proved from fmt's source: count such statements apart). THE CARD IS WHAT COUNTS. Prove the row's statement (the work); the ties are given (YtldohjjoicmfpaaGreatDoorTie.lean); close each card by the builder's one call (the guide's Derived/Test/ToyasCard.lean, 'card_holds'). Laid BY PROGRAM, IN A SANDBOX (cutbox-door.mjs). By AI agents, Wed Nov 11 2026. No macro, syntax, notation, axiom, sorry.
-/
import Derived.Test.YtldohjjoicmfpaaGreatDoorRows
import GoSem.ClaimSeven
namespace Go.Proofs.YtldohjjoicmfpaaGreatDoor
namespace Rows

/-- THE TIED CARD OF 'agoralaw15.SlogRuns'. -/
def slogRunsCard : Claim7 := { stood := { row := slogRunsRow, standIns := [], harness := (true, "199dc48cdcd40c310c6c73d1da141caac81467d19cf3888b6993f5289f58e213"), looks := false }, kinds := [], alts := [], laidByText := true, laidKinds := [.data, .data], laidTests := true, laidLooks := .later }
def SlogRunsCardSaid : Prop := Claim7.holds Tryz.pinned (.plain (OpenSpec.ofChange slogRunsSpec)) slogRunsCard

/-- THE SECOND FORM's CARD OF 'agoralaw15.SlogRuns'. -/
def slogRunsUptoCard : Claim7 := { stood := { row := slogRunsUptoRow, standIns := [], harness := (true, "199dc48cdcd40c310c6c73d1da141caac81467d19cf3888b6993f5289f58e213"), looks := false }, kinds := [], alts := [], laidByText := true, laidKinds := [.data, .data], laidTests := true, laidLooks := .later }
def SlogRunsUptoCardSaid : Prop := Claim7.holds Tryz.pinned (.plain (OpenSpec.upto slogRunsSpec)) slogRunsUptoCard
end Rows
end Go.Proofs.YtldohjjoicmfpaaGreatDoor
