/-
  DERIVED. GIVEN WITH THE SEED: THE CARDS: each row of YtleljbiejeofgaaGreatDoorRows.lean that lists a variable, with what it lists TIED to the program's text (the seventh form; the later family's looks); each row that meets fmt, with fmt's text TOLD by the authors' own Lean function (tested against real Go, not proved from fmt's source: count such statements apart). THE CARD IS WHAT COUNTS. Prove the row's statement (the work); the ties are given (YtleljbiejeofgaaGreatDoorTie.lean); close each card by the builder's one call (the guide's Derived/Test/ToyasCard.lean, 'card_holds'). Laid BY PROGRAM, IN A SANDBOX (cutbox-door.mjs). By AI agents, Wed Nov 11 2026. No macro, syntax, notation, axiom, sorry.
-/
import Derived.Test.YtleljbiejeofgaaGreatDoorRows
import GoSem.ClaimSeven
namespace Go.Proofs.YtleljbiejeofgaaGreatDoor
namespace Rows

/-- THE TIED CARD OF 'agoralaw47.InboxBudget'. -/
def inboxBudgetCard : Claim7 := { stood := { row := inboxBudgetRow, standIns := [], harness := (true, "2770b426ebcd03c37b7b98fa83c4b74bd5badf2b8df91413ecd5722c655f5264"), looks := false }, kinds := [], alts := [], laidByText := true, laidKinds := [.data, .data], laidTests := true, laidLooks := .later }
def InboxBudgetCardSaid : Prop := Claim7.holds Tryz.pinned (.plain (OpenSpec.ofChange inboxBudgetSpec)) inboxBudgetCard

/-- THE TIED CARD OF 'agoralaw47.InboxSplits'. -/
def inboxSplitsCard : Claim7 := { stood := { row := inboxSplitsRow, standIns := [], harness := (true, "2770b426ebcd03c37b7b98fa83c4b74bd5badf2b8df91413ecd5722c655f5264"), looks := false }, kinds := [], alts := [], laidByText := true, laidKinds := [.data, .data], laidTests := true, laidLooks := .later }
def InboxSplitsCardSaid : Prop := Claim7.holds Tryz.pinned (.plain (OpenSpec.ofChange inboxSplitsSpec)) inboxSplitsCard

/-- THE TIED CARD OF 'agoralaw47.InboxFollows'. -/
def inboxFollowsCard : Claim7 := { stood := { row := inboxFollowsRow, standIns := [], harness := (true, "2770b426ebcd03c37b7b98fa83c4b74bd5badf2b8df91413ecd5722c655f5264"), looks := false }, kinds := [], alts := [], laidByText := true, laidKinds := [.data, .data], laidTests := true, laidLooks := .later }
def InboxFollowsCardSaid : Prop := Claim7.holds Tryz.pinned (.plain (OpenSpec.ofChange inboxFollowsSpec)) inboxFollowsCard

/-- THE SECOND FORM's CARD OF 'agoralaw47.InboxBudget'. -/
def inboxBudgetUptoCard : Claim7 := { stood := { row := inboxBudgetUptoRow, standIns := [], harness := (true, "2770b426ebcd03c37b7b98fa83c4b74bd5badf2b8df91413ecd5722c655f5264"), looks := false }, kinds := [], alts := [], laidByText := true, laidKinds := [.data, .data], laidTests := true, laidLooks := .later }
def InboxBudgetUptoCardSaid : Prop := Claim7.holds Tryz.pinned (.plain (OpenSpec.upto inboxBudgetSpec)) inboxBudgetUptoCard

/-- THE SECOND FORM's CARD OF 'agoralaw47.InboxSplits'. -/
def inboxSplitsUptoCard : Claim7 := { stood := { row := inboxSplitsUptoRow, standIns := [], harness := (true, "2770b426ebcd03c37b7b98fa83c4b74bd5badf2b8df91413ecd5722c655f5264"), looks := false }, kinds := [], alts := [], laidByText := true, laidKinds := [.data, .data], laidTests := true, laidLooks := .later }
def InboxSplitsUptoCardSaid : Prop := Claim7.holds Tryz.pinned (.plain (OpenSpec.upto inboxSplitsSpec)) inboxSplitsUptoCard

/-- THE SECOND FORM's CARD OF 'agoralaw47.InboxFollows'. -/
def inboxFollowsUptoCard : Claim7 := { stood := { row := inboxFollowsUptoRow, standIns := [], harness := (true, "2770b426ebcd03c37b7b98fa83c4b74bd5badf2b8df91413ecd5722c655f5264"), looks := false }, kinds := [], alts := [], laidByText := true, laidKinds := [.data, .data], laidTests := true, laidLooks := .later }
def InboxFollowsUptoCardSaid : Prop := Claim7.holds Tryz.pinned (.plain (OpenSpec.upto inboxFollowsSpec)) inboxFollowsUptoCard
end Rows
end Go.Proofs.YtleljbiejeofgaaGreatDoor
