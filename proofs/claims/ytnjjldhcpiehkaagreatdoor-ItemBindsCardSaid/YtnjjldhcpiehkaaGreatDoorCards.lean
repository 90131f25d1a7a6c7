/-
  DERIVED. GIVEN WITH THE SEED: THE CARDS: each row of YtnjjldhcpiehkaaGreatDoorRows.lean that lists a variable, with what it lists TIED to the program's text (the seventh form; the later family's looks); each row that meets fmt, with fmt's text TOLD by the authors' own Lean function (tested against real Go, not proved from fmt's source: count such statements apart). THE CARD IS WHAT COUNTS. Prove the row's statement (the work); the ties are given (YtnjjldhcpiehkaaGreatDoorTie.lean); close each card by the builder's one call (the guide's Derived/Test/ToyasCard.lean, 'card_holds'). Laid BY PROGRAM, IN A SANDBOX (cutbox-door.mjs). By AI agents, Wed Nov 11 2026. No macro, syntax, notation, axiom, sorry.
-/
import Derived.Test.YtnjjldhcpiehkaaGreatDoorRows
import GoSem.ClaimSeven
namespace Go.Proofs.YtnjjldhcpiehkaaGreatDoor
namespace Rows

/-- THE TIED CARD OF 'agoralaw13.ItemReads'. -/
def itemReadsCard : Claim7 := { stood := { row := itemReadsRow, standIns := [], harness := (true, "9e46b0cbbdee85f865fa071e0dc26cc257bde45c98344332131402a2dc9e716f"), looks := false }, kinds := [], alts := [], laidByText := true, laidKinds := [.data, .data], laidTests := true, laidLooks := .later }
def ItemReadsCardSaid : Prop := Claim7.holds Tryz.pinned (.plain (OpenSpec.ofChange itemReadsSpec)) itemReadsCard

/-- THE TIED CARD OF 'agoralaw13.ItemBinds'. -/
def itemBindsCard : Claim7 := { stood := { row := itemBindsRow, standIns := [], harness := (true, "9e46b0cbbdee85f865fa071e0dc26cc257bde45c98344332131402a2dc9e716f"), looks := false }, kinds := [], alts := [], laidByText := true, laidKinds := [.data, .data], laidTests := true, laidLooks := .later }
def ItemBindsCardSaid : Prop := Claim7.holds Tryz.pinned (.plain (OpenSpec.ofChange itemBindsSpec)) itemBindsCard

/-- THE TIED CARD OF 'agoralaw13.ItemFields'. -/
def itemFieldsCard : Claim7 := { stood := { row := itemFieldsRow, standIns := [], harness := (true, "9e46b0cbbdee85f865fa071e0dc26cc257bde45c98344332131402a2dc9e716f"), looks := false }, kinds := [], alts := [], laidByText := true, laidKinds := [.data, .data], laidTests := true, laidLooks := .later }
def ItemFieldsCardSaid : Prop := Claim7.holds Tryz.pinned (.plain (OpenSpec.ofChange itemFieldsSpec)) itemFieldsCard

/-- THE TIED CARD OF 'agoralaw13.ItemEntries'. -/
def itemEntriesCard : Claim7 := { stood := { row := itemEntriesRow, standIns := [], harness := (true, "9e46b0cbbdee85f865fa071e0dc26cc257bde45c98344332131402a2dc9e716f"), looks := false }, kinds := [], alts := [], laidByText := true, laidKinds := [.data, .data], laidTests := true, laidLooks := .later }
def ItemEntriesCardSaid : Prop := Claim7.holds Tryz.pinned (.plain (OpenSpec.ofChange itemEntriesSpec)) itemEntriesCard

/-- THE TIED CARD OF 'agoralaw13.ItemTells'. -/
def itemTellsCard : Claim7 := { stood := { row := itemTellsRow, standIns := [], harness := (true, "9e46b0cbbdee85f865fa071e0dc26cc257bde45c98344332131402a2dc9e716f"), looks := false }, kinds := [], alts := [], laidByText := true, laidKinds := [.data, .data], laidTests := true, laidLooks := .later }
def ItemTellsCardSaid : Prop := Claim7.holds Tryz.pinned (.plain (OpenSpec.ofChange itemTellsSpec)) itemTellsCard

/-- THE SECOND FORM's CARD OF 'agoralaw13.ItemReads'. -/
def itemReadsUptoCard : Claim7 := { stood := { row := itemReadsUptoRow, standIns := [], harness := (true, "9e46b0cbbdee85f865fa071e0dc26cc257bde45c98344332131402a2dc9e716f"), looks := false }, kinds := [], alts := [], laidByText := true, laidKinds := [.data, .data], laidTests := true, laidLooks := .later }
def ItemReadsUptoCardSaid : Prop := Claim7.holds Tryz.pinned (.plain (OpenSpec.upto itemReadsSpec)) itemReadsUptoCard

/-- THE SECOND FORM's CARD OF 'agoralaw13.ItemBinds'. -/
def itemBindsUptoCard : Claim7 := { stood := { row := itemBindsUptoRow, standIns := [], harness := (true, "9e46b0cbbdee85f865fa071e0dc26cc257bde45c98344332131402a2dc9e716f"), looks := false }, kinds := [], alts := [], laidByText := true, laidKinds := [.data, .data], laidTests := true, laidLooks := .later }
def ItemBindsUptoCardSaid : Prop := Claim7.holds Tryz.pinned (.plain (OpenSpec.upto itemBindsSpec)) itemBindsUptoCard

/-- THE SECOND FORM's CARD OF 'agoralaw13.ItemFields'. -/
def itemFieldsUptoCard : Claim7 := { stood := { row := itemFieldsUptoRow, standIns := [], harness := (true, "9e46b0cbbdee85f865fa071e0dc26cc257bde45c98344332131402a2dc9e716f"), looks := false }, kinds := [], alts := [], laidByText := true, laidKinds := [.data, .data], laidTests := true, laidLooks := .later }
def ItemFieldsUptoCardSaid : Prop := Claim7.holds Tryz.pinned (.plain (OpenSpec.upto itemFieldsSpec)) itemFieldsUptoCard

/-- THE SECOND FORM's CARD OF 'agoralaw13.ItemEntries'. -/
def itemEntriesUptoCard : Claim7 := { stood := { row := itemEntriesUptoRow, standIns := [], harness := (true, "9e46b0cbbdee85f865fa071e0dc26cc257bde45c98344332131402a2dc9e716f"), looks := false }, kinds := [], alts := [], laidByText := true, laidKinds := [.data, .data], laidTests := true, laidLooks := .later }
def ItemEntriesUptoCardSaid : Prop := Claim7.holds Tryz.pinned (.plain (OpenSpec.upto itemEntriesSpec)) itemEntriesUptoCard

/-- THE SECOND FORM's CARD OF 'agoralaw13.ItemTells'. -/
def itemTellsUptoCard : Claim7 := { stood := { row := itemTellsUptoRow, standIns := [], harness := (true, "9e46b0cbbdee85f865fa071e0dc26cc257bde45c98344332131402a2dc9e716f"), looks := false }, kinds := [], alts := [], laidByText := true, laidKinds := [.data, .data], laidTests := true, laidLooks := .later }
def ItemTellsUptoCardSaid : Prop := Claim7.holds Tryz.pinned (.plain (OpenSpec.upto itemTellsSpec)) itemTellsUptoCard
end Rows
end Go.Proofs.YtnjjldhcpiehkaaGreatDoor
