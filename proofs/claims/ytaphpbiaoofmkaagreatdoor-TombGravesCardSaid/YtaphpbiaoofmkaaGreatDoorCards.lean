/-
  DERIVED. GIVEN WITH THE SEED: THE CARDS: each row of YtaphpbiaoofmkaaGreatDoorRows.lean that lists a variable, with what it lists TIED to the program's text (the seventh form; the later family's looks); each row that meets fmt, with fmt's text TOLD by the authors' own Lean function (tested against real Go, not proved from fmt's source: count such statements apart). THE CARD IS WHAT COUNTS. Prove the row's statement (the work); the ties are given (YtaphpbiaoofmkaaGreatDoorTie.lean); close each card by the builder's one call (the guide's Derived/Test/ToyasCard.lean, 'card_holds'). Laid BY PROGRAM, IN A SANDBOX (cutbox-door.mjs). By AI agents, Wed Nov 11 2026. No macro, syntax, notation, axiom, sorry.
-/
import Derived.Test.YtaphpbiaoofmkaaGreatDoorRows
import GoSem.ClaimSeven
namespace Go.Proofs.YtaphpbiaoofmkaaGreatDoor
namespace Rows

/-- THE TIED CARD OF 'agoralaw12.ActTells'. -/
def actTellsCard : Claim7 := { stood := { row := actTellsRow, standIns := [], harness := (true, "713846bf5f2c5d311a5441373f51f8c9ae39f2d0a8f50cb88f8546fc9ab6a348"), looks := false }, kinds := [], alts := [], laidByText := true, laidKinds := [.data, .data], laidTests := true, laidLooks := .later }
def ActTellsCardSaid : Prop := Claim7.holds Tryz.pinned (.plain (OpenSpec.ofChange actTellsSpec)) actTellsCard

/-- THE TIED CARD OF 'agoralaw13.ItemTells'. -/
def itemTellsCard : Claim7 := { stood := { row := itemTellsRow, standIns := [], harness := (true, "713846bf5f2c5d311a5441373f51f8c9ae39f2d0a8f50cb88f8546fc9ab6a348"), looks := false }, kinds := [], alts := [], laidByText := true, laidKinds := [.data, .data], laidTests := true, laidLooks := .later }
def ItemTellsCardSaid : Prop := Claim7.holds Tryz.pinned (.plain (OpenSpec.ofChange itemTellsSpec)) itemTellsCard

/-- THE TIED CARD OF 'agoralaw29.TombReceipts'. -/
def tombReceiptsCard : Claim7 := { stood := { row := tombReceiptsRow, standIns := [], harness := (true, "713846bf5f2c5d311a5441373f51f8c9ae39f2d0a8f50cb88f8546fc9ab6a348"), looks := false }, kinds := [], alts := [], laidByText := true, laidKinds := [.data, .data], laidTests := true, laidLooks := .later }
def TombReceiptsCardSaid : Prop := Claim7.holds Tryz.pinned (.plain (OpenSpec.ofChange tombReceiptsSpec)) tombReceiptsCard

/-- THE TIED CARD OF 'agoralaw29.TombGraves'. -/
def tombGravesCard : Claim7 := { stood := { row := tombGravesRow, standIns := [], harness := (true, "713846bf5f2c5d311a5441373f51f8c9ae39f2d0a8f50cb88f8546fc9ab6a348"), looks := false }, kinds := [], alts := [], laidByText := true, laidKinds := [.data, .data], laidTests := true, laidLooks := .later }
def TombGravesCardSaid : Prop := Claim7.holds Tryz.pinned (.plain (OpenSpec.ofChange tombGravesSpec)) tombGravesCard

/-- THE TIED CARD OF 'agoralaw29.TombProves'. -/
def tombProvesCard : Claim7 := { stood := { row := tombProvesRow, standIns := [], harness := (true, "713846bf5f2c5d311a5441373f51f8c9ae39f2d0a8f50cb88f8546fc9ab6a348"), looks := false }, kinds := [], alts := [], laidByText := true, laidKinds := [.data, .data], laidTests := true, laidLooks := .later }
def TombProvesCardSaid : Prop := Claim7.holds Tryz.pinned (.plain (OpenSpec.ofChange tombProvesSpec)) tombProvesCard

/-- THE TIED CARD OF 'agoralaw29.TombBinds'. -/
def tombBindsCard : Claim7 := { stood := { row := tombBindsRow, standIns := [], harness := (true, "713846bf5f2c5d311a5441373f51f8c9ae39f2d0a8f50cb88f8546fc9ab6a348"), looks := false }, kinds := [], alts := [], laidByText := true, laidKinds := [.data, .data], laidTests := true, laidLooks := .later }
def TombBindsCardSaid : Prop := Claim7.holds Tryz.pinned (.plain (OpenSpec.ofChange tombBindsSpec)) tombBindsCard

/-- THE TIED CARD OF 'agoralaw29.TombGrows'. -/
def tombGrowsCard : Claim7 := { stood := { row := tombGrowsRow, standIns := [], harness := (true, "713846bf5f2c5d311a5441373f51f8c9ae39f2d0a8f50cb88f8546fc9ab6a348"), looks := false }, kinds := [], alts := [], laidByText := true, laidKinds := [.data, .data], laidTests := true, laidLooks := .later }
def TombGrowsCardSaid : Prop := Claim7.holds Tryz.pinned (.plain (OpenSpec.ofChange tombGrowsSpec)) tombGrowsCard

/-- THE SECOND FORM's CARD OF 'agoralaw12.ActTells'. -/
def actTellsUptoCard : Claim7 := { stood := { row := actTellsUptoRow, standIns := [], harness := (true, "713846bf5f2c5d311a5441373f51f8c9ae39f2d0a8f50cb88f8546fc9ab6a348"), looks := false }, kinds := [], alts := [], laidByText := true, laidKinds := [.data, .data], laidTests := true, laidLooks := .later }
def ActTellsUptoCardSaid : Prop := Claim7.holds Tryz.pinned (.plain (OpenSpec.upto actTellsSpec)) actTellsUptoCard

/-- THE SECOND FORM's CARD OF 'agoralaw13.ItemTells'. -/
def itemTellsUptoCard : Claim7 := { stood := { row := itemTellsUptoRow, standIns := [], harness := (true, "713846bf5f2c5d311a5441373f51f8c9ae39f2d0a8f50cb88f8546fc9ab6a348"), looks := false }, kinds := [], alts := [], laidByText := true, laidKinds := [.data, .data], laidTests := true, laidLooks := .later }
def ItemTellsUptoCardSaid : Prop := Claim7.holds Tryz.pinned (.plain (OpenSpec.upto itemTellsSpec)) itemTellsUptoCard

/-- THE SECOND FORM's CARD OF 'agoralaw29.TombReceipts'. -/
def tombReceiptsUptoCard : Claim7 := { stood := { row := tombReceiptsUptoRow, standIns := [], harness := (true, "713846bf5f2c5d311a5441373f51f8c9ae39f2d0a8f50cb88f8546fc9ab6a348"), looks := false }, kinds := [], alts := [], laidByText := true, laidKinds := [.data, .data], laidTests := true, laidLooks := .later }
def TombReceiptsUptoCardSaid : Prop := Claim7.holds Tryz.pinned (.plain (OpenSpec.upto tombReceiptsSpec)) tombReceiptsUptoCard

/-- THE SECOND FORM's CARD OF 'agoralaw29.TombGraves'. -/
def tombGravesUptoCard : Claim7 := { stood := { row := tombGravesUptoRow, standIns := [], harness := (true, "713846bf5f2c5d311a5441373f51f8c9ae39f2d0a8f50cb88f8546fc9ab6a348"), looks := false }, kinds := [], alts := [], laidByText := true, laidKinds := [.data, .data], laidTests := true, laidLooks := .later }
def TombGravesUptoCardSaid : Prop := Claim7.holds Tryz.pinned (.plain (OpenSpec.upto tombGravesSpec)) tombGravesUptoCard

/-- THE SECOND FORM's CARD OF 'agoralaw29.TombProves'. -/
def tombProvesUptoCard : Claim7 := { stood := { row := tombProvesUptoRow, standIns := [], harness := (true, "713846bf5f2c5d311a5441373f51f8c9ae39f2d0a8f50cb88f8546fc9ab6a348"), looks := false }, kinds := [], alts := [], laidByText := true, laidKinds := [.data, .data], laidTests := true, laidLooks := .later }
def TombProvesUptoCardSaid : Prop := Claim7.holds Tryz.pinned (.plain (OpenSpec.upto tombProvesSpec)) tombProvesUptoCard

/-- THE SECOND FORM's CARD OF 'agoralaw29.TombBinds'. -/
def tombBindsUptoCard : Claim7 := { stood := { row := tombBindsUptoRow, standIns := [], harness := (true, "713846bf5f2c5d311a5441373f51f8c9ae39f2d0a8f50cb88f8546fc9ab6a348"), looks := false }, kinds := [], alts := [], laidByText := true, laidKinds := [.data, .data], laidTests := true, laidLooks := .later }
def TombBindsUptoCardSaid : Prop := Claim7.holds Tryz.pinned (.plain (OpenSpec.upto tombBindsSpec)) tombBindsUptoCard

/-- THE SECOND FORM's CARD OF 'agoralaw29.TombGrows'. -/
def tombGrowsUptoCard : Claim7 := { stood := { row := tombGrowsUptoRow, standIns := [], harness := (true, "713846bf5f2c5d311a5441373f51f8c9ae39f2d0a8f50cb88f8546fc9ab6a348"), looks := false }, kinds := [], alts := [], laidByText := true, laidKinds := [.data, .data], laidTests := true, laidLooks := .later }
def TombGrowsUptoCardSaid : Prop := Claim7.holds Tryz.pinned (.plain (OpenSpec.upto tombGrowsSpec)) tombGrowsUptoCard
end Rows
end Go.Proofs.YtaphpbiaoofmkaaGreatDoor
