/-
  DERIVED. GIVEN WITH THE SEED: THE CARDS: each row of YthbpbkbjdfcnjaaGreatDoorRows.lean that lists a variable, with what it lists TIED to the program's text (the seventh form; the later family's looks); each row that meets fmt, with fmt's text TOLD by the authors' own Lean function (tested against real Go, not proved from fmt's source: count such statements apart). THE CARD IS WHAT COUNTS. Prove the row's statement (the work); the ties are given (YthbpbkbjdfcnjaaGreatDoorTie.lean); close each card by the builder's one call (the guide's Derived/Test/ToyasCard.lean, 'card_holds'). Laid BY PROGRAM, IN A SANDBOX (cutbox-door.mjs). By AI agents, Wed Nov 11 2026. No macro, syntax, notation, axiom, sorry.
-/
import Derived.Test.YthbpbkbjdfcnjaaGreatDoorRows
import GoSem.ClaimSeven
namespace Go.Proofs.YthbpbkbjdfcnjaaGreatDoor
namespace Rows

/-- THE TIED CARD OF 'agoralaw16.MirrorGrows'. -/
def mirrorGrowsCard : Claim7 := { stood := { row := mirrorGrowsRow, standIns := [], harness := (true, "dbb473ab7ac7f433c903fa59bea43d052defa19c7c1df2dab3e6dc34c0b02dc8"), looks := false }, kinds := [], alts := [], laidByText := true, laidKinds := [.data, .data], laidTests := true, laidLooks := .later }
def MirrorGrowsCardSaid : Prop := Claim7.holds Tryz.pinned (.plain (OpenSpec.ofChange mirrorGrowsSpec)) mirrorGrowsCard

/-- THE TIED CARD OF 'agoralaw16.MirrorForks'. -/
def mirrorForksCard : Claim7 := { stood := { row := mirrorForksRow, standIns := [], harness := (true, "dbb473ab7ac7f433c903fa59bea43d052defa19c7c1df2dab3e6dc34c0b02dc8"), looks := false }, kinds := [], alts := [], laidByText := true, laidKinds := [.data, .data], laidTests := true, laidLooks := .later }
def MirrorForksCardSaid : Prop := Claim7.holds Tryz.pinned (.plain (OpenSpec.ofChange mirrorForksSpec)) mirrorForksCard

/-- THE TIED CARD OF 'agoralaw16.MirrorRefuses'. -/
def mirrorRefusesCard : Claim7 := { stood := { row := mirrorRefusesRow, standIns := [], harness := (true, "dbb473ab7ac7f433c903fa59bea43d052defa19c7c1df2dab3e6dc34c0b02dc8"), looks := false }, kinds := [], alts := [], laidByText := true, laidKinds := [.data, .data], laidTests := true, laidLooks := .later }
def MirrorRefusesCardSaid : Prop := Claim7.holds Tryz.pinned (.plain (OpenSpec.ofChange mirrorRefusesSpec)) mirrorRefusesCard

/-- THE TIED CARD OF 'agoralaw17.ForkCodes'. -/
def forkCodesCard : Claim7 := { stood := { row := forkCodesRow, standIns := [], harness := (true, "dbb473ab7ac7f433c903fa59bea43d052defa19c7c1df2dab3e6dc34c0b02dc8"), looks := false }, kinds := [], alts := [], laidByText := true, laidKinds := [.data, .data], laidTests := true, laidLooks := .later }
def ForkCodesCardSaid : Prop := Claim7.holds Tryz.pinned (.plain (OpenSpec.ofChange forkCodesSpec)) forkCodesCard

/-- THE TIED CARD OF 'agoralaw17.ForkProves'. -/
def forkProvesCard : Claim7 := { stood := { row := forkProvesRow, standIns := [], harness := (true, "dbb473ab7ac7f433c903fa59bea43d052defa19c7c1df2dab3e6dc34c0b02dc8"), looks := false }, kinds := [], alts := [], laidByText := true, laidKinds := [.data, .data], laidTests := true, laidLooks := .later }
def ForkProvesCardSaid : Prop := Claim7.holds Tryz.pinned (.plain (OpenSpec.ofChange forkProvesSpec)) forkProvesCard

/-- THE TIED CARD OF 'agoralaw17.ForkHonest'. -/
def forkHonestCard : Claim7 := { stood := { row := forkHonestRow, standIns := [], harness := (true, "dbb473ab7ac7f433c903fa59bea43d052defa19c7c1df2dab3e6dc34c0b02dc8"), looks := false }, kinds := [], alts := [], laidByText := true, laidKinds := [.data, .data], laidTests := true, laidLooks := .later }
def ForkHonestCardSaid : Prop := Claim7.holds Tryz.pinned (.plain (OpenSpec.ofChange forkHonestSpec)) forkHonestCard

/-- THE TIED CARD OF 'agoralaw17.ForkFinds'. -/
def forkFindsCard : Claim7 := { stood := { row := forkFindsRow, standIns := [], harness := (true, "dbb473ab7ac7f433c903fa59bea43d052defa19c7c1df2dab3e6dc34c0b02dc8"), looks := false }, kinds := [], alts := [], laidByText := true, laidKinds := [.data, .data], laidTests := true, laidLooks := .later }
def ForkFindsCardSaid : Prop := Claim7.holds Tryz.pinned (.plain (OpenSpec.ofChange forkFindsSpec)) forkFindsCard

/-- THE TIED CARD OF 'agoralaw17.ForkGrows'. -/
def forkGrowsCard : Claim7 := { stood := { row := forkGrowsRow, standIns := [], harness := (true, "dbb473ab7ac7f433c903fa59bea43d052defa19c7c1df2dab3e6dc34c0b02dc8"), looks := false }, kinds := [], alts := [], laidByText := true, laidKinds := [.data, .data], laidTests := true, laidLooks := .later }
def ForkGrowsCardSaid : Prop := Claim7.holds Tryz.pinned (.plain (OpenSpec.ofChange forkGrowsSpec)) forkGrowsCard

/-- THE SECOND FORM's CARD OF 'agoralaw16.MirrorGrows'. -/
def mirrorGrowsUptoCard : Claim7 := { stood := { row := mirrorGrowsUptoRow, standIns := [], harness := (true, "dbb473ab7ac7f433c903fa59bea43d052defa19c7c1df2dab3e6dc34c0b02dc8"), looks := false }, kinds := [], alts := [], laidByText := true, laidKinds := [.data, .data], laidTests := true, laidLooks := .later }
def MirrorGrowsUptoCardSaid : Prop := Claim7.holds Tryz.pinned (.plain (OpenSpec.upto mirrorGrowsSpec)) mirrorGrowsUptoCard

/-- THE SECOND FORM's CARD OF 'agoralaw16.MirrorForks'. -/
def mirrorForksUptoCard : Claim7 := { stood := { row := mirrorForksUptoRow, standIns := [], harness := (true, "dbb473ab7ac7f433c903fa59bea43d052defa19c7c1df2dab3e6dc34c0b02dc8"), looks := false }, kinds := [], alts := [], laidByText := true, laidKinds := [.data, .data], laidTests := true, laidLooks := .later }
def MirrorForksUptoCardSaid : Prop := Claim7.holds Tryz.pinned (.plain (OpenSpec.upto mirrorForksSpec)) mirrorForksUptoCard

/-- THE SECOND FORM's CARD OF 'agoralaw16.MirrorRefuses'. -/
def mirrorRefusesUptoCard : Claim7 := { stood := { row := mirrorRefusesUptoRow, standIns := [], harness := (true, "dbb473ab7ac7f433c903fa59bea43d052defa19c7c1df2dab3e6dc34c0b02dc8"), looks := false }, kinds := [], alts := [], laidByText := true, laidKinds := [.data, .data], laidTests := true, laidLooks := .later }
def MirrorRefusesUptoCardSaid : Prop := Claim7.holds Tryz.pinned (.plain (OpenSpec.upto mirrorRefusesSpec)) mirrorRefusesUptoCard

/-- THE SECOND FORM's CARD OF 'agoralaw17.ForkCodes'. -/
def forkCodesUptoCard : Claim7 := { stood := { row := forkCodesUptoRow, standIns := [], harness := (true, "dbb473ab7ac7f433c903fa59bea43d052defa19c7c1df2dab3e6dc34c0b02dc8"), looks := false }, kinds := [], alts := [], laidByText := true, laidKinds := [.data, .data], laidTests := true, laidLooks := .later }
def ForkCodesUptoCardSaid : Prop := Claim7.holds Tryz.pinned (.plain (OpenSpec.upto forkCodesSpec)) forkCodesUptoCard

/-- THE SECOND FORM's CARD OF 'agoralaw17.ForkProves'. -/
def forkProvesUptoCard : Claim7 := { stood := { row := forkProvesUptoRow, standIns := [], harness := (true, "dbb473ab7ac7f433c903fa59bea43d052defa19c7c1df2dab3e6dc34c0b02dc8"), looks := false }, kinds := [], alts := [], laidByText := true, laidKinds := [.data, .data], laidTests := true, laidLooks := .later }
def ForkProvesUptoCardSaid : Prop := Claim7.holds Tryz.pinned (.plain (OpenSpec.upto forkProvesSpec)) forkProvesUptoCard

/-- THE SECOND FORM's CARD OF 'agoralaw17.ForkHonest'. -/
def forkHonestUptoCard : Claim7 := { stood := { row := forkHonestUptoRow, standIns := [], harness := (true, "dbb473ab7ac7f433c903fa59bea43d052defa19c7c1df2dab3e6dc34c0b02dc8"), looks := false }, kinds := [], alts := [], laidByText := true, laidKinds := [.data, .data], laidTests := true, laidLooks := .later }
def ForkHonestUptoCardSaid : Prop := Claim7.holds Tryz.pinned (.plain (OpenSpec.upto forkHonestSpec)) forkHonestUptoCard

/-- THE SECOND FORM's CARD OF 'agoralaw17.ForkFinds'. -/
def forkFindsUptoCard : Claim7 := { stood := { row := forkFindsUptoRow, standIns := [], harness := (true, "dbb473ab7ac7f433c903fa59bea43d052defa19c7c1df2dab3e6dc34c0b02dc8"), looks := false }, kinds := [], alts := [], laidByText := true, laidKinds := [.data, .data], laidTests := true, laidLooks := .later }
def ForkFindsUptoCardSaid : Prop := Claim7.holds Tryz.pinned (.plain (OpenSpec.upto forkFindsSpec)) forkFindsUptoCard

/-- THE SECOND FORM's CARD OF 'agoralaw17.ForkGrows'. -/
def forkGrowsUptoCard : Claim7 := { stood := { row := forkGrowsUptoRow, standIns := [], harness := (true, "dbb473ab7ac7f433c903fa59bea43d052defa19c7c1df2dab3e6dc34c0b02dc8"), looks := false }, kinds := [], alts := [], laidByText := true, laidKinds := [.data, .data], laidTests := true, laidLooks := .later }
def ForkGrowsUptoCardSaid : Prop := Claim7.holds Tryz.pinned (.plain (OpenSpec.upto forkGrowsSpec)) forkGrowsUptoCard
end Rows
end Go.Proofs.YthbpbkbjdfcnjaaGreatDoor
