/-
  DERIVED. GIVEN WITH THE SEED: THE CARDS: each row of YtlefikdjhnaapaaGreatDoorRows.lean that lists a variable, with what it lists TIED to the program's text (the seventh form; the later family's looks); each row that meets fmt, with fmt's text TOLD by the authors' own Lean function (tested against real Go, not proved from fmt's source: count such statements apart). THE CARD IS WHAT COUNTS. Prove the row's statement (the work); the ties are given (YtlefikdjhnaapaaGreatDoorTie.lean); close each card by the builder's one call (the guide's Derived/Test/ToyasCard.lean, 'card_holds'). Laid BY PROGRAM, IN A SANDBOX (cutbox-door.mjs). By AI agents, Wed Nov 11 2026. No macro, syntax, notation, axiom, sorry.
-/
import Derived.Test.YtlefikdjhnaapaaGreatDoorRows
import GoSem.ClaimSeven
namespace Go.Proofs.YtlefikdjhnaapaaGreatDoor
namespace Rows

/-- THE TIED CARD OF 'agoralaw15.SlogRuns'. -/
def slogRunsCard : Claim7 := { stood := { row := slogRunsRow, standIns := [], harness := (true, "74d2899e5c0e37dca97807e42e99146831e11a34750099259fd197bc85c749af"), looks := false }, kinds := [], alts := [], laidByText := true, laidKinds := [.data, .data], laidTests := true, laidLooks := .later }
def SlogRunsCardSaid : Prop := Claim7.holds Tryz.pinned (.plain (OpenSpec.ofChange slogRunsSpec)) slogRunsCard

/-- THE TIED CARD OF 'agoralaw15.SlogOnce'. -/
def slogOnceCard : Claim7 := { stood := { row := slogOnceRow, standIns := [], harness := (true, "74d2899e5c0e37dca97807e42e99146831e11a34750099259fd197bc85c749af"), looks := false }, kinds := [], alts := [], laidByText := true, laidKinds := [.data, .data], laidTests := true, laidLooks := .later }
def SlogOnceCardSaid : Prop := Claim7.holds Tryz.pinned (.plain (OpenSpec.ofChange slogOnceSpec)) slogOnceCard

/-- THE TIED CARD OF 'agoralaw15.SlogTells'. -/
def slogTellsCard : Claim7 := { stood := { row := slogTellsRow, standIns := [], harness := (true, "74d2899e5c0e37dca97807e42e99146831e11a34750099259fd197bc85c749af"), looks := false }, kinds := [], alts := [], laidByText := true, laidKinds := [.data, .data], laidTests := true, laidLooks := .later }
def SlogTellsCardSaid : Prop := Claim7.holds Tryz.pinned (.plain (OpenSpec.ofChange slogTellsSpec)) slogTellsCard

/-- THE TIED CARD OF 'agoralaw15.SlogHeads'. -/
def slogHeadsCard : Claim7 := { stood := { row := slogHeadsRow, standIns := [], harness := (true, "74d2899e5c0e37dca97807e42e99146831e11a34750099259fd197bc85c749af"), looks := false }, kinds := [], alts := [], laidByText := true, laidKinds := [.data, .data], laidTests := true, laidLooks := .later }
def SlogHeadsCardSaid : Prop := Claim7.holds Tryz.pinned (.plain (OpenSpec.ofChange slogHeadsSpec)) slogHeadsCard

/-- THE TIED CARD OF 'agoralaw15.SlogProves'. -/
def slogProvesCard : Claim7 := { stood := { row := slogProvesRow, standIns := [], harness := (true, "74d2899e5c0e37dca97807e42e99146831e11a34750099259fd197bc85c749af"), looks := false }, kinds := [], alts := [], laidByText := true, laidKinds := [.data, .data], laidTests := true, laidLooks := .later }
def SlogProvesCardSaid : Prop := Claim7.holds Tryz.pinned (.plain (OpenSpec.ofChange slogProvesSpec)) slogProvesCard

/-- THE TIED CARD OF 'agoralaw15.SlogExtends'. -/
def slogExtendsCard : Claim7 := { stood := { row := slogExtendsRow, standIns := [], harness := (true, "74d2899e5c0e37dca97807e42e99146831e11a34750099259fd197bc85c749af"), looks := false }, kinds := [], alts := [], laidByText := true, laidKinds := [.data, .data], laidTests := true, laidLooks := .later }
def SlogExtendsCardSaid : Prop := Claim7.holds Tryz.pinned (.plain (OpenSpec.ofChange slogExtendsSpec)) slogExtendsCard

/-- THE SECOND FORM's CARD OF 'agoralaw15.SlogRuns'. -/
def slogRunsUptoCard : Claim7 := { stood := { row := slogRunsUptoRow, standIns := [], harness := (true, "74d2899e5c0e37dca97807e42e99146831e11a34750099259fd197bc85c749af"), looks := false }, kinds := [], alts := [], laidByText := true, laidKinds := [.data, .data], laidTests := true, laidLooks := .later }
def SlogRunsUptoCardSaid : Prop := Claim7.holds Tryz.pinned (.plain (OpenSpec.upto slogRunsSpec)) slogRunsUptoCard

/-- THE SECOND FORM's CARD OF 'agoralaw15.SlogOnce'. -/
def slogOnceUptoCard : Claim7 := { stood := { row := slogOnceUptoRow, standIns := [], harness := (true, "74d2899e5c0e37dca97807e42e99146831e11a34750099259fd197bc85c749af"), looks := false }, kinds := [], alts := [], laidByText := true, laidKinds := [.data, .data], laidTests := true, laidLooks := .later }
def SlogOnceUptoCardSaid : Prop := Claim7.holds Tryz.pinned (.plain (OpenSpec.upto slogOnceSpec)) slogOnceUptoCard

/-- THE SECOND FORM's CARD OF 'agoralaw15.SlogTells'. -/
def slogTellsUptoCard : Claim7 := { stood := { row := slogTellsUptoRow, standIns := [], harness := (true, "74d2899e5c0e37dca97807e42e99146831e11a34750099259fd197bc85c749af"), looks := false }, kinds := [], alts := [], laidByText := true, laidKinds := [.data, .data], laidTests := true, laidLooks := .later }
def SlogTellsUptoCardSaid : Prop := Claim7.holds Tryz.pinned (.plain (OpenSpec.upto slogTellsSpec)) slogTellsUptoCard

/-- THE SECOND FORM's CARD OF 'agoralaw15.SlogHeads'. -/
def slogHeadsUptoCard : Claim7 := { stood := { row := slogHeadsUptoRow, standIns := [], harness := (true, "74d2899e5c0e37dca97807e42e99146831e11a34750099259fd197bc85c749af"), looks := false }, kinds := [], alts := [], laidByText := true, laidKinds := [.data, .data], laidTests := true, laidLooks := .later }
def SlogHeadsUptoCardSaid : Prop := Claim7.holds Tryz.pinned (.plain (OpenSpec.upto slogHeadsSpec)) slogHeadsUptoCard

/-- THE SECOND FORM's CARD OF 'agoralaw15.SlogProves'. -/
def slogProvesUptoCard : Claim7 := { stood := { row := slogProvesUptoRow, standIns := [], harness := (true, "74d2899e5c0e37dca97807e42e99146831e11a34750099259fd197bc85c749af"), looks := false }, kinds := [], alts := [], laidByText := true, laidKinds := [.data, .data], laidTests := true, laidLooks := .later }
def SlogProvesUptoCardSaid : Prop := Claim7.holds Tryz.pinned (.plain (OpenSpec.upto slogProvesSpec)) slogProvesUptoCard

/-- THE SECOND FORM's CARD OF 'agoralaw15.SlogExtends'. -/
def slogExtendsUptoCard : Claim7 := { stood := { row := slogExtendsUptoRow, standIns := [], harness := (true, "74d2899e5c0e37dca97807e42e99146831e11a34750099259fd197bc85c749af"), looks := false }, kinds := [], alts := [], laidByText := true, laidKinds := [.data, .data], laidTests := true, laidLooks := .later }
def SlogExtendsUptoCardSaid : Prop := Claim7.holds Tryz.pinned (.plain (OpenSpec.upto slogExtendsSpec)) slogExtendsUptoCard
end Rows
end Go.Proofs.YtlefikdjhnaapaaGreatDoor
