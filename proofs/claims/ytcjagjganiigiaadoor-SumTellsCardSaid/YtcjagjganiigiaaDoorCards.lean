/-
  DERIVED. GIVEN WITH THE SEED: THE CARDS: each row of YtcjagjganiigiaaDoorRows.lean that lists a variable, with what it lists TIED to the program's text (the seventh form; the later family's looks); each row that meets fmt, with fmt's text TOLD by the authors' own Lean function (tested against real Go, not proved from fmt's source: count such statements apart). THE CARD IS WHAT COUNTS. Prove the row's statement (the work); the ties are given (YtcjagjganiigiaaDoorTie.lean); close each card by the builder's one call (the guide's Derived/Test/ToyasCard.lean, 'card_holds'). Laid BY PROGRAM, IN A SANDBOX (cutbox-door.mjs). By AI agents, Wed Nov 11 2026. No macro, syntax, notation, axiom, sorry.
-/
import Derived.Test.YtcjagjganiigiaaDoorRows
import GoSem.ClaimSeven
namespace Go.Proofs.YtcjagjganiigiaaDoor
namespace Rows

/-- THE TIED CARD OF 'agoralaw03.SumTells'. -/
def sumTellsCard : Claim7 := { stood := { row := sumTellsRow, standIns := [], harness := (true, "3de30b6d11b0c2a9e4a3712486f4e5eaf19a04752b627748c58696677610c75c"), looks := false }, kinds := [], alts := [], laidByText := true, laidKinds := [.data, .data], laidTests := true, laidLooks := .later }
def SumTellsCardSaid : Prop := Claim7.holds Tryd.pinned (.plain (OpenSpec.ofChange sumTellsSpec)) sumTellsCard

/-- THE TIED CARD OF 'agoralaw03.SumHexes'. -/
def sumHexesCard : Claim7 := { stood := { row := sumHexesRow, standIns := [], harness := (true, "3de30b6d11b0c2a9e4a3712486f4e5eaf19a04752b627748c58696677610c75c"), looks := false }, kinds := [], alts := [], laidByText := true, laidKinds := [.data, .data], laidTests := true, laidLooks := .later }
def SumHexesCardSaid : Prop := Claim7.holds Tryd.pinned (.plain (OpenSpec.ofChange sumHexesSpec)) sumHexesCard

/-- THE TIED CARD OF 'agoralaw03.SumDetects'. -/
def sumDetectsCard : Claim7 := { stood := { row := sumDetectsRow, standIns := [], harness := (true, "3de30b6d11b0c2a9e4a3712486f4e5eaf19a04752b627748c58696677610c75c"), looks := false }, kinds := [], alts := [], laidByText := true, laidKinds := [.data, .data], laidTests := true, laidLooks := .later }
def SumDetectsCardSaid : Prop := Claim7.holds Tryd.pinned (.plain (OpenSpec.ofChange sumDetectsSpec)) sumDetectsCard

/-- THE TIED CARD OF 'agoralaw03.SumResidue'. -/
def sumResidueCard : Claim7 := { stood := { row := sumResidueRow, standIns := [], harness := (true, "3de30b6d11b0c2a9e4a3712486f4e5eaf19a04752b627748c58696677610c75c"), looks := false }, kinds := [], alts := [], laidByText := true, laidKinds := [.data, .data], laidTests := true, laidLooks := .later }
def SumResidueCardSaid : Prop := Claim7.holds Tryd.pinned (.plain (OpenSpec.ofChange sumResidueSpec)) sumResidueCard

/-- THE TIED CARD OF 'agoralaw03.SumXors'. -/
def sumXorsCard : Claim7 := { stood := { row := sumXorsRow, standIns := [], harness := (true, "3de30b6d11b0c2a9e4a3712486f4e5eaf19a04752b627748c58696677610c75c"), looks := false }, kinds := [], alts := [], laidByText := true, laidKinds := [.data, .data], laidTests := true, laidLooks := .later }
def SumXorsCardSaid : Prop := Claim7.holds Tryd.pinned (.plain (OpenSpec.ofChange sumXorsSpec)) sumXorsCard

/-- THE TIED CARD OF 'agoralaw03.SumNumbers'. -/
def sumNumbersCard : Claim7 := { stood := { row := sumNumbersRow, standIns := [], harness := (true, "3de30b6d11b0c2a9e4a3712486f4e5eaf19a04752b627748c58696677610c75c"), looks := false }, kinds := [], alts := [], laidByText := true, laidKinds := [.data, .data], laidTests := true, laidLooks := .later }
def SumNumbersCardSaid : Prop := Claim7.holds Tryd.pinned (.plain (OpenSpec.ofChange sumNumbersSpec)) sumNumbersCard

/-- THE SECOND FORM's CARD OF 'agoralaw03.SumTells'. -/
def sumTellsUptoCard : Claim7 := { stood := { row := sumTellsUptoRow, standIns := [], harness := (true, "3de30b6d11b0c2a9e4a3712486f4e5eaf19a04752b627748c58696677610c75c"), looks := false }, kinds := [], alts := [], laidByText := true, laidKinds := [.data, .data], laidTests := true, laidLooks := .later }
def SumTellsUptoCardSaid : Prop := Claim7.holds Tryd.pinned (.plain (OpenSpec.upto sumTellsSpec)) sumTellsUptoCard

/-- THE SECOND FORM's CARD OF 'agoralaw03.SumHexes'. -/
def sumHexesUptoCard : Claim7 := { stood := { row := sumHexesUptoRow, standIns := [], harness := (true, "3de30b6d11b0c2a9e4a3712486f4e5eaf19a04752b627748c58696677610c75c"), looks := false }, kinds := [], alts := [], laidByText := true, laidKinds := [.data, .data], laidTests := true, laidLooks := .later }
def SumHexesUptoCardSaid : Prop := Claim7.holds Tryd.pinned (.plain (OpenSpec.upto sumHexesSpec)) sumHexesUptoCard

/-- THE SECOND FORM's CARD OF 'agoralaw03.SumDetects'. -/
def sumDetectsUptoCard : Claim7 := { stood := { row := sumDetectsUptoRow, standIns := [], harness := (true, "3de30b6d11b0c2a9e4a3712486f4e5eaf19a04752b627748c58696677610c75c"), looks := false }, kinds := [], alts := [], laidByText := true, laidKinds := [.data, .data], laidTests := true, laidLooks := .later }
def SumDetectsUptoCardSaid : Prop := Claim7.holds Tryd.pinned (.plain (OpenSpec.upto sumDetectsSpec)) sumDetectsUptoCard

/-- THE SECOND FORM's CARD OF 'agoralaw03.SumResidue'. -/
def sumResidueUptoCard : Claim7 := { stood := { row := sumResidueUptoRow, standIns := [], harness := (true, "3de30b6d11b0c2a9e4a3712486f4e5eaf19a04752b627748c58696677610c75c"), looks := false }, kinds := [], alts := [], laidByText := true, laidKinds := [.data, .data], laidTests := true, laidLooks := .later }
def SumResidueUptoCardSaid : Prop := Claim7.holds Tryd.pinned (.plain (OpenSpec.upto sumResidueSpec)) sumResidueUptoCard

/-- THE SECOND FORM's CARD OF 'agoralaw03.SumXors'. -/
def sumXorsUptoCard : Claim7 := { stood := { row := sumXorsUptoRow, standIns := [], harness := (true, "3de30b6d11b0c2a9e4a3712486f4e5eaf19a04752b627748c58696677610c75c"), looks := false }, kinds := [], alts := [], laidByText := true, laidKinds := [.data, .data], laidTests := true, laidLooks := .later }
def SumXorsUptoCardSaid : Prop := Claim7.holds Tryd.pinned (.plain (OpenSpec.upto sumXorsSpec)) sumXorsUptoCard

/-- THE SECOND FORM's CARD OF 'agoralaw03.SumNumbers'. -/
def sumNumbersUptoCard : Claim7 := { stood := { row := sumNumbersUptoRow, standIns := [], harness := (true, "3de30b6d11b0c2a9e4a3712486f4e5eaf19a04752b627748c58696677610c75c"), looks := false }, kinds := [], alts := [], laidByText := true, laidKinds := [.data, .data], laidTests := true, laidLooks := .later }
def SumNumbersUptoCardSaid : Prop := Claim7.holds Tryd.pinned (.plain (OpenSpec.upto sumNumbersSpec)) sumNumbersUptoCard
end Rows
end Go.Proofs.YtcjagjganiigiaaDoor
