/-
  DERIVED. GIVEN WITH THE SEED: THE CARDS: each row of YtgbmjknnadmcaaaDoorRows.lean that lists a variable, with what it lists TIED to the program's text (the seventh form; the later family's looks); each row that meets fmt, with fmt's text TOLD by the authors' own Lean function (tested against real Go, not proved from fmt's source: count such statements apart). THE CARD IS WHAT COUNTS. Prove the row's statement (the work); the ties are given (YtgbmjknnadmcaaaDoorTie.lean); close each card by the builder's one call (the guide's Derived/Test/ToyasCard.lean, 'card_holds'). Laid BY PROGRAM, IN A SANDBOX (cutbox-door.mjs). By AI agents, Wed Nov 11 2026. No macro, syntax, notation, axiom, sorry.
-/
import Derived.Test.YtgbmjknnadmcaaaDoorRows
import GoSem.ClaimSeven
namespace Go.Proofs.YtgbmjknnadmcaaaDoor
namespace Rows

/-- THE TIED CARD OF 'agoralaw12.ActReads'. -/
def actReadsCard : Claim7 := { stood := { row := actReadsRow, standIns := [], harness := (true, "200f15eed518c1482771695cce7f1241006d2c22c06276f3e08b58a3df64c2cd"), looks := false }, kinds := [], alts := [], laidByText := true, laidKinds := [.data, .data], laidTests := true, laidLooks := .later }
def ActReadsCardSaid : Prop := Claim7.holds Tryd.pinned (.plain (OpenSpec.ofChange actReadsSpec)) actReadsCard

/-- THE TIED CARD OF 'agoralaw12.ActBinds'. -/
def actBindsCard : Claim7 := { stood := { row := actBindsRow, standIns := [], harness := (true, "200f15eed518c1482771695cce7f1241006d2c22c06276f3e08b58a3df64c2cd"), looks := false }, kinds := [], alts := [], laidByText := true, laidKinds := [.data, .data], laidTests := true, laidLooks := .later }
def ActBindsCardSaid : Prop := Claim7.holds Tryd.pinned (.plain (OpenSpec.ofChange actBindsSpec)) actBindsCard

/-- THE TIED CARD OF 'agoralaw12.ActSigns'. -/
def actSignsCard : Claim7 := { stood := { row := actSignsRow, standIns := [], harness := (true, "200f15eed518c1482771695cce7f1241006d2c22c06276f3e08b58a3df64c2cd"), looks := false }, kinds := [], alts := [], laidByText := true, laidKinds := [.data, .data], laidTests := true, laidLooks := .later }
def ActSignsCardSaid : Prop := Claim7.holds Tryd.pinned (.plain (OpenSpec.ofChange actSignsSpec)) actSignsCard

/-- THE TIED CARD OF 'agoralaw12.ActFields'. -/
def actFieldsCard : Claim7 := { stood := { row := actFieldsRow, standIns := [], harness := (true, "200f15eed518c1482771695cce7f1241006d2c22c06276f3e08b58a3df64c2cd"), looks := false }, kinds := [], alts := [], laidByText := true, laidKinds := [.data, .data], laidTests := true, laidLooks := .later }
def ActFieldsCardSaid : Prop := Claim7.holds Tryd.pinned (.plain (OpenSpec.ofChange actFieldsSpec)) actFieldsCard

/-- THE TIED CARD OF 'agoralaw12.ActAudience'. -/
def actAudienceCard : Claim7 := { stood := { row := actAudienceRow, standIns := [], harness := (true, "200f15eed518c1482771695cce7f1241006d2c22c06276f3e08b58a3df64c2cd"), looks := false }, kinds := [], alts := [], laidByText := true, laidKinds := [.data, .data], laidTests := true, laidLooks := .later }
def ActAudienceCardSaid : Prop := Claim7.holds Tryd.pinned (.plain (OpenSpec.ofChange actAudienceSpec)) actAudienceCard

/-- THE SECOND FORM's CARD OF 'agoralaw12.ActReads'. -/
def actReadsUptoCard : Claim7 := { stood := { row := actReadsUptoRow, standIns := [], harness := (true, "200f15eed518c1482771695cce7f1241006d2c22c06276f3e08b58a3df64c2cd"), looks := false }, kinds := [], alts := [], laidByText := true, laidKinds := [.data, .data], laidTests := true, laidLooks := .later }
def ActReadsUptoCardSaid : Prop := Claim7.holds Tryd.pinned (.plain (OpenSpec.upto actReadsSpec)) actReadsUptoCard

/-- THE SECOND FORM's CARD OF 'agoralaw12.ActBinds'. -/
def actBindsUptoCard : Claim7 := { stood := { row := actBindsUptoRow, standIns := [], harness := (true, "200f15eed518c1482771695cce7f1241006d2c22c06276f3e08b58a3df64c2cd"), looks := false }, kinds := [], alts := [], laidByText := true, laidKinds := [.data, .data], laidTests := true, laidLooks := .later }
def ActBindsUptoCardSaid : Prop := Claim7.holds Tryd.pinned (.plain (OpenSpec.upto actBindsSpec)) actBindsUptoCard

/-- THE SECOND FORM's CARD OF 'agoralaw12.ActSigns'. -/
def actSignsUptoCard : Claim7 := { stood := { row := actSignsUptoRow, standIns := [], harness := (true, "200f15eed518c1482771695cce7f1241006d2c22c06276f3e08b58a3df64c2cd"), looks := false }, kinds := [], alts := [], laidByText := true, laidKinds := [.data, .data], laidTests := true, laidLooks := .later }
def ActSignsUptoCardSaid : Prop := Claim7.holds Tryd.pinned (.plain (OpenSpec.upto actSignsSpec)) actSignsUptoCard

/-- THE SECOND FORM's CARD OF 'agoralaw12.ActFields'. -/
def actFieldsUptoCard : Claim7 := { stood := { row := actFieldsUptoRow, standIns := [], harness := (true, "200f15eed518c1482771695cce7f1241006d2c22c06276f3e08b58a3df64c2cd"), looks := false }, kinds := [], alts := [], laidByText := true, laidKinds := [.data, .data], laidTests := true, laidLooks := .later }
def ActFieldsUptoCardSaid : Prop := Claim7.holds Tryd.pinned (.plain (OpenSpec.upto actFieldsSpec)) actFieldsUptoCard

/-- THE SECOND FORM's CARD OF 'agoralaw12.ActAudience'. -/
def actAudienceUptoCard : Claim7 := { stood := { row := actAudienceUptoRow, standIns := [], harness := (true, "200f15eed518c1482771695cce7f1241006d2c22c06276f3e08b58a3df64c2cd"), looks := false }, kinds := [], alts := [], laidByText := true, laidKinds := [.data, .data], laidTests := true, laidLooks := .later }
def ActAudienceUptoCardSaid : Prop := Claim7.holds Tryd.pinned (.plain (OpenSpec.upto actAudienceSpec)) actAudienceUptoCard
end Rows
end Go.Proofs.YtgbmjknnadmcaaaDoor
