/-
  DERIVED. GIVEN WITH THE SEED: THE CARDS: each row of YthnolonphjfoeaaDoorRows.lean that lists a variable, with what it lists TIED to the program's text (the seventh form; the later family's looks); each row that meets fmt, with fmt's text TOLD by the authors' own Lean function (tested against real Go, not proved from fmt's source: count such statements apart). THE CARD IS WHAT COUNTS. Prove the row's statement (the work); the ties are given (YthnolonphjfoeaaDoorTie.lean); close each card by the builder's one call (the guide's Derived/Test/ToyasCard.lean, 'card_holds'). Laid BY PROGRAM, IN A SANDBOX (cutbox-door.mjs). By AI agents, Wed Nov 11 2026. No macro, syntax, notation, axiom, sorry.
-/
import Derived.Test.YthnolonphjfoeaaDoorRows
import GoSem.ClaimSeven
namespace Go.Proofs.YthnolonphjfoeaaDoor
namespace Rows

/-- THE TIED CARD OF 'agoralaw08.MerkleBuilds'. -/
def merkleBuildsCard : Claim7 := { stood := { row := merkleBuildsRow, standIns := [], harness := (true, "fe5a6c0da1b37336a03ce42029e83f23be03ea58d32f0790a395d2ccddc57b34"), looks := false }, kinds := [], alts := [], laidByText := true, laidKinds := [.data, .data], laidTests := true, laidLooks := .later }
def MerkleBuildsCardSaid : Prop := Claim7.holds Tryd.pinned (.plain (OpenSpec.ofChange merkleBuildsSpec)) merkleBuildsCard

/-- THE TIED CARD OF 'agoralaw08.MerkleProves'. -/
def merkleProvesCard : Claim7 := { stood := { row := merkleProvesRow, standIns := [], harness := (true, "fe5a6c0da1b37336a03ce42029e83f23be03ea58d32f0790a395d2ccddc57b34"), looks := false }, kinds := [], alts := [], laidByText := true, laidKinds := [.data, .data], laidTests := true, laidLooks := .later }
def MerkleProvesCardSaid : Prop := Claim7.holds Tryd.pinned (.plain (OpenSpec.ofChange merkleProvesSpec)) merkleProvesCard

/-- THE TIED CARD OF 'agoralaw08.MerkleBinds'. -/
def merkleBindsCard : Claim7 := { stood := { row := merkleBindsRow, standIns := [], harness := (true, "fe5a6c0da1b37336a03ce42029e83f23be03ea58d32f0790a395d2ccddc57b34"), looks := false }, kinds := [], alts := [], laidByText := true, laidKinds := [.data, .data], laidTests := true, laidLooks := .later }
def MerkleBindsCardSaid : Prop := Claim7.holds Tryd.pinned (.plain (OpenSpec.ofChange merkleBindsSpec)) merkleBindsCard

/-- THE TIED CARD OF 'agoralaw08.MerkleGrows'. -/
def merkleGrowsCard : Claim7 := { stood := { row := merkleGrowsRow, standIns := [], harness := (true, "fe5a6c0da1b37336a03ce42029e83f23be03ea58d32f0790a395d2ccddc57b34"), looks := false }, kinds := [], alts := [], laidByText := true, laidKinds := [.data, .data], laidTests := true, laidLooks := .later }
def MerkleGrowsCardSaid : Prop := Claim7.holds Tryd.pinned (.plain (OpenSpec.ofChange merkleGrowsSpec)) merkleGrowsCard

/-- THE TIED CARD OF 'agoralaw08.MerkleOnce'. -/
def merkleOnceCard : Claim7 := { stood := { row := merkleOnceRow, standIns := [], harness := (true, "fe5a6c0da1b37336a03ce42029e83f23be03ea58d32f0790a395d2ccddc57b34"), looks := false }, kinds := [], alts := [], laidByText := true, laidKinds := [.data, .data], laidTests := true, laidLooks := .later }
def MerkleOnceCardSaid : Prop := Claim7.holds Tryd.pinned (.plain (OpenSpec.ofChange merkleOnceSpec)) merkleOnceCard

/-- THE TIED CARD OF 'agoralaw08.MerkleHalves'. -/
def merkleHalvesCard : Claim7 := { stood := { row := merkleHalvesRow, standIns := [], harness := (true, "fe5a6c0da1b37336a03ce42029e83f23be03ea58d32f0790a395d2ccddc57b34"), looks := false }, kinds := [], alts := [], laidByText := true, laidKinds := [.data, .data], laidTests := true, laidLooks := .later }
def MerkleHalvesCardSaid : Prop := Claim7.holds Tryd.pinned (.plain (OpenSpec.ofChange merkleHalvesSpec)) merkleHalvesCard

/-- THE SECOND FORM's CARD OF 'agoralaw08.MerkleBuilds'. -/
def merkleBuildsUptoCard : Claim7 := { stood := { row := merkleBuildsUptoRow, standIns := [], harness := (true, "fe5a6c0da1b37336a03ce42029e83f23be03ea58d32f0790a395d2ccddc57b34"), looks := false }, kinds := [], alts := [], laidByText := true, laidKinds := [.data, .data], laidTests := true, laidLooks := .later }
def MerkleBuildsUptoCardSaid : Prop := Claim7.holds Tryd.pinned (.plain (OpenSpec.upto merkleBuildsSpec)) merkleBuildsUptoCard

/-- THE SECOND FORM's CARD OF 'agoralaw08.MerkleProves'. -/
def merkleProvesUptoCard : Claim7 := { stood := { row := merkleProvesUptoRow, standIns := [], harness := (true, "fe5a6c0da1b37336a03ce42029e83f23be03ea58d32f0790a395d2ccddc57b34"), looks := false }, kinds := [], alts := [], laidByText := true, laidKinds := [.data, .data], laidTests := true, laidLooks := .later }
def MerkleProvesUptoCardSaid : Prop := Claim7.holds Tryd.pinned (.plain (OpenSpec.upto merkleProvesSpec)) merkleProvesUptoCard

/-- THE SECOND FORM's CARD OF 'agoralaw08.MerkleBinds'. -/
def merkleBindsUptoCard : Claim7 := { stood := { row := merkleBindsUptoRow, standIns := [], harness := (true, "fe5a6c0da1b37336a03ce42029e83f23be03ea58d32f0790a395d2ccddc57b34"), looks := false }, kinds := [], alts := [], laidByText := true, laidKinds := [.data, .data], laidTests := true, laidLooks := .later }
def MerkleBindsUptoCardSaid : Prop := Claim7.holds Tryd.pinned (.plain (OpenSpec.upto merkleBindsSpec)) merkleBindsUptoCard

/-- THE SECOND FORM's CARD OF 'agoralaw08.MerkleGrows'. -/
def merkleGrowsUptoCard : Claim7 := { stood := { row := merkleGrowsUptoRow, standIns := [], harness := (true, "fe5a6c0da1b37336a03ce42029e83f23be03ea58d32f0790a395d2ccddc57b34"), looks := false }, kinds := [], alts := [], laidByText := true, laidKinds := [.data, .data], laidTests := true, laidLooks := .later }
def MerkleGrowsUptoCardSaid : Prop := Claim7.holds Tryd.pinned (.plain (OpenSpec.upto merkleGrowsSpec)) merkleGrowsUptoCard

/-- THE SECOND FORM's CARD OF 'agoralaw08.MerkleOnce'. -/
def merkleOnceUptoCard : Claim7 := { stood := { row := merkleOnceUptoRow, standIns := [], harness := (true, "fe5a6c0da1b37336a03ce42029e83f23be03ea58d32f0790a395d2ccddc57b34"), looks := false }, kinds := [], alts := [], laidByText := true, laidKinds := [.data, .data], laidTests := true, laidLooks := .later }
def MerkleOnceUptoCardSaid : Prop := Claim7.holds Tryd.pinned (.plain (OpenSpec.upto merkleOnceSpec)) merkleOnceUptoCard

/-- THE SECOND FORM's CARD OF 'agoralaw08.MerkleHalves'. -/
def merkleHalvesUptoCard : Claim7 := { stood := { row := merkleHalvesUptoRow, standIns := [], harness := (true, "fe5a6c0da1b37336a03ce42029e83f23be03ea58d32f0790a395d2ccddc57b34"), looks := false }, kinds := [], alts := [], laidByText := true, laidKinds := [.data, .data], laidTests := true, laidLooks := .later }
def MerkleHalvesUptoCardSaid : Prop := Claim7.holds Tryd.pinned (.plain (OpenSpec.upto merkleHalvesSpec)) merkleHalvesUptoCard
end Rows
end Go.Proofs.YthnolonphjfoeaaDoor
