/-
  No cell of these rows narrows 'for every input' (looked for: loops, veiled, ifaces, maps, wideKeys, modest, calm, conditions, laid).
  DERIVED. THE GIVEN ROWS OF THIS SEAT. 4 by the template 'for every input the law returns true; each argument reads behind the call as it read before'; 0 by the template 'total and deterministic' (their statements: YtjicccjpooahoaaTotals.lean).
  GIVEN WITH THE SEED: the statements are not yours to turn. If you find one false, say at which input.
  Laid BY PROGRAM, IN A SANDBOX (cutbox-rows.mjs): the forced cells as the released guide's own fill.sh prints them over the translation 65d42c4309116523… (all of the seat's roots in one cut). By AI agents, Wed Nov 11 2026. No macro, syntax, notation, axiom, sorry.
-/
import Derived.Test.YtjicccjpooahoaaChecked
import GoSem.Claim
import GoSem.ClaimJoined
import GoSem.ClaimMapViews
import Derived.JoinedTies
import Derived.KernelRfl
namespace Go.Proofs.Ytjicccjpooahoaa
/- THE CELL 'sum', in the pinned program and in every row, IS THE sha256 OF THE DUMP (.gsa) THAT YtjicccjpooahoaaProg.lean LOADS. Nothing in Lean hashes anything: it is a label: what it is worth is what the hold of that sum in a sandbox is worth. -/
noncomputable def Try.pinned : Pinned := { name := "ytjicccjpooahoaa", sum := "65d42c4309116523b4b5b537c0a9cceb5eba1b7eb26be0d55f162ee60224e6b5", checked := Try.checked }
namespace Rows
def none {H : Type} : Left H := { results := [], args := [] }

/-- 'agoralaw10.WalTorn': WHATEVER THE INPUT: true; the input reads as it did. -/
def walTornSpec : ChangeSpec := { name := "walTorn", fn := fun _ => fun
  | [d1, d2, d3] => { results := [.lit (.bool true)], args := [d1, d2, d3] }
  | _ => none }
def walTornRow : OpenClaim := { program := "ytjicccjpooahoaa", sum := "65d42c4309116523b4b5b537c0a9cceb5eba1b7eb26be0d55f162ee60224e6b5", func := "agora/agoralaw10.WalTorn", spec := "walTorn", inPlace := ["internal/abi.NoEscape"], unfollowed := true, recurses := true, apart := false }
def WalTornSaid : Prop := walTornRow.holds Try.pinned (OpenSpec.ofChange walTornSpec)

/-- ITS FALSE NEIGHBOUR: 'it returns false'. Refute it at one input. -/
def walTornWrong : ChangeSpec := { name := "walTorn", fn := fun _ => fun
  | [d1, d2, d3] => { results := [.lit (.bool false)], args := [d1, d2, d3] }
  | _ => none }
def WalTornWrongFalsely : Prop := walTornRow.holds Try.pinned (OpenSpec.ofChange walTornWrong)

/-- 'agoralaw10.WalJoins': WHATEVER THE INPUT: true; the input reads as it did. -/
def walJoinsSpec : ChangeSpec := { name := "walJoins", fn := fun _ => fun
  | [d1, d2] => { results := [.lit (.bool true)], args := [d1, d2] }
  | _ => none }
def walJoinsRow : OpenClaim := { program := "ytjicccjpooahoaa", sum := "65d42c4309116523b4b5b537c0a9cceb5eba1b7eb26be0d55f162ee60224e6b5", func := "agora/agoralaw10.WalJoins", spec := "walJoins", inPlace := ["internal/abi.NoEscape"], unfollowed := true, recurses := true, apart := false }
def WalJoinsSaid : Prop := walJoinsRow.holds Try.pinned (OpenSpec.ofChange walJoinsSpec)

/-- ITS FALSE NEIGHBOUR: 'it returns false'. Refute it at one input. -/
def walJoinsWrong : ChangeSpec := { name := "walJoins", fn := fun _ => fun
  | [d1, d2] => { results := [.lit (.bool false)], args := [d1, d2] }
  | _ => none }
def WalJoinsWrongFalsely : Prop := walJoinsRow.holds Try.pinned (OpenSpec.ofChange walJoinsWrong)

/-- 'agoralaw10.WalAlone': WHATEVER THE INPUT: true; the input reads as it did. -/
def walAloneSpec : ChangeSpec := { name := "walAlone", fn := fun _ => fun
  | [d1, d2] => { results := [.lit (.bool true)], args := [d1, d2] }
  | _ => none }
def walAloneRow : OpenClaim := { program := "ytjicccjpooahoaa", sum := "65d42c4309116523b4b5b537c0a9cceb5eba1b7eb26be0d55f162ee60224e6b5", func := "agora/agoralaw10.WalAlone", spec := "walAlone", inPlace := ["internal/abi.NoEscape"], unfollowed := true, recurses := true, apart := false }
def WalAloneSaid : Prop := walAloneRow.holds Try.pinned (OpenSpec.ofChange walAloneSpec)

/-- ITS FALSE NEIGHBOUR: 'it returns false'. Refute it at one input. -/
def walAloneWrong : ChangeSpec := { name := "walAlone", fn := fun _ => fun
  | [d1, d2] => { results := [.lit (.bool false)], args := [d1, d2] }
  | _ => none }
def WalAloneWrongFalsely : Prop := walAloneRow.holds Try.pinned (OpenSpec.ofChange walAloneWrong)

/-- 'agoralaw10.WalLasts': WHATEVER THE INPUT: true; the input reads as it did. -/
def walLastsSpec : ChangeSpec := { name := "walLasts", fn := fun _ => fun
  | [d1, d2] => { results := [.lit (.bool true)], args := [d1, d2] }
  | _ => none }
def walLastsRow : OpenClaim := { program := "ytjicccjpooahoaa", sum := "65d42c4309116523b4b5b537c0a9cceb5eba1b7eb26be0d55f162ee60224e6b5", func := "agora/agoralaw10.WalLasts", spec := "walLasts", inPlace := ["internal/abi.NoEscape"], unfollowed := true, recurses := true, apart := false }
def WalLastsSaid : Prop := walLastsRow.holds Try.pinned (OpenSpec.ofChange walLastsSpec)

/-- ITS FALSE NEIGHBOUR: 'it returns false'. Refute it at one input. -/
def walLastsWrong : ChangeSpec := { name := "walLasts", fn := fun _ => fun
  | [d1, d2] => { results := [.lit (.bool false)], args := [d1, d2] }
  | _ => none }
def WalLastsWrongFalsely : Prop := walLastsRow.holds Try.pinned (OpenSpec.ofChange walLastsWrong)

/- THE SECOND FORM. 'bulk': how many values and letters a reading holds, each counted each time it is reached (what is shared counts as often as it is met; a slice's spare places count too). A statement '..UptoSaid' is the law's where the arguments, and the package variables that the reading takes, are together of bulk at most 1048576: NARROWER than '..Said'. Prove '..Said' where nothing that the law and all that it calls make is longer than what came in: it says more and counts as full. Else prove '..UptoSaid'. A law counts once. -/
mutual
def uptoBulk {H : Type} : DataW H → Nat
  | .lit (.string bytes) => bytes.length + 1
  | .lit _ => 1
  | .nil => 1
  | .ptr d => uptoBulk d + 1
  | .slice elems spare => uptoBulkAll elems + uptoBulkAll spare + 1
  | .agg parts => uptoBulkAll parts + 1
  | .iface _ d => uptoBulk d + 1
  | .map entries => uptoBulkEntries entries + 1
  | .held _ => 1
def uptoBulkAll {H : Type} : List (DataW H) → Nat
  | [] => 0
  | d :: r => uptoBulk d + uptoBulkAll r
def uptoBulkEntries {H : Type} : List (Lit × DataW H) → Nat
  | [] => 0
  | x :: r => uptoBulkEntry x + uptoBulkEntries r
def uptoBulkEntry {H : Type} : Lit × DataW H → Nat
  | (.string bytes, d) => bytes.length + uptoBulk d + 1
  | (_, d) => uptoBulk d + 1
 end
def uptoSmall : (H : Type) → List (DataW H) → Bool := fun _ ds => decide (uptoBulkAll ds ≤ 1048576)
def OpenSpec.upto (s : _root_.Go.ChangeSpec) : _root_.Go.OpenSpec := { _root_.Go.OpenSpec.ofChange s with cond := some uptoSmall }

/-- 'agoralaw10.WalTorn', WHERE WHAT IT READS IS OF BULK AT MOST 1048576: true; the input reads as it did. -/
def walTornUptoRow : OpenClaim := { program := "ytjicccjpooahoaa", sum := "65d42c4309116523b4b5b537c0a9cceb5eba1b7eb26be0d55f162ee60224e6b5", func := "agora/agoralaw10.WalTorn", spec := "walTorn", inPlace := ["internal/abi.NoEscape"], unfollowed := true, recurses := true, apart := false, narrowed := true }
def WalTornUptoSaid : Prop := walTornUptoRow.holds Try.pinned (OpenSpec.upto walTornSpec)

/-- 'agoralaw10.WalJoins', WHERE WHAT IT READS IS OF BULK AT MOST 1048576: true; the input reads as it did. -/
def walJoinsUptoRow : OpenClaim := { program := "ytjicccjpooahoaa", sum := "65d42c4309116523b4b5b537c0a9cceb5eba1b7eb26be0d55f162ee60224e6b5", func := "agora/agoralaw10.WalJoins", spec := "walJoins", inPlace := ["internal/abi.NoEscape"], unfollowed := true, recurses := true, apart := false, narrowed := true }
def WalJoinsUptoSaid : Prop := walJoinsUptoRow.holds Try.pinned (OpenSpec.upto walJoinsSpec)

/-- 'agoralaw10.WalAlone', WHERE WHAT IT READS IS OF BULK AT MOST 1048576: true; the input reads as it did. -/
def walAloneUptoRow : OpenClaim := { program := "ytjicccjpooahoaa", sum := "65d42c4309116523b4b5b537c0a9cceb5eba1b7eb26be0d55f162ee60224e6b5", func := "agora/agoralaw10.WalAlone", spec := "walAlone", inPlace := ["internal/abi.NoEscape"], unfollowed := true, recurses := true, apart := false, narrowed := true }
def WalAloneUptoSaid : Prop := walAloneUptoRow.holds Try.pinned (OpenSpec.upto walAloneSpec)

/-- 'agoralaw10.WalLasts', WHERE WHAT IT READS IS OF BULK AT MOST 1048576: true; the input reads as it did. -/
def walLastsUptoRow : OpenClaim := { program := "ytjicccjpooahoaa", sum := "65d42c4309116523b4b5b537c0a9cceb5eba1b7eb26be0d55f162ee60224e6b5", func := "agora/agoralaw10.WalLasts", spec := "walLasts", inPlace := ["internal/abi.NoEscape"], unfollowed := true, recurses := true, apart := false, narrowed := true }
def WalLastsUptoSaid : Prop := walLastsUptoRow.holds Try.pinned (OpenSpec.upto walLastsSpec)

end Rows
end Go.Proofs.Ytjicccjpooahoaa
