/-
  NARROWER THAN 'FOR EVERY INPUT', by the rows' own cells (each row's printed sentence says how): MirrorGrows: laid · MirrorForks: laid · MirrorRefuses: laid · ForkCodes: laid · ForkProves: laid · ForkHonest: laid · ForkFinds: laid · ForkGrows: laid.
  DERIVED. THE GIVEN ROWS OF THIS SEAT. 8 by the template 'for every input the law returns true; each argument reads behind the call as it read before'; 0 by the template 'total and deterministic' (their statements: YthbpbkbjdfcnjaaGreatDoorTotals.lean).
  GIVEN WITH THE SEED: the statements are not yours to turn. If you find one false, say at which input.
  Laid BY PROGRAM, IN A SANDBOX (cutbox-rows.mjs): the forced cells as the released guide's own fill.sh prints them over the translation 653f332a6eec2caf… (all of the seat's roots in one cut). By AI agents, Wed Nov 11 2026. No macro, syntax, notation, axiom, sorry.
-/
import Derived.Test.YthbpbkbjdfcnjaaGreatDoorChecked
import GoSem.Claim
import GoSem.ClaimJoined
import GoSem.ClaimMapViews
import Derived.JoinedTies
import Derived.KernelRfl
namespace Go.Proofs.YthbpbkbjdfcnjaaGreatDoor
/- THE CELL 'sum', in the pinned program and in every row, IS THE sha256 OF THE DUMP (.gsa) THAT YthbpbkbjdfcnjaaGreatDoorProg.lean LOADS. Nothing in Lean hashes anything: it is a label: what it is worth is what the hold of that sum in a sandbox is worth. -/
noncomputable def Tryz.pinned : Pinned := { name := "ythbpbkbjdfcnjaagreatdoor", sum := "653f332a6eec2caf25491118ab14fd4d033fa61d98db83d8753395a68f8bc312", checked := Tryz.checked }
namespace Rows
def none {H : Type} : Left H := { results := [], args := [] }

/- WHAT THE LISTED PACKAGE-LEVEL VARIABLES READ AS WHEN THE CALL BEGINS. Each datum BY PROGRAM (the guide's laid-datum.mjs) off the statement by which the dump's own 'gosem.cut.vars' lays the variable. In a bare row this is a premise. The card (YthbpbkbjdfcnjaaGreatDoorCards.lean) ties it to the program's text. -/
def laid_agora_sum_constants {H : Type} : DataW H := .agg [.lit (.int .u32 1116352408), .lit (.int .u32 1899447441), .lit (.int .u32 3049323471), .lit (.int .u32 3921009573), .lit (.int .u32 961987163), .lit (.int .u32 1508970993), .lit (.int .u32 2453635748), .lit (.int .u32 2870763221), .lit (.int .u32 3624381080), .lit (.int .u32 310598401), .lit (.int .u32 607225278), .lit (.int .u32 1426881987), .lit (.int .u32 1925078388), .lit (.int .u32 2162078206), .lit (.int .u32 2614888103), .lit (.int .u32 3248222580), .lit (.int .u32 3835390401), .lit (.int .u32 4022224774), .lit (.int .u32 264347078), .lit (.int .u32 604807628), .lit (.int .u32 770255983), .lit (.int .u32 1249150122), .lit (.int .u32 1555081692), .lit (.int .u32 1996064986), .lit (.int .u32 2554220882), .lit (.int .u32 2821834349), .lit (.int .u32 2952996808), .lit (.int .u32 3210313671), .lit (.int .u32 3336571891), .lit (.int .u32 3584528711), .lit (.int .u32 113926993), .lit (.int .u32 338241895), .lit (.int .u32 666307205), .lit (.int .u32 773529912), .lit (.int .u32 1294757372), .lit (.int .u32 1396182291), .lit (.int .u32 1695183700), .lit (.int .u32 1986661051), .lit (.int .u32 2177026350), .lit (.int .u32 2456956037), .lit (.int .u32 2730485921), .lit (.int .u32 2820302411), .lit (.int .u32 3259730800), .lit (.int .u32 3345764771), .lit (.int .u32 3516065817), .lit (.int .u32 3600352804), .lit (.int .u32 4094571909), .lit (.int .u32 275423344), .lit (.int .u32 430227734), .lit (.int .u32 506948616), .lit (.int .u32 659060556), .lit (.int .u32 883997877), .lit (.int .u32 958139571), .lit (.int .u32 1322822218), .lit (.int .u32 1537002063), .lit (.int .u32 1747873779), .lit (.int .u32 1955562222), .lit (.int .u32 2024104815), .lit (.int .u32 2227730452), .lit (.int .u32 2361852424), .lit (.int .u32 2428436474), .lit (.int .u32 2756734187), .lit (.int .u32 3204031479), .lit (.int .u32 3329325298)]
def laid_agora_sum_initial {H : Type} : DataW H := .agg [.lit (.int .u32 1779033703), .lit (.int .u32 3144134277), .lit (.int .u32 1013904242), .lit (.int .u32 2773480762), .lit (.int .u32 1359893119), .lit (.int .u32 2600822924), .lit (.int .u32 528734635), .lit (.int .u32 1541459225)]

/-- 'agoralaw16.MirrorGrows': WHATEVER THE INPUT: true; the input reads as it did. -/
def mirrorGrowsSpec : ChangeSpec := { name := "mirrorGrows", fn := fun _ => fun
  | [d1, d2, d3, d4, d5] => { results := [.lit (.bool true)], args := [d1, d2, d3, d4, d5] }
  | _ => none }
def mirrorGrowsRow : OpenClaim := { program := "ythbpbkbjdfcnjaagreatdoor", sum := "653f332a6eec2caf25491118ab14fd4d033fa61d98db83d8753395a68f8bc312", func := "agora/agoralaw16.MirrorGrows", spec := "mirrorGrows", inPlace := ["internal/abi.NoEscape", "internal/bytealg.MakeNoZero"], unfollowed := true, recurses := true, named := ["math/bits.divideError", "math/bits.overflowError", "agora/sum.initial", "agora/sum.constants"], apart := false, laid := [("agora/sum.constants", laid_agora_sum_constants), ("agora/sum.initial", laid_agora_sum_initial)] }
def MirrorGrowsSaid : Prop := mirrorGrowsRow.holds Tryz.pinned (OpenSpec.ofChange mirrorGrowsSpec)

/-- ITS FALSE NEIGHBOUR: 'it returns false'. Refute it at one input. -/
def mirrorGrowsWrong : ChangeSpec := { name := "mirrorGrows", fn := fun _ => fun
  | [d1, d2, d3, d4, d5] => { results := [.lit (.bool false)], args := [d1, d2, d3, d4, d5] }
  | _ => none }
def MirrorGrowsWrongFalsely : Prop := mirrorGrowsRow.holds Tryz.pinned (OpenSpec.ofChange mirrorGrowsWrong)

/-- 'agoralaw16.MirrorForks': WHATEVER THE INPUT: true; the input reads as it did. -/
def mirrorForksSpec : ChangeSpec := { name := "mirrorForks", fn := fun _ => fun
  | [d1, d2, d3, d4, d5, d6, d7] => { results := [.lit (.bool true)], args := [d1, d2, d3, d4, d5, d6, d7] }
  | _ => none }
def mirrorForksRow : OpenClaim := { program := "ythbpbkbjdfcnjaagreatdoor", sum := "653f332a6eec2caf25491118ab14fd4d033fa61d98db83d8753395a68f8bc312", func := "agora/agoralaw16.MirrorForks", spec := "mirrorForks", inPlace := ["internal/abi.NoEscape", "internal/bytealg.MakeNoZero"], unfollowed := true, recurses := true, named := ["math/bits.divideError", "math/bits.overflowError", "agora/sum.initial", "agora/sum.constants"], apart := false, laid := [("agora/sum.constants", laid_agora_sum_constants), ("agora/sum.initial", laid_agora_sum_initial)] }
def MirrorForksSaid : Prop := mirrorForksRow.holds Tryz.pinned (OpenSpec.ofChange mirrorForksSpec)

/-- ITS FALSE NEIGHBOUR: 'it returns false'. Refute it at one input. -/
def mirrorForksWrong : ChangeSpec := { name := "mirrorForks", fn := fun _ => fun
  | [d1, d2, d3, d4, d5, d6, d7] => { results := [.lit (.bool false)], args := [d1, d2, d3, d4, d5, d6, d7] }
  | _ => none }
def MirrorForksWrongFalsely : Prop := mirrorForksRow.holds Tryz.pinned (OpenSpec.ofChange mirrorForksWrong)

/-- 'agoralaw16.MirrorRefuses': WHATEVER THE INPUT: true; the input reads as it did. -/
def mirrorRefusesSpec : ChangeSpec := { name := "mirrorRefuses", fn := fun _ => fun
  | [d1, d2, d3, d4, d5, d6, d7, d8] => { results := [.lit (.bool true)], args := [d1, d2, d3, d4, d5, d6, d7, d8] }
  | _ => none }
def mirrorRefusesRow : OpenClaim := { program := "ythbpbkbjdfcnjaagreatdoor", sum := "653f332a6eec2caf25491118ab14fd4d033fa61d98db83d8753395a68f8bc312", func := "agora/agoralaw16.MirrorRefuses", spec := "mirrorRefuses", inPlace := ["internal/abi.NoEscape", "internal/bytealg.MakeNoZero"], unfollowed := true, recurses := true, named := ["math/bits.divideError", "math/bits.overflowError", "agora/sum.initial", "agora/sum.constants"], apart := false, laid := [("agora/sum.constants", laid_agora_sum_constants), ("agora/sum.initial", laid_agora_sum_initial)] }
def MirrorRefusesSaid : Prop := mirrorRefusesRow.holds Tryz.pinned (OpenSpec.ofChange mirrorRefusesSpec)

/-- ITS FALSE NEIGHBOUR: 'it returns false'. Refute it at one input. -/
def mirrorRefusesWrong : ChangeSpec := { name := "mirrorRefuses", fn := fun _ => fun
  | [d1, d2, d3, d4, d5, d6, d7, d8] => { results := [.lit (.bool false)], args := [d1, d2, d3, d4, d5, d6, d7, d8] }
  | _ => none }
def MirrorRefusesWrongFalsely : Prop := mirrorRefusesRow.holds Tryz.pinned (OpenSpec.ofChange mirrorRefusesWrong)

/-- 'agoralaw17.ForkCodes': WHATEVER THE INPUT: true; the input reads as it did. -/
def forkCodesSpec : ChangeSpec := { name := "forkCodes", fn := fun _ => fun
  | [d1, d2] => { results := [.lit (.bool true)], args := [d1, d2] }
  | _ => none }
def forkCodesRow : OpenClaim := { program := "ythbpbkbjdfcnjaagreatdoor", sum := "653f332a6eec2caf25491118ab14fd4d033fa61d98db83d8753395a68f8bc312", func := "agora/agoralaw17.ForkCodes", spec := "forkCodes", inPlace := ["internal/abi.NoEscape", "internal/bytealg.MakeNoZero"], unfollowed := true, recurses := true, named := ["agora/sum.initial", "agora/sum.constants", "math/bits.divideError", "math/bits.overflowError"], apart := false, laid := [("agora/sum.constants", laid_agora_sum_constants), ("agora/sum.initial", laid_agora_sum_initial)] }
def ForkCodesSaid : Prop := forkCodesRow.holds Tryz.pinned (OpenSpec.ofChange forkCodesSpec)

/-- ITS FALSE NEIGHBOUR: 'it returns false'. Refute it at one input. -/
def forkCodesWrong : ChangeSpec := { name := "forkCodes", fn := fun _ => fun
  | [d1, d2] => { results := [.lit (.bool false)], args := [d1, d2] }
  | _ => none }
def ForkCodesWrongFalsely : Prop := forkCodesRow.holds Tryz.pinned (OpenSpec.ofChange forkCodesWrong)

/-- 'agoralaw17.ForkProves': WHATEVER THE INPUT: true; the input reads as it did. -/
def forkProvesSpec : ChangeSpec := { name := "forkProves", fn := fun _ => fun
  | [d1, d2, d3, d4, d5] => { results := [.lit (.bool true)], args := [d1, d2, d3, d4, d5] }
  | _ => none }
def forkProvesRow : OpenClaim := { program := "ythbpbkbjdfcnjaagreatdoor", sum := "653f332a6eec2caf25491118ab14fd4d033fa61d98db83d8753395a68f8bc312", func := "agora/agoralaw17.ForkProves", spec := "forkProves", inPlace := ["internal/abi.NoEscape", "internal/bytealg.MakeNoZero"], unfollowed := true, recurses := true, named := ["agora/sum.initial", "agora/sum.constants", "math/bits.divideError", "math/bits.overflowError"], apart := false, laid := [("agora/sum.constants", laid_agora_sum_constants), ("agora/sum.initial", laid_agora_sum_initial)] }
def ForkProvesSaid : Prop := forkProvesRow.holds Tryz.pinned (OpenSpec.ofChange forkProvesSpec)

/-- ITS FALSE NEIGHBOUR: 'it returns false'. Refute it at one input. -/
def forkProvesWrong : ChangeSpec := { name := "forkProves", fn := fun _ => fun
  | [d1, d2, d3, d4, d5] => { results := [.lit (.bool false)], args := [d1, d2, d3, d4, d5] }
  | _ => none }
def ForkProvesWrongFalsely : Prop := forkProvesRow.holds Tryz.pinned (OpenSpec.ofChange forkProvesWrong)

/-- 'agoralaw17.ForkHonest': WHATEVER THE INPUT: true; the input reads as it did. -/
def forkHonestSpec : ChangeSpec := { name := "forkHonest", fn := fun _ => fun
  | [d1, d2, d3, d4, d5] => { results := [.lit (.bool true)], args := [d1, d2, d3, d4, d5] }
  | _ => none }
def forkHonestRow : OpenClaim := { program := "ythbpbkbjdfcnjaagreatdoor", sum := "653f332a6eec2caf25491118ab14fd4d033fa61d98db83d8753395a68f8bc312", func := "agora/agoralaw17.ForkHonest", spec := "forkHonest", inPlace := ["internal/abi.NoEscape", "internal/bytealg.MakeNoZero"], unfollowed := true, recurses := true, named := ["agora/sum.initial", "agora/sum.constants", "math/bits.divideError", "math/bits.overflowError"], apart := false, laid := [("agora/sum.constants", laid_agora_sum_constants), ("agora/sum.initial", laid_agora_sum_initial)] }
def ForkHonestSaid : Prop := forkHonestRow.holds Tryz.pinned (OpenSpec.ofChange forkHonestSpec)

/-- ITS FALSE NEIGHBOUR: 'it returns false'. Refute it at one input. -/
def forkHonestWrong : ChangeSpec := { name := "forkHonest", fn := fun _ => fun
  | [d1, d2, d3, d4, d5] => { results := [.lit (.bool false)], args := [d1, d2, d3, d4, d5] }
  | _ => none }
def ForkHonestWrongFalsely : Prop := forkHonestRow.holds Tryz.pinned (OpenSpec.ofChange forkHonestWrong)

/-- 'agoralaw17.ForkFinds': WHATEVER THE INPUT: true; the input reads as it did. -/
def forkFindsSpec : ChangeSpec := { name := "forkFinds", fn := fun _ => fun
  | [d1, d2, d3] => { results := [.lit (.bool true)], args := [d1, d2, d3] }
  | _ => none }
def forkFindsRow : OpenClaim := { program := "ythbpbkbjdfcnjaagreatdoor", sum := "653f332a6eec2caf25491118ab14fd4d033fa61d98db83d8753395a68f8bc312", func := "agora/agoralaw17.ForkFinds", spec := "forkFinds", inPlace := ["internal/abi.NoEscape", "internal/bytealg.MakeNoZero"], unfollowed := true, recurses := true, named := ["agora/sum.initial", "agora/sum.constants", "math/bits.divideError", "math/bits.overflowError"], apart := false, laid := [("agora/sum.constants", laid_agora_sum_constants), ("agora/sum.initial", laid_agora_sum_initial)] }
def ForkFindsSaid : Prop := forkFindsRow.holds Tryz.pinned (OpenSpec.ofChange forkFindsSpec)

/-- ITS FALSE NEIGHBOUR: 'it returns false'. Refute it at one input. -/
def forkFindsWrong : ChangeSpec := { name := "forkFinds", fn := fun _ => fun
  | [d1, d2, d3] => { results := [.lit (.bool false)], args := [d1, d2, d3] }
  | _ => none }
def ForkFindsWrongFalsely : Prop := forkFindsRow.holds Tryz.pinned (OpenSpec.ofChange forkFindsWrong)

/-- 'agoralaw17.ForkGrows': WHATEVER THE INPUT: true; the input reads as it did. -/
def forkGrowsSpec : ChangeSpec := { name := "forkGrows", fn := fun _ => fun
  | [d1, d2, d3, d4, d5] => { results := [.lit (.bool true)], args := [d1, d2, d3, d4, d5] }
  | _ => none }
def forkGrowsRow : OpenClaim := { program := "ythbpbkbjdfcnjaagreatdoor", sum := "653f332a6eec2caf25491118ab14fd4d033fa61d98db83d8753395a68f8bc312", func := "agora/agoralaw17.ForkGrows", spec := "forkGrows", inPlace := ["internal/abi.NoEscape", "internal/bytealg.MakeNoZero"], unfollowed := true, recurses := true, named := ["agora/sum.initial", "agora/sum.constants", "math/bits.divideError", "math/bits.overflowError"], apart := false, laid := [("agora/sum.constants", laid_agora_sum_constants), ("agora/sum.initial", laid_agora_sum_initial)] }
def ForkGrowsSaid : Prop := forkGrowsRow.holds Tryz.pinned (OpenSpec.ofChange forkGrowsSpec)

/-- ITS FALSE NEIGHBOUR: 'it returns false'. Refute it at one input. -/
def forkGrowsWrong : ChangeSpec := { name := "forkGrows", fn := fun _ => fun
  | [d1, d2, d3, d4, d5] => { results := [.lit (.bool false)], args := [d1, d2, d3, d4, d5] }
  | _ => none }
def ForkGrowsWrongFalsely : Prop := forkGrowsRow.holds Tryz.pinned (OpenSpec.ofChange forkGrowsWrong)

/- THE SECOND FORM. 'bulk': how many values and letters a reading holds, each counted each time it is reached (what is shared counts as often as it is met; a slice's spare places count too). A statement '..UptoSaid' is the law's where the arguments, and the package variables that the reading takes, are together of bulk at most 1048576: NARROWER than '..Said'. Prove '..Said' where nothing that the law and all that it calls make is longer than what came in: it says more and counts as full. Else prove '..UptoSaid'. A law counts once. -/
mutual
def uptoBulk {H : Type} : DataW H → Nat
  | .lit (.string bytes) => bytes.length + 1
  | .lit _ => 1
  | .nil => 1
  | .ptr d => uptoBulk d + 1
  | .slice elems spare => uptoBulkAll elems + uptoBulkAll spare + 1
  | .agg parts => uptoBulkAll parts + 1
  | .iface _ d => uptoBulk d + 1
  | .map entries => uptoBulkEntries entries + 1
  | .held _ => 1
def uptoBulkAll {H : Type} : List (DataW H) → Nat
  | [] => 0
  | d :: r => uptoBulk d + uptoBulkAll r
def uptoBulkEntries {H : Type} : List (Lit × DataW H) → Nat
  | [] => 0
  | x :: r => uptoBulkEntry x + uptoBulkEntries r
def uptoBulkEntry {H : Type} : Lit × DataW H → Nat
  | (.string bytes, d) => bytes.length + uptoBulk d + 1
  | (_, d) => uptoBulk d + 1
 end
def uptoSmall : (H : Type) → List (DataW H) → Bool := fun _ ds => decide (uptoBulkAll ds ≤ 1048576)
def OpenSpec.upto (s : _root_.Go.ChangeSpec) : _root_.Go.OpenSpec := { _root_.Go.OpenSpec.ofChange s with cond := some uptoSmall }

/-- 'agoralaw16.MirrorGrows', WHERE WHAT IT READS IS OF BULK AT MOST 1048576: true; the input reads as it did. -/
def mirrorGrowsUptoRow : OpenClaim := { program := "ythbpbkbjdfcnjaagreatdoor", sum := "653f332a6eec2caf25491118ab14fd4d033fa61d98db83d8753395a68f8bc312", func := "agora/agoralaw16.MirrorGrows", spec := "mirrorGrows", inPlace := ["internal/abi.NoEscape", "internal/bytealg.MakeNoZero"], unfollowed := true, recurses := true, named := ["math/bits.divideError", "math/bits.overflowError", "agora/sum.initial", "agora/sum.constants"], apart := false, laid := [("agora/sum.constants", laid_agora_sum_constants), ("agora/sum.initial", laid_agora_sum_initial)], narrowed := true }
def MirrorGrowsUptoSaid : Prop := mirrorGrowsUptoRow.holds Tryz.pinned (OpenSpec.upto mirrorGrowsSpec)

/-- 'agoralaw16.MirrorForks', WHERE WHAT IT READS IS OF BULK AT MOST 1048576: true; the input reads as it did. -/
def mirrorForksUptoRow : OpenClaim := { program := "ythbpbkbjdfcnjaagreatdoor", sum := "653f332a6eec2caf25491118ab14fd4d033fa61d98db83d8753395a68f8bc312", func := "agora/agoralaw16.MirrorForks", spec := "mirrorForks", inPlace := ["internal/abi.NoEscape", "internal/bytealg.MakeNoZero"], unfollowed := true, recurses := true, named := ["math/bits.divideError", "math/bits.overflowError", "agora/sum.initial", "agora/sum.constants"], apart := false, laid := [("agora/sum.constants", laid_agora_sum_constants), ("agora/sum.initial", laid_agora_sum_initial)], narrowed := true }
def MirrorForksUptoSaid : Prop := mirrorForksUptoRow.holds Tryz.pinned (OpenSpec.upto mirrorForksSpec)

/-- 'agoralaw16.MirrorRefuses', WHERE WHAT IT READS IS OF BULK AT MOST 1048576: true; the input reads as it did. -/
def mirrorRefusesUptoRow : OpenClaim := { program := "ythbpbkbjdfcnjaagreatdoor", sum := "653f332a6eec2caf25491118ab14fd4d033fa61d98db83d8753395a68f8bc312", func := "agora/agoralaw16.MirrorRefuses", spec := "mirrorRefuses", inPlace := ["internal/abi.NoEscape", "internal/bytealg.MakeNoZero"], unfollowed := true, recurses := true, named := ["math/bits.divideError", "math/bits.overflowError", "agora/sum.initial", "agora/sum.constants"], apart := false, laid := [("agora/sum.constants", laid_agora_sum_constants), ("agora/sum.initial", laid_agora_sum_initial)], narrowed := true }
def MirrorRefusesUptoSaid : Prop := mirrorRefusesUptoRow.holds Tryz.pinned (OpenSpec.upto mirrorRefusesSpec)

/-- 'agoralaw17.ForkCodes', WHERE WHAT IT READS IS OF BULK AT MOST 1048576: true; the input reads as it did. -/
def forkCodesUptoRow : OpenClaim := { program := "ythbpbkbjdfcnjaagreatdoor", sum := "653f332a6eec2caf25491118ab14fd4d033fa61d98db83d8753395a68f8bc312", func := "agora/agoralaw17.ForkCodes", spec := "forkCodes", inPlace := ["internal/abi.NoEscape", "internal/bytealg.MakeNoZero"], unfollowed := true, recurses := true, named := ["agora/sum.initial", "agora/sum.constants", "math/bits.divideError", "math/bits.overflowError"], apart := false, laid := [("agora/sum.constants", laid_agora_sum_constants), ("agora/sum.initial", laid_agora_sum_initial)], narrowed := true }
def ForkCodesUptoSaid : Prop := forkCodesUptoRow.holds Tryz.pinned (OpenSpec.upto forkCodesSpec)

/-- 'agoralaw17.ForkProves', WHERE WHAT IT READS IS OF BULK AT MOST 1048576: true; the input reads as it did. -/
def forkProvesUptoRow : OpenClaim := { program := "ythbpbkbjdfcnjaagreatdoor", sum := "653f332a6eec2caf25491118ab14fd4d033fa61d98db83d8753395a68f8bc312", func := "agora/agoralaw17.ForkProves", spec := "forkProves", inPlace := ["internal/abi.NoEscape", "internal/bytealg.MakeNoZero"], unfollowed := true, recurses := true, named := ["agora/sum.initial", "agora/sum.constants", "math/bits.divideError", "math/bits.overflowError"], apart := false, laid := [("agora/sum.constants", laid_agora_sum_constants), ("agora/sum.initial", laid_agora_sum_initial)], narrowed := true }
def ForkProvesUptoSaid : Prop := forkProvesUptoRow.holds Tryz.pinned (OpenSpec.upto forkProvesSpec)

/-- 'agoralaw17.ForkHonest', WHERE WHAT IT READS IS OF BULK AT MOST 1048576: true; the input reads as it did. -/
def forkHonestUptoRow : OpenClaim := { program := "ythbpbkbjdfcnjaagreatdoor", sum := "653f332a6eec2caf25491118ab14fd4d033fa61d98db83d8753395a68f8bc312", func := "agora/agoralaw17.ForkHonest", spec := "forkHonest", inPlace := ["internal/abi.NoEscape", "internal/bytealg.MakeNoZero"], unfollowed := true, recurses := true, named := ["agora/sum.initial", "agora/sum.constants", "math/bits.divideError", "math/bits.overflowError"], apart := false, laid := [("agora/sum.constants", laid_agora_sum_constants), ("agora/sum.initial", laid_agora_sum_initial)], narrowed := true }
def ForkHonestUptoSaid : Prop := forkHonestUptoRow.holds Tryz.pinned (OpenSpec.upto forkHonestSpec)

/-- 'agoralaw17.ForkFinds', WHERE WHAT IT READS IS OF BULK AT MOST 1048576: true; the input reads as it did. -/
def forkFindsUptoRow : OpenClaim := { program := "ythbpbkbjdfcnjaagreatdoor", sum := "653f332a6eec2caf25491118ab14fd4d033fa61d98db83d8753395a68f8bc312", func := "agora/agoralaw17.ForkFinds", spec := "forkFinds", inPlace := ["internal/abi.NoEscape", "internal/bytealg.MakeNoZero"], unfollowed := true, recurses := true, named := ["agora/sum.initial", "agora/sum.constants", "math/bits.divideError", "math/bits.overflowError"], apart := false, laid := [("agora/sum.constants", laid_agora_sum_constants), ("agora/sum.initial", laid_agora_sum_initial)], narrowed := true }
def ForkFindsUptoSaid : Prop := forkFindsUptoRow.holds Tryz.pinned (OpenSpec.upto forkFindsSpec)

/-- 'agoralaw17.ForkGrows', WHERE WHAT IT READS IS OF BULK AT MOST 1048576: true; the input reads as it did. -/
def forkGrowsUptoRow : OpenClaim := { program := "ythbpbkbjdfcnjaagreatdoor", sum := "653f332a6eec2caf25491118ab14fd4d033fa61d98db83d8753395a68f8bc312", func := "agora/agoralaw17.ForkGrows", spec := "forkGrows", inPlace := ["internal/abi.NoEscape", "internal/bytealg.MakeNoZero"], unfollowed := true, recurses := true, named := ["agora/sum.initial", "agora/sum.constants", "math/bits.divideError", "math/bits.overflowError"], apart := false, laid := [("agora/sum.constants", laid_agora_sum_constants), ("agora/sum.initial", laid_agora_sum_initial)], narrowed := true }
def ForkGrowsUptoSaid : Prop := forkGrowsUptoRow.holds Tryz.pinned (OpenSpec.upto forkGrowsSpec)

end Rows
end Go.Proofs.YthbpbkbjdfcnjaaGreatDoor
