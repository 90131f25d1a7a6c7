/-
  NARROWER THAN 'FOR EVERY INPUT', by the rows' own cells (each row's printed sentence says how): ActTells: laid · ItemTells: laid · TombReceipts: laid · TombGraves: laid · TombProves: laid · TombBinds: laid · TombGrows: laid.
  DERIVED. THE GIVEN ROWS OF THIS SEAT. 7 by the template 'for every input the law returns true; each argument reads behind the call as it read before'; 0 by the template 'total and deterministic' (their statements: YtaphpbiaoofmkaaGreatDoorTotals.lean).
  GIVEN WITH THE SEED: the statements are not yours to turn. If you find one false, say at which input.
  Laid BY PROGRAM, IN A SANDBOX (cutbox-rows.mjs): the forced cells as the released guide's own fill.sh prints them over the translation cad5a61a6ea1edf9… (all of the seat's roots in one cut). By AI agents, Wed Nov 11 2026. No macro, syntax, notation, axiom, sorry.
-/
import Derived.Test.YtaphpbiaoofmkaaGreatDoorChecked
import GoSem.Claim
import GoSem.ClaimJoined
import GoSem.ClaimMapViews
import Derived.JoinedTies
import Derived.KernelRfl
namespace Go.Proofs.YtaphpbiaoofmkaaGreatDoor
/- THE CELL 'sum', in the pinned program and in every row, IS THE sha256 OF THE DUMP (.gsa) THAT YtaphpbiaoofmkaaGreatDoorProg.lean LOADS. Nothing in Lean hashes anything: it is a label: what it is worth is what the hold of that sum in a sandbox is worth. -/
noncomputable def Tryz.pinned : Pinned := { name := "ytaphpbiaoofmkaagreatdoor", sum := "cad5a61a6ea1edf9d159bd5243470d8c352292641b5fe9b62e45dcfcd687037b", checked := Tryz.checked }
namespace Rows
def none {H : Type} : Left H := { results := [], args := [] }

/- WHAT THE LISTED PACKAGE-LEVEL VARIABLES READ AS WHEN THE CALL BEGINS. Each datum BY PROGRAM (the guide's laid-datum.mjs) off the statement by which the dump's own 'gosem.cut.vars' lays the variable. In a bare row this is a premise. The card (YtaphpbiaoofmkaaGreatDoorCards.lean) ties it to the program's text. -/
def laid_agora_sum_constants {H : Type} : DataW H := .agg [.lit (.int .u32 1116352408), .lit (.int .u32 1899447441), .lit (.int .u32 3049323471), .lit (.int .u32 3921009573), .lit (.int .u32 961987163), .lit (.int .u32 1508970993), .lit (.int .u32 2453635748), .lit (.int .u32 2870763221), .lit (.int .u32 3624381080), .lit (.int .u32 310598401), .lit (.int .u32 607225278), .lit (.int .u32 1426881987), .lit (.int .u32 1925078388), .lit (.int .u32 2162078206), .lit (.int .u32 2614888103), .lit (.int .u32 3248222580), .lit (.int .u32 3835390401), .lit (.int .u32 4022224774), .lit (.int .u32 264347078), .lit (.int .u32 604807628), .lit (.int .u32 770255983), .lit (.int .u32 1249150122), .lit (.int .u32 1555081692), .lit (.int .u32 1996064986), .lit (.int .u32 2554220882), .lit (.int .u32 2821834349), .lit (.int .u32 2952996808), .lit (.int .u32 3210313671), .lit (.int .u32 3336571891), .lit (.int .u32 3584528711), .lit (.int .u32 113926993), .lit (.int .u32 338241895), .lit (.int .u32 666307205), .lit (.int .u32 773529912), .lit (.int .u32 1294757372), .lit (.int .u32 1396182291), .lit (.int .u32 1695183700), .lit (.int .u32 1986661051), .lit (.int .u32 2177026350), .lit (.int .u32 2456956037), .lit (.int .u32 2730485921), .lit (.int .u32 2820302411), .lit (.int .u32 3259730800), .lit (.int .u32 3345764771), .lit (.int .u32 3516065817), .lit (.int .u32 3600352804), .lit (.int .u32 4094571909), .lit (.int .u32 275423344), .lit (.int .u32 430227734), .lit (.int .u32 506948616), .lit (.int .u32 659060556), .lit (.int .u32 883997877), .lit (.int .u32 958139571), .lit (.int .u32 1322822218), .lit (.int .u32 1537002063), .lit (.int .u32 1747873779), .lit (.int .u32 1955562222), .lit (.int .u32 2024104815), .lit (.int .u32 2227730452), .lit (.int .u32 2361852424), .lit (.int .u32 2428436474), .lit (.int .u32 2756734187), .lit (.int .u32 3204031479), .lit (.int .u32 3329325298)]
def laid_agora_sum_initial {H : Type} : DataW H := .agg [.lit (.int .u32 1779033703), .lit (.int .u32 3144134277), .lit (.int .u32 1013904242), .lit (.int .u32 2773480762), .lit (.int .u32 1359893119), .lit (.int .u32 2600822924), .lit (.int .u32 528734635), .lit (.int .u32 1541459225)]

/-- 'agoralaw12.ActTells': WHATEVER THE INPUT: true; the input reads as it did. -/
def actTellsSpec : ChangeSpec := { name := "actTells", fn := fun _ => fun
  | [d1, d2, d3, d4, d5] => { results := [.lit (.bool true)], args := [d1, d2, d3, d4, d5] }
  | _ => none }
def actTellsRow : OpenClaim := { program := "ytaphpbiaoofmkaagreatdoor", sum := "cad5a61a6ea1edf9d159bd5243470d8c352292641b5fe9b62e45dcfcd687037b", func := "agora/agoralaw12.ActTells", spec := "actTells", inPlace := ["internal/abi.NoEscape", "internal/bytealg.MakeNoZero"], unfollowed := true, recurses := true, named := ["math/bits.divideError", "math/bits.overflowError", "agora/sum.initial", "agora/sum.constants"], apart := false, laid := [("agora/sum.constants", laid_agora_sum_constants), ("agora/sum.initial", laid_agora_sum_initial)] }
def ActTellsSaid : Prop := actTellsRow.holds Tryz.pinned (OpenSpec.ofChange actTellsSpec)

/-- ITS FALSE NEIGHBOUR: 'it returns false'. Refute it at one input. -/
def actTellsWrong : ChangeSpec := { name := "actTells", fn := fun _ => fun
  | [d1, d2, d3, d4, d5] => { results := [.lit (.bool false)], args := [d1, d2, d3, d4, d5] }
  | _ => none }
def ActTellsWrongFalsely : Prop := actTellsRow.holds Tryz.pinned (OpenSpec.ofChange actTellsWrong)

/-- 'agoralaw13.ItemTells': WHATEVER THE INPUT: true; the input reads as it did. -/
def itemTellsSpec : ChangeSpec := { name := "itemTells", fn := fun _ => fun
  | [d1, d2, d3, d4, d5, d6] => { results := [.lit (.bool true)], args := [d1, d2, d3, d4, d5, d6] }
  | _ => none }
def itemTellsRow : OpenClaim := { program := "ytaphpbiaoofmkaagreatdoor", sum := "cad5a61a6ea1edf9d159bd5243470d8c352292641b5fe9b62e45dcfcd687037b", func := "agora/agoralaw13.ItemTells", spec := "itemTells", inPlace := ["internal/abi.NoEscape", "internal/bytealg.MakeNoZero"], unfollowed := true, recurses := true, named := ["agora/sum.initial", "agora/sum.constants", "math/bits.divideError", "math/bits.overflowError"], apart := false, laid := [("agora/sum.constants", laid_agora_sum_constants), ("agora/sum.initial", laid_agora_sum_initial)] }
def ItemTellsSaid : Prop := itemTellsRow.holds Tryz.pinned (OpenSpec.ofChange itemTellsSpec)

/-- ITS FALSE NEIGHBOUR: 'it returns false'. Refute it at one input. -/
def itemTellsWrong : ChangeSpec := { name := "itemTells", fn := fun _ => fun
  | [d1, d2, d3, d4, d5, d6] => { results := [.lit (.bool false)], args := [d1, d2, d3, d4, d5, d6] }
  | _ => none }
def ItemTellsWrongFalsely : Prop := itemTellsRow.holds Tryz.pinned (OpenSpec.ofChange itemTellsWrong)

/-- 'agoralaw29.TombReceipts': WHATEVER THE INPUT: true; the input reads as it did. -/
def tombReceiptsSpec : ChangeSpec := { name := "tombReceipts", fn := fun _ => fun
  | [d1, d2, d3, d4, d5] => { results := [.lit (.bool true)], args := [d1, d2, d3, d4, d5] }
  | _ => none }
def tombReceiptsRow : OpenClaim := { program := "ytaphpbiaoofmkaagreatdoor", sum := "cad5a61a6ea1edf9d159bd5243470d8c352292641b5fe9b62e45dcfcd687037b", func := "agora/agoralaw29.TombReceipts", spec := "tombReceipts", inPlace := ["internal/abi.NoEscape", "internal/bytealg.MakeNoZero"], unfollowed := true, recurses := true, named := ["agora/sum.initial", "agora/sum.constants", "math/bits.divideError", "math/bits.overflowError"], apart := false, laid := [("agora/sum.constants", laid_agora_sum_constants), ("agora/sum.initial", laid_agora_sum_initial)] }
def TombReceiptsSaid : Prop := tombReceiptsRow.holds Tryz.pinned (OpenSpec.ofChange tombReceiptsSpec)

/-- ITS FALSE NEIGHBOUR: 'it returns false'. Refute it at one input. -/
def tombReceiptsWrong : ChangeSpec := { name := "tombReceipts", fn := fun _ => fun
  | [d1, d2, d3, d4, d5] => { results := [.lit (.bool false)], args := [d1, d2, d3, d4, d5] }
  | _ => none }
def TombReceiptsWrongFalsely : Prop := tombReceiptsRow.holds Tryz.pinned (OpenSpec.ofChange tombReceiptsWrong)

/-- 'agoralaw29.TombGraves': WHATEVER THE INPUT: true; the input reads as it did. -/
def tombGravesSpec : ChangeSpec := { name := "tombGraves", fn := fun _ => fun
  | [d1, d2, d3, d4, d5, d6, d7] => { results := [.lit (.bool true)], args := [d1, d2, d3, d4, d5, d6, d7] }
  | _ => none }
def tombGravesRow : OpenClaim := { program := "ytaphpbiaoofmkaagreatdoor", sum := "cad5a61a6ea1edf9d159bd5243470d8c352292641b5fe9b62e45dcfcd687037b", func := "agora/agoralaw29.TombGraves", spec := "tombGraves", inPlace := ["internal/abi.NoEscape", "internal/bytealg.MakeNoZero"], unfollowed := true, recurses := true, named := ["agora/sum.initial", "agora/sum.constants", "math/bits.divideError", "math/bits.overflowError"], apart := false, laid := [("agora/sum.constants", laid_agora_sum_constants), ("agora/sum.initial", laid_agora_sum_initial)] }
def TombGravesSaid : Prop := tombGravesRow.holds Tryz.pinned (OpenSpec.ofChange tombGravesSpec)

/-- ITS FALSE NEIGHBOUR: 'it returns false'. Refute it at one input. -/
def tombGravesWrong : ChangeSpec := { name := "tombGraves", fn := fun _ => fun
  | [d1, d2, d3, d4, d5, d6, d7] => { results := [.lit (.bool false)], args := [d1, d2, d3, d4, d5, d6, d7] }
  | _ => none }
def TombGravesWrongFalsely : Prop := tombGravesRow.holds Tryz.pinned (OpenSpec.ofChange tombGravesWrong)

/-- 'agoralaw29.TombProves': WHATEVER THE INPUT: true; the input reads as it did. -/
def tombProvesSpec : ChangeSpec := { name := "tombProves", fn := fun _ => fun
  | [d1, d2, d3, d4, d5] => { results := [.lit (.bool true)], args := [d1, d2, d3, d4, d5] }
  | _ => none }
def tombProvesRow : OpenClaim := { program := "ytaphpbiaoofmkaagreatdoor", sum := "cad5a61a6ea1edf9d159bd5243470d8c352292641b5fe9b62e45dcfcd687037b", func := "agora/agoralaw29.TombProves", spec := "tombProves", inPlace := ["internal/abi.NoEscape", "internal/bytealg.MakeNoZero"], unfollowed := true, recurses := true, named := ["agora/sum.initial", "agora/sum.constants", "math/bits.divideError", "math/bits.overflowError"], apart := false, laid := [("agora/sum.constants", laid_agora_sum_constants), ("agora/sum.initial", laid_agora_sum_initial)] }
def TombProvesSaid : Prop := tombProvesRow.holds Tryz.pinned (OpenSpec.ofChange tombProvesSpec)

/-- ITS FALSE NEIGHBOUR: 'it returns false'. Refute it at one input. -/
def tombProvesWrong : ChangeSpec := { name := "tombProves", fn := fun _ => fun
  | [d1, d2, d3, d4, d5] => { results := [.lit (.bool false)], args := [d1, d2, d3, d4, d5] }
  | _ => none }
def TombProvesWrongFalsely : Prop := tombProvesRow.holds Tryz.pinned (OpenSpec.ofChange tombProvesWrong)

/-- 'agoralaw29.TombBinds': WHATEVER THE INPUT: true; the input reads as it did. -/
def tombBindsSpec : ChangeSpec := { name := "tombBinds", fn := fun _ => fun
  | [d1, d2, d3, d4, d5] => { results := [.lit (.bool true)], args := [d1, d2, d3, d4, d5] }
  | _ => none }
def tombBindsRow : OpenClaim := { program := "ytaphpbiaoofmkaagreatdoor", sum := "cad5a61a6ea1edf9d159bd5243470d8c352292641b5fe9b62e45dcfcd687037b", func := "agora/agoralaw29.TombBinds", spec := "tombBinds", inPlace := ["internal/abi.NoEscape", "internal/bytealg.MakeNoZero"], unfollowed := true, recurses := true, named := ["agora/sum.initial", "agora/sum.constants", "math/bits.divideError", "math/bits.overflowError"], apart := false, laid := [("agora/sum.constants", laid_agora_sum_constants), ("agora/sum.initial", laid_agora_sum_initial)] }
def TombBindsSaid : Prop := tombBindsRow.holds Tryz.pinned (OpenSpec.ofChange tombBindsSpec)

/-- ITS FALSE NEIGHBOUR: 'it returns false'. Refute it at one input. -/
def tombBindsWrong : ChangeSpec := { name := "tombBinds", fn := fun _ => fun
  | [d1, d2, d3, d4, d5] => { results := [.lit (.bool false)], args := [d1, d2, d3, d4, d5] }
  | _ => none }
def TombBindsWrongFalsely : Prop := tombBindsRow.holds Tryz.pinned (OpenSpec.ofChange tombBindsWrong)

/-- 'agoralaw29.TombGrows': WHATEVER THE INPUT: true; the input reads as it did. -/
def tombGrowsSpec : ChangeSpec := { name := "tombGrows", fn := fun _ => fun
  | [d1, d2, d3, d4, d5, d6, d7] => { results := [.lit (.bool true)], args := [d1, d2, d3, d4, d5, d6, d7] }
  | _ => none }
def tombGrowsRow : OpenClaim := { program := "ytaphpbiaoofmkaagreatdoor", sum := "cad5a61a6ea1edf9d159bd5243470d8c352292641b5fe9b62e45dcfcd687037b", func := "agora/agoralaw29.TombGrows", spec := "tombGrows", inPlace := ["internal/abi.NoEscape", "internal/bytealg.MakeNoZero"], unfollowed := true, recurses := true, named := ["agora/sum.initial", "agora/sum.constants", "math/bits.divideError", "math/bits.overflowError"], apart := false, laid := [("agora/sum.constants", laid_agora_sum_constants), ("agora/sum.initial", laid_agora_sum_initial)] }
def TombGrowsSaid : Prop := tombGrowsRow.holds Tryz.pinned (OpenSpec.ofChange tombGrowsSpec)

/-- ITS FALSE NEIGHBOUR: 'it returns false'. Refute it at one input. -/
def tombGrowsWrong : ChangeSpec := { name := "tombGrows", fn := fun _ => fun
  | [d1, d2, d3, d4, d5, d6, d7] => { results := [.lit (.bool false)], args := [d1, d2, d3, d4, d5, d6, d7] }
  | _ => none }
def TombGrowsWrongFalsely : Prop := tombGrowsRow.holds Tryz.pinned (OpenSpec.ofChange tombGrowsWrong)

/- THE SECOND FORM. 'bulk': how many values and letters a reading holds, each counted each time it is reached (what is shared counts as often as it is met; a slice's spare places count too). A statement '..UptoSaid' is the law's where the arguments, and the package variables that the reading takes, are together of bulk at most 1048576: NARROWER than '..Said'. Prove '..Said' where nothing that the law and all that it calls make is longer than what came in: it says more and counts as full. Else prove '..UptoSaid'. A law counts once. -/
mutual
def uptoBulk {H : Type} : DataW H → Nat
  | .lit (.string bytes) => bytes.length + 1
  | .lit _ => 1
  | .nil => 1
  | .ptr d => uptoBulk d + 1
  | .slice elems spare => uptoBulkAll elems + uptoBulkAll spare + 1
  | .agg parts => uptoBulkAll parts + 1
  | .iface _ d => uptoBulk d + 1
  | .map entries => uptoBulkEntries entries + 1
  | .held _ => 1
def uptoBulkAll {H : Type} : List (DataW H) → Nat
  | [] => 0
  | d :: r => uptoBulk d + uptoBulkAll r
def uptoBulkEntries {H : Type} : List (Lit × DataW H) → Nat
  | [] => 0
  | x :: r => uptoBulkEntry x + uptoBulkEntries r
def uptoBulkEntry {H : Type} : Lit × DataW H → Nat
  | (.string bytes, d) => bytes.length + uptoBulk d + 1
  | (_, d) => uptoBulk d + 1
 end
def uptoSmall : (H : Type) → List (DataW H) → Bool := fun _ ds => decide (uptoBulkAll ds ≤ 1048576)
def OpenSpec.upto (s : _root_.Go.ChangeSpec) : _root_.Go.OpenSpec := { _root_.Go.OpenSpec.ofChange s with cond := some uptoSmall }

/-- 'agoralaw12.ActTells', WHERE WHAT IT READS IS OF BULK AT MOST 1048576: true; the input reads as it did. -/
def actTellsUptoRow : OpenClaim := { program := "ytaphpbiaoofmkaagreatdoor", sum := "cad5a61a6ea1edf9d159bd5243470d8c352292641b5fe9b62e45dcfcd687037b", func := "agora/agoralaw12.ActTells", spec := "actTells", inPlace := ["internal/abi.NoEscape", "internal/bytealg.MakeNoZero"], unfollowed := true, recurses := true, named := ["math/bits.divideError", "math/bits.overflowError", "agora/sum.initial", "agora/sum.constants"], apart := false, laid := [("agora/sum.constants", laid_agora_sum_constants), ("agora/sum.initial", laid_agora_sum_initial)], narrowed := true }
def ActTellsUptoSaid : Prop := actTellsUptoRow.holds Tryz.pinned (OpenSpec.upto actTellsSpec)

/-- 'agoralaw13.ItemTells', WHERE WHAT IT READS IS OF BULK AT MOST 1048576: true; the input reads as it did. -/
def itemTellsUptoRow : OpenClaim := { program := "ytaphpbiaoofmkaagreatdoor", sum := "cad5a61a6ea1edf9d159bd5243470d8c352292641b5fe9b62e45dcfcd687037b", func := "agora/agoralaw13.ItemTells", spec := "itemTells", inPlace := ["internal/abi.NoEscape", "internal/bytealg.MakeNoZero"], unfollowed := true, recurses := true, named := ["agora/sum.initial", "agora/sum.constants", "math/bits.divideError", "math/bits.overflowError"], apart := false, laid := [("agora/sum.constants", laid_agora_sum_constants), ("agora/sum.initial", laid_agora_sum_initial)], narrowed := true }
def ItemTellsUptoSaid : Prop := itemTellsUptoRow.holds Tryz.pinned (OpenSpec.upto itemTellsSpec)

/-- 'agoralaw29.TombReceipts', WHERE WHAT IT READS IS OF BULK AT MOST 1048576: true; the input reads as it did. -/
def tombReceiptsUptoRow : OpenClaim := { program := "ytaphpbiaoofmkaagreatdoor", sum := "cad5a61a6ea1edf9d159bd5243470d8c352292641b5fe9b62e45dcfcd687037b", func := "agora/agoralaw29.TombReceipts", spec := "tombReceipts", inPlace := ["internal/abi.NoEscape", "internal/bytealg.MakeNoZero"], unfollowed := true, recurses := true, named := ["agora/sum.initial", "agora/sum.constants", "math/bits.divideError", "math/bits.overflowError"], apart := false, laid := [("agora/sum.constants", laid_agora_sum_constants), ("agora/sum.initial", laid_agora_sum_initial)], narrowed := true }
def TombReceiptsUptoSaid : Prop := tombReceiptsUptoRow.holds Tryz.pinned (OpenSpec.upto tombReceiptsSpec)

/-- 'agoralaw29.TombGraves', WHERE WHAT IT READS IS OF BULK AT MOST 1048576: true; the input reads as it did. -/
def tombGravesUptoRow : OpenClaim := { program := "ytaphpbiaoofmkaagreatdoor", sum := "cad5a61a6ea1edf9d159bd5243470d8c352292641b5fe9b62e45dcfcd687037b", func := "agora/agoralaw29.TombGraves", spec := "tombGraves", inPlace := ["internal/abi.NoEscape", "internal/bytealg.MakeNoZero"], unfollowed := true, recurses := true, named := ["agora/sum.initial", "agora/sum.constants", "math/bits.divideError", "math/bits.overflowError"], apart := false, laid := [("agora/sum.constants", laid_agora_sum_constants), ("agora/sum.initial", laid_agora_sum_initial)], narrowed := true }
def TombGravesUptoSaid : Prop := tombGravesUptoRow.holds Tryz.pinned (OpenSpec.upto tombGravesSpec)

/-- 'agoralaw29.TombProves', WHERE WHAT IT READS IS OF BULK AT MOST 1048576: true; the input reads as it did. -/
def tombProvesUptoRow : OpenClaim := { program := "ytaphpbiaoofmkaagreatdoor", sum := "cad5a61a6ea1edf9d159bd5243470d8c352292641b5fe9b62e45dcfcd687037b", func := "agora/agoralaw29.TombProves", spec := "tombProves", inPlace := ["internal/abi.NoEscape", "internal/bytealg.MakeNoZero"], unfollowed := true, recurses := true, named := ["agora/sum.initial", "agora/sum.constants", "math/bits.divideError", "math/bits.overflowError"], apart := false, laid := [("agora/sum.constants", laid_agora_sum_constants), ("agora/sum.initial", laid_agora_sum_initial)], narrowed := true }
def TombProvesUptoSaid : Prop := tombProvesUptoRow.holds Tryz.pinned (OpenSpec.upto tombProvesSpec)

/-- 'agoralaw29.TombBinds', WHERE WHAT IT READS IS OF BULK AT MOST 1048576: true; the input reads as it did. -/
def tombBindsUptoRow : OpenClaim := { program := "ytaphpbiaoofmkaagreatdoor", sum := "cad5a61a6ea1edf9d159bd5243470d8c352292641b5fe9b62e45dcfcd687037b", func := "agora/agoralaw29.TombBinds", spec := "tombBinds", inPlace := ["internal/abi.NoEscape", "internal/bytealg.MakeNoZero"], unfollowed := true, recurses := true, named := ["agora/sum.initial", "agora/sum.constants", "math/bits.divideError", "math/bits.overflowError"], apart := false, laid := [("agora/sum.constants", laid_agora_sum_constants), ("agora/sum.initial", laid_agora_sum_initial)], narrowed := true }
def TombBindsUptoSaid : Prop := tombBindsUptoRow.holds Tryz.pinned (OpenSpec.upto tombBindsSpec)

/-- 'agoralaw29.TombGrows', WHERE WHAT IT READS IS OF BULK AT MOST 1048576: true; the input reads as it did. -/
def tombGrowsUptoRow : OpenClaim := { program := "ytaphpbiaoofmkaagreatdoor", sum := "cad5a61a6ea1edf9d159bd5243470d8c352292641b5fe9b62e45dcfcd687037b", func := "agora/agoralaw29.TombGrows", spec := "tombGrows", inPlace := ["internal/abi.NoEscape", "internal/bytealg.MakeNoZero"], unfollowed := true, recurses := true, named := ["agora/sum.initial", "agora/sum.constants", "math/bits.divideError", "math/bits.overflowError"], apart := false, laid := [("agora/sum.constants", laid_agora_sum_constants), ("agora/sum.initial", laid_agora_sum_initial)], narrowed := true }
def TombGrowsUptoSaid : Prop := tombGrowsUptoRow.holds Tryz.pinned (OpenSpec.upto tombGrowsSpec)

end Rows
end Go.Proofs.YtaphpbiaoofmkaaGreatDoor
