/-
  NARROWER THAN 'FOR EVERY INPUT', by the rows' own cells (each row's printed sentence says how): SumTells: laid · SumHexes: laid · SumDetects: laid · SumResidue: laid · SumXors: laid · SumNumbers: laid.
  DERIVED. THE GIVEN ROWS OF THIS SEAT. 6 by the template 'for every input the law returns true; each argument reads behind the call as it read before'; 0 by the template 'total and deterministic' (their statements: YtcjagjganiigiaaDoorTotals.lean).
  GIVEN WITH THE SEED: the statements are not yours to turn. If you find one false, say at which input.
  Laid BY PROGRAM, IN A SANDBOX (cutbox-rows.mjs): the forced cells as the released guide's own fill.sh prints them over the translation 037fd8266544c09e… (all of the seat's roots in one cut). By AI agents, Wed Nov 11 2026. No macro, syntax, notation, axiom, sorry.
-/
import Derived.Test.YtcjagjganiigiaaDoorChecked
import GoSem.Claim
import GoSem.ClaimJoined
import GoSem.ClaimMapViews
import Derived.JoinedTies
import Derived.KernelRfl
namespace Go.Proofs.YtcjagjganiigiaaDoor
/- THE CELL 'sum', in the pinned program and in every row, IS THE sha256 OF THE DUMP (.gsa) THAT YtcjagjganiigiaaDoorProg.lean LOADS. Nothing in Lean hashes anything: it is a label: what it is worth is what the hold of that sum in a sandbox is worth. -/
noncomputable def Tryd.pinned : Pinned := { name := "ytcjagjganiigiaadoor", sum := "037fd8266544c09e61f315506a03de5c35ec318037861938a12c14bcdb4b0676", checked := Tryd.checked }
namespace Rows
def none {H : Type} : Left H := { results := [], args := [] }

/- WHAT THE LISTED PACKAGE-LEVEL VARIABLES READ AS WHEN THE CALL BEGINS. Each datum BY PROGRAM (the guide's laid-datum.mjs) off the statement by which the dump's own 'gosem.cut.vars' lays the variable. In a bare row this is a premise. The card (YtcjagjganiigiaaDoorCards.lean) ties it to the program's text. -/
def laid_agora_sum_constants {H : Type} : DataW H := .agg [.lit (.int .u32 1116352408), .lit (.int .u32 1899447441), .lit (.int .u32 3049323471), .lit (.int .u32 3921009573), .lit (.int .u32 961987163), .lit (.int .u32 1508970993), .lit (.int .u32 2453635748), .lit (.int .u32 2870763221), .lit (.int .u32 3624381080), .lit (.int .u32 310598401), .lit (.int .u32 607225278), .lit (.int .u32 1426881987), .lit (.int .u32 1925078388), .lit (.int .u32 2162078206), .lit (.int .u32 2614888103), .lit (.int .u32 3248222580), .lit (.int .u32 3835390401), .lit (.int .u32 4022224774), .lit (.int .u32 264347078), .lit (.int .u32 604807628), .lit (.int .u32 770255983), .lit (.int .u32 1249150122), .lit (.int .u32 1555081692), .lit (.int .u32 1996064986), .lit (.int .u32 2554220882), .lit (.int .u32 2821834349), .lit (.int .u32 2952996808), .lit (.int .u32 3210313671), .lit (.int .u32 3336571891), .lit (.int .u32 3584528711), .lit (.int .u32 113926993), .lit (.int .u32 338241895), .lit (.int .u32 666307205), .lit (.int .u32 773529912), .lit (.int .u32 1294757372), .lit (.int .u32 1396182291), .lit (.int .u32 1695183700), .lit (.int .u32 1986661051), .lit (.int .u32 2177026350), .lit (.int .u32 2456956037), .lit (.int .u32 2730485921), .lit (.int .u32 2820302411), .lit (.int .u32 3259730800), .lit (.int .u32 3345764771), .lit (.int .u32 3516065817), .lit (.int .u32 3600352804), .lit (.int .u32 4094571909), .lit (.int .u32 275423344), .lit (.int .u32 430227734), .lit (.int .u32 506948616), .lit (.int .u32 659060556), .lit (.int .u32 883997877), .lit (.int .u32 958139571), .lit (.int .u32 1322822218), .lit (.int .u32 1537002063), .lit (.int .u32 1747873779), .lit (.int .u32 1955562222), .lit (.int .u32 2024104815), .lit (.int .u32 2227730452), .lit (.int .u32 2361852424), .lit (.int .u32 2428436474), .lit (.int .u32 2756734187), .lit (.int .u32 3204031479), .lit (.int .u32 3329325298)]
def laid_agora_sum_initial {H : Type} : DataW H := .agg [.lit (.int .u32 1779033703), .lit (.int .u32 3144134277), .lit (.int .u32 1013904242), .lit (.int .u32 2773480762), .lit (.int .u32 1359893119), .lit (.int .u32 2600822924), .lit (.int .u32 528734635), .lit (.int .u32 1541459225)]

/-- 'agoralaw03.SumTells': WHATEVER THE INPUT: true; the input reads as it did. -/
def sumTellsSpec : ChangeSpec := { name := "sumTells", fn := fun _ => fun
  | [d] => { results := [.lit (.bool true)], args := [d] }
  | _ => none }
def sumTellsRow : OpenClaim := { program := "ytcjagjganiigiaadoor", sum := "037fd8266544c09e61f315506a03de5c35ec318037861938a12c14bcdb4b0676", func := "agora/agoralaw03.SumTells", spec := "sumTells", named := ["agora/sum.initial", "agora/sum.constants"], apart := false, laid := [("agora/sum.constants", laid_agora_sum_constants), ("agora/sum.initial", laid_agora_sum_initial)] }
def SumTellsSaid : Prop := sumTellsRow.holds Tryd.pinned (OpenSpec.ofChange sumTellsSpec)

/-- ITS FALSE NEIGHBOUR: 'it returns false'. Refute it at one input. -/
def sumTellsWrong : ChangeSpec := { name := "sumTells", fn := fun _ => fun
  | [d] => { results := [.lit (.bool false)], args := [d] }
  | _ => none }
def SumTellsWrongFalsely : Prop := sumTellsRow.holds Tryd.pinned (OpenSpec.ofChange sumTellsWrong)

/-- 'agoralaw03.SumHexes': WHATEVER THE INPUT: true; the input reads as it did. -/
def sumHexesSpec : ChangeSpec := { name := "sumHexes", fn := fun _ => fun
  | [d1, d2] => { results := [.lit (.bool true)], args := [d1, d2] }
  | _ => none }
def sumHexesRow : OpenClaim := { program := "ytcjagjganiigiaadoor", sum := "037fd8266544c09e61f315506a03de5c35ec318037861938a12c14bcdb4b0676", func := "agora/agoralaw03.SumHexes", spec := "sumHexes", named := ["agora/sum.initial", "agora/sum.constants"], apart := false, laid := [("agora/sum.constants", laid_agora_sum_constants), ("agora/sum.initial", laid_agora_sum_initial)] }
def SumHexesSaid : Prop := sumHexesRow.holds Tryd.pinned (OpenSpec.ofChange sumHexesSpec)

/-- ITS FALSE NEIGHBOUR: 'it returns false'. Refute it at one input. -/
def sumHexesWrong : ChangeSpec := { name := "sumHexes", fn := fun _ => fun
  | [d1, d2] => { results := [.lit (.bool false)], args := [d1, d2] }
  | _ => none }
def SumHexesWrongFalsely : Prop := sumHexesRow.holds Tryd.pinned (OpenSpec.ofChange sumHexesWrong)

/-- 'agoralaw03.SumDetects': WHATEVER THE INPUT: true; the input reads as it did. -/
def sumDetectsSpec : ChangeSpec := { name := "sumDetects", fn := fun _ => fun
  | [d1, d2, d3] => { results := [.lit (.bool true)], args := [d1, d2, d3] }
  | _ => none }
def sumDetectsRow : OpenClaim := { program := "ytcjagjganiigiaadoor", sum := "037fd8266544c09e61f315506a03de5c35ec318037861938a12c14bcdb4b0676", func := "agora/agoralaw03.SumDetects", spec := "sumDetects", named := ["agora/sum.initial", "agora/sum.constants"], apart := false, laid := [("agora/sum.constants", laid_agora_sum_constants), ("agora/sum.initial", laid_agora_sum_initial)] }
def SumDetectsSaid : Prop := sumDetectsRow.holds Tryd.pinned (OpenSpec.ofChange sumDetectsSpec)

/-- ITS FALSE NEIGHBOUR: 'it returns false'. Refute it at one input. -/
def sumDetectsWrong : ChangeSpec := { name := "sumDetects", fn := fun _ => fun
  | [d1, d2, d3] => { results := [.lit (.bool false)], args := [d1, d2, d3] }
  | _ => none }
def SumDetectsWrongFalsely : Prop := sumDetectsRow.holds Tryd.pinned (OpenSpec.ofChange sumDetectsWrong)

/-- 'agoralaw03.SumResidue': WHATEVER THE INPUT: true; the input reads as it did. -/
def sumResidueSpec : ChangeSpec := { name := "sumResidue", fn := fun _ => fun
  | [d1, d2] => { results := [.lit (.bool true)], args := [d1, d2] }
  | _ => none }
def sumResidueRow : OpenClaim := { program := "ytcjagjganiigiaadoor", sum := "037fd8266544c09e61f315506a03de5c35ec318037861938a12c14bcdb4b0676", func := "agora/agoralaw03.SumResidue", spec := "sumResidue", named := ["agora/sum.initial", "agora/sum.constants"], apart := false, laid := [("agora/sum.constants", laid_agora_sum_constants), ("agora/sum.initial", laid_agora_sum_initial)] }
def SumResidueSaid : Prop := sumResidueRow.holds Tryd.pinned (OpenSpec.ofChange sumResidueSpec)

/-- ITS FALSE NEIGHBOUR: 'it returns false'. Refute it at one input. -/
def sumResidueWrong : ChangeSpec := { name := "sumResidue", fn := fun _ => fun
  | [d1, d2] => { results := [.lit (.bool false)], args := [d1, d2] }
  | _ => none }
def SumResidueWrongFalsely : Prop := sumResidueRow.holds Tryd.pinned (OpenSpec.ofChange sumResidueWrong)

/-- 'agoralaw03.SumXors': WHATEVER THE INPUT: true; the input reads as it did. -/
def sumXorsSpec : ChangeSpec := { name := "sumXors", fn := fun _ => fun
  | [d1, d2, d3] => { results := [.lit (.bool true)], args := [d1, d2, d3] }
  | _ => none }
def sumXorsRow : OpenClaim := { program := "ytcjagjganiigiaadoor", sum := "037fd8266544c09e61f315506a03de5c35ec318037861938a12c14bcdb4b0676", func := "agora/agoralaw03.SumXors", spec := "sumXors", named := ["agora/sum.initial", "agora/sum.constants"], apart := false, laid := [("agora/sum.constants", laid_agora_sum_constants), ("agora/sum.initial", laid_agora_sum_initial)] }
def SumXorsSaid : Prop := sumXorsRow.holds Tryd.pinned (OpenSpec.ofChange sumXorsSpec)

/-- ITS FALSE NEIGHBOUR: 'it returns false'. Refute it at one input. -/
def sumXorsWrong : ChangeSpec := { name := "sumXors", fn := fun _ => fun
  | [d1, d2, d3] => { results := [.lit (.bool false)], args := [d1, d2, d3] }
  | _ => none }
def SumXorsWrongFalsely : Prop := sumXorsRow.holds Tryd.pinned (OpenSpec.ofChange sumXorsWrong)

/-- 'agoralaw03.SumNumbers': WHATEVER THE INPUT: true; the input reads as it did. -/
def sumNumbersSpec : ChangeSpec := { name := "sumNumbers", fn := fun _ => fun
  | [d1, d2, d3] => { results := [.lit (.bool true)], args := [d1, d2, d3] }
  | _ => none }
def sumNumbersRow : OpenClaim := { program := "ytcjagjganiigiaadoor", sum := "037fd8266544c09e61f315506a03de5c35ec318037861938a12c14bcdb4b0676", func := "agora/agoralaw03.SumNumbers", spec := "sumNumbers", named := ["agora/sum.initial", "agora/sum.constants"], apart := false, laid := [("agora/sum.constants", laid_agora_sum_constants), ("agora/sum.initial", laid_agora_sum_initial)] }
def SumNumbersSaid : Prop := sumNumbersRow.holds Tryd.pinned (OpenSpec.ofChange sumNumbersSpec)

/-- ITS FALSE NEIGHBOUR: 'it returns false'. Refute it at one input. -/
def sumNumbersWrong : ChangeSpec := { name := "sumNumbers", fn := fun _ => fun
  | [d1, d2, d3] => { results := [.lit (.bool false)], args := [d1, d2, d3] }
  | _ => none }
def SumNumbersWrongFalsely : Prop := sumNumbersRow.holds Tryd.pinned (OpenSpec.ofChange sumNumbersWrong)

/- THE SECOND FORM. 'bulk': how many values and letters a reading holds, each counted each time it is reached (what is shared counts as often as it is met; a slice's spare places count too). A statement '..UptoSaid' is the law's where the arguments, and the package variables that the reading takes, are together of bulk at most 1048576: NARROWER than '..Said'. Prove '..Said' where nothing that the law and all that it calls make is longer than what came in: it says more and counts as full. Else prove '..UptoSaid'. A law counts once. -/
mutual
def uptoBulk {H : Type} : DataW H → Nat
  | .lit (.string bytes) => bytes.length + 1
  | .lit _ => 1
  | .nil => 1
  | .ptr d => uptoBulk d + 1
  | .slice elems spare => uptoBulkAll elems + uptoBulkAll spare + 1
  | .agg parts => uptoBulkAll parts + 1
  | .iface _ d => uptoBulk d + 1
  | .map entries => uptoBulkEntries entries + 1
  | .held _ => 1
def uptoBulkAll {H : Type} : List (DataW H) → Nat
  | [] => 0
  | d :: r => uptoBulk d + uptoBulkAll r
def uptoBulkEntries {H : Type} : List (Lit × DataW H) → Nat
  | [] => 0
  | x :: r => uptoBulkEntry x + uptoBulkEntries r
def uptoBulkEntry {H : Type} : Lit × DataW H → Nat
  | (.string bytes, d) => bytes.length + uptoBulk d + 1
  | (_, d) => uptoBulk d + 1
 end
def uptoSmall : (H : Type) → List (DataW H) → Bool := fun _ ds => decide (uptoBulkAll ds ≤ 1048576)
def OpenSpec.upto (s : _root_.Go.ChangeSpec) : _root_.Go.OpenSpec := { _root_.Go.OpenSpec.ofChange s with cond := some uptoSmall }

/-- 'agoralaw03.SumTells', WHERE WHAT IT READS IS OF BULK AT MOST 1048576: true; the input reads as it did. -/
def sumTellsUptoRow : OpenClaim := { program := "ytcjagjganiigiaadoor", sum := "037fd8266544c09e61f315506a03de5c35ec318037861938a12c14bcdb4b0676", func := "agora/agoralaw03.SumTells", spec := "sumTells", named := ["agora/sum.initial", "agora/sum.constants"], apart := false, laid := [("agora/sum.constants", laid_agora_sum_constants), ("agora/sum.initial", laid_agora_sum_initial)], narrowed := true }
def SumTellsUptoSaid : Prop := sumTellsUptoRow.holds Tryd.pinned (OpenSpec.upto sumTellsSpec)

/-- 'agoralaw03.SumHexes', WHERE WHAT IT READS IS OF BULK AT MOST 1048576: true; the input reads as it did. -/
def sumHexesUptoRow : OpenClaim := { program := "ytcjagjganiigiaadoor", sum := "037fd8266544c09e61f315506a03de5c35ec318037861938a12c14bcdb4b0676", func := "agora/agoralaw03.SumHexes", spec := "sumHexes", named := ["agora/sum.initial", "agora/sum.constants"], apart := false, laid := [("agora/sum.constants", laid_agora_sum_constants), ("agora/sum.initial", laid_agora_sum_initial)], narrowed := true }
def SumHexesUptoSaid : Prop := sumHexesUptoRow.holds Tryd.pinned (OpenSpec.upto sumHexesSpec)

/-- 'agoralaw03.SumDetects', WHERE WHAT IT READS IS OF BULK AT MOST 1048576: true; the input reads as it did. -/
def sumDetectsUptoRow : OpenClaim := { program := "ytcjagjganiigiaadoor", sum := "037fd8266544c09e61f315506a03de5c35ec318037861938a12c14bcdb4b0676", func := "agora/agoralaw03.SumDetects", spec := "sumDetects", named := ["agora/sum.initial", "agora/sum.constants"], apart := false, laid := [("agora/sum.constants", laid_agora_sum_constants), ("agora/sum.initial", laid_agora_sum_initial)], narrowed := true }
def SumDetectsUptoSaid : Prop := sumDetectsUptoRow.holds Tryd.pinned (OpenSpec.upto sumDetectsSpec)

/-- 'agoralaw03.SumResidue', WHERE WHAT IT READS IS OF BULK AT MOST 1048576: true; the input reads as it did. -/
def sumResidueUptoRow : OpenClaim := { program := "ytcjagjganiigiaadoor", sum := "037fd8266544c09e61f315506a03de5c35ec318037861938a12c14bcdb4b0676", func := "agora/agoralaw03.SumResidue", spec := "sumResidue", named := ["agora/sum.initial", "agora/sum.constants"], apart := false, laid := [("agora/sum.constants", laid_agora_sum_constants), ("agora/sum.initial", laid_agora_sum_initial)], narrowed := true }
def SumResidueUptoSaid : Prop := sumResidueUptoRow.holds Tryd.pinned (OpenSpec.upto sumResidueSpec)

/-- 'agoralaw03.SumXors', WHERE WHAT IT READS IS OF BULK AT MOST 1048576: true; the input reads as it did. -/
def sumXorsUptoRow : OpenClaim := { program := "ytcjagjganiigiaadoor", sum := "037fd8266544c09e61f315506a03de5c35ec318037861938a12c14bcdb4b0676", func := "agora/agoralaw03.SumXors", spec := "sumXors", named := ["agora/sum.initial", "agora/sum.constants"], apart := false, laid := [("agora/sum.constants", laid_agora_sum_constants), ("agora/sum.initial", laid_agora_sum_initial)], narrowed := true }
def SumXorsUptoSaid : Prop := sumXorsUptoRow.holds Tryd.pinned (OpenSpec.upto sumXorsSpec)

/-- 'agoralaw03.SumNumbers', WHERE WHAT IT READS IS OF BULK AT MOST 1048576: true; the input reads as it did. -/
def sumNumbersUptoRow : OpenClaim := { program := "ytcjagjganiigiaadoor", sum := "037fd8266544c09e61f315506a03de5c35ec318037861938a12c14bcdb4b0676", func := "agora/agoralaw03.SumNumbers", spec := "sumNumbers", named := ["agora/sum.initial", "agora/sum.constants"], apart := false, laid := [("agora/sum.constants", laid_agora_sum_constants), ("agora/sum.initial", laid_agora_sum_initial)], narrowed := true }
def SumNumbersUptoSaid : Prop := sumNumbersUptoRow.holds Tryd.pinned (OpenSpec.upto sumNumbersSpec)

end Rows
end Go.Proofs.YtcjagjganiigiaaDoor
