/- Several texts in one, without what this claim does not use (tools/shake.py). -/
import Derived.Test.YtaphpbiaoofmkaaGreatDoorKr1
import Derived.Test.YtaphpbiaoofmkaaGreatDoorKr2
import Derived.Test.YtaphpbiaoofmkaaGreatDoorKr3
import Derived.Test.YtaphpbiaoofmkaaGreatDoorKr4
import Derived.Test.YtaphpbiaoofmkaaGreatDoorKr5
import Derived.Test.YtaphpbiaoofmkaaGreatDoorKr7
import Derived.Test.YtaphpbiaoofmkaaGreatDoorKr8
import Derived.Test.YtaphpbiaoofmkaaGreatDoorKr14
import Derived.Test.YtaphpbiaoofmkaaGreatDoorCards
import Derived.Test.YtaphpbiaoofmkaaGreatDoorTie
import Derived.WalkKit
import Derived.ProofKit
import Derived.OpenShut
import Derived.Deep.DeepHandedRow
import Derived.Lib.LaidTab
import Derived.Stop.LaidErr
import Derived.ShutString
set_option linter.unusedSectionVars false
set_option linter.unusedVariables false
set_option linter.unusedSimpArgs false
section
namespace Go.Proofs.YtaphpbiaoofmkaaGreatDoor
open Go Go.RowKit Sm
theorem own : ownKnob Tryz.prog.godebug = none := by kernel_rfl
theorem gK : Tryz.prog.globalNamed "agora/sum.constants" = some 1 := by kernel_rfl
theorem gI : Tryz.prog.globalNamed "agora/sum.initial" = some 0 := by kernel_rfl
theorem gKType : (Tryz.prog.globals[1]?).map (·.type) = some 220 := by kernel_rfl
theorem gIType : (Tryz.prog.globals[0]?).map (·.type) = some 199 := by kernel_rfl
theorem cellsK : Tryz.prog.cellsOf 220 = 64 := by kernel_rfl
theorem cellsI : Tryz.prog.cellsOf 199 = 8 := by kernel_rfl
theorem cellsU : Tryz.prog.cellsOf 198 = 1 := by kernel_rfl
def zsK : List Int := [1116352408, 1899447441, 3049323471, 3921009573, 961987163, 1508970993, 2453635748, 2870763221, 3624381080, 310598401, 607225278, 1426881987, 1925078388, 2162078206, 2614888103, 3248222580, 3835390401, 4022224774, 264347078, 604807628, 770255983, 1249150122, 1555081692, 1996064986, 2554220882, 2821834349, 2952996808, 3210313671, 3336571891, 3584528711, 113926993, 338241895, 666307205, 773529912, 1294757372, 1396182291, 1695183700, 1986661051, 2177026350, 2456956037, 2730485921, 2820302411, 3259730800, 3345764771, 3516065817, 3600352804, 4094571909, 275423344, 430227734, 506948616, 659060556, 883997877, 958139571, 1322822218, 1537002063, 1747873779, 1955562222, 2024104815, 2227730452, 2361852424, 2428436474, 2756734187, 3204031479, 3329325298]
def zsI : List Int := [1779033703, 3144134277, 1013904242, 2773480762, 1359893119, 2600822924, 528734635, 1541459225]
theorem zsK_eq : zsK = tabK.map (fun x => (x.toNat : Int)) := by decide +kernel
theorem zsI_eq : zsI = init8.list.map (fun x => (x.toNat : Int)) := by decide +kernel
theorem word_at (l : List (BitVec 32)) (i : Nat) (hi : i < l.length) : Value.int .u32 ((l.map (fun x => (x.toNat : Int))).getD i 0) = w32 (l.getD i 0) := by
 simp only [List.getD_eq_getElem?_getD, List.getElem?_map, List.getElem?_eq_getElem hi]
 rfl
def laidList : List (String × DataW Unit) := [("agora/sum.constants", Rows.laid_agora_sum_constants), ("agora/sum.initial", Rows.laid_agora_sum_initial)]
theorem tabs_of {W : World} (h : laidMetH Tryz.prog laidList W) : Tabs W := by
 have h1 : laidMet Tryz.prog (("agora/sum.constants", Lib.tabData .u32 zsK) :: [("agora/sum.initial", Lib.tabData .u32 zsI)]) W := h
 have k1 := Lib.tabIs_of_head gK gKType Tryz.underlying220 Tryz.underlying198 cellsU cellsK h1
 have k2 := Lib.tabIs_of_head gI gIType Tryz.underlying199 Tryz.underlying198 cellsU cellsI (laidMet.tail h1)
 refine ⟨fun i hi => ?_, fun i hi => ?_⟩
 ·rw [k1.cell gK i hi, zsK_eq, word_at tabK i hi]
 ·rw [k2.cell gI i hi, zsI_eq, word_at init8.list i hi]
def withCells (cs : Array Value) : Obj → Obj
 | .cells _ t frozen => .cells cs t frozen
 | o => o
noncomputable def laidWorld (os : Os) : World :=
 { World.holding Tryz.prog os ⟨#[], #[], []⟩ with heap := ((World.holding Tryz.prog os ⟨#[], #[], []⟩).heap.modify 1 (withCells (zsK.map (Value.int .u32)).toArray)).modify 0 (withCells (zsI.map (Value.int .u32)).toArray) }
end Go.Proofs.YtaphpbiaoofmkaaGreatDoor
namespace Go.Proofs.YtaphpbiaoofmkaaGreatDoor
open Go Go.RowKit Sm
theorem tab_of {W : World} (h : Tabs W) : ∀ b i v, (Pe.tabs).T b i = some v → W.cell? ⟨b, i, none⟩ = some v := by
 intro b i v hv
 have hv' : (if b = 1 ∧ i < 64 then some (w32 (tabK.getD i 0)) else if b = 0 ∧ i < 8 then some (w32 (init8.list.getD i 0)) else none) = some v := hv
 split at hv'
 ·rename_i hc
  obtain ⟨rfl, hi⟩ := hc
  rw [h.1 i hi]; exact hv'
 ·split at hv'
  ·rename_i hc
   obtain ⟨rfl, hi⟩ := hc
   rw [h.2 i hi]; exact hv'
  ·cases hv'
theorem laidOut : laidOutB Tryz.prog = true := by kernel_rfl
end Go.Proofs.YtaphpbiaoofmkaaGreatDoor
end
