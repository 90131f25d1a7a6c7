import Derived.Shelf.Strings.Builder1
import Derived.Shelf.Strings.Builder2
import Derived.Shelf.Strings.OnBuilder
import Derived.Shelf.Bits.Mul64
import Derived.Ground.Names2Prog
import Derived.Shelf.Slices.CompactI
import Derived.Shelf.Slices.CompactS
import Derived.Ground.SlgmProg
import Derived.Shelf.SortM.Plain
import Derived.Shelf.SortM.SortNone
import Derived.Test.YtchpmmjmimaigaaGreatDoorProg
set_option linter.unusedSectionVars false
set_option linter.unusedVariables false
set_option linter.unusedSimpArgs false
namespace Go.Proofs.YtchpmmjmimaigaaGreatDoor
end Go.Proofs.YtchpmmjmimaigaaGreatDoor
namespace Go.Proofs
open Go.Shelf
def Tryz.lays156_ren:Go.Shelf.Ren:=⟨fun |156=>188|165=>280|166=>281|169=>282|240=>337|241=>338|276=>363|277=>364|n=>n,fun |31=>50|9=>9|3=>3|4=>4|0=>0|20=>20|72=>290|76=>294|70=>288|37=>164|75=>293|127=>334|164=>349|5=>5|80=>296|n=>n,fun |n=>n⟩
theorem Tryz.lays156:Go.Proofs.Lays.n156 Tryz.prog Tryz.lays156_ren:={
  mixed:=by kernel_rfl
  f156:=Tryz.func188.trans (congrArg some (by kernel_rfl))
  f165:=Tryz.func280.trans (congrArg some (by kernel_rfl))
  f166:=Tryz.func281.trans (congrArg some (by kernel_rfl))
  f169:=Tryz.func282.trans (congrArg some (by kernel_rfl))
  f240:=Tryz.func337.trans (congrArg some (by kernel_rfl))
  f241:=Tryz.func338.trans (congrArg some (by kernel_rfl))
  f276:=Tryz.func363.trans (congrArg some (by kernel_rfl))
  f277:=Tryz.func364.trans (congrArg some (by kernel_rfl))
  t0:=Tryz.underlying0
  a0:=Tryz.isAgg0
  z0:=Tryz.sizeOf0
  v0:=Tryz.zeroValue0
  t3:=Tryz.underlying3
  a3:=Tryz.isAgg3
  z3:=Tryz.sizeOf3
  v3:=Tryz.zeroValue3
  t4:=Tryz.underlying4
  a4:=Tryz.isAgg4
  z4:=Tryz.sizeOf4
  v4:=Tryz.zeroValue4
  t9:=Tryz.underlying9
  a9:=Tryz.isAgg9
  z9:=Tryz.sizeOf9
  v9:=Tryz.zeroValue9
  t20:=Tryz.underlying20
  a20:=Tryz.isAgg20
  z20:=Tryz.sizeOf20
  v20:=Tryz.zeroValue20
  t31:=Tryz.underlying50
  a31:=Tryz.isAgg50
  z31:=Tryz.sizeOf50
  v31:=Tryz.zeroValue50
  t37:=Tryz.underlying164
  a37:=Tryz.isAgg164
  z37:=Tryz.sizeOf164
  v37:=Tryz.zeroValue164
  t70:=Tryz.underlying288
  a70:=Tryz.isAgg288
  z70:=Tryz.sizeOf288
  v70:=Tryz.zeroValue288
  t72:=Tryz.underlying290
  a72:=Tryz.isAgg290
  z72:=Tryz.sizeOf290
  v72:=Tryz.zeroValue290
  t75:=Tryz.underlying293
  a75:=Tryz.isAgg293
  z75:=Tryz.sizeOf293
  v75:=Tryz.zeroValue293
  t76:=Tryz.underlying294
  a76:=Tryz.isAgg294
  z76:=Tryz.sizeOf294
  v76:=Tryz.zeroValue294
  t127:=Tryz.underlying334
  a127:=Tryz.isAgg334
  z127:=Tryz.sizeOf334
  v127:=Tryz.zeroValue334
  t164:=Tryz.underlying349
  a164:=Tryz.isAgg349
  z164:=Tryz.sizeOf349
  v164:=Tryz.zeroValue349 }
theorem Tryz.Builder_Extra_156:Builder.Extra Tryz.prog Tryz.lays156_ren:={
  sizeBuilder:=by kernel_rfl
  liesBuilder:=by kernel_rfl
  t5:=Tryz.underlying5
  a5:=Tryz.isAgg5
  z5:=Tryz.sizeOf5
  v5:=Tryz.zeroValue5
  infoByte:=by kernel_rfl
  cellsByte:=by kernel_rfl
  sizeByte:=by kernel_rfl
  neB5:=by decide }
open Go.RowKit in
theorem Tryz.strings_Join(bk o c:Nat)(xs:List ByteArray)(sep:ByteArray)(w:World)(hcells:∀(j:Nat) x,xs[j]? = some x→w.cell? ⟨bk,o+j,none⟩=some (.string x))(hbk:bk<w.heap.size)(hN:xs.length≤140737488355328)(hcap:xs.length≤c)(hlen:(Lib.join (xs.map (·.data.toList)) sep.data.toList).length≤140737488355328):
    Calls Tryz.prog 188 #[.slice (some ⟨bk,o,none⟩) xs.length c,.string sep] w fun e w'=>e=.returned (.string ⟨(Lib.join (xs.map (·.data.toList)) sep.data.toList).toArray⟩)∧Below w.heap.size w w':=Any.strings_Join Tryz.lays156 Tryz.Builder_Extra_156 bk o c xs sep w hcells hbk hN hcap hlen
end Go.Proofs
namespace Go.Proofs.YtchpmmjmimaigaaGreatDoor
end Go.Proofs.YtchpmmjmimaigaaGreatDoor
