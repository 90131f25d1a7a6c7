import Derived.Shelf.Strings.Builder1
import Derived.Shelf.Strings.Builder2
import Derived.Shelf.Strings.OnBuilder
import Derived.Shelf.Bits.Mul64
import Derived.Ground.Names2Prog
import Derived.Shelf.Slices.CompactI
import Derived.Shelf.Slices.CompactS
import Derived.Ground.SlgmProg
import Derived.Shelf.SortM.Plain
import Derived.Shelf.SortM.SortNone
import Derived.Test.YtipfggegddlgdaaGreatDoorProg
set_option linter.unusedSectionVars false
set_option linter.unusedVariables false
set_option linter.unusedSimpArgs false
namespace Go.Proofs.YtipfggegddlgdaaGreatDoor
end Go.Proofs.YtipfggegddlgdaaGreatDoor
namespace Go.Proofs
open Go.Shelf
def Tryz.lays156_ren:Go.Shelf.Ren:=⟨fun |156=>312|165=>327|166=>328|169=>329|240=>345|241=>346|276=>354|277=>355|n=>n,fun |31=>38|9=>9|3=>3|4=>4|0=>0|20=>20|72=>306|76=>310|70=>304|37=>133|75=>309|127=>323|164=>334|5=>5|80=>312|n=>n,fun |n=>n⟩
theorem Tryz.lays156:Go.Proofs.Lays.n156 Tryz.prog Tryz.lays156_ren:={
  mixed:=by kernel_rfl
  f156:=Tryz.func312.trans (congrArg some (by kernel_rfl))
  f165:=Tryz.func327.trans (congrArg some (by kernel_rfl))
  f166:=Tryz.func328.trans (congrArg some (by kernel_rfl))
  f169:=Tryz.func329.trans (congrArg some (by kernel_rfl))
  f240:=Tryz.func345.trans (congrArg some (by kernel_rfl))
  f241:=Tryz.func346.trans (congrArg some (by kernel_rfl))
  f276:=Tryz.func354.trans (congrArg some (by kernel_rfl))
  f277:=Tryz.func355.trans (congrArg some (by kernel_rfl))
  t0:=Tryz.underlying0
  a0:=Tryz.isAgg0
  z0:=Tryz.sizeOf0
  v0:=Tryz.zeroValue0
  t3:=Tryz.underlying3
  a3:=Tryz.isAgg3
  z3:=Tryz.sizeOf3
  v3:=Tryz.zeroValue3
  t4:=Tryz.underlying4
  a4:=Tryz.isAgg4
  z4:=Tryz.sizeOf4
  v4:=Tryz.zeroValue4
  t9:=Tryz.underlying9
  a9:=Tryz.isAgg9
  z9:=Tryz.sizeOf9
  v9:=Tryz.zeroValue9
  t20:=Tryz.underlying20
  a20:=Tryz.isAgg20
  z20:=Tryz.sizeOf20
  v20:=Tryz.zeroValue20
  t31:=Tryz.underlying38
  a31:=Tryz.isAgg38
  z31:=Tryz.sizeOf38
  v31:=Tryz.zeroValue38
  t37:=Tryz.underlying133
  a37:=Tryz.isAgg133
  z37:=Tryz.sizeOf133
  v37:=Tryz.zeroValue133
  t70:=Tryz.underlying304
  a70:=Tryz.isAgg304
  z70:=Tryz.sizeOf304
  v70:=Tryz.zeroValue304
  t72:=Tryz.underlying306
  a72:=Tryz.isAgg306
  z72:=Tryz.sizeOf306
  v72:=Tryz.zeroValue306
  t75:=Tryz.underlying309
  a75:=Tryz.isAgg309
  z75:=Tryz.sizeOf309
  v75:=Tryz.zeroValue309
  t76:=Tryz.underlying310
  a76:=Tryz.isAgg310
  z76:=Tryz.sizeOf310
  v76:=Tryz.zeroValue310
  t127:=Tryz.underlying323
  a127:=Tryz.isAgg323
  z127:=Tryz.sizeOf323
  v127:=Tryz.zeroValue323
  t164:=Tryz.underlying334
  a164:=Tryz.isAgg334
  z164:=Tryz.sizeOf334
  v164:=Tryz.zeroValue334 }
theorem Tryz.Builder_Extra_156:Builder.Extra Tryz.prog Tryz.lays156_ren:={
  sizeBuilder:=by kernel_rfl
  liesBuilder:=by kernel_rfl
  t5:=Tryz.underlying5
  a5:=Tryz.isAgg5
  z5:=Tryz.sizeOf5
  v5:=Tryz.zeroValue5
  infoByte:=by kernel_rfl
  cellsByte:=by kernel_rfl
  sizeByte:=by kernel_rfl
  neB5:=by decide }
open Go.RowKit in
theorem Tryz.strings_Join(bk o c:Nat)(xs:List ByteArray)(sep:ByteArray)(w:World)(hcells:∀(j:Nat) x,xs[j]? = some x→w.cell? ⟨bk,o+j,none⟩=some (.string x))(hbk:bk<w.heap.size)(hN:xs.length≤140737488355328)(hcap:xs.length≤c)(hlen:(Lib.join (xs.map (·.data.toList)) sep.data.toList).length≤140737488355328):
    Calls Tryz.prog 312 #[.slice (some ⟨bk,o,none⟩) xs.length c,.string sep] w fun e w'=>e=.returned (.string ⟨(Lib.join (xs.map (·.data.toList)) sep.data.toList).toArray⟩)∧Below w.heap.size w w':=Any.strings_Join Tryz.lays156 Tryz.Builder_Extra_156 bk o c xs sep w hcells hbk hN hcap hlen
end Go.Proofs
namespace Go.Proofs.YtipfggegddlgdaaGreatDoor
end Go.Proofs.YtipfggegddlgdaaGreatDoor
