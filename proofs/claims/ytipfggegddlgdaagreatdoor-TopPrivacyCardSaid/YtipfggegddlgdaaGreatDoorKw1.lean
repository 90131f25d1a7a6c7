import Derived.Shelf.SlIter.Nil
import Derived.Shelf.SortM.Plain
import Derived.Shelf.SortM.SortNone
import Derived.Ground.GgzProg
import Derived.Ground.SlgmProg
import Derived.Shelf.SlGeneric
import Derived.Test.YtipfggegddlgdaaGreatDoorProg
set_option linter.unusedSectionVars false
set_option linter.unusedVariables false
set_option linter.unusedSimpArgs false
namespace Go.Proofs.YtipfggegddlgdaaGreatDoor
end Go.Proofs.YtipfggegddlgdaaGreatDoor
namespace Go.Proofs
open Go.Shelf
def Tryz.keysA_ren:Go.Shelf.Ren:=⟨fun |7=>302|10=>324|n=>n,fun |23=>250|26=>9|3=>4|28=>284|0=>0|27=>283|33=>177|4=>4|n=>n,fun |n=>n⟩
theorem Tryz.keysA:Go.Proofs.SlLaysZ.n7 Tryz.prog Tryz.keysA_ren:={
  mixed:=by kernel_rfl
  f7:=⟨Tryz.f302.name,by decide,Tryz.func302.trans (congrArg some (by kernel_rfl))⟩
  f10:=⟨Tryz.f324.name,by decide,Tryz.func324.trans (congrArg some (by kernel_rfl))⟩
  t0:=Tryz.underlying0
  a0:=Tryz.isAgg0
  z0:=Tryz.sizeOf0
  v0:=Tryz.zeroValue0
  t4:=Tryz.underlying4
  a4:=Tryz.isAgg4
  z4:=Tryz.sizeOf4
  v4:=Tryz.zeroValue4
  t23:=Tryz.underlying250
  a23:=Tryz.isAgg250
  z23:=Tryz.sizeOf250
  v23:=Tryz.zeroValue250
  t26:=Tryz.underlying9
  a26:=Tryz.isAgg9
  z26:=Tryz.sizeOf9
  v26:=Tryz.zeroValue9
  t27:=Tryz.underlying283
  a27:=Tryz.isAgg283
  z27:=Tryz.sizeOf283
  v27:=Tryz.zeroValue283
  t28:=Tryz.underlying284
  a28:=Tryz.isAgg284
  z28:=Tryz.sizeOf284
  v28:=Tryz.zeroValue284
  t33:=Tryz.underlying177
  a33:=Tryz.isAgg177
  z33:=Tryz.sizeOf177
  v33:=Tryz.zeroValue177 }
def Tryz.sortedA_ren:Go.Shelf.Ren:=⟨fun |6=>301|8=>323|9=>20|11=>342|13=>48|12=>47|23=>105|24=>106|14=>96|15=>97|16=>98|17=>99|18=>100|19=>101|20=>102|21=>103|22=>104|25=>174|26=>175|27=>176|28=>177|29=>178|30=>179|31=>268|n=>n,fun |26=>9|28=>284|24=>38|0=>0|3=>3|37=>96|48=>142|50=>156|4=>4|40=>148|39=>147|45=>122|5=>5|9=>9|51=>209|55=>213|57=>263|58=>264|33=>177|n=>n,fun |n=>n⟩
theorem Tryz.sortedA:Go.Proofs.SlLaysZ.n6 Tryz.prog Tryz.sortedA_ren:={
  mixed:=by kernel_rfl
  f6:=⟨Tryz.f301.name,by decide,Tryz.func301.trans (congrArg some (by kernel_rfl))⟩
  f8:=⟨Tryz.f323.name,by decide,Tryz.func323.trans (congrArg some (by kernel_rfl))⟩
  f11:=⟨Tryz.f342.name,by decide,Tryz.func342.trans (congrArg some (by kernel_rfl))⟩
  t0:=Tryz.underlying0
  a0:=Tryz.isAgg0
  z0:=Tryz.sizeOf0
  v0:=Tryz.zeroValue0
  t24:=Tryz.underlying38
  a24:=Tryz.isAgg38
  z24:=Tryz.sizeOf38
  v24:=Tryz.zeroValue38
  t26:=Tryz.underlying9
  a26:=Tryz.isAgg9
  z26:=Tryz.sizeOf9
  v26:=Tryz.zeroValue9
  t28:=Tryz.underlying284
  a28:=Tryz.isAgg284
  z28:=Tryz.sizeOf284
  v28:=Tryz.zeroValue284
  i26:=by kernel_rfl }
end Go.Proofs
namespace Go.Proofs.YtipfggegddlgdaaGreatDoor
end Go.Proofs.YtipfggegddlgdaaGreatDoor
