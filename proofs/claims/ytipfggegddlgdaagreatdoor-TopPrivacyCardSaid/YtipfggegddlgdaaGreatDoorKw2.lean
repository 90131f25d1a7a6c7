import Derived.Shelf.SortM.Plain
import Derived.Shelf.SortM.SortNone
import Derived.Ground.SlgmProg
import Derived.Shelf.SlGeneric
import Derived.Test.YtipfggegddlgdaaGreatDoorProg
set_option linter.unusedSectionVars false
set_option linter.unusedVariables false
set_option linter.unusedSimpArgs false
namespace Go.Proofs.YtipfggegddlgdaaGreatDoor
end Go.Proofs.YtipfggegddlgdaaGreatDoor
namespace Go.Proofs
open Go.Shelf
def Tryz.sortS_ren:Go.Shelf.Ren:=⟨fun |6=>20|8=>48|9=>47|19=>105|20=>106|21=>96|22=>97|23=>98|24=>99|25=>100|26=>101|27=>102|28=>103|29=>104|36=>174|31=>175|32=>176|37=>177|38=>178|39=>179|41=>268|n=>n,fun |27=>38|29=>9|3=>3|32=>96|26=>38|0=>0|44=>142|46=>156|4=>4|36=>148|35=>147|41=>122|5=>5|9=>9|53=>209|57=>213|63=>263|64=>264|n=>n,fun |n=>n⟩
theorem Tryz.sortS:Go.Proofs.SlLaysM.n6 Tryz.prog Tryz.sortS_ren:={
  mixed:=by kernel_rfl
  f6:=⟨Tryz.f20.name,by decide,Tryz.func20.trans (congrArg some (by kernel_rfl))⟩
  f8:=Tryz.func48.trans (congrArg some (by kernel_rfl))
  f9:=⟨Tryz.f47.name,by decide,Tryz.func47.trans (congrArg some (by kernel_rfl))⟩
  f19:=Tryz.func105.trans (congrArg some (by kernel_rfl))
  f20:=Tryz.func106.trans (congrArg some (by kernel_rfl))
  f21:=⟨Tryz.f96.name,by decide,Tryz.func96.trans (congrArg some (by kernel_rfl))⟩
  f22:=⟨Tryz.f97.name,by decide,Tryz.func97.trans (congrArg some (by kernel_rfl))⟩
  f23:=⟨Tryz.f98.name,by decide,Tryz.func98.trans (congrArg some (by kernel_rfl))⟩
  f24:=⟨Tryz.f99.name,by decide,Tryz.func99.trans (congrArg some (by kernel_rfl))⟩
  f25:=⟨Tryz.f100.name,by decide,Tryz.func100.trans (congrArg some (by kernel_rfl))⟩
  f26:=⟨Tryz.f101.name,by decide,Tryz.func101.trans (congrArg some (by kernel_rfl))⟩
  f27:=⟨Tryz.f102.name,by decide,Tryz.func102.trans (congrArg some (by kernel_rfl))⟩
  f28:=⟨Tryz.f103.name,by decide,Tryz.func103.trans (congrArg some (by kernel_rfl))⟩
  f29:=⟨Tryz.f104.name,by decide,Tryz.func104.trans (congrArg some (by kernel_rfl))⟩
  f31:=Tryz.func175.trans (congrArg some (by kernel_rfl))
  f32:=Tryz.func176.trans (congrArg some (by kernel_rfl))
  f36:=⟨Tryz.f174.name,by decide,Tryz.func174.trans (congrArg some (by kernel_rfl))⟩
  f37:=⟨Tryz.f177.name,by decide,Tryz.func177.trans (congrArg some (by kernel_rfl))⟩
  f38:=⟨Tryz.f178.name,by decide,Tryz.func178.trans (congrArg some (by kernel_rfl))⟩
  f39:=⟨Tryz.f179.name,by decide,Tryz.func179.trans (congrArg some (by kernel_rfl))⟩
  f41:=⟨Tryz.f268.name,by decide,Tryz.func268.trans (congrArg some (by kernel_rfl))⟩
  t0:=Tryz.underlying0
  a0:=Tryz.isAgg0
  z0:=Tryz.sizeOf0
  v0:=Tryz.zeroValue0
  t3:=Tryz.underlying3
  a3:=Tryz.isAgg3
  z3:=Tryz.sizeOf3
  v3:=Tryz.zeroValue3
  t4:=Tryz.underlying4
  a4:=Tryz.isAgg4
  z4:=Tryz.sizeOf4
  v4:=Tryz.zeroValue4
  t5:=Tryz.underlying5
  a5:=Tryz.isAgg5
  z5:=Tryz.sizeOf5
  v5:=Tryz.zeroValue5
  t9:=Tryz.underlying9
  a9:=Tryz.isAgg9
  z9:=Tryz.sizeOf9
  v9:=Tryz.zeroValue9
  t26:=Tryz.underlying38
  a26:=Tryz.isAgg38
  z26:=Tryz.sizeOf38
  v26:=Tryz.zeroValue38
  t27:=Tryz.underlying38
  a27:=Tryz.isAgg38
  z27:=Tryz.sizeOf38
  v27:=Tryz.zeroValue38
  t29:=Tryz.underlying9
  a29:=Tryz.isAgg9
  z29:=Tryz.sizeOf9
  v29:=Tryz.zeroValue9
  t32:=Tryz.underlying96
  a32:=Tryz.isAgg96
  z32:=Tryz.sizeOf96
  v32:=Tryz.zeroValue96
  t35:=Tryz.underlying147
  a35:=Tryz.isAgg147
  z35:=Tryz.sizeOf147
  v35:=Tryz.zeroValue147
  t36:=Tryz.underlying148
  a36:=Tryz.isAgg148
  z36:=Tryz.sizeOf148
  v36:=Tryz.zeroValue148
  t41:=Tryz.underlying122
  a41:=Tryz.isAgg122
  z41:=Tryz.sizeOf122
  v41:=Tryz.zeroValue122
  t44:=Tryz.underlying142
  a44:=Tryz.isAgg142
  z44:=Tryz.sizeOf142
  v44:=Tryz.zeroValue142
  t46:=Tryz.underlying156
  a46:=Tryz.isAgg156
  z46:=Tryz.sizeOf156
  v46:=Tryz.zeroValue156
  t53:=Tryz.underlying209
  a53:=Tryz.isAgg209
  z53:=Tryz.sizeOf209
  v53:=Tryz.zeroValue209
  t57:=Tryz.underlying213
  a57:=Tryz.isAgg213
  z57:=Tryz.sizeOf213
  v57:=Tryz.zeroValue213
  t63:=Tryz.underlying263
  a63:=Tryz.isAgg263
  z63:=Tryz.sizeOf263
  v63:=Tryz.zeroValue263
  t64:=Tryz.underlying264
  a64:=Tryz.isAgg264
  z64:=Tryz.sizeOf264
  v64:=Tryz.zeroValue264 }
end Go.Proofs
namespace Go.Proofs.YtipfggegddlgdaaGreatDoor
end Go.Proofs.YtipfggegddlgdaaGreatDoor
