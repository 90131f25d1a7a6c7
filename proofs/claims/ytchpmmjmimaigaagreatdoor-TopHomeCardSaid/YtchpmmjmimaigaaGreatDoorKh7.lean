import Derived.Test.YtchpmmjmimaigaaGreatDoorKh6
import Derived.Test.YtchpmmjmimaigaaGreatDoorProg
import Derived.KernelRfl
set_option linter.unusedSectionVars false
set_option linter.unusedVariables false
set_option linter.unusedSimpArgs false
namespace Go.Proofs.YtchpmmjmimaigaaGreatDoor
section
namespace Pe
open Tryz
open Go
set_option maxRecDepth 100000
theorem Ls:
 Ba prog 3=(.int .i64) ∧
 AJ prog 3=some (1,false) ∧
 BF prog 3=some [.it .i64 0] ∧
 Ba prog 4=.bool ∧
 AJ prog 4=some (1,false) ∧
 Ba prog 5=(.int .u8) ∧
 BF prog 5=some [.it .u8 0]:=by and_intros<;>kernel_rfl
theorem Lr:
 Ba prog 9=.str ∧
 AJ prog 9=some (1,false) ∧
 BF prog 9=some [(.st [])]:=by and_intros<;>kernel_rfl
theorem Lh:
 AJ prog 22=some (1,false) ∧
 Bt prog 22=some (3,1,false) ∧
 Cz prog 22=some (3,1,8) ∧
 BF prog 22=some [(.sl Mode.full [])] ∧
 Bt prog 23=some (64,2,true) ∧
 AJ prog 25=some (1,false) ∧
 Bt prog 25=some (61,49,true) ∧
 Cz prog 25=some (61,49,568) ∧
 Ba prog 27=.other ∧
 AJ prog 27=some (2,true) ∧
 BF prog 27=some [.it .i64 0,.it .i64 0] ∧
 strOf prog 27=some ([(0,1),(1,1)],[.it .i64 0,.it .i64 0]) ∧
 Ar prog 27 0=some (0,1,false):=by and_intros<;>kernel_rfl
theorem KZ:
 Ar prog 27 1=some (1,1,false) ∧
 HE prog 27=some [(3,0,1,false),(3,1,1,false)] ∧
 Program.eqGuardType prog (Program.depth prog) 27=false ∧
 AJ prog 31=some (2,true) ∧
 BF prog 31=some [(.sl Mode.full []),(.sl Mode.full [])] ∧
 strOf prog 31=some ([(0,1),(1,1)],[(.sl Mode.full []),(.sl Mode.full [])]) ∧
 Ar prog 31 0=some (0,1,false) ∧
 Ar prog 31 1=some (1,1,false) ∧
 AJ prog 34=some (1,false) ∧
 Bt prog 34=some (55,20,true) ∧
 Cz prog 34=some (55,20,264) ∧
 AJ prog 35=some (1,false) ∧
 Bt prog 35=some (74,3,true) ∧
 Cz prog 35=some (74,3,24):=by and_intros<;>kernel_rfl
theorem KV:
 AJ prog 37=some (6,true) ∧
 BF prog 37=some [(.st []),(.sl Mode.full []),(.sl Mode.full []),(.st []),.it .i64 0,.bo false] ∧
 strOf prog 37=some ([(0,1),(1,1),(2,1),(3,1),(4,1),(5,1)],[(.st []),(.sl Mode.full []),(.sl Mode.full []),(.st []),.it .i64 0,.bo false]) ∧
 Ar prog 37 0=some (0,1,false) ∧
 Ar prog 37 1=some (1,1,false) ∧
 Ar prog 37 2=some (2,1,false) ∧
 Ar prog 37 3=some (3,1,false) ∧
 Ar prog 37 4=some (4,1,false) ∧
 Ar prog 37 5=some (5,1,false) ∧
 Bt prog 39=some (43,9,true) ∧
 Cz prog 39=some (43,9,88):=by and_intros<;>kernel_rfl
theorem KU:
 Ba prog 41=.other ∧
 AJ prog 41=some (2,true) ∧
 BF prog 41=some [.it .i64 0,.it .i64 0] ∧
 strOf prog 41=some ([(0,1),(1,1)],[.it .i64 0,.it .i64 0]) ∧
 Ar prog 41 0=some (0,1,false) ∧
 Ar prog 41 1=some (1,1,false) ∧
 HE prog 41=some [(3,0,1,false),(3,1,1,false)] ∧
 Program.eqGuardType prog (Program.depth prog) 41=false ∧
 Ba prog 43=.other ∧
 AJ prog 43=some (9,true) ∧
 BF prog 43=some [(.st []),.it .i64 0,(.st []),.it .i64 0,.it .i64 0,.it .i64 0,.it .i64 0,.it .i64 0,.it .i64 0] ∧
 strOf prog 43=some ([(0,1),(1,1),(2,1),(3,1),(4,1),(5,1),(6,1),(7,2)],[(.st []),.it .i64 0,(.st []),.it .i64 0,.it .i64 0,.it .i64 0,.it .i64 0,.it .i64 0,.it .i64 0]) ∧
 Ar prog 43 0=some (0,1,false) ∧
 Ar prog 43 1=some (1,1,false) ∧
 Ar prog 43 2=some (2,1,false) ∧
 Ar prog 43 3=some (3,1,false) ∧
 Ar prog 43 4=some (4,1,false) ∧
 Ar prog 43 5=some (5,1,false) ∧
 Ar prog 43 6=some (6,1,false) ∧
 Ar prog 43 7=some (7,2,true) ∧
 HE prog 43=some [(9,0,1,false),(3,1,1,false),(9,2,1,false),(3,3,1,false),(3,4,1,false),(3,5,1,false),(3,6,1,false),(41,7,2,true)] ∧
 Program.eqGuardType prog (Program.depth prog) 43=false:=by and_intros<;>kernel_rfl
theorem KS:
 AJ prog 50=some (1,false) ∧
 Bt prog 50=some (9,1,false) ∧
 Cz prog 50=some (9,1,16) ∧
 Ba prog 52=.other ∧
 AJ prog 52=some (3,true) ∧
 BF prog 52=some [(.st []),(.st []),(.st [])] ∧
 strOf prog 52=some ([(0,1),(1,1),(2,1)],[(.st []),(.st []),(.st [])]) ∧
 Ar prog 52 0=some (0,1,false) ∧
 Ar prog 52 1=some (1,1,false) ∧
 Ar prog 52 2=some (2,1,false) ∧
 HE prog 52=some [(9,0,1,false),(9,1,1,false),(9,2,1,false)] ∧
 Program.eqGuardType prog (Program.depth prog) 52=false ∧
 AJ prog 53=some (1,false) ∧
 Bt prog 53=some (128,5,true) ∧
 Cz prog 53=some (128,5,64):=by and_intros<;>kernel_rfl
theorem KR:
 AJ prog 55=some (20,true) ∧
 BF prog 55=some [(.st []),.it .i64 0,(.st []),.it .i64 0,.it .i64 0,(.st []),(.st []),.it .i64 0,(.st []),(.sl Mode.full []),(.st []),(.st []),(.st []),(.st []),.it .i64 0,(.sl Mode.full []),.it .i64 0,.it .i64 0,.it .i64 0,.it .i64 0] ∧
 strOf prog 55=some ([(0,1),(1,1),(2,1),(3,1),(4,1),(5,1),(6,1),(7,1),(8,1),(9,1),(10,1),(11,3),(14,1),(15,1),(16,1),(17,1),(18,2)],[(.st []),.it .i64 0,(.st []),.it .i64 0,.it .i64 0,(.st []),(.st []),.it .i64 0,(.st []),(.sl Mode.full []),(.st []),(.st []),(.st []),(.st []),.it .i64 0,(.sl Mode.full []),.it .i64 0,.it .i64 0,.it .i64 0,.it .i64 0]) ∧
 Ar prog 55 0=some (0,1,false) ∧
 Ar prog 55 1=some (1,1,false) ∧
 Ar prog 55 2=some (2,1,false) ∧
 Ar prog 55 3=some (3,1,false) ∧
 Ar prog 55 4=some (4,1,false) ∧
 Ar prog 55 5=some (5,1,false) ∧
 Ar prog 55 6=some (6,1,false) ∧
 Ar prog 55 7=some (7,1,false) ∧
 Ar prog 55 8=some (8,1,false) ∧
 Ar prog 55 9=some (9,1,false) ∧
 Ar prog 55 10=some (10,1,false) ∧
 Ar prog 55 11=some (11,3,true):=by and_intros<;>kernel_rfl
theorem KQ:
 Ar prog 55 12=some (14,1,false) ∧
 Ar prog 55 13=some (15,1,false) ∧
 Ar prog 55 14=some (16,1,false) ∧
 Ar prog 55 15=some (17,1,false) ∧
 Ar prog 55 16=some (18,2,true) ∧
 Ba prog 57=.other ∧
 AJ prog 57=some (7,true) ∧
 BF prog 57=some [.it .i64 0,(.st []),.it .i64 0,(.st []),.it .i64 0,.it .i64 0,.it .i64 0] ∧
 strOf prog 57=some ([(0,1),(1,1),(2,1),(3,1),(4,1),(5,2)],[.it .i64 0,(.st []),.it .i64 0,(.st []),.it .i64 0,.it .i64 0,.it .i64 0]) ∧
 Ar prog 57 0=some (0,1,false) ∧
 Ar prog 57 1=some (1,1,false) ∧
 Ar prog 57 2=some (2,1,false) ∧
 Ar prog 57 3=some (3,1,false) ∧
 Ar prog 57 4=some (4,1,false) ∧
 Ar prog 57 5=some (5,2,true) ∧
 HE prog 57=some [(3,0,1,false),(9,1,1,false),(3,2,1,false),(9,3,1,false),(3,4,1,false),(41,5,2,true)] ∧
 Program.eqGuardType prog (Program.depth prog) 57=false:=by and_intros<;>kernel_rfl
theorem KP:
 AJ prog 59=some (12,true) ∧
 BF prog 59=some [.it .i64 0,.it .i64 0,.it .i64 0,(.st []),(.st []),(.st []),(.sl Mode.full []),.it .i64 0,.it .i64 0,.it .i64 0,.it .i64 0,.it .i64 0] ∧
 strOf prog 59=some ([(0,1),(1,1),(2,1),(3,1),(4,1),(5,1),(6,1),(7,1),(8,1),(9,1),(10,2)],[.it .i64 0,.it .i64 0,.it .i64 0,(.st []),(.st []),(.st []),(.sl Mode.full []),.it .i64 0,.it .i64 0,.it .i64 0,.it .i64 0,.it .i64 0]) ∧
 Ar prog 59 0=some (0,1,false) ∧
 Ar prog 59 1=some (1,1,false) ∧
 Ar prog 59 2=some (2,1,false) ∧
 Ar prog 59 3=some (3,1,false) ∧
 Ar prog 59 4=some (4,1,false) ∧
 Ar prog 59 5=some (5,1,false) ∧
 Ar prog 59 6=some (6,1,false) ∧
 Ar prog 59 7=some (7,1,false) ∧
 Ar prog 59 8=some (8,1,false) ∧
 Ar prog 59 9=some (9,1,false) ∧
 Ar prog 59 10=some (10,2,true) ∧
 AJ prog 61=some (49,true) ∧
 BF prog 61=some [.it .i64 0,(.st []),.it .i64 0,(.st []),.it .i64 0,.it .i64 0,(.st []),(.st []),.it .i64 0,(.st []),(.sl Mode.full []),(.st []),(.st []),(.st []),(.st []),.it .i64 0,(.sl Mode.full []),.it .i64 0,.it .i64 0,.it .i64 0,.it .i64 0,(.st []),.it .i64 0,(.st []),.it .i64 0,.it .i64 0,.it .i64 0,.it .i64 0,.it .i64 0,.it .i64 0,.it .i64 0,(.st []),.it .i64 0,(.st []),.it .i64 0,.it .i64 0,.it .i64 0,.it .i64 0,.it .i64 0,.it .i64 0,(.st []),(.st []),(.st []),(.sl Mode.full []),.it .i64 0,.it .i64 0,.it .i64 0,.it .i64 0,.it .i64 0] ∧
 strOf prog 61=some ([(0,1),(1,20),(21,9),(30,7),(37,12)],[.it .i64 0,(.st []),.it .i64 0,(.st []),.it .i64 0,.it .i64 0,(.st []),(.st []),.it .i64 0,(.st []),(.sl Mode.full []),(.st []),(.st []),(.st []),(.st []),.it .i64 0,(.sl Mode.full []),.it .i64 0,.it .i64 0,.it .i64 0,.it .i64 0,(.st []),.it .i64 0,(.st []),.it .i64 0,.it .i64 0,.it .i64 0,.it .i64 0,.it .i64 0,.it .i64 0,.it .i64 0,(.st []),.it .i64 0,(.st []),.it .i64 0,.it .i64 0,.it .i64 0,.it .i64 0,.it .i64 0,.it .i64 0,(.st []),(.st []),(.st []),(.sl Mode.full []),.it .i64 0,.it .i64 0,.it .i64 0,.it .i64 0,.it .i64 0]):=by and_intros<;>kernel_rfl
theorem Lq:
 Ar prog 61 0=some (0,1,false) ∧
 Ar prog 61 1=some (1,20,true) ∧
 Ar prog 61 2=some (21,9,true) ∧
 Ar prog 61 3=some (30,7,true) ∧
 Ar prog 61 4=some (37,12,true) ∧
 Ar prog 64 0=some (0,1,false) ∧
 Ar prog 64 1=some (1,1,false):=by and_intros<;>kernel_rfl
theorem Lp:
 AJ prog 74=some (3,true) ∧
 BF prog 74=some [.it .i64 0,.it .i64 0,.it .i64 0] ∧
 strOf prog 74=some ([(0,1),(1,1),(2,1)],[.it .i64 0,.it .i64 0,.it .i64 0]) ∧
 Ar prog 74 0=some (0,1,false) ∧
 Ar prog 74 1=some (1,1,false) ∧
 Ar prog 74 2=some (2,1,false):=by and_intros<;>kernel_rfl
theorem Lo:
 Bt prog 82=some (37,6,true) ∧
 Cz prog 82=some (37,6,96) ∧
 AJ prog 88=some (6,true) ∧
 strOf prog 88=some ([(0,1),(1,1),(2,1),(3,1),(4,1),(5,1)],[.it .i64 0,.it .i64 0,.it .i64 0,.it .i64 0,(.st []),.it .i64 0]) ∧
 Ar prog 88 0=some (0,1,false):=by and_intros<;>kernel_rfl
theorem Ln:
 Ar prog 88 1=some (1,1,false) ∧
 Ar prog 88 4=some (4,1,false) ∧
 Ar prog 88 5=some (5,1,false) ∧
 AJ prog 90=some (2,true) ∧
 BF prog 90=some [.it .i64 0,.it .i64 0] ∧
 strOf prog 90=some ([(0,1),(1,1)],[.it .i64 0,.it .i64 0]) ∧
 Ar prog 90 0=some (0,1,false) ∧
 Ar prog 90 1=some (1,1,false) ∧
 Bt prog 95=some (90,2,true) ∧
 Cz prog 95=some (90,2,16) ∧
 AJ prog 96=some (1,false):=by and_intros<;>kernel_rfl
theorem Lm:
 AJ prog 97=some (1,false) ∧
 AJ prog 98=some (1,false) ∧
 Ey prog 98=some (none,.it .i64 0) ∧
 strOf prog 100=some ([(0,2),(2,6),(8,1),(9,1),(10,9),(19,1)],[(.sl Mode.full []),(.sl Mode.full []),(.st []),(.sl Mode.full []),(.sl Mode.full []),(.st []),.it .i64 0,.bo false,(.ot (.map none)),(.ot (.map none)),(.st []),.it .i64 0,(.st []),.it .i64 0,.it .i64 0,.it .i64 0,.it .i64 0,.it .i64 0,.it .i64 0,.bo false]) ∧
 Ar prog 100 0=some (0,2,true) ∧
 Ar prog 100 1=some (2,6,true) ∧
 Ar prog 100 2=some (8,1,false) ∧
 Ar prog 100 3=some (9,1,false) ∧
 Ar prog 100 4=some (10,9,true) ∧
 Ar prog 100 5=some (19,1,false):=by and_intros<;>kernel_rfl
theorem Ll:
 Ba prog 103=.other ∧
 AJ prog 103=some (2,true) ∧
 BF prog 103=some [.it .i64 0,(.st [])] ∧
 strOf prog 103=some ([(0,1),(1,1)],[.it .i64 0,(.st [])]) ∧
 HE prog 103=some [(3,0,1,false),(9,1,1,false)]:=by and_intros<;>kernel_rfl
theorem Lk:
 Ba prog 128=.other ∧
 AJ prog 128=some (5,true) ∧
 BF prog 128=some [.it .i64 0,.it .i64 0,(.st []),(.st []),(.st [])] ∧
 strOf prog 128=some ([(0,1),(1,1),(2,3)],[.it .i64 0,.it .i64 0,(.st []),(.st []),(.st [])]) ∧
 Ar prog 128 0=some (0,1,false) ∧
 Ar prog 128 1=some (1,1,false) ∧
 Ar prog 128 2=some (2,3,true) ∧
 HE prog 128=some [(3,0,1,false),(3,1,1,false),(52,2,3,true)] ∧
 Program.eqGuardType prog (Program.depth prog) 128=false:=by and_intros<;>kernel_rfl
theorem Lj:AJ prog 139=some (1,false):=by kernel_rfl
theorem Li:
 Ba prog 164=.bytes ∧
 AJ prog 164=some (1,false) ∧
 Bt prog 164=some (5,1,false):=by and_intros<;>kernel_rfl
theorem Lg:
 Cz prog 164=some (5,1,1) ∧
 PS prog 164=some 5 ∧
 BF prog 164=some [(.sl Mode.full [])] ∧
 BF prog 166=some [(.sl Mode.full [])] ∧
 Ar prog 166 0=some (0,1,false) ∧
 AJ prog 168=some (1,false) ∧
 AJ prog 170=some (4,true) ∧
 BF prog 170=some [(.st []),.ot .nilFunc,.it .i64 0,.it .i64 0] ∧
 strOf prog 170=some ([(0,1),(1,1),(2,2)],[(.st []),.ot .nilFunc,.it .i64 0,.it .i64 0]) ∧
 Ar prog 170 0=some (0,1,false) ∧
 Ar prog 170 1=some (1,1,false) ∧
 Ar prog 170 2=some (2,2,true):=by and_intros<;>kernel_rfl
theorem Lf:
 Ba prog 177=(.int .u64) ∧
 Bt prog 181=some (57,7,true) ∧
 Cz prog 181=some (57,7,72):=by and_intros<;>kernel_rfl
theorem Ld:
 AJ prog 195=some (2,true) ∧
 BF prog 195=some [.it .i64 0,.ot .nilFunc] ∧
 strOf prog 195=some ([(0,1),(1,1)],[.it .i64 0,.ot .nilFunc]) ∧
 Ar prog 195 0=some (0,1,false) ∧
 Ar prog 195 1=some (1,1,false) ∧
 Ey prog 197=some (some .i64,(.agg [.it .i64 0,.ot .nilFunc])):=by and_intros<;>kernel_rfl
theorem Lc:
 strOf prog 213=some ([(0,1),(1,1)],[(.st []),.bo false]) ∧
 Ar prog 213 0=some (0,1,false) ∧
 Ar prog 213 1=some (1,1,false):=by and_intros<;>kernel_rfl
theorem Lb:
 Ba prog 217=(.int .u64) ∧
 Bt prog 221=some (224,22,true) ∧
 Cz prog 221=some (224,22,288) ∧
 AJ prog 224=some (22,true) ∧
 BF prog 224=some [.it .i64 0,(.st []),(.st []),.it .i64 0,(.st []),.it .i64 0,.it .i64 0,(.st []),(.st []),.it .i64 0,(.st []),(.sl Mode.full []),(.st []),(.st []),(.st []),(.st []),.it .i64 0,(.sl Mode.full []),.it .i64 0,.it .i64 0,.it .i64 0,.it .i64 0] ∧
 strOf prog 224=some ([(0,1),(1,1),(2,20)],[.it .i64 0,(.st []),(.st []),.it .i64 0,(.st []),.it .i64 0,.it .i64 0,(.st []),(.st []),.it .i64 0,(.st []),(.sl Mode.full []),(.st []),(.st []),(.st []),(.st []),.it .i64 0,(.sl Mode.full []),.it .i64 0,.it .i64 0,.it .i64 0,.it .i64 0]) ∧
 Ar prog 224 0=some (0,1,false) ∧
 Ar prog 224 1=some (1,1,false) ∧
 Ar prog 224 2=some (2,20,true):=by and_intros<;>kernel_rfl
theorem La:
 Bt prog 252=some (255,11,true) ∧
 Cz prog 252=some (255,11,112) ∧
 AJ prog 255=some (11,true) ∧
 BF prog 255=some [.it .i64 0,(.st []),(.st []),.it .i64 0,(.st []),.it .i64 0,.it .i64 0,.it .i64 0,.it .i64 0,.it .i64 0,.it .i64 0] ∧
 strOf prog 255=some ([(0,1),(1,1),(2,9)],[.it .i64 0,(.st []),(.st []),.it .i64 0,(.st []),.it .i64 0,.it .i64 0,.it .i64 0,.it .i64 0,.it .i64 0,.it .i64 0]) ∧
 Ar prog 255 0=some (0,1,false) ∧
 Ar prog 255 1=some (1,1,false) ∧
 Ar prog 255 2=some (2,9,true):=by and_intros<;>kernel_rfl
theorem KY:Ey prog 281=some (some .i64,.bo false):=by kernel_rfl
theorem KX:
 Bt prog 300=some (303,9,true) ∧
 Cz prog 300=some (303,9,96) ∧
 AJ prog 303=some (9,true):=by and_intros<;>kernel_rfl
theorem KW:
 BF prog 303=some [.it .i64 0,(.st []),.it .i64 0,(.st []),.it .i64 0,(.st []),.it .i64 0,.it .i64 0,.it .i64 0] ∧
 strOf prog 303=some ([(0,1),(1,1),(2,7)],[.it .i64 0,(.st []),.it .i64 0,(.st []),.it .i64 0,(.st []),.it .i64 0,.it .i64 0,.it .i64 0]) ∧
 Ar prog 303 0=some (0,1,false) ∧
 Ar prog 303 1=some (1,1,false) ∧
 Ar prog 303 2=some (2,7,true):=by and_intros<;>kernel_rfl
end Pe
end
end Go.Proofs.YtchpmmjmimaigaaGreatDoor
