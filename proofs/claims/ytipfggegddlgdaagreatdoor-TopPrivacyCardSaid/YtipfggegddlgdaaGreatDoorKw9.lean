import Derived.Test.YtipfggegddlgdaaGreatDoorKw8
import Derived.Test.YtipfggegddlgdaaGreatDoorProg
import Derived.KernelRfl
set_option linter.unusedSectionVars false
set_option linter.unusedVariables false
set_option linter.unusedSimpArgs false
namespace Go.Proofs.YtipfggegddlgdaaGreatDoor
section
namespace Pe
open Tryz
open Go
set_option maxRecDepth 100000
theorem Lo:
 Bd prog 3=(.int .i64) ∧
 AQ prog 3=some (1,false) ∧
 B0 prog 3=some [.it .i64 0] ∧
 Bd prog 4=.bool ∧
 AQ prog 4=some (1,false) ∧
 Bd prog 5=(.int .u8) ∧
 B0 prog 5=some [.it .u8 0]:=by and_intros<;>kernel_rfl
theorem Ln:
 Bd prog 9=.str ∧
 AQ prog 9=some (1,false) ∧
 B0 prog 9=some [(.st [])]:=by and_intros<;>kernel_rfl
theorem Ld:
 BI prog 22=some (67,6,true) ∧
 BI prog 25=some (37,6,true) ∧
 C7 prog 25=some (37,6,96) ∧
 AQ prog 27=some (1,false) ∧
 BI prog 27=some (3,1,false) ∧
 C7 prog 27=some (3,1,8) ∧
 AQ prog 28=some (1,false) ∧
 BI prog 28=some (63,49,true) ∧
 C7 prog 28=some (63,49,568):=by and_intros<;>kernel_rfl
theorem KZ:
 AQ prog 30=some (2,true) ∧
 B0 prog 30=some [(.sl Mode.full []),(.sl Mode.full [])] ∧
 strOf prog 30=some ([(0,1),(1,1)],[(.sl Mode.full []),(.sl Mode.full [])]) ∧
 Ax prog 30 0=some (0,1,false) ∧
 Ax prog 30 1=some (1,1,false) ∧
 AQ prog 34=some (1,false) ∧
 BI prog 34=some (45,20,true) ∧
 C7 prog 34=some (45,20,264) ∧
 AQ prog 35=some (1,false) ∧
 BI prog 35=some (107,3,true) ∧
 C7 prog 35=some (107,3,24):=by and_intros<;>kernel_rfl
theorem KX:
 AQ prog 37=some (6,true) ∧
 B0 prog 37=some [(.st []),(.sl Mode.full []),(.sl Mode.full []),(.st []),.it .i64 0,.bo false] ∧
 strOf prog 37=some ([(0,1),(1,1),(2,1),(3,1),(4,1),(5,1)],[(.st []),(.sl Mode.full []),(.sl Mode.full []),(.st []),.it .i64 0,.bo false]) ∧
 Ax prog 37 0=some (0,1,false) ∧
 Ax prog 37 1=some (1,1,false) ∧
 Ax prog 37 2=some (2,1,false) ∧
 Ax prog 37 3=some (3,1,false) ∧
 Ax prog 37 4=some (4,1,false) ∧
 Ax prog 37 5=some (5,1,false) ∧
 AQ prog 38=some (1,false) ∧
 BI prog 38=some (9,1,false) ∧
 C7 prog 38=some (9,1,16) ∧
 Bd prog 40=.other ∧
 AQ prog 40=some (3,true) ∧
 B0 prog 40=some [(.st []),(.st []),(.st [])] ∧
 strOf prog 40=some ([(0,1),(1,1),(2,1)],[(.st []),(.st []),(.st [])]) ∧
 Ax prog 40 0=some (0,1,false) ∧
 Ax prog 40 1=some (1,1,false) ∧
 Ax prog 40 2=some (2,1,false) ∧
 GO prog 40=some [(9,0,1,false),(9,1,1,false),(9,2,1,false)] ∧
 Program.eqGuardType prog (Program.depth prog) 40=false:=by and_intros<;>kernel_rfl
theorem KW:
 AQ prog 41=some (1,false) ∧
 BI prog 41=some (92,5,true) ∧
 C7 prog 41=some (92,5,64) ∧
 Bd prog 43=.other ∧
 AQ prog 43=some (2,true) ∧
 B0 prog 43=some [.it .i64 0,.it .i64 0] ∧
 strOf prog 43=some ([(0,1),(1,1)],[.it .i64 0,.it .i64 0]) ∧
 Ax prog 43 0=some (0,1,false) ∧
 Ax prog 43 1=some (1,1,false) ∧
 GO prog 43=some [(3,0,1,false),(3,1,1,false)] ∧
 Program.eqGuardType prog (Program.depth prog) 43=false:=by and_intros<;>kernel_rfl
theorem KV:
 AQ prog 45=some (20,true) ∧
 B0 prog 45=some [(.st []),.it .i64 0,(.st []),.it .i64 0,.it .i64 0,(.st []),(.st []),.it .i64 0,(.st []),(.sl Mode.full []),(.st []),(.st []),(.st []),(.st []),.it .i64 0,(.sl Mode.full []),.it .i64 0,.it .i64 0,.it .i64 0,.it .i64 0] ∧
 strOf prog 45=some ([(0,1),(1,1),(2,1),(3,1),(4,1),(5,1),(6,1),(7,1),(8,1),(9,1),(10,1),(11,3),(14,1),(15,1),(16,1),(17,1),(18,2)],[(.st []),.it .i64 0,(.st []),.it .i64 0,.it .i64 0,(.st []),(.st []),.it .i64 0,(.st []),(.sl Mode.full []),(.st []),(.st []),(.st []),(.st []),.it .i64 0,(.sl Mode.full []),.it .i64 0,.it .i64 0,.it .i64 0,.it .i64 0]) ∧
 Ax prog 45 0=some (0,1,false) ∧
 Ax prog 45 1=some (1,1,false) ∧
 Ax prog 45 2=some (2,1,false) ∧
 Ax prog 45 3=some (3,1,false) ∧
 Ax prog 45 4=some (4,1,false) ∧
 Ax prog 45 5=some (5,1,false) ∧
 Ax prog 45 6=some (6,1,false) ∧
 Ax prog 45 7=some (7,1,false) ∧
 Ax prog 45 8=some (8,1,false) ∧
 Ax prog 45 9=some (9,1,false) ∧
 Ax prog 45 10=some (10,1,false) ∧
 Ax prog 45 11=some (11,3,true) ∧
 Ax prog 45 12=some (14,1,false) ∧
 Ax prog 45 13=some (15,1,false) ∧
 Ax prog 45 14=some (16,1,false) ∧
 Ax prog 45 15=some (17,1,false) ∧
 Ax prog 45 16=some (18,2,true):=by and_intros<;>kernel_rfl
theorem KU:
 Bd prog 57=.other ∧
 AQ prog 57=some (9,true) ∧
 B0 prog 57=some [(.st []),.it .i64 0,(.st []),.it .i64 0,.it .i64 0,.it .i64 0,.it .i64 0,.it .i64 0,.it .i64 0] ∧
 strOf prog 57=some ([(0,1),(1,1),(2,1),(3,1),(4,1),(5,1),(6,1),(7,2)],[(.st []),.it .i64 0,(.st []),.it .i64 0,.it .i64 0,.it .i64 0,.it .i64 0,.it .i64 0,.it .i64 0]):=by and_intros<;>kernel_rfl
theorem KS:
 GO prog 57=some [(9,0,1,false),(3,1,1,false),(9,2,1,false),(3,3,1,false),(3,4,1,false),(3,5,1,false),(3,6,1,false),(43,7,2,true)] ∧
 Program.eqGuardType prog (Program.depth prog) 57=false ∧
 Bd prog 59=.other ∧
 AQ prog 59=some (7,true) ∧
 strOf prog 59=some ([(0,1),(1,1),(2,1),(3,1),(4,1),(5,2)],[.it .i64 0,(.st []),.it .i64 0,(.st []),.it .i64 0,.it .i64 0,.it .i64 0]) ∧
 GO prog 59=some [(3,0,1,false),(9,1,1,false),(3,2,1,false),(9,3,1,false),(3,4,1,false),(43,5,2,true)] ∧
 Program.eqGuardType prog (Program.depth prog) 59=false:=by and_intros<;>kernel_rfl
theorem KR:
 AQ prog 61=some (12,true) ∧
 strOf prog 61=some ([(0,1),(1,1),(2,1),(3,1),(4,1),(5,1),(6,1),(7,1),(8,1),(9,1),(10,2)],[.it .i64 0,.it .i64 0,.it .i64 0,(.st []),(.st []),(.st []),(.sl Mode.full []),.it .i64 0,.it .i64 0,.it .i64 0,.it .i64 0,.it .i64 0]) ∧
 Ax prog 61 0=some (0,1,false) ∧
 Ax prog 61 1=some (1,1,false) ∧
 Ax prog 61 2=some (2,1,false) ∧
 Ax prog 61 3=some (3,1,false) ∧
 Ax prog 61 4=some (4,1,false) ∧
 Ax prog 61 5=some (5,1,false) ∧
 Ax prog 61 6=some (6,1,false) ∧
 Ax prog 61 7=some (7,1,false) ∧
 Ax prog 61 8=some (8,1,false) ∧
 Ax prog 61 9=some (9,1,false) ∧
 Ax prog 61 10=some (10,2,true) ∧
 AQ prog 63=some (49,true) ∧
 B0 prog 63=some [.it .i64 0,(.st []),.it .i64 0,(.st []),.it .i64 0,.it .i64 0,(.st []),(.st []),.it .i64 0,(.st []),(.sl Mode.full []),(.st []),(.st []),(.st []),(.st []),.it .i64 0,(.sl Mode.full []),.it .i64 0,.it .i64 0,.it .i64 0,.it .i64 0,(.st []),.it .i64 0,(.st []),.it .i64 0,.it .i64 0,.it .i64 0,.it .i64 0,.it .i64 0,.it .i64 0,.it .i64 0,(.st []),.it .i64 0,(.st []),.it .i64 0,.it .i64 0,.it .i64 0,.it .i64 0,.it .i64 0,.it .i64 0,(.st []),(.st []),(.st []),(.sl Mode.full []),.it .i64 0,.it .i64 0,.it .i64 0,.it .i64 0,.it .i64 0] ∧
 strOf prog 63=some ([(0,1),(1,20),(21,9),(30,7),(37,12)],[.it .i64 0,(.st []),.it .i64 0,(.st []),.it .i64 0,.it .i64 0,(.st []),(.st []),.it .i64 0,(.st []),(.sl Mode.full []),(.st []),(.st []),(.st []),(.st []),.it .i64 0,(.sl Mode.full []),.it .i64 0,.it .i64 0,.it .i64 0,.it .i64 0,(.st []),.it .i64 0,(.st []),.it .i64 0,.it .i64 0,.it .i64 0,.it .i64 0,.it .i64 0,.it .i64 0,.it .i64 0,(.st []),.it .i64 0,(.st []),.it .i64 0,.it .i64 0,.it .i64 0,.it .i64 0,.it .i64 0,.it .i64 0,(.st []),(.st []),(.st []),(.sl Mode.full []),.it .i64 0,.it .i64 0,.it .i64 0,.it .i64 0,.it .i64 0]) ∧
 Ax prog 63 0=some (0,1,false) ∧
 Ax prog 63 1=some (1,20,true) ∧
 Ax prog 63 2=some (21,9,true) ∧
 Ax prog 63 3=some (30,7,true):=by and_intros<;>kernel_rfl
theorem Lm:
 Ax prog 63 4=some (37,12,true) ∧
 AQ prog 67=some (6,true) ∧
 Ax prog 67 0=some (0,1,false) ∧
 Ax prog 67 1=some (1,1,false) ∧
 Ax prog 67 2=some (2,1,false) ∧
 Ax prog 67 3=some (3,1,false) ∧
 Ax prog 67 4=some (4,1,false) ∧
 Ax prog 67 5=some (5,1,false):=by and_intros<;>kernel_rfl
theorem Ll:
 Bd prog 76=.other ∧
 AQ prog 76=some (2,true) ∧
 B0 prog 76=some [.it .i64 0,.it .i64 0] ∧
 strOf prog 76=some ([(0,1),(1,1)],[.it .i64 0,.it .i64 0]) ∧
 Ax prog 76 0=some (0,1,false) ∧
 Ax prog 76 1=some (1,1,false) ∧
 GO prog 76=some [(3,0,1,false),(3,1,1,false)] ∧
 Program.eqGuardType prog (Program.depth prog) 76=false:=by and_intros<;>kernel_rfl
theorem Lk:DV prog 82=some (some .i64,.bo false):=by kernel_rfl
theorem Lj:
 Bd prog 92=.other ∧
 AQ prog 92=some (5,true) ∧
 B0 prog 92=some [.it .i64 0,.it .i64 0,(.st []),(.st []),(.st [])] ∧
 strOf prog 92=some ([(0,1),(1,1),(2,3)],[.it .i64 0,.it .i64 0,(.st []),(.st []),(.st [])]) ∧
 Ax prog 92 0=some (0,1,false) ∧
 Ax prog 92 1=some (1,1,false) ∧
 Ax prog 92 2=some (2,3,true) ∧
 GO prog 92=some [(3,0,1,false),(3,1,1,false),(40,2,3,true)] ∧
 Program.eqGuardType prog (Program.depth prog) 92=false ∧
 Bd prog 96=(.int .u64) ∧
 AQ prog 97=some (1,false) ∧
 AQ prog 98=some (1,false) ∧
 AQ prog 99=some (1,false) ∧
 DV prog 99=some (none,.it .i64 0):=by and_intros<;>kernel_rfl
theorem Li:
 strOf prog 101=some ([(0,2),(2,6),(8,1),(9,1),(10,9),(19,1)],[(.sl Mode.full []),(.sl Mode.full []),(.st []),(.sl Mode.full []),(.sl Mode.full []),(.st []),.it .i64 0,.bo false,(.ot (.map none)),(.ot (.map none)),(.st []),.it .i64 0,(.st []),.it .i64 0,.it .i64 0,.it .i64 0,.it .i64 0,.it .i64 0,.it .i64 0,.bo false]) ∧
 Ax prog 101 0=some (0,2,true) ∧
 Ax prog 101 1=some (2,6,true) ∧
 Ax prog 101 2=some (8,1,false) ∧
 Ax prog 101 3=some (9,1,false) ∧
 Ax prog 101 4=some (10,9,true) ∧
 Ax prog 101 5=some (19,1,false) ∧
 Bd prog 104=.other ∧
 AQ prog 104=some (2,true) ∧
 B0 prog 104=some [.it .i64 0,(.st [])] ∧
 strOf prog 104=some ([(0,1),(1,1)],[.it .i64 0,(.st [])]) ∧
 GO prog 104=some [(3,0,1,false),(9,1,1,false)]:=by and_intros<;>kernel_rfl
theorem Lh:
 AQ prog 107=some (3,true) ∧
 B0 prog 107=some [.it .i64 0,.it .i64 0,.it .i64 0] ∧
 strOf prog 107=some ([(0,1),(1,1),(2,1)],[.it .i64 0,.it .i64 0,.it .i64 0]) ∧
 Ax prog 107 0=some (0,1,false) ∧
 Ax prog 107 1=some (1,1,false) ∧
 Ax prog 107 2=some (2,1,false) ∧
 AQ prog 115=some (1,false):=by and_intros<;>kernel_rfl
theorem Lg:
 Bd prog 133=.bytes ∧
 AQ prog 133=some (1,false) ∧
 BI prog 133=some (5,1,false) ∧
 C7 prog 133=some (5,1,1) ∧
 OG prog 133=some 5 ∧
 B0 prog 135=some [(.sl Mode.full [])] ∧
 Ax prog 135 0=some (0,1,false):=by and_intros<;>kernel_rfl
theorem Lf:Bd prog 156=(.int .u64):=by kernel_rfl
theorem Lc:
 AQ prog 186=some (4,true) ∧
 B0 prog 186=some [(.sl Mode.full []),(.sl Mode.full []),(.sl Mode.full []),(.sl Mode.full [])]:=by and_intros<;>kernel_rfl
theorem Lb:
 strOf prog 186=some ([(0,1),(1,1),(2,1),(3,1)],[(.sl Mode.full []),(.sl Mode.full []),(.sl Mode.full []),(.sl Mode.full [])]) ∧
 Ax prog 186 1=some (1,1,false) ∧
 Ax prog 186 2=some (2,1,false):=by and_intros<;>kernel_rfl
theorem La:
 AQ prog 197=some (2,true) ∧
 B0 prog 197=some [.it .i64 0,.ot .nilFunc] ∧
 strOf prog 197=some ([(0,1),(1,1)],[.it .i64 0,.ot .nilFunc]) ∧
 Ax prog 197 0=some (0,1,false) ∧
 Ax prog 197 1=some (1,1,false) ∧
 DV prog 199=some (some .i64,(.agg [.it .i64 0,.ot .nilFunc])):=by and_intros<;>kernel_rfl
theorem K9:
 BI prog 215=some (218,22,true) ∧
 C7 prog 215=some (218,22,288):=by and_intros<;>kernel_rfl
theorem K8:
 AQ prog 218=some (22,true) ∧
 B0 prog 218=some [.it .i64 0,(.st []),(.st []),.it .i64 0,(.st []),.it .i64 0,.it .i64 0,(.st []),(.st []),.it .i64 0,(.st []),(.sl Mode.full []),(.st []),(.st []),(.st []),(.st []),.it .i64 0,(.sl Mode.full []),.it .i64 0,.it .i64 0,.it .i64 0,.it .i64 0] ∧
 strOf prog 218=some ([(0,1),(1,1),(2,20)],[.it .i64 0,(.st []),(.st []),.it .i64 0,(.st []),.it .i64 0,.it .i64 0,(.st []),(.st []),.it .i64 0,(.st []),(.sl Mode.full []),(.st []),(.st []),(.st []),(.st []),.it .i64 0,(.sl Mode.full []),.it .i64 0,.it .i64 0,.it .i64 0,.it .i64 0]) ∧
 Ax prog 218 0=some (0,1,false) ∧
 Ax prog 218 1=some (1,1,false) ∧
 Ax prog 218 2=some (2,20,true) ∧
 BI prog 224=some (57,9,true) ∧
 C7 prog 224=some (57,9,88):=by and_intros<;>kernel_rfl
theorem K7:
 AQ prog 234=some (4,true) ∧
 B0 prog 234=some [(.sl Mode.full []),(.sl Mode.full []),(.sl Mode.full []),(.sl Mode.full [])] ∧
 Ax prog 234 0=some (0,1,false) ∧
 Ax prog 234 1=some (1,1,false) ∧
 Ax prog 234 2=some (2,1,false) ∧
 Ax prog 234 3=some (3,1,false):=by and_intros<;>kernel_rfl
theorem K6:
 AQ prog 250=some (1,false) ∧
 DV prog 250=some (none,.bo false):=by and_intros<;>kernel_rfl
theorem K3:
 AQ prog 252=some (4,true) ∧
 B0 prog 252=some [(.ot (.map none)),(.ot (.map none)),(.ot (.map none)),(.ot (.map none))] ∧
 strOf prog 252=some ([(0,1),(1,1),(2,1),(3,1)],[(.ot (.map none)),(.ot (.map none)),(.ot (.map none)),(.ot (.map none))]) ∧
 Ax prog 252 0=some (0,1,false) ∧
 Ax prog 252 1=some (1,1,false) ∧
 Ax prog 252 2=some (2,1,false) ∧
 Ax prog 252 3=some (3,1,false):=by and_intros<;>kernel_rfl
theorem KY:BI prog 293=some (296,11,true):=by kernel_rfl
end Pe
end
section
namespace Pe
open Tryz
open Go
variable [Tab]
set_option maxRecDepth 100000
theorem an{a b:Prop}(x:a)(y:b):a∧b:=⟨x,y⟩
theorem AD{A B:Prop}(h:B)(e:A=B:=by
    conv=>
      lhs
      simp only[Ex,CN,DC,List.map_cons,List.map_nil,List.map_toArray,List.getElem?_toArray,List.getElem?_cons_zero,List.getElem?_cons_succ,Option.bind_some,Option.bind_none,List.append_eq,List.cons_append,List.nil_append]):A:=e▸h
theorem Aa{A:Prop}(h:A:=by first|rfl|(simp only[↓O8,↓PP,↓reduceIte,Nat.reduceEqDiff,↓Rp,↓Rq, *];done)):A:=h
theorem A3{p0 p1 p2:Prop}(x0:p0)(x1:p1)(x2:p2):p0∧p1∧p2:=⟨x0,x1,x2⟩
theorem A4{p0 p1 p2 p3:Prop}(x0:p0)(x1:p1)(x2:p2)(x3:p3):p0∧p1∧p2∧p3:=⟨x0,x1,x2,x3⟩
theorem A5{p0 p1 p2 p3 p4:Prop}(x0:p0)(x1:p1)(x2:p2)(x3:p3)(x4:p4):p0∧p1∧p2∧p3∧p4:=⟨x0,x1,x2,x3,x4⟩
theorem A6{p0 p1 p2 p3 p4 p5:Prop}(x0:p0)(x1:p1)(x2:p2)(x3:p3)(x4:p4)(x5:p5):p0∧p1∧p2∧p3∧p4∧p5:=⟨x0,x1,x2,x3,x4,x5⟩
theorem A7{p0 p1 p2 p3 p4 p5 p6:Prop}(x0:p0)(x1:p1)(x2:p2)(x3:p3)(x4:p4)(x5:p5)(x6:p6):p0∧p1∧p2∧p3∧p4∧p5∧p6:=⟨x0,x1,x2,x3,x4,x5,x6⟩
theorem A8{p0 p1 p2 p3 p4 p5 p6 p7:Prop}(x0:p0)(x1:p1)(x2:p2)(x3:p3)(x4:p4)(x5:p5)(x6:p6)(x7:p7):p0∧p1∧p2∧p3∧p4∧p5∧p6∧p7:=⟨x0,x1,x2,x3,x4,x5,x6,x7⟩
theorem A9{p0 p1 p2 p3 p4 p5 p6 p7 p8:Prop}(x0:p0)(x1:p1)(x2:p2)(x3:p3)(x4:p4)(x5:p5)(x6:p6)(x7:p7)(x8:p8):p0∧p1∧p2∧p3∧p4∧p5∧p6∧p7∧p8:=⟨x0,x1,x2,x3,x4,x5,x6,x7,x8⟩
theorem BZ{p0 p1 p2 p3 p4 p5 p6 p7 p8 p9:Prop}(x0:p0)(x1:p1)(x2:p2)(x3:p3)(x4:p4)(x5:p5)(x6:p6)(x7:p7)(x8:p8)(x9:p9):p0∧p1∧p2∧p3∧p4∧p5∧p6∧p7∧p8∧p9:=⟨x0,x1,x2,x3,x4,x5,x6,x7,x8,x9⟩
theorem An{p0 p1 p2 p3 p4 p5 p6 p7 p8 p9 p10:Prop}(x0:p0)(x1:p1)(x2:p2)(x3:p3)(x4:p4)(x5:p5)(x6:p6)(x7:p7)(x8:p8)(x9:p9)(x10:p10):p0∧p1∧p2∧p3∧p4∧p5∧p6∧p7∧p8∧p9∧p10:=⟨x0,x1,x2,x3,x4,x5,x6,x7,x8,x9,x10⟩
theorem run{A B:Prop}(h:B)(e:A=B:=by
  conv=>
   lhs
   (try simp only[OV,OW,OX,Gm,GL])
   (try simp -implicitDefEqProofs (maxSteps:=4000000) (disch:=(first|omega|(simp only[List.length_append,List.length_cons,List.length_map,List.length_nil,List.length_take,List.length_drop];omega))) only[↓MY,MZ,De,↓reduceIte,Nat.reduceEqDiff,Nat.reduceAdd,Nat.reduceLT,Nat.reduceLeDiff,Nat.reduceMul,Nat.reduceSub,Int.reduceToNat,Int.reduceAdd,Int.reduceSub,Int.reduceMul,Int.reduceNeg,Int.reduceLE,Int.reduceLT,Int.reduceEq,Int.reduceBEq,Int.reduceBNe,Nat.reduceBEq,Nat.reduceBNe,EC,FK,GV,IC,JF,JB,Ix,HH,ID,IJ,IK,IH,II,Gz,EB,Iy,JD,JE,IG,IF,GU,Gy,Cj,Fb,Gl,Je,JC,IB,IE,JG,GA,Ft,IA,CB,Ia,apart,FJ,FH,FI,GC,HK,F9,AV.wk,AV.wk2,AV.wk1,AV.cells,AV.solid,AV.ro,AV.ro1,←List.map_take,←List.map_drop,reduceCtorEq,Option.isNone_some,Option.isSome_none,Lo,Ln,Ld,KZ,KX,KW,KV,KU,KS,KR,Lm,Ll,Lk,Lj,Li,Lh,Lg,Lf,Lc,Lb,La,K9,K8,K7,K6,K3,KY])
   (try simp only[Gm,GL])):A:=e▸h
theorem Ab{F A B:Prop}(f:F)(h:B)(e:F→A=B:=by
  intro f;conv=>
   lhs
   (try simp only[OV,OW,OX,Gm,GL])
   (try simp -implicitDefEqProofs (maxSteps:=4000000) (disch:=(first|omega|(simp only[List.length_append,List.length_cons,List.length_map,List.length_nil,List.length_take,List.length_drop];omega))) only[↓MY,MZ,De,↓reduceIte,Nat.reduceEqDiff,Nat.reduceAdd,Nat.reduceLT,Nat.reduceLeDiff,Nat.reduceMul,Nat.reduceSub,Int.reduceToNat,Int.reduceAdd,Int.reduceSub,Int.reduceMul,Int.reduceNeg,Int.reduceLE,Int.reduceLT,Int.reduceEq,Int.reduceBEq,Int.reduceBNe,Nat.reduceBEq,Nat.reduceBNe,EC,FK,GV,IC,JF,JB,Ix,HH,ID,IJ,IK,IH,II,Gz,EB,Iy,JD,JE,IG,IF,GU,Gy,Cj,Fb,Gl,Je,JC,IB,IE,JG,GA,Ft,IA,CB,Ia,apart,FJ,FH,FI,GC,HK,F9,AV.wk,AV.wk2,AV.wk1,AV.cells,AV.solid,AV.ro,AV.ro1,←List.map_take,←List.map_drop,reduceCtorEq,Option.isNone_some,Option.isSome_none,Lo,Ln,Ld,KZ,KX,KW,KV,KU,KS,KR,Lm,Ll,Lk,Lj,Li,Lh,Lg,Lf,Lc,Lb,La,K9,K8,K7,K6,K3,KY,f])
   (try simp only[Gm,GL])):A:=e f▸h
section
variable {P:Program} {pf rf:List FuncId} {e:Af} {f:FuncId} {d:Option Nat} {rest:List AO} {K:Af→Ae→Prop}
theorem cp{args args':List AV}{S:Ae}{v:AV}(h:AC P f args' [] v [])(h':BA P pf rf rest (put e d v) S K)
  (ha:args.map AV.wk=args':=by rfl)(hk:args'.all (AV.ok 0)=true:=by rfl)(hv:v.ok 0=true:=by rfl):DG (KG P f args S) (F8 P pf rf d rest e K):=ZhI h ha hk hv h'
theorem Eg{v:AV}{n m:Nat}(h:v.o0 n=true)(hm:n≤m):v.o0 m=true:=by
 cases v with
 |sl mo es=>cases mo<;>simp_all [AV.o0];omega
 |ptr l o=>simp only[AV.o0,decide_eq_true_eq]at *;omega
 |mp l=>simp only[AV.o0,decide_eq_true_eq]at *;omega
 |ws l o k c=>simp only[AV.o0,decide_eq_true_eq]at *;omega
 |wr l k o=>simp only[AV.o0,decide_eq_true_eq]at *;omega
 |wx l o k c=>simp only[AV.o0,decide_eq_true_eq]at *;omega
 |_=>simp_all [AV.o0]
theorem Ef{v:AV}{n m:Nat}(h:v.o1 n=true)(hm:n≤m):v.o1 m=true:=by
 cases v with
 |fn g a c=>
  simp only[AV.o1,Bool.and_eq_true,List.all_eq_true]at *;exact⟨fun x hx=>Eg (h.1 x hx) hm,fun x hx=>Eg (h.2 x hx) hm⟩
 |bo b=>exact Eg (v:=.bo b) h hm
 |it k i=>exact Eg (v:=.it k i) h hm
 |st l=>exact Eg (v:=.st l) h hm
 |ot v=>exact Eg (v:=.ot v) h hm
 |sl m' es=>exact Eg (v:=.sl m' es) h hm
 |agg cs=>exact Eg (v:=.agg cs) h hm
 |tup vs=>exact Eg (v:=.tup vs) h hm
 |ptr l o=>exact Eg (v:=.ptr l o) h hm
 |pst e o=>exact Eg (v:=.pst e o) h hm
 |mp l=>exact Eg (v:=.mp l) h hm
 |fm es=>exact Eg (v:=.fm es) h hm
 |ws l o k c=>exact Eg (v:=.ws l o k c) h hm
 |wr l k o=>exact Eg (v:=.wr l k o) h hm
 |wx l o k c=>exact Eg (v:=.wx l o k c) h hm
 |junk=>exact Eg (v:=.junk) h hm
theorem DT{v:AV}{n m:Nat}(h:v.o2 n=true)(hm:n≤m):v.o2 m=true:=by
 cases v with
 |agg cs=>
  simp only[AV.o2,List.all_eq_true]at *;exact fun x hx=>Ef (h x hx) hm
 |bo b=>exact Ef (v:=.bo b) h hm
 |it k i=>exact Ef (v:=.it k i) h hm
 |st l=>exact Ef (v:=.st l) h hm
 |ot v=>exact Ef (v:=.ot v) h hm
 |sl m' es=>exact Ef (v:=.sl m' es) h hm
 |tup vs=>exact Ef (v:=.tup vs) h hm
 |ptr l o=>exact Ef (v:=.ptr l o) h hm
 |pst e o=>exact Ef (v:=.pst e o) h hm
 |fn f a c=>exact Ef (v:=.fn f a c) h hm
 |mp l=>exact Ef (v:=.mp l) h hm
 |fm es=>exact Ef (v:=.fm es) h hm
 |ws l o k c=>exact Ef (v:=.ws l o k c) h hm
 |wr l k o=>exact Ef (v:=.wr l k o) h hm
 |wx l o k c=>exact Ef (v:=.wx l o k c) h hm
 |junk=>exact Ef (v:=.junk) h hm
theorem Fx{v:AV}{n m:Nat}(h:v.ok n=true)(hm:n≤m):v.ok m=true:=by
 cases v with
 |tup cs=>
  simp only[AV.ok,List.all_eq_true]at *;exact fun x hx=>DT (h x hx) hm
 |bo b=>exact DT (v:=.bo b) h hm
 |it k i=>exact DT (v:=.it k i) h hm
 |st l=>exact DT (v:=.st l) h hm
 |ot v=>exact DT (v:=.ot v) h hm
 |sl m' es=>exact DT (v:=.sl m' es) h hm
 |agg cs=>exact DT (v:=.agg cs) h hm
 |ptr l o=>exact DT (v:=.ptr l o) h hm
 |pst e o=>exact DT (v:=.pst e o) h hm
 |fn f a c=>exact DT (v:=.fn f a c) h hm
 |mp l=>exact DT (v:=.mp l) h hm
 |fm es=>exact DT (v:=.fm es) h hm
 |ws l o k c=>exact DT (v:=.ws l o k c) h hm
 |wr l k o=>exact DT (v:=.wr l k o) h hm
 |wx l o k c=>exact DT (v:=.wx l o k c) h hm
 |junk=>exact DT (v:=.junk) h hm
theorem PL{us:List AV}(h:us.all (AV.ok 0)=true)(ρ:Nat→Nat):us.map (AV.ren ρ)=us:=E8 h fun v hv=>DR hv (fun i hi=>absurd hi (Nat.not_lt_zero _))
theorem G1{o:SObj}(h:o.ok 0=true)(ρ:Nat→Nat):o.ren ρ=o:=by
 cases o with
 | cells cs=>
  have:cs.map (AV.r1 ρ)=cs:=E8 (p:=AV.o1 0) h fun v hv=>by
   have :=DR (ρ:=ρ) (v:=.agg [v]) (n:=0) (by simpa[AV.ok,AV.o2] using hv) (fun i hi=>absurd hi (Nat.not_lt_zero _))
   simpa[AV.ren,AV.r2] using this
  show SObj.cells _=_
  rw[this]
 | row cs e sz=>
  have:cs.map (AV.r1 ρ)=cs:=E8 (p:=AV.o1 0) h fun v hv=>by
   have :=DR (ρ:=ρ) (v:=.agg [v]) (n:=0) (by simpa[AV.ok,AV.o2] using hv) (fun i hi=>absurd hi (Nat.not_lt_zero _))
   simpa[AV.ren,AV.r2] using this
  show SObj.row _ _ _=_
  rw[this]
 | map es=>
  have h:=List.all_eq_true.1 h;show SObj.map _=SObj.map es
  congr 1
  rw[List.map_congr_left (g:=id) fun p hp=>?_,List.map_id]
  have :=h p hp;simp only[Bool.and_eq_true]at this;have h1:=DR (ρ:=ρ) (v:=.tup [p.1]) (n:=0) (by simpa[AV.ok] using this.1) (fun i hi=>absurd hi (Nat.not_lt_zero _))
  have h2:=DR (ρ:=ρ) (v:=.tup [p.2]) (n:=0) (by simpa[AV.ok] using this.2) (fun i hi=>absurd hi (Nat.not_lt_zero _))
  have h1:p.1.r2 ρ=p.1:=by
   have h1:AV.tup [p.1.r2 ρ]=AV.tup [p.1]:=h1;simp only[AV.tup.injEq,List.cons.injEq,and_true]at h1;exact h1
  have h2:p.2.r2 ρ=p.2:=by
   have h2:AV.tup [p.2.r2 ρ]=AV.tup [p.2]:=h2;simp only[AV.tup.injEq,List.cons.injEq,and_true]at h2;exact h2
  rw[h1,h2];rfl
 |loop b D fn es ps asn bdy st=>
  have:es.map (AV.ren ρ)=es:=E8 (p:=AV.ok 0) h fun v hv=>DR hv (fun i hi=>absurd hi (Nat.not_lt_zero _))
  show SObj.loop _ _ _ _ _ _ _ _=_
  rw[this]
 |_=>rfl
theorem H4{o:SObj}(h:o.ok 0=true):o.ok 1=true:=by
 cases o with
 |cells cs=>
  refine List.all_eq_true.2 fun v hv=>?_
  have :=List.all_eq_true.1 h v hv;have :=Fx (v:=.agg [v]) (n:=0) (m:=1) (by simpa[AV.ok,AV.o2] using this) (Nat.zero_le 1)
  simpa[AV.ok,AV.o2] using this
 |row cs e sz=>
  refine List.all_eq_true.2 fun v hv=>?_
  have :=List.all_eq_true.1 h v hv;have :=Fx (v:=.agg [v]) (n:=0) (m:=1) (by simpa[AV.ok,AV.o2] using this) (Nat.zero_le 1)
  simpa[AV.ok,AV.o2] using this
 |map es=>
  refine List.all_eq_true.2 fun p hp=>?_
  have :=List.all_eq_true.1 h p hp;simp only[Bool.and_eq_true]at *;exact⟨DT this.1 (Nat.zero_le 1),DT this.2 (Nat.zero_le 1)⟩
 |loop b D fn es ps asn bdy st=>exact List.all_eq_true.2 fun v hv=>Fx (List.all_eq_true.1 h v hv) (Nat.zero_le 1)
 |_=>rfl
theorem AC.here{args:List AV}{o o':SObj}{v:AV}(h:AC P f (.ptr 0 0::args) [o] v [o'])(l:Nat)(T:Ae)(ho:o.ok 0=true)(ho':o'.ok 0=true)(ha:args.all (AV.ok 0)=true)(hv:v.ok 0=true)(hT:T[l]? = some o):
  AC P f (.ptr l 0::args) T v (T.set l o'):=by
 have ha1:∀u∈args,u.ok 1=true:=fun u hu=>Fx (List.all_eq_true.1 ha u hu) (Nat.zero_le 1)
 have :=AC.at1 h l (by rw[G1 ho];exact hT) (by simp only[List.all_cons,Bool.and_eq_true];exact⟨rfl,List.all_eq_true.2 ha1⟩) (Fx hv (Nat.zero_le 1)) (H4 ho) (H4 ho')
 rw[List.map_cons,PL ha,G1 ho',DR hv (fun i hi=>absurd hi (Nat.not_lt_zero _))]at this
 exact this
theorem c1{args gargs:List AV}{T:Ae}{o o':SObj}{v:AV}(l:Nat)(h:AC P f (.ptr 0 0::args) [o] v [o'])(h':BA P pf rf rest (put e d v) (T.set l o') K)
  (ho:o.ok 0=true:=by rfl)(ho':o'.ok 0=true:=by rfl)(ha:args.all (AV.ok 0)=true:=by rfl)(hv:v.ok 0=true:=by rfl)(hT:T[l]? = some o:=by rfl)(hg:gargs.map AV.wk=.ptr l 0::args:=by rfl):
  DG (KI P f gargs T) (F8 P pf rf d rest e K):=
 AZ (show AC P f (gargs.map AV.wk) T v (T.set l o') by rw[hg];exact h.here l T ho ho' ha hv hT) h'
end
theorem Ao.freeze(N0:Nat){e:Af}{S:Ae}(d l:Nat){es:List (AV×AV)}(hd:e d=.mp l)(hS:S[l]? = some (.map es))(hok:(SObj.map es).ok 0=true):Ao N0 e S (Bv e d (.fm es)) (S.set l .dead):=by
 rintro N w0 g0 a w hn ⟨h1,h2,g,h3,h4,h5⟩
 have hlS:=(List.getElem?_eq_some_iff.1 hS).1
 obtain⟨hb,hown,hG,me,clock,hheap,hsz,hlt,hnd,hrel⟩:=h3.obj l _ hS;have hln:l<g.nid:=by rw[h3.nid];exact hlS
 let g':Gh:={ g with G:=fun x=>if x=g.pl l then 1 else g.G x }
 have hne:∀b,0<g.G b→b≠g.pl l:=fun b h e=>by rw[e,hG]at h;exact absurd h (Nat.lt_irrefl 0)
 have hle:Le w g w g':=⟨fun _ _ _ _ h=>h,fun b o v hb _=>by
  show o<(if b=g.pl l then 1 else g.G b)
  rw[if_neg (hne b (by omega))];exact hb,Nat.le_refl _,fun _ _=>⟨rfl,.inl ⟨rfl,rfl,rfl⟩⟩,fun b me c hg hm=>⟨by
  show 0<(if b=g.pl l then 1 else g.G b)
  rw[if_neg (hne b hg)];exact hg,hm⟩⟩
 have hren:RenOk w g w g'.noid id 0:=⟨hle.noid,fun l hl=>absurd hl (Nat.not_lt_zero _)⟩
 have hall:=List.all_eq_true.1 (show(es.all fun p=>p.1.o2 0&&p.2.o2 0)=true from hok)
 have hko:∀u∈es,u.1.o2 0=true∧u.2.o2 0=true:=fun u hu=>by simpa using hall u hu
 refine⟨h1,h2,g',⟨by rw[List.length_set];exact h3.nid,fun k o hk=>?_,h3.disj,h3.lt,h3.tab.le hle⟩,fun t=>?_,h5.trans ⟨hle,rfl,rfl,rfl,Nat.le_refl _,fun _ _ _=>rfl,fun _ _ hk hb _=>⟨hk,hb⟩,fun b _ hno=>if_neg (fun e=>hno l hln (by rw[e];exact hown))⟩⟩
 ·by_cases hkl:k=l
  ·subst hkl;rw[List.getElem?_set_self hlS]at hk;cases hk;trivial
  ·rw[List.getElem?_set_ne (Ne.symm hkl)]at hk
   have hkn:k<g.nid:=by rw[h3.nid];exact(List.getElem?_eq_some_iff.1 hk).1
   refine(h3.obj k o hk).keep hle rfl rfl rfl rfl rfl (fun b hb'=>?_) (fun _ _=>rfl)
   exact if_neg (fun e=>hkl (h3.disj k l b hkn hln hb' (by rw[e];exact hown)))
 ·by_cases htd:t=d
  ·subst htd
   rw[JU];have ht:=h4 t;rw[hd]at ht;generalize a.tmps.getD t undef=cv at ht;cases ht
   refine .fm _ es (g.pl l) me clock (by show 0<(if g.pl l=g.pl l then 1 else _);rw[if_pos rfl];exact Nat.one_pos) hheap hsz (fun j u x hu hx=>?_) fun j u x hu hx=>?_
   ·have :=(hrel j u x hu hx).1.r2 hren (hko u (List.mem_of_getElem? hu)).1
    rwa[Dl (hko u (List.mem_of_getElem? hu)).1 (fun i hi=>absurd hi (Nat.not_lt_zero _))]at this
   ·have :=(hrel j u x hu hx).2.r2 hren (hko u (List.mem_of_getElem? hu)).2
    rwa[Dl (hko u (List.mem_of_getElem? hu)).2 (fun i hi=>absurd hi (Nat.not_lt_zero _))]at this
  ·rw[HS e htd];exact(h4 t).le hle
theorem Ad{P:Program}{rs:List ResultVar}{v:AV}{e:Af}{S:Ae}{vs:List AV}(h:C9 P rs e S=some vs:=by rfl)(hk:v.ok 0=true:=by rfl)(hv:DO vs=v:=by rfl):Dr P rs 0 v [] .ret e S:=Hu h hk hv
theorem Ov{P:Program}{rs:List ResultVar}{v:AV}{e:Af}{S:Ae}{o:SObj}{vs:List AV}(h:C9 P rs e S=some vs:=by rfl)(ho:o.ok 1=true:=by rfl)(hS:S[0]? = some (o.ren (AH [0])):=by rfl)(hk:v.ok 1=true:=by rfl)(hv:DO vs=v.ren (AH [0]):=by rfl):Dr P rs 1 v [o] .ret e S:=
 QW (κ:=[0]) h (Lq 0 ho hS) rfl hk hv
theorem WS{P:Program}{rs:List ResultVar}{v:AV}{e:Af}{S:Ae}{o:SObj}{vs:List AV}(h:C9 P rs e S=some vs:=by rfl)(ho:o.ok 1=true:=by rfl)(hS:S[0]? = some (o.ren (AH [0])):=by rfl)(hk:v.ok 1=true:=by rfl)(hv:DO vs=v.ren (AH [0]):=by rfl):Dr P rs 1 v [o] .norm e S:=
 ⟨e,S,vs,[0],Ao.refl 1 e S,h,Lq 0 ho hS,rfl,hk,.inl hv⟩
theorem WH{P:Program}{rs:List ResultVar}{v:AV}{e:Af}{S:Ae}{o:SObj}{vs:List AV}(h:C9 P rs e S=some vs:=by rfl)(ho:o.ok 1=true:=by rfl)(hS:S[0]? = some (o.ren (AH [0])):=by rfl)(hk:v.ok 1=true:=by rfl)(hv:(DO vs).wk=v.ren (AH [0]):=by rfl):Dr P rs 1 v [o] .ret e S:=
 ⟨e,S,vs,[0],Ao.refl 1 e S,h,Lq 0 ho hS,rfl,hk,.inr hv⟩
theorem Au{P:Program}{rs:List ResultVar}{v:AV}{e:Af}{S:Ae}{vs:List AV}(h:C9 P rs e S=some vs:=by rfl)(hk:v.ok 0=true:=by rfl)(hv:(DO vs).wk=v:=by rfl):Dr P rs 0 v [] .ret e S:=Zgb h hk hv
end Pe
end
end Go.Proofs.YtipfggegddlgdaaGreatDoor
