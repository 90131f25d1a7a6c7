import Derived.Test.YtipfggegddlgdaaGreatDoorKw20
set_option linter.unusedSectionVars false
set_option linter.unusedVariables false
set_option linter.unusedSimpArgs false
namespace Go.Proofs.YtipfggegddlgdaaGreatDoor
section
namespace Pe
open Tryz
open Go Go.RowKit Co Sg Ac It Sl Tp
set_option maxRecDepth 100000
set_option maxHeartbeats 4000000
theorem Db{e:Af}{d:Nat}{v:AV}(h:e d=v):e=Bv e d v:=funext fun t=>by
 by_cases ht:t=d
 ·subst ht;rw[JU];exact h
 ·rw[HS e ht]
theorem Xc(n:Nat)(h:n<10):AC prog 81 [.it .i64 (-(n:Int))] [] (.st [UInt8.ofNat (48+n)]) []:=by
 have:n=0∨n=1∨n=2∨n=3∨n=4∨n=5∨n=6∨n=7∨n=8∨n=9:=by omega
 rcases this with rfl|rfl|rfl|rfl|rfl|rfl|rfl|rfl|rfl|rfl
 ·show AC _ _ [.it .i64 0] _ (.st [48]) _
  have e1:(0:Int).tmod 10=0:=by decide
  have w1:IntKind.i64.wrap 0=0:=wrap64 (by omega) (by omega)
  have w2:IntKind.i64.wrap 0=0:=wrap64 (by omega) (by omega)
  have w3:IntKind.i64.wrap (-0)=0:=by rw[show -(0:Int)=0 by decide];exact w2
  refine Ah [] [] func81 ?_;refine Ab (A4 @e1 @w1 @w2 @w3) ?_;exact Ad
 ·show AC _ _ [.it .i64 (-1)] _ (.st [49]) _
  have e1:((-1):Int).tmod 10=(-1):=by decide
  have w1:IntKind.i64.wrap (-1)=(-1):=wrap64 (by omega) (by omega)
  have w2:IntKind.i64.wrap 1=1:=wrap64 (by omega) (by omega)
  have w3:IntKind.i64.wrap (-(-1))=1:=by rw[show -((-1):Int)=1 by decide];exact w2
  refine Ah [] [] func81 ?_;refine Ab (A4 @e1 @w1 @w2 @w3) ?_;exact Ad
 ·show AC _ _ [.it .i64 (-2)] _ (.st [50]) _
  have e1:((-2):Int).tmod 10=(-2):=by decide
  have w1:IntKind.i64.wrap (-2)=(-2):=wrap64 (by omega) (by omega)
  have w2:IntKind.i64.wrap 2=2:=wrap64 (by omega) (by omega)
  have w3:IntKind.i64.wrap (-(-2))=2:=by rw[show -((-2):Int)=2 by decide];exact w2
  refine Ah [] [] func81 ?_;refine Ab (A4 @e1 @w1 @w2 @w3) ?_;exact Ad
 ·show AC _ _ [.it .i64 (-3)] _ (.st [51]) _
  have e1:((-3):Int).tmod 10=(-3):=by decide
  have w1:IntKind.i64.wrap (-3)=(-3):=wrap64 (by omega) (by omega)
  have w2:IntKind.i64.wrap 3=3:=wrap64 (by omega) (by omega)
  have w3:IntKind.i64.wrap (-(-3))=3:=by rw[show -((-3):Int)=3 by decide];exact w2
  refine Ah [] [] func81 ?_;refine Ab (A4 @e1 @w1 @w2 @w3) ?_;exact Ad
 ·show AC _ _ [.it .i64 (-4)] _ (.st [52]) _
  have e1:((-4):Int).tmod 10=(-4):=by decide
  have w1:IntKind.i64.wrap (-4)=(-4):=wrap64 (by omega) (by omega)
  have w2:IntKind.i64.wrap 4=4:=wrap64 (by omega) (by omega)
  have w3:IntKind.i64.wrap (-(-4))=4:=by rw[show -((-4):Int)=4 by decide];exact w2
  refine Ah [] [] func81 ?_;refine Ab (A4 @e1 @w1 @w2 @w3) ?_;exact Ad
 ·show AC _ _ [.it .i64 (-5)] _ (.st [53]) _
  have e1:((-5):Int).tmod 10=(-5):=by decide
  have w1:IntKind.i64.wrap (-5)=(-5):=wrap64 (by omega) (by omega)
  have w2:IntKind.i64.wrap 5=5:=wrap64 (by omega) (by omega)
  have w3:IntKind.i64.wrap (-(-5))=5:=by rw[show -((-5):Int)=5 by decide];exact w2
  refine Ah [] [] func81 ?_;refine Ab (A4 @e1 @w1 @w2 @w3) ?_;exact Ad
 ·show AC _ _ [.it .i64 (-6)] _ (.st [54]) _
  have e1:((-6):Int).tmod 10=(-6):=by decide
  have w1:IntKind.i64.wrap (-6)=(-6):=wrap64 (by omega) (by omega)
  have w2:IntKind.i64.wrap 6=6:=wrap64 (by omega) (by omega)
  have w3:IntKind.i64.wrap (-(-6))=6:=by rw[show -((-6):Int)=6 by decide];exact w2
  refine Ah [] [] func81 ?_;refine Ab (A4 @e1 @w1 @w2 @w3) ?_;exact Ad
 ·show AC _ _ [.it .i64 (-7)] _ (.st [55]) _
  have e1:((-7):Int).tmod 10=(-7):=by decide
  have w1:IntKind.i64.wrap (-7)=(-7):=wrap64 (by omega) (by omega)
  have w2:IntKind.i64.wrap 7=7:=wrap64 (by omega) (by omega)
  have w3:IntKind.i64.wrap (-(-7))=7:=by rw[show -((-7):Int)=7 by decide];exact w2
  refine Ah [] [] func81 ?_;refine Ab (A4 @e1 @w1 @w2 @w3) ?_;exact Ad
 ·show AC _ _ [.it .i64 (-8)] _ (.st [56]) _
  have e1:((-8):Int).tmod 10=(-8):=by decide
  have w1:IntKind.i64.wrap (-8)=(-8):=wrap64 (by omega) (by omega)
  have w2:IntKind.i64.wrap 8=8:=wrap64 (by omega) (by omega)
  have w3:IntKind.i64.wrap (-(-8))=8:=by rw[show -((-8):Int)=8 by decide];exact w2
  refine Ah [] [] func81 ?_;refine Ab (A4 @e1 @w1 @w2 @w3) ?_;exact Ad
 ·show AC _ _ [.it .i64 (-9)] _ (.st [57]) _
  have e1:((-9):Int).tmod 10=(-9):=by decide
  have w1:IntKind.i64.wrap (-9)=(-9):=wrap64 (by omega) (by omega)
  have w2:IntKind.i64.wrap 9=9:=wrap64 (by omega) (by omega)
  have w3:IntKind.i64.wrap (-(-9))=9:=by rw[show -((-9):Int)=9 by decide];exact w2
  refine Ah [] [] func81 ?_;refine Ab (A4 @e1 @w1 @w2 @w3) ?_;exact Ad
theorem ZgK(n:Nat)(h0:10≤n)(h:n<100):AC prog 81 [.it .i64 (-(n:Int))] [] (.st [UInt8.ofNat (48+n / 10),UInt8.ofNat (48+n % 10)]) []:=by
 have k:=Xc (n / 10) (by omega)
 have e1:(-(n:Int)).tdiv 10 = -((n / 10:Nat):Int):=by rw[Int.neg_tdiv];rfl
 have e2:(-(n:Int)).tmod 10 = -((n % 10:Nat):Int):=by rw[Int.neg_tmod];rfl
 have hle:-(n:Int) ≤ -10:=by omega
 have w1:IntKind.i64.wrap (-((n / 10:Nat):Int)) = -((n / 10:Nat):Int):=wrap64 (by omega) (by omega)
 have hd:n % 10<10:=by omega
 generalize UInt8.ofNat (48+n / 10)=c at *;generalize n / 10=a at *;generalize n % 10=b at *
 have:b=0∨b=1∨b=2∨b=3∨b=4∨b=5∨b=6∨b=7∨b=8∨b=9:=by omega
 rcases this with rfl|rfl|rfl|rfl|rfl|rfl|rfl|rfl|rfl|rfl
 ·have e2:(-(n:Int)).tmod 10=0:=e2
  have w4:IntKind.i64.wrap 0=0:=wrap64 (by omega) (by omega)
  have w2:IntKind.i64.wrap 0=0:=wrap64 (by omega) (by omega)
  have w3:IntKind.i64.wrap (-0)=0:=by rw[show -(0:Int)=0 by decide];exact w2
  show AC _ _ _ _ (.st [c,48]) _
  refine Ah [81] [] func81 ?_;refine Ab (A3 @hle @e1 @w1) ?_;refine cp k ?_;refine Ab (A4 @e2 @w4 @w2 @w3) ?_;exact Ad
 ·have e2:(-(n:Int)).tmod 10=(-1):=e2
  have w4:IntKind.i64.wrap (-1)=(-1):=wrap64 (by omega) (by omega)
  have w2:IntKind.i64.wrap 1=1:=wrap64 (by omega) (by omega)
  have w3:IntKind.i64.wrap (-(-1))=1:=by rw[show -((-1):Int)=1 by decide];exact w2
  show AC _ _ _ _ (.st [c,49]) _
  refine Ah [81] [] func81 ?_;refine Ab (A3 @hle @e1 @w1) ?_;refine cp k ?_;refine Ab (A4 @e2 @w4 @w2 @w3) ?_;exact Ad
 ·have e2:(-(n:Int)).tmod 10=(-2):=e2
  have w4:IntKind.i64.wrap (-2)=(-2):=wrap64 (by omega) (by omega)
  have w2:IntKind.i64.wrap 2=2:=wrap64 (by omega) (by omega)
  have w3:IntKind.i64.wrap (-(-2))=2:=by rw[show -((-2):Int)=2 by decide];exact w2
  show AC _ _ _ _ (.st [c,50]) _
  refine Ah [81] [] func81 ?_;refine Ab (A3 @hle @e1 @w1) ?_;refine cp k ?_;refine Ab (A4 @e2 @w4 @w2 @w3) ?_;exact Ad
 ·have e2:(-(n:Int)).tmod 10=(-3):=e2
  have w4:IntKind.i64.wrap (-3)=(-3):=wrap64 (by omega) (by omega)
  have w2:IntKind.i64.wrap 3=3:=wrap64 (by omega) (by omega)
  have w3:IntKind.i64.wrap (-(-3))=3:=by rw[show -((-3):Int)=3 by decide];exact w2
  show AC _ _ _ _ (.st [c,51]) _
  refine Ah [81] [] func81 ?_;refine Ab (A3 @hle @e1 @w1) ?_;refine cp k ?_;refine Ab (A4 @e2 @w4 @w2 @w3) ?_;exact Ad
 ·have e2:(-(n:Int)).tmod 10=(-4):=e2
  have w4:IntKind.i64.wrap (-4)=(-4):=wrap64 (by omega) (by omega)
  have w2:IntKind.i64.wrap 4=4:=wrap64 (by omega) (by omega)
  have w3:IntKind.i64.wrap (-(-4))=4:=by rw[show -((-4):Int)=4 by decide];exact w2
  show AC _ _ _ _ (.st [c,52]) _
  refine Ah [81] [] func81 ?_;refine Ab (A3 @hle @e1 @w1) ?_;refine cp k ?_;refine Ab (A4 @e2 @w4 @w2 @w3) ?_;exact Ad
 ·have e2:(-(n:Int)).tmod 10=(-5):=e2
  have w4:IntKind.i64.wrap (-5)=(-5):=wrap64 (by omega) (by omega)
  have w2:IntKind.i64.wrap 5=5:=wrap64 (by omega) (by omega)
  have w3:IntKind.i64.wrap (-(-5))=5:=by rw[show -((-5):Int)=5 by decide];exact w2
  show AC _ _ _ _ (.st [c,53]) _
  refine Ah [81] [] func81 ?_;refine Ab (A3 @hle @e1 @w1) ?_;refine cp k ?_;refine Ab (A4 @e2 @w4 @w2 @w3) ?_;exact Ad
 ·have e2:(-(n:Int)).tmod 10=(-6):=e2
  have w4:IntKind.i64.wrap (-6)=(-6):=wrap64 (by omega) (by omega)
  have w2:IntKind.i64.wrap 6=6:=wrap64 (by omega) (by omega)
  have w3:IntKind.i64.wrap (-(-6))=6:=by rw[show -((-6):Int)=6 by decide];exact w2
  show AC _ _ _ _ (.st [c,54]) _
  refine Ah [81] [] func81 ?_;refine Ab (A3 @hle @e1 @w1) ?_;refine cp k ?_;refine Ab (A4 @e2 @w4 @w2 @w3) ?_;exact Ad
 ·have e2:(-(n:Int)).tmod 10=(-7):=e2
  have w4:IntKind.i64.wrap (-7)=(-7):=wrap64 (by omega) (by omega)
  have w2:IntKind.i64.wrap 7=7:=wrap64 (by omega) (by omega)
  have w3:IntKind.i64.wrap (-(-7))=7:=by rw[show -((-7):Int)=7 by decide];exact w2
  show AC _ _ _ _ (.st [c,55]) _
  refine Ah [81] [] func81 ?_;refine Ab (A3 @hle @e1 @w1) ?_;refine cp k ?_;refine Ab (A4 @e2 @w4 @w2 @w3) ?_;exact Ad
 ·have e2:(-(n:Int)).tmod 10=(-8):=e2
  have w4:IntKind.i64.wrap (-8)=(-8):=wrap64 (by omega) (by omega)
  have w2:IntKind.i64.wrap 8=8:=wrap64 (by omega) (by omega)
  have w3:IntKind.i64.wrap (-(-8))=8:=by rw[show -((-8):Int)=8 by decide];exact w2
  show AC _ _ _ _ (.st [c,56]) _
  refine Ah [81] [] func81 ?_;refine Ab (A3 @hle @e1 @w1) ?_;refine cp k ?_;refine Ab (A4 @e2 @w4 @w2 @w3) ?_;exact Ad
 ·have e2:(-(n:Int)).tmod 10=(-9):=e2
  have w4:IntKind.i64.wrap (-9)=(-9):=wrap64 (by omega) (by omega)
  have w2:IntKind.i64.wrap 9=9:=wrap64 (by omega) (by omega)
  have w3:IntKind.i64.wrap (-(-9))=9:=by rw[show -((-9):Int)=9 by decide];exact w2
  show AC _ _ _ _ (.st [c,57]) _
  refine Ah [81] [] func81 ?_;refine Ab (A3 @hle @e1 @w1) ?_;refine cp k ?_;refine Ab (A4 @e2 @w4 @w2 @w3) ?_;exact Ad
theorem Ph(n:Nat)(h:n<100):AC prog 36 [.it .i64 (n:Int)] [] (.st (D1 n)) []:=by
 have hn:¬(n:Int)<0:=by omega
 have e0:(0:Int)-(n:Int) = -(n:Int):=by omega
 have w1:IntKind.i64.wrap (-(n:Int)) = -(n:Int):=wrap64 (by omega) (by omega)
 have w0:IntKind.i64.wrap (0-(n:Int)) = -(n:Int):=by rw[e0,w1]
 unfold D1;by_cases h1:n<10
 ·have k:=Xc n h1
  rw[if_pos h1];refine Ah [81] [] func36 ?_;refine Ab (A3 @hn @w0 @w1) ?_;refine cp k ?_;refine run ?_;exact Ad
 ·have k:=ZgK n (by omega) h
  rw[if_neg h1];refine Ah [81] [] func36 ?_;refine Ab (A3 @hn @w0 @w1) ?_;refine cp k ?_;refine run ?_;exact Ad
theorem G5(n m:Int)(h:-9223372036854775808≤n∧n≤9223372036854775807)(hm:0<m∧m≤1000000):AC prog 37 [.it .i64 n,.it .i64 m] [] (.it .i64 (AL n m)) []:=by
 show AC _ _ _ _ (.it .i64 (pickN47 n m)) _
 refine Ar [] [] func37 ?_;have h0:=pick_in (n:=n) hm.1;have h1:-m<n.tmod m∧n.tmod m<m:=by
  unfold pickN47 at h0;have h2:=Int.lt_tmod_of_pos n hm.1;split at h0<;>omega
 have hw:IntKind.i64.wrap (n.tmod m)=n.tmod m:=wrap64 (by omega) (by omega)
 have hw1:n.tmod m<0→IntKind.i64.wrap (n.tmod m+m)=n.tmod m+m:=fun _=>wrap64 (by omega) (by omega)
 have hmz:¬m=0:=by omega
 refine Ab (an @hw @hmz) ?_;by_cases h0:n.tmod m<0
 ·have hw1:=hw1 h0
  rw[show pickN47 n m=n.tmod m+m from if_pos h0]
  refine Ab (A3 @hw @hw1 @hmz) ?_;exact Ad
 ·rw[show pickN47 n m=n.tmod m from if_neg h0]
  refine Ab (an @hw @hmz) ?_;exact Ad
theorem Ke(n:Int){m:Int}(hm:0<m):0≤AL n m∧AL n m<m:=pick_in (n:=n) hm
theorem Zfe(b:UInt8):Sm.hex2 b=[Sm.digs.getD (b.toNat / 16) 0,Sm.digs.getD (b.toNat % 16) 0]:=by
 have h:∀n:_root_.Fin 256,Sm.hex2 (UInt8.ofNat n.1)=[Sm.digs.getD (n.1 / 16) 0,Sm.digs.getD (n.1 % 16) 0]:=by decide +kernel
 have :=h ⟨b.toNat,UInt8.toNat_lt b⟩;simpa using this
theorem Zco(s:By)(hs:s.length≤1000000):AC prog 74 [.st s] [] (.st (Sm.hex s)) []:=by
 refine Ah [] [] func74 ?_;refine run ?_;refine Cq (fun m e S=>e 0=.st s ∧ ∃(k:Nat) (acc:By) (T:Ae),e 4=.it .i64 (k:Int)∧e 3=.sl (.own 0) (acc.map u8)∧S=.buf acc.length 5 1::T∧acc=Sm.hex (s.take k)∧k≤s.length∧m=s.length-k) s.length _ _ (Ao.reserve 0 3 (es:=[]) (by rfl) 5 1)
  ⟨Aa,0,[],[],Aa,Aa,rfl,by simp[Sm.hex],by omega,rfl⟩ ?_
 rintro m e S ⟨s0,k,acc,T,s4,s3,rfl,hacc,hk,rfl⟩
 have hal:acc.length=2*k:=by
  rw[hacc,Sm.hex,List.length_flatMap,show(List.map (fun a=>(Sm.hex2 a).length) (s.take k))=(s.take k).map (fun _=>2)from List.map_congr_left (fun _ _=>rfl),List.map_const',List.sum_replicate_nat,List.length_take,Nat.min_eq_left hk,Nat.mul_comm]
 by_cases hlt:k<s.length
 ·have hg:s[k]? = some s[k]:=List.getElem?_eq_getElem hlt
  have hst:acc++Sm.hex2 s[k]=Sm.hex (s.take (k+1)):=by
   rw[List.take_succ_eq_append_getElem hlt,Sm.hex,List.flatMap_append,hacc];simp[Sm.hex]
  have hlt':(k:Int)<(s.length:Int):=by omega
  have w1:=AT (k:=k) (by omega)
  rw[Zfe]at hst;generalize s[k]=x at *;have hx:=UInt8.toNat_lt x;have e1:IntKind.u8.wrap (((x.toNat:Nat):Int).tdiv 16)=((x.toNat / 16:Nat):Int):=by
   rw[show((x.toNat:Nat):Int).tdiv 16=((x.toNat / 16:Nat):Int)from rfl]
   exact KM (by omega) (by omega)
  have e2:((x.toNat:Nat):Int).tmod 16=((x.toNat % 16:Nat):Int):=rfl;have hd1:Sm.digs[x.toNat / 16]? = some (Sm.digs.getD (x.toNat / 16) 0):=by
   rw[List.getD_eq_getElem?_getD,List.getElem?_eq_getElem (show x.toNat / 16<Sm.digs.length by show _<16;omega)];rfl
  have hd2:Sm.digs[x.toNat % 16]? = some (Sm.digs.getD (x.toNat % 16) 0):=by
   rw[List.getD_eq_getElem?_getD,List.getElem?_eq_getElem (show x.toNat % 16<Sm.digs.length by show _<16;omega)];rfl
  generalize Sm.digs.getD (x.toNat / 16) 0=c1 at *;generalize Sm.digs.getD (x.toNat % 16) 0=c2 at *;unfold Sm.digs at hd1 hd2;have hu8:∀b:UInt8,u8 b=.it .u8 (b.toNat:Int):=fun _=>rfl
  refine Ab (An @s0 @s4 @s3 @hg @hlt' @hu8 @e1 @e2 @hd1 @hd2 @w1) ?_;exact Aj (s.length-(k+1)) (by omega) ⟨Aa,k+1,acc++[c1,c2],_,Aa,by rw[List.map_append];exact Aa,by rw[List.length_append];rfl,hst,by omega,rfl⟩
 ·obtain rfl:k=s.length:=by omega
  rw[List.take_length]at hacc;have hbo:bytesOf (acc.map u8)=some acc:=Kw acc;have hlt':¬(s.length:Int)<(s.length:Int):=by omega
  rw[←hacc];refine Ab (A5 @s0 @s4 @s3 @hlt' @hbo) ?_;exact Ad
theorem VB(l:By):(Sm.hex l).length=2*l.length:=by
 rw[Sm.hex,List.length_flatMap,show(List.map (fun a=>(Sm.hex2 a).length) l)=l.map (fun _=>2)from List.map_congr_left (fun _ _=>rfl),List.map_const',List.sum_replicate_nat,Nat.mul_comm]
theorem Rs(n:Int)(h:-9223372036854775808≤n∧n≤9223372036854775807):AC prog 33 [.it .i64 n] [] (.st (CL n)) []:=by
 have k1:=Ck [97,99,116,111,114] (by simp)
 have k2:=B2 n (by omega)
 have hnl:=AI n (by omega)
 have htl:(text [97,99,116,111,114]).length≤20:=by decide
 have k3:=J8 (text [97,99,116,111,114]++Ai n) (by rw[List.length_append];omega)
 have hsl:=show(Sm.sha (text [97,99,116,111,114]++Ai n)).length=32 from rfl
 have k4:=Zco (Sm.sha (text [97,99,116,111,114]++Ai n)) (by omega)
 have hhl:=VB (Sm.sha (text [97,99,116,111,114]++Ai n));unfold CL;generalize text [97,99,116,111,114]=x at *;generalize Ai n=y at *;generalize Sm.sha (x++y)=z at *;generalize Sm.hex z=u at *;have hb16:16≤u.length:=by omega
 refine Ah [76,77,75,74] [] func33 ?_;refine run ?_;refine cp k1 ?_;refine run ?_;refine cp k2 ?_;refine run ?_;refine cp k3 ?_;refine run ?_;refine cp k4 ?_;refine Ab @hb16 ?_;exact Ad
theorem Oz(n:Nat):(D1 n).length≤2:=by
 unfold D1;split<;>simp
theorem L8(who:Int)(moves:Nat)(h:-9223372036854775808≤who∧who≤9223372036854775807)(hm:moves<100):AC prog 29 [.it .i64 who,.it .i64 (moves:Int)] [] (E9 (AF who moves)) []:=by
 have hp:=Ke who (m:=4) (by decide)
 have k1:=G5 who 4 h (by decide)
 have k2:=Ph (AL who 4).toNat (by omega)
 rw[show(((AL who 4).toNat:Nat):Int)=AL who 4 by omega]at k2
 have k3:=Ph moves hm;have l2:=Oz (AL who 4).toNat;have l3:=Oz moves;have k4:=TE ([97,99,116,111,114,32]++D1 (AL who 4).toNat++[32]++D1 moves) (by simp only[List.length_append,List.length_cons,List.length_nil];omega)
 unfold AF;generalize D1 (AL who 4).toNat=x at *;generalize D1 moves=y at *;generalize AL who 4=p at *;generalize hks:Kk ([97,99,116,111,114,32]++x++[32]++y)=kk at *;refine Ah [37,36,69] [] func29 ?_;refine run ?_;refine cp k1 ?_;refine run ?_;refine cp k2 ?_;refine run ?_;refine cp k3 ?_;refine run ?_;refine cp k4 ?_;refine run ?_;exact Ad
theorem MI(who:Int)(moves:Nat):(AF who moves).right=true∧(1≤(AF who moves).secret∧(AF who moves).secret≤2305843009213693950)∧(0≤(AF who moves).pub∧(AF who moves).pub≤2305843009213693950):=by
 have h:(AF who moves).right=true:=Qo _;refine⟨h,?_⟩
 obtain⟨h1,h2,h3⟩:=Key.right_iff.1 h;have :=GG 37 (AF who moves).secret.toNat;rw[h3];omega
theorem Iv(who:Int)(h:-9223372036854775808≤who∧who≤9223372036854775807):AC prog 11 [.it .i64 who] [] (.st (AE who)) []:=by
 have k1:=L8 who 0 h (by decide)
 have hi:=MI who 0;have k2:=Rs (AF who 0).pub (by omega)
 unfold AE;generalize AF who 0=k at *;generalize CL k.pub=d at *;refine Ah [29,33] [] func11 ?_;refine run ?_;refine cp k1 ?_;refine run ?_;refine cp k2 ?_;refine run ?_;exact Ad
theorem XG(c:Chn)(i:Nat)(hl:c.acts.length≤1000)(hk:c.keys.length≤1000)(hi:i≤1000):AC prog 283 [AG c,.it .i64 (i:Int)] [] (.tup [Bt (CI c i).1,.bo (CI c i).2]) []:=by
 obtain⟨id,acts,keys,prev,gen,fork⟩:=c;simp only at hl hk
 have hsz:=GK keys;have h0:¬(i:Int)<0:=by omega
 unfold CI;simp only
 by_cases h1:acts.length<i
 ·have h1':(i:Int)>(acts.length:Int):=by omega
  rw[if_pos h1];refine Ah [] [] func283 ?_;refine Ab (an @h0 @h1') ?_;exact Ad
 ·have h1':¬(i:Int)>(acts.length:Int):=by omega
  rw[if_neg h1];have w0:IntKind.i64.wrap ((keys.length:Int)-1)=(keys.length:Int)-1:=wrap64 (by omega) (by omega)
  refine Ah [] [] func283 ?_;refine Ab (A3 @h0 @h1' @w0) ?_;refine AN (fun m e S=>e 1=.it .i64 (i:Int)∧e 2=.ptr 0 0∧e 4=.ptr 1 0∧S=[.cells [.st id,Bu acts,.sl .ro (keys.map Bt),.st prev,.it .i64 gen,.bo fork],.cells [.it .i64 0,.it .i64 0,.it .i64 0]] ∧ ∃j:Nat,e 6=.it .i64 ((j:Int)-1)∧j≤keys.length∧keys.reverse.find? (fun k=>decide (k.frm≤(i:Int)))=(keys.take j).reverse.find? (fun k=>decide (k.frm≤(i:Int)))∧m=j) keys.length ⟨Aa,Aa,Aa,rfl,keys.length,Aa,Nat.le_refl _,by rw[List.take_length],rfl⟩ ?_
  rintro m e S ⟨s1,s2,s4,rfl,j,s6,hj,hf,rfl⟩
  rw[Db s4];cases m with
  |zero=>
   have hn:¬(((0:Nat):Int)-1)≥0:=by omega
   have hv:keys.reverse.find? (fun k=>decide (k.frm≤(i:Int)))=none:=hf
   rw[hv];refine Ab (A5 @s1 @s2 @s4 @s6 @hn) ?_;exact Ad
  | succ j=>
   have hjl:j<keys.length:=by omega
   have hg:keys[j]? = some keys[j]:=List.getElem?_eq_getElem hjl
   have ej:(((j+1:Nat):Int)-1)=(j:Int):=by omega
   have hp:(j:Int)≥0:=by omega
   rw[ej]at s6;have htk:(keys.take (j+1)).reverse=keys[j]::(keys.take j).reverse:=by rw[List.take_succ_eq_append_getElem hjl,List.reverse_append];rfl
   rw[htk,List.find?_cons]at hf
   have w1:IntKind.i64.wrap ((j:Int)-1)=(j:Int)-1:=wrap64 (by omega) (by omega)
   generalize keys[j]=k at *;by_cases hle:k.frm≤(i:Int)
   ·rw[decide_eq_true hle]at hf
    have hv:keys.reverse.find? (fun k=>decide (k.frm≤(i:Int)))=some k:=hf
    rw[hv];refine Ab (A8 @s1 @s2 @s4 @s6 @hp @hg @hsz @hle) ?_;exact Ad
   ·rw[decide_eq_false hle]at hf
    refine Ab (A9 @s1 @s2 @s4 @s6 @hp @hg @hsz @hle @w1) ?_;exact Aj j (by omega) ⟨Aa,Aa,Aa,rfl,j,Aa,by omega,hf,rfl⟩
end Pe
end
section
namespace Tp
open Tryz
open Go Co Sg Ac It
def Bg(l:List Ac.Act):Prop:=∀a∈l,Ac.right a=true
theorem COk.le{c:Chn}{n m:Nat}(h:COk c n)(hm:n≤m):COk c m:=
 ⟨h.acts,by have :=h.len;omega,by have :=h.klen;omega,h.key,fun k hk=>⟨by have :=(h.keys k hk).1;omega,(h.keys k hk).2⟩⟩
theorem Ms(id:By)(f:Bool):COk ⟨id,[],[],[],0,f⟩ 0:=
 ⟨by simp,Nat.le_refl _,Nat.le_refl _,fun h=>absurd rfl h,by simp⟩
theorem KB{c:Chn}{n:Nat}{a:Ac.Act}(h:COk c n)(ha:Ac.right a=true)(h0:c.acts=[]→a.kind=0):COk (Bz c a) (n+1):=by
 have hl:=h.len;have hk:=h.klen;refine⟨fun x hx=>?_,?_,?_,fun _=>?_,fun k hk=>?_⟩
 ·rcases List.mem_append.1 hx with hx|hx
  ·exact h.acts x hx
  ·rw[List.mem_singleton.1 hx];exact ha
 ·show(c.acts++[a]).length≤_
  rw[List.length_append,List.length_singleton];omega
 ·show(if a.kind=18∨a.kind=0 then _ else _:List KeyAt).length≤_
  split
  ·rw[List.length_append,List.length_singleton];omega
  ·omega
 ·show(if a.kind=18∨a.kind=0 then _ else _:List KeyAt)≠[]
  split
  ·simp
  ·rename_i hn
   exact h.key fun hc=>hn (.inr (h0 hc))
 ·have hk':k∈(if a.kind=18∨a.kind=0 then c.keys++[⟨if a.kind=0 then 0 else((c.acts.length+1:Nat):Int),a.n,a.m⟩]else c.keys):=hk
  have old:∀k∈c.keys,(0≤k.frm∧k.frm≤((n+1:Nat):Int)) ∧ ∃a,Ac.right a=true∧k.pub=a.n∧k.home=a.m:=fun k hk=>⟨by have :=(h.keys k hk).1;omega,(h.keys k hk).2⟩
  split at hk'
  ·rcases List.mem_append.1 hk' with hk'|hk'
   ·exact old k hk'
   ·rw[List.mem_singleton.1 hk']
    refine⟨?_,a,ha,rfl,rfl⟩
    show 0≤(if a.kind=0 then(0:Int)else((c.acts.length+1:Nat):Int))∧(if a.kind=0 then(0:Int)else((c.acts.length+1:Nat):Int))≤_
    split<;>omega
  ·exact old k hk'
theorem XP{l:List Ac.Act}{c:Chn}{a:Ac.Act}(h:a∈BJ l c):a∈l∧Bh c a=true:=by
 have h:=List.mem_filter.1 h;exact⟨h.1,by have :=h.2;simp only[Bool.and_eq_true]at this;exact this.1⟩
theorem Wp{c:Chn}{a:Ac.Act}(h:Bh c a=true):Ac.right a=true∧(c.acts=[]→a.kind=0):=by
 unfold Bh at h;simp only[Bool.and_eq_true,decide_eq_true_eq]at h;exact⟨h.1.1.1.1.1,fun hc=>h.1.2.2 (by rw[hc];rfl)⟩
theorem VQ:∀(n:Nat) (l:List Ac.Act) (c:Chn) (N:Nat),COk c N→COk (C3 n l c) (N+n)∧(C3 n l c).id=c.id∧(C3 n l c).gen=c.gen
 |0,_,c,N,h=>⟨h,rfl,rfl⟩
 | n+1,l,c,N,h=>by
  unfold C3;split
  ·rename_i a hc
   have hm:a∈BJ l c:=by rw[hc];simp
   obtain⟨h1,h2⟩:=Wp (XP hm).2;obtain⟨g1,g2,g3⟩:=VQ n l (Bz c a) (N+1) (KB h h1 h2);exact⟨g1.le (by omega),g2,g3⟩
  iterate 2
   ·exact⟨⟨h.acts,by have :=h.len;show c.acts.length≤_;omega,by have :=h.klen;show c.keys.length≤_;omega,h.key,(h.le (by omega:N≤N+(n+1))).keys⟩,rfl,rfl⟩
theorem Yj{l:List Ac.Act}{id:By}{a:Ac.Act}(h:a∈Ct l id):a∈l∧a.kind=0:=by
 have h:=List.mem_filter.1 h;refine⟨h.1,?_⟩
 have :=h.2;unfold C1 at this;simp only[Bool.and_eq_true,Bool.not_eq_true',Bool.or_eq_false_iff,Bool.not_eq_false',beq_iff_eq]at this;exact this.1.1.1.1.2
theorem NV{k:List Ac.Act}(h:Bg k)(id:By):COk (Bc k id) (k.length+2)∧(Bc k id).id=id∧(Bc k id).gen=0:=by
 unfold Bc;split
 ·rename_i a hb
  have hm:=Yj (by rw[hb];simp:a∈Ct (BK k id) id)
  obtain⟨g1,g2,g3⟩:=VQ (k.length+1) (BK k id) (Bz ⟨id,[],[],[],0,false⟩ a) 1 (KB (Ms id false) (h a (YM hm.1)) fun _=>hm.2)
  exact⟨g1.le (by omega),g2,g3⟩
 ·exact⟨(Ms id false).le (by omega),rfl,rfl⟩
 ·exact⟨(Ms id true).le (by omega),rfl,rfl⟩
theorem COk.last{c:Chn}{n:Nat}(h:COk c n):(0≤(BM c).pub∧(BM c).pub≤2305843009213693950)∧(0≤(BM c).home∧(BM c).home≤2305843009213693950):=by
 unfold BM;rw[List.getD_eq_getElem?_getD]
 cases hk:c.keys[c.keys.length-1]? with
 |none=>simp
 |some k=>
  obtain⟨_,a,hr,e1,e2⟩:=h.keys k (List.mem_of_getElem? hk);have hs:=Cp hr;have h1:=hs.n;have h2:=hs.m;rw[Option.getD_some,e1,e2];exact⟨h1,h2⟩
theorem Zij{l:List Ac.Act}{a x:Ac.Act}(h:x∈(DJ l a).1):x∈l∨x=a:=by
 unfold DJ at h;split at h
 ·exact .inl h
 ·rcases List.mem_append.1 h with h|h
  ·exact .inl (List.mem_of_mem_take h)
  ·rcases List.mem_cons.1 h with h|h
   ·exact .inr h
   ·exact .inl (List.mem_of_mem_drop h)
theorem Zik(l:List Ac.Act)(a:Ac.Act):(DJ l a).1.length≤l.length+1:=by
 have :=Qh l (dg a);unfold DJ;split
 ·exact Nat.le_succ _
 ·rw[List.length_append,List.length_cons,List.length_take,List.length_drop]
  omega
theorem Zih{l:List Ac.Act}{a:Ac.Act}(h:Bg l)(ha:Ac.right a=true):Bg (DJ l a).1:=fun x hx=>by
 rcases Zij hx with hx|rfl
 ·exact h x hx
 ·exact ha
end Tp
end
section
namespace Pe
open Tryz
open Go Go.RowKit Co Sg Ac It Sl Tp
set_option maxRecDepth 100000
set_option maxHeartbeats 4000000
theorem D8(l:List By):AK 1 (l.map AV.st)=true:=BG 1 AV.st (fun _=>rfl) _
theorem Zg1(l:List By)(d:By)(k:Nat)(h:k<l.length):(l.take (k+1)).contains d=((l.take k).contains d||(l[k]==d)):=by
 rw[List.take_succ_eq_append_getElem h];simp only[List.contains_eq_any_beq,List.any_append,List.any_cons,List.any_nil,Bool.or_false];congr 1
 rw[Bool.eq_iff_iff];exact⟨fun h=>beq_iff_eq.2 (beq_iff_eq.1 h).symm,fun h=>beq_iff_eq.2 (beq_iff_eq.1 h).symm⟩
theorem VI(l:List By)(d:By)(hl:l.length≤1000000):AC prog 208 [Av l,.st d] [] (.bo (l.contains d)) []:=by
 have hsz:=D8 l;refine Ah [] [] func208 ?_;refine run ?_;refine AN (fun m e S=>e 0=Av l∧e 1=.st d∧S=[] ∧ ∃k:Nat,e 5=.it .i64 (k:Int)∧(l.take k).contains d=false∧k≤l.length∧m=l.length-k) l.length ⟨Aa,Aa,rfl,0,Aa,by simp,by omega,rfl⟩ ?_
 rintro m e S ⟨s0,s1,rfl,k,s5,hc,hk,rfl⟩
 by_cases hlt:k<l.length
 ·have hg:l[k]? = some l[k]:=List.getElem?_eq_getElem hlt
  have hct:=Zg1 l d k hlt;have hlt':(k:Int)<(l.length:Int):=by omega
  have w1:=AT (k:=k) (by omega)
  have hin:=List.getElem_mem hlt;generalize l[k]=x at *;by_cases hx:x=d
  ·have q:(x==d)=true:=beq_iff_eq.2 hx
   have hall:l.contains d=true:=by rw[←hx];simpa using hin
   rw[hall];refine Ab (A6 @s0 @s1 @s5 @hlt' @hg @q) ?_;exact Ad
  ·have q:(x==d)=false:=beq_eq_false_iff_ne.2 hx
   rw[hc,q]at hct;refine Ab (A7 @s0 @s1 @s5 @hlt' @hg @q @w1) ?_;exact Aj (l.length-(k+1)) (by omega) ⟨Aa,Aa,rfl,k+1,Aa,hct,by omega,rfl⟩
 ·obtain rfl:k=l.length:=by omega
  rw[List.take_length]at hc;rw[hc];have hlt':¬(l.length:Int)<(l.length:Int):=by omega
  refine Ab (A4 @s0 @s1 @s5 @hlt') ?_;exact Ad
def BD(l:List By)(d:By):Nat:=(l.takeWhile fun y=>Op.bytesLess y d).length
theorem Qg(l:List By)(d:By):BD l d≤l.length:=(List.takeWhile_prefix _).length_le
theorem N4(l:List By)(d:By):l.take (BD l d)=l.takeWhile (fun y=>Op.bytesLess y d):=by
 have h:=List.takeWhile_append_dropWhile (p:=fun y=>Op.bytesLess y d) (l:=l)
 unfold BD;conv=>lhs;rw[←h]
 rw[List.take_left'];rw[h]
theorem N5(l:List By)(d:By):l.drop (BD l d)=l.dropWhile (fun y=>Op.bytesLess y d):=by
 have h:=List.takeWhile_append_dropWhile (p:=fun y=>Op.bytesLess y d) (l:=l)
 unfold BD;conv=>lhs;rw[←h]
 rw[List.drop_left'];rw[h]
theorem UW(x:By)(l:List By)(d:By):BD (x::l) d=if Op.bytesLess x d=true then BD l d+1 else 0:=by
 unfold BD;rw[List.takeWhile_cons];split<;>simp
theorem Zao(l:List By)(d:By)(hl:l.length≤1000000):AC prog 320 [Av l,.st d] [] (Av (CU l d)) []:=by
 have hsz:=D8 l;have k0:=VI l d hl;cases hc:l.contains d with
 |true=>
  rw[hc]at k0;have hw:CU l d=l:=by unfold CU;rw[if_pos hc]
  rw[hw];refine Ah [208] [] func320 ?_;refine run ?_;refine cp k0 ?_;refine run ?_;exact Ad
 | false=>
  rw[hc]at k0;have hw:CU l d=l.take (BD l d)++d::l.drop (BD l d):=by unfold CU;rw[if_neg (by rw[hc];decide),N4,N5]
  have hres:(l.take (BD l d)++d::l.drop (BD l d)).map AV.st=(l.take (BD l d)).map AV.st++[AV.st d]++(l.drop (BD l d)).map AV.st:=by
   rw[List.map_append,List.map_cons,List.append_assoc];rfl
  have hszt:AK 1 ((l.take (BD l d)).map AV.st)=true:=D8 _;have hszd:AK 1 ((l.drop (BD l d)).map AV.st)=true:=D8 _;rw[hw];show AC _ _ _ _ (.sl .ro ((l.take (BD l d)++d::l.drop (BD l d)).map AV.st)) _
  rw[hres];clear hw hres;refine Ah [208] [] func320 ?_;refine run ?_;refine cp k0 ?_;refine run ?_;refine Cq (fun m e S=>e 0=Av l∧e 1=.st d ∧ ∃(i:Nat) (T:Ae),e 6=.it .i64 (i:Int)∧e 5=.sl (.own 0) ((l.take i).map .st)∧S=.buf i 9 1::T∧BD l d=i+BD (l.drop i) d∧i≤l.length∧m=l.length-i) l.length _ _ (Ao.reserve 0 5 (es:=[]) (by rfl) 9 1) ⟨Aa,Aa,0,[],Aa,Aa,rfl,by simp,by omega,rfl⟩ ?_
  rintro m e S ⟨s0,s1,i,T,s6,s5,rfl,he,hi,rfl⟩
  have hsi:AK 1 ((l.take i).map AV.st)=true:=D8 _;have htl:(l.take i).length=i:=by rw[List.length_take];omega
  by_cases hlt:i<l.length
  rotate_left
  ·obtain rfl:i=l.length:=by omega
   rw[List.drop_length]at he;have he:BD l d=l.length:=he;have hlt':¬(l.length:Int)<(l.length:Int):=by omega
   rw[he]at hszt hszd ⊢;refine Ab (BZ @s0 @s1 @s5 @s6 @hlt' @hsz @hsi @htl @hszt @hszd) ?_;exact Au
  have hg:l[i]? = some l[i]:=List.getElem?_eq_getElem hlt
  have hdr:l.drop i=l[i]::l.drop (i+1):=List.drop_eq_getElem_cons hlt;have hlt':(i:Int)<(l.length:Int):=by omega
  have w1:=AT (k:=i) (by omega)
  have hts:(l.take (i+1)).map AV.st=(l.take i).map AV.st++[AV.st l[i]]:=by rw[List.take_succ_eq_append_getElem hlt,List.map_append];rfl
  rw[hdr,UW]at he;generalize l[i]=x at *;cases hle:Op.bytesLess x d with
  |true=>
   rw[if_pos hle]at he;refine Ab (An @s0 @s1 @s5 @s6 @hlt' @hg @hsz @hle @hsi @htl @w1) ?_;exact Aj (l.length-(i+1)) (by omega) ⟨Aa,Aa,i+1,_,Aa,by rw[hts];exact Aa,rfl,by omega,by omega,rfl⟩
  |false=>
   rw[if_neg (by rw[hle];decide),Nat.add_zero]at he
   rw[he]at hszt hszd ⊢;refine Ab (an @s0 (An @s1 @s5 @s6 @hlt' @hg @hsz @hle @hsi @htl @hszt @hszd)) ?_;exact Au
theorem Zal(l:List By)(d:By)(hl:l.length≤1000000):AC prog 321 [Av l,.st d] [] (Av (B3 l d)) []:=by
 have hsz:=D8 l;refine Ah [] [] func321 ?_;refine run ?_;refine Cq (fun m e S=>e 0=Av l∧e 1=.st d ∧ ∃(k:Nat) (acc:List By) (T:Ae),e 6=.it .i64 (k:Int)∧e 5=.sl (.own 0) (acc.map .st)∧S=.buf acc.length 9 1::T∧acc=B3 (l.take k) d∧k≤l.length∧m=l.length-k) l.length _ _ (Ao.reserve 0 5 (es:=[]) (by rfl) 9 1)
  ⟨Aa,Aa,0,[],[],Aa,Aa,rfl,by simp[B3],by omega,rfl⟩ ?_
 rintro m e S ⟨s0,s1,k,acc,T,s6,s5,rfl,hacc,hk,rfl⟩
 have hal:acc.length≤k:=by
  rw[hacc];exact Nat.le_trans (List.length_filter_le _ _) (by rw[List.length_take];omega)
 have hsa:=D8 acc;by_cases hlt:k<l.length
 ·have hg:l[k]? = some l[k]:=List.getElem?_eq_getElem hlt
  have hst:B3 (l.take (k+1)) d=acc++if(!(l[k]==d))=true then [l[k]]else []:=by
   rw[hacc];unfold B3;rw[List.take_succ_eq_append_getElem hlt,List.filter_append];congr 1
   simp only[List.filter_cons,List.filter_nil]
  have hlt':(k:Int)<(l.length:Int):=by omega
  have w1:=AT (k:=k) (by omega)
  generalize l[k]=x at *;by_cases hx:x=d
  ·have q:(x==d)=true:=beq_iff_eq.2 hx
   rw[q,if_neg (by decide),List.append_nil]at hst
   refine Ab (A9 @s0 @s1 @s6 @s5 @hlt' @hg @hsz @q @w1) ?_;exact Aj (l.length-(k+1)) (by omega) ⟨Aa,Aa,k+1,acc,_,Aa,Aa,rfl,hst.symm,by omega,rfl⟩
  ·have q:(x==d)=false:=beq_eq_false_iff_ne.2 hx
   rw[q,show(!false)=true from rfl,if_pos rfl]at hst
   refine Ab (BZ @s0 @s1 @s6 @s5 @hlt' @hg @hsz @hsa @q @w1) ?_;exact Aj (l.length-(k+1)) (by omega) ⟨Aa,Aa,k+1,acc++[x],_,Aa,by rw[List.map_append];exact Aa,by rw[List.length_append];rfl,hst.symm,by omega,rfl⟩
 ·obtain rfl:k=l.length:=by omega
  rw[List.take_length]at hacc;subst hacc;have hlt':¬(l.length:Int)<(l.length:Int):=by omega
  refine Ab (A5 @s0 @s1 @s6 @s5 @hlt') ?_;exact Au
theorem ZeZ(x:By)(l:List By)(d:By):Cy (x::l) d=if x=d then some 0 else(Cy l d).map (· + 1):=rfl
def Ze3(o:Option Nat):Int:=match o with
 |some j=>(j:Int)
 |none=>-1
theorem ZeY(l:List By)(d:By)(hl:l.length≤1000000):AC prog 322 [Av l,.st d] [] (.it .i64 (Ze3 (Cy l d))) []:=by
 have hsz:=D8 l;refine Ah [] [] func322 ?_;refine run ?_;refine AN (fun m e S=>e 0=Av l∧e 1=.st d∧S=[] ∧ ∃k:Nat,e 5=.it .i64 (k:Int)∧Cy l d=(Cy (l.drop k) d).map (· + k)∧k≤l.length∧m=l.length-k) l.length ⟨Aa,Aa,rfl,0,Aa,by simp,by omega,rfl⟩ ?_
 rintro m e S ⟨s0,s1,rfl,k,s5,he,hk,rfl⟩
 by_cases hlt:k<l.length
 ·have hg:l[k]? = some l[k]:=List.getElem?_eq_getElem hlt
  have hdr:l.drop k=l[k]::l.drop (k+1):=List.drop_eq_getElem_cons hlt;have hlt':(k:Int)<(l.length:Int):=by omega
  have w1:=AT (k:=k) (by omega)
  rw[hdr,ZeZ]at he;generalize l[k]=x at *;by_cases hx:x=d
  ·have q:(x==d)=true:=beq_iff_eq.2 hx
   rw[if_pos hx]at he;have he:Cy l d=some k:=by rw[he];simp
   rw[he];refine Ab (A6 @s0 @s1 @s5 @hlt' @hg @q) ?_;exact Ad
  ·have q:(x==d)=false:=beq_eq_false_iff_ne.2 hx
   rw[if_neg hx]at he;have he:Cy l d=(Cy (l.drop (k+1)) d).map (· + (k+1)):=by
    rw[he,Option.map_map];congr 1
    funext n
    show n+1+k=n+(k+1)
    omega
   refine Ab (A7 @s0 @s1 @s5 @hlt' @hg @q @w1) ?_;exact Aj (l.length-(k+1)) (by omega) ⟨Aa,Aa,rfl,k+1,Aa,he,by omega,rfl⟩
 ·obtain rfl:k=l.length:=by omega
  rw[List.drop_length]at he;have he:Cy l d=none:=he;rw[he];have hlt':¬(l.length:Int)<(l.length:Int):=by omega
  refine Ab (A4 @s0 @s1 @s5 @hlt') ?_;exact Ad
end Pe
end
section
namespace Pe
open Tryz
open Go Go.RowKit
variable [Tab]
section
variable {P:Program} {w:World} {g:Gh} {S:Ae}
theorem ZdF{u:AV}{v:Value}(h:Rel w g u v)(hk:u.o1 0=true):Rel w g.noid u v:=by
 have hren:RenOk w g w g.noid id 0:=⟨(Le.refl w g).noid,fun l hl=>absurd hl (Nat.not_lt_zero _)⟩
 have :=h.r1 hren hk;rwa[Dm hk (fun i hi=>absurd hi (Nat.not_lt_zero _))]at this
theorem Pz{α:Type}(l us:List α)(a j:Nat)(h:a≤l.length):(l.take a++us++l.drop (a+us.length))[j]? = if j<a then l[j]? else if j<a+us.length then us[j-a]? else l[j]? :=by
 have hl:(l.take a).length=a:=by rw[List.length_take];omega
 rw[List.append_assoc];split
 ·rw[List.getElem?_append_left (by omega),List.getElem?_take_of_lt (by assumption)]
 ·rw[List.getElem?_append_right (by omega),hl]
  split
  ·rw[List.getElem?_append_left (by omega)]
  ·rw[List.getElem?_append_right (by omega),List.getElem?_drop]
   congr 1
   omega
theorem WF.rewrite_row(h:WF w g S){l n':Nat}{cs cs':List AV}{cur cur':Array Value}{e sz:Nat}{fr:Nat×Nat}(hS:S[l]? = some (.row cs e sz))(hn:g.wm l≤n')(hcap0:g.cap l≠0)
  (hb:w.heap[g.pl l]? = some (.cells cur e fr))(hroom:n'≤g.cap l)(hcs':cs'.length=n'*sz)(hcur':cur'.size=cur.size)
  (t1:∀(j:Nat) v,cur'[j]? = some v→j<cs'.length→v.oneCell'=true)(t2:∀(j:Nat) u v,cs'[j]? = some u→cur'[j]? = some v→Rel w g u v):
  ∃g',WF (w.setRow (g.pl l) cur') g' (S.set l (.row cs' e sz))∧Evo w g (w.setRow (g.pl l) cur') g'∧l<g'.nid∧g'.buf l=true∧g'.pl l=g.pl l∧g'.cap l=g.cap l∧g'.wm l=n':=by
 have hlS:l<S.length:=(List.getElem?_eq_some_iff.1 hS).1
 have hnid:=h.nid;obtain⟨hbuf,⟨hsz0,hwm⟩,hrow⟩:=h.obj l _ hS;rcases hrow with⟨hrow,_⟩|⟨hown,hG,cur0,fr0,hb0,hfr0,hcs0,hcl,h9,h10⟩
 ·exact absurd hrow hcap0
 rw[hb]at hb0;cases hb0
 let w':=w.setRow (g.pl l) cur'
 let g':Gh:={ g with wm:=fun k=>if k=l then n' else g.wm k }
 have hnew:w'.heap[g.pl l]? = some (.cells cur' e fr):=setRow_heap w (g.pl l) cur _ e fr hb;have hle0:=Le.setRow (w:=w) hG cur';have hle1:Le w' g w' g':=⟨fun _ _ _ _ h=>h,fun _ _ _ h _=>h,Nat.le_refl _,fun k hk=>⟨rfl,by
  by_cases hkl:k=l
  ·subst hkl
   by_cases hnn:g.wm k=n'
   ·exact .inl ⟨rfl,by show(if k=k then _ else _)=_;rw[if_pos rfl,hnn],rfl⟩
   ·refine .inr ⟨hbuf,?_⟩
    show g.wm k<(if k=k then _ else _)
    rw[if_pos rfl];omega
  ·exact .inl ⟨rfl,if_neg hkl,rfl⟩⟩,fun _ _ _ h h'=>⟨h,h'⟩⟩
 have hle:Le w g w' g':=hle0.trans hle1;refine⟨g',h.touch hlS hle rfl (fun k hk _=>⟨rfl,rfl,if_neg hk,rfl,rfl⟩) (fun b hb=>.inl hb) (by simp) (fun b _ _=>rfl) (fun b _ hno=>setRow_other w _ b _ (fun e=>hno (by rw[e];exact hown))) ?_,
  ⟨hle,rfl,rfl,rfl,by simp,fun b _ hno=>setRow_other w _ b _ (fun e=>hno l (by omega) (by rw[e];exact hown)),fun _ _ hk hb _=>⟨hk,hb⟩,fun b _ _=>rfl⟩,by show l<g.nid;omega,hbuf,rfl,rfl,if_pos rfl⟩
 refine⟨hbuf,⟨hsz0,?_⟩,.inr ⟨hown,hG,_,fr,hnew,hfr0,?_,?_,t1,fun j u v hu hv=>(t2 j u v hu hv).le hle⟩⟩
 ·show _=(if l=l then n' else g.wm l)*sz
  rw[if_pos rfl];exact hcs'
 ·show cur'.size=g.cap l*sz
  omega
 ·have:n'*sz≤g.cap l*sz:=Nat.mul_le_mul_right _ hroom
  omega
theorem W7{o:Oper}{e:Af}{t el:TypeId}{x:Operand}{lo hi:Option Operand}{l n a b sz:Nat}{ag:Bool}(ho:o.op=.slice t x lo hi none)(hx:ev e x=.wr l n none)(hs:BI P t=some (el,sz,ag))(hsz:0<sz)
  (ha:CB (lo.map (ev e)) 0=some a)(hb:CB (hi.map (ev e)) n=some b)(h1:a≤b)(h2:b≤n)(T:Ae):AU P o e T (.wx l (a*sz) (b-a) n) T:=
 C5 fun ρ w g hw hr=>by
  rw[ho]at hr;have hrx:=hr x (by simp[Op.operands])
  have hlo:=MS (w:=w) (g:=g) (e:=e) (ρ:=ρ) (x:=lo) fun y hy=>hr y (by subst hy;simp[Op.operands])
  have hhi:=MS (w:=w) (g:=g) (e:=e) (ρ:=ρ) (x:=hi) fun y hy=>hr y (by subst hy;simp[Op.operands])
  rw[hx]at hrx;obtain⟨hu,hse⟩:=EE hs;generalize hcx:ρ x=cx at hrx;cases hrx with
  | wr _ _ _ c A hl hbf hwn hc hcm h0 hA=>
   have hbd:=Re (P:=P) (w:=w) (isS:=true) (cap:=c) ha hb hlo hhi h1 (by omega)
   refine⟨.slice (if c=a then A else A.map (·.add (a*sz))) (b-a) (c-a),w,g,?_,hw,?_,Evo.refl w g⟩
   ·unfold execOp
    simp only[ho,hcx];simp[Instr.sliceAt,Instr.slice,run_underlying hu,hbd,run_sizeOf hse]
   ·refine .wx _ l _ _ n _ _ hl hbf hwn (by omega) (by omega) fun hwm=>?_
    obtain⟨hcc,hA⟩:c=g.cap l∧(0<c→A=some ⟨g.pl l,0,none⟩):=by
     rcases hA with hA|hA
     ·omega
     ·exact hA
    refine⟨fun hpos=>?_,fun h00=>?_⟩
    ·rw[if_neg (by omega),hA (by omega)]
     simp[Addr.add_lit]
    ·have ha0:a=0:=by
      rcases Nat.mul_eq_zero.1 h00 with h|h
      ·exact h
      ·omega
     subst ha0;refine⟨by omega,fun hpos=>?_⟩
     rw[if_neg (by omega),hA (by omega)]
     simp[Addr.add_lit]
theorem Z6{u l o n' m sz el:Nat}{cs:List AV}{cy:Value}(hw:WF w g S)(hS:S[l]? = some (.row cs el sz))(hm:cs.length=m*sz)(ho:o+n'*sz≤m*sz)(hy:Rel w g (.wx l o n' m) cy)(hu:∃e',P.underlying u=some (.slice e')):
  ∃us:List Value,Src P w u cy sz n' us∧AM w g ((cs.drop o).take (n'*sz)) us.toArray:=by
 obtain⟨hbuf,⟨hsz0,hwm⟩,hrow⟩:=hw.obj l _ hS;have hmw:g.wm l=m:=Nat.eq_of_mul_eq_mul_right hsz0 (by omega)
 obtain⟨e',hu⟩:=hu;cases hy with
 | wx _ _ _ _ _ c A hl hb hml hc hcm hx=>
  obtain⟨hA,_⟩:=hx hmw;rcases Nat.eq_zero_or_pos n' with h0|h0
  ·subst h0
   refine⟨[],⟨by simp[Builtin.lenOf],⟨_,hu,by simp⟩,?_,?_,by simp,by simp⟩,by simp,by simp,by simp⟩
   iterate 2
    ·cases A<;>simp[Builtin.firstCells,loadCells,loadCellsFrom]
  ·have hA:=hA h0
   subst hA;have hpos:0<n'*sz:=Nat.mul_pos h0 hsz0;rcases hrow with⟨_,hrow⟩|⟨hown,hG,cur,fr,hb',hfr,hcs,hcl,h9,h10⟩
   ·rw[hrow]at hm
    simp only[List.length_nil]at hm;omega
   ·have hlen:((cur.toList.drop o).take (n'*sz)).length=n'*sz:=by
     rw[List.length_take,List.length_drop,Array.length_toList];omega
    have hget:∀(j:Nat) v,((cur.toList.drop o).take (n'*sz))[j]? = some v→j<n'*sz∧cur[o+j]? = some v:=fun j v hv=>by
     have hj:=(List.getElem?_eq_some_iff.1 hv).1
     have hj:j<n'*sz:=by omega
     refine⟨hj,?_⟩
     rw[List.getElem?_take_of_lt hj,List.getElem?_drop]at hv
     simpa using hv
    have hfc:∀w':World,(∀p,w'.cell? p=w.cell? p)→(Builtin.firstCells sz n' (.slice (some ⟨g.pl l,o,none⟩) n' c)).run P w'=.ok ((cur.toList.drop o).take (n'*sz)).toArray w':=fun w' hw'=>
     run_firstCells_some (P:=P) w' sz n' ⟨g.pl l,o,none⟩ n' c _ hlen (fun j v hv=>by
      rw[Addr.add_lit,hw',cell_of_row w _ (o+j) cur el fr hb'];exact(hget j v hv).2)
    have hone:∀v∈(cur.toList.drop o).take (n'*sz),v.oneCell'=true:=fun v hv=>by
     obtain⟨j,hj⟩:=List.mem_iff_getElem?.1 hv;obtain⟨h1,h2⟩:=hget j v hj;exact h9 (o+j) v h2 (by omega)
    refine⟨_,⟨by simp[Builtin.lenOf],⟨_,hu,by simp⟩,hfc w (fun _=>rfl),hfc w.drew (fun _=>rfl),hlen,hone⟩,?_,fun v hv=>hone v (by simpa using hv),fun j x v hx hv=>?_⟩
    ·rw[List.size_toArray,hlen,List.length_take,List.length_drop]
     omega
    ·have hv':=hget j v (by simpa using hv)
     rw[List.getElem?_take_of_lt hv'.1,List.getElem?_drop]at hx
     exact h10 (o+j) x v hx hv'.2
theorem ZgE{o:Oper}{e:Af}{t u el:TypeId}{x y:Operand}{l off n' m sz by_:Nat}{cs es:List AV}(ho:o.op=.call { callee:=.builtin .append,args:=#[x,y],argTypes:=#[t,u] })(ht:C7 P t=some (el,sz,by_))(hu:(BI P u).isSome=true)
  (hx:ev e x=.sl .full [])(hy:ev e y=.wx l off n' m)(hS:S[l]? = some (.row cs el sz))(hm:cs.length=m*sz)(hoff:off+n'*sz≤m*sz)(hes:Ak es=(cs.drop off).take (n'*sz))(hn:es.length=n')(hall:AK sz es=true)(hok:(Ak es).all (AV.o1 0)=true)(hfit:CM n' by_=true):
  AU P o e S (.sl (.own S.length) es) (S++[.buf n' el sz]):=
 C5 fun ρ w g hw hr=>by
  have hrx:=hr x (by rw[ho];simp[Op.operands,Call.operands])
  have hry:=hr y (by rw[ho];simp[Op.operands,Call.operands])
  rw[hx]at hrx;rw[hy]at hry;obtain⟨hut,hsz0,i,z,hi,hz,rfl,rfl,hzs⟩:=HA ht;obtain⟨⟨e',sz',ag⟩,hsu⟩:=Option.isSome_iff_exists.1 hu;obtain⟨us,hsrc,hus⟩:=Z6 (P:=P) (u:=u) hw hS hm hoff hry ⟨_,(EE hsu).1⟩;obtain⟨hf1,hf2⟩:=Ik hfit;have hsz:=EV hall;rw[←hes]at hus;have hus':AM w g.noid (Ak es) us.toArray:=⟨hus.1,hus.2.1,fun j u v hu hv=>ZdF (hus.2.2 j u v hu hv) (List.all_eq_true.1 hok u (List.mem_of_getElem? hu))⟩
  generalize hcx:ρ x=cx at hrx;generalize hcy:ρ y=cy at hsrc;have key:∃cv w' g',(Builtin.append_ #[t,u] o.type #[cx,cy]).run P w=.ok cv w'∧WF w' g' (S++[.buf n' el i.size])∧Rel w' g' (.sl (.own S.length) es) cv∧Evo w g w' g':=by
   have hx':=hrx;cases hrx with
   | sl _ _ _ A c sz0 cu hc hcm hsz0' hA h1 hr' hm'=>
    have hcn:c=0:=hm';subst hcn;rcases Nat.eq_zero_or_pos n' with h0|h0
    ·subst h0
     have hes0:es=[]:=List.eq_nil_of_length_eq_zero hn;subst hes0;have hv0:us=[]:=by
      have :=hsrc.size;simp at this
      exact this
     subst hv0;obtain⟨g',h5,h6,h7,h8,h9⟩:=hw.reserve 0 el i.size;refine⟨_,w,g',ME hut hi hsrc hc,h5,?_,h6⟩
     have hr':=hx'.le h6.toLe;cases hr' with
     |sl _ _ _ _ _ sz0 cu hc hcm hsz hA h1 hr hm=>
      refine .sl _ _ [] A 0 sz0 cu hc hcm hsz hA h1 hr ⟨?_,?_,?_,.inr (.inl rfl)⟩
      ·rw[h7,←hw.nid];omega
      ·rw[←hw.nid];exact h8
      ·rw[←hw.nid,h9];exact Nat.le_refl _
    ·subst hn
     have hrun:=KC (ty:=o.type) hut hi hz hsrc (base:=A) (n:=0) (c:=0) (olds:=[]) (by
      cases A with
      |none=>simp[Builtin.firstCells]
      |some a=>simp[Builtin.firstCells,loadCells,loadCellsFrom]) (by omega) (by omega) (growslice_fits (by omega) (by rw[Nat.zero_add];exact hf1))
     rw[Nat.zero_add]at hrun;have hge:=grownCap_ge w es.length 0 el;have hcm':grownCap w es.length 0 el≤maxLen:=grownCap_le_maxLen w _ 0 el (by simp only[maxLen];omega)
     have hvl:=hsrc.size;obtain⟨g',h5,h6,h7⟩:=(hw.draw (w.drawn+1)).new_buf (es:=es) (cur:=([]:List Value).toArray++us.toArray++Builtin.zeroCells z.cells (grownCap w es.length 0 el-es.length)) (e:=el) (cap:=grownCap w es.length 0 el) (fr:=(0,0)) hsz0 hsz hge hcm' (by
       simp only[Array.size_append,List.size_toArray,List.length_nil,JN _ _ _ hzs,hvl,Nat.zero_add,←Nat.add_mul];congr 1
       omega) (.inl (by simp)) us ⟨hus'.1,hus'.2.1,fun j u v hu hv=>(hus'.2.2 j u v hu hv).le (Evo.draw w g _).toLe.noid⟩ (by
       simp only[Array.toList_append,List.append_assoc,List.nil_append];rw[List.take_left])
     exact⟨_,_,g',hrun,h5,h7,(Evo.draw w g _).trans h6⟩
  obtain⟨cv,w',g',h1,h2,h3,h4⟩:=key;refine⟨cv,w',g',?_,h2,h3,h4⟩
  unfold execOp;simp only[ho];show Sem.run P (do let d ←resolve ρ _ o.type;invoke d.target d.args) w=_
  simp only[resolve,Sem.run_bind,Sem.run_pure,Result.andThen_ok,invoke,builtin,List.map_toArray,List.map_cons,List.map_nil,hcx,hcy,h1]
theorem ZgI{o:Oper}{e:Af}{t u el:TypeId}{x y:Operand}{l k m sz by_:Nat}{cs ys:List AV}(ho:o.op=.call { callee:=.builtin .append,args:=#[x,y],argTypes:=#[t,u] })(ht:C7 P t=some (el,sz,by_))
  (hx:ev e x=.wx l 0 k m)(hs:Ft P u (ev e y)=some ys)(hall:AK sz ys=true)(hS:S[l]? = some (.row cs el sz))(hm:cs.length=m*sz)(hk:k+ys.length≤m)(h0:0<ys.length):
  AU P o e S (.wx l 0 (k+ys.length) m) (S.set l (.row (Bf cs (k*sz) (Ak ys)) el sz)):=
 C5 fun ρ w g hw hr=>by
  have hrx:=hr x (by rw[ho];simp[Op.operands,Call.operands])
  have hry:=hr y (by rw[ho];simp[Op.operands,Call.operands])
  rw[hx]at hrx;obtain⟨hut,hsz0,i,z,hi,hz,rfl,rfl,hzs⟩:=HA ht;obtain⟨us,hsrc,hus⟩:=JY hs hry hall;have hus:=hus.ofNoid;have hfy:=FZ (EV hall);obtain⟨hbuf,⟨_,hwm⟩,hrow⟩:=hw.obj l _ hS;have hmw:g.wm l=m:=Nat.eq_of_mul_eq_mul_right hsz0 (by omega)
  have hmul:(k+ys.length)*i.size=k*i.size+ys.length*i.size:=Nat.add_mul _ _ _;have hle:(k+ys.length)*i.size≤m*i.size:=Nat.mul_le_mul_right _ hk;have hul:=hsrc.size;generalize hcx:ρ x=cx at hrx;have key:∃cv w' g',(Builtin.append_ #[t,u] o.type #[cx,ρ y]).run P w=.ok cv w'∧WF w' g' (S.set l (.row (Bf cs (k*i.size) (Ak ys)) el i.size))∧Rel w' g' (.wx l 0 (k+ys.length) m) cv∧Evo w g w' g':=by
   cases hrx with
   | wx _ _ _ _ _ c A hl hb hml hc hcm hxx=>
    obtain⟨hA0,hA1⟩:=hxx hmw;obtain⟨rfl,hA⟩:=hA1 rfl;rcases hrow with⟨_,hrow⟩|⟨hown,hG,cur,fr,hb',hfr,hcs,hcl,h9,h10⟩
    ·subst hrow
     simp only[List.length_nil]at hm
     have:0<(k+ys.length)*i.size:=Nat.mul_pos (by omega) hsz0
     omega
    ·have hmc:m≤g.cap l:=by
      refine Nat.le_of_mul_le_mul_right ?_ hsz0
      omega
     have hA:=hA (by omega)
     subst hA;have hrun:=ON (ty:=o.type) hut hi hsrc hb' (.inl hfr) (n:=k) (by omega:k+ys.length≤g.cap l) (by rw[hul];omega)
     have hal:(Bf cs (k*i.size) (Ak ys)).length=m*i.size:=by
      unfold Bf;simp only[List.length_append,List.length_take,List.length_drop];omega
     have hcurl:cur.toList.length=g.cap l*i.size:=by simpa using hcs
     have hcap:m*i.size≤g.cap l*i.size:=Nat.mul_le_mul_right _ hmc;have hat:∀(j:Nat) v,(cur.toList.take (k*i.size)++us++cur.toList.drop (k*i.size+us.length)).toArray[j]? = some v→((j<k*i.size∨k*i.size+us.length≤j)∧cur[j]? = some v)∨(k*i.size≤j∧j<k*i.size+us.length∧us[j-k*i.size]? = some v):=by
      intro j v hv;simp only[List.getElem?_toArray]at hv
      rw[Pz _ _ _ _ (by omega)]at hv
      split at hv
      ·exact .inl ⟨.inl (by assumption),by simpa using hv⟩
      ·split at hv
       ·exact .inr ⟨by omega,by assumption,hv⟩
       ·exact .inl ⟨.inr (by omega),by simpa using hv⟩
     obtain⟨g',h5,h6,h7,h8,h11,h12,h13⟩:=hw.rewrite_row (n':=m) (cs':=Bf cs (k*i.size) (Ak ys)) (cur':=(cur.toList.take (k*i.size)++us++cur.toList.drop (k*i.size+us.length)).toArray) hS (by omega) (by omega) hb' hmc hal (by
       simp only[List.size_toArray,List.length_append,List.length_take,List.length_drop,Array.length_toList];rw[Array.length_toList]at hcurl;omega) (fun j v hv hj=>by
       rcases hat j v hv with⟨_,h2⟩|⟨_,_,h2⟩
       ·exact h9 j v h2 (by omega)
       ·exact hus.2.1 v (by simpa using List.mem_of_getElem? h2)) (fun j u' v hu hv=>by
       unfold Bf at hu;rw[Pz _ _ _ _ (by omega)]at hu
       rcases hat j v hv with⟨h1,h2⟩|⟨h1,h1',h2⟩
       ·refine h10 j u' v ?_ h2
        rcases h1 with h1|h1
        ·rw[if_pos h1]at hu;exact hu
        ·rw[if_neg (by omega),if_neg (by omega)]at hu;exact hu
       ·rw[if_neg (by omega),if_pos (by omega)]at hu
        exact hus.2.2 _ u' v hu (by simpa using h2))
     exact⟨_,_,g',hrun,h5,.wx _ l 0 _ m _ _ h7 h8 (by omega) (by omega) hcm (fun _=>⟨fun _=>by rw[h11],fun _=>⟨h12.symm,fun _=>by rw[h11]⟩⟩),h6⟩
  obtain⟨cv,w',g',h1,h2,h3,h4⟩:=key;refine⟨cv,w',g',?_,h2,h3,h4⟩
  unfold execOp;simp only[ho];show Sem.run P (do let d ←resolve ρ _ o.type;invoke d.target d.args) w=_
  simp only[resolve,Sem.run_bind,Sem.run_pure,Result.andThen_ok,invoke,builtin,List.map_toArray,List.map_cons,List.map_nil,hcx,h1]
theorem Xa{o:Oper}{e:Af}{t u el:TypeId}{x y:Operand}{l k m sz by_:Nat}{cs ys:List AV}(ho:o.op=.call { callee:=.builtin .append,args:=#[x,y],argTypes:=#[t,u] })(ht:C7 P t=some (el,sz,by_))
  (hx:ev e x=.wx l 0 k m)(hs:Ft P u (ev e y)=some ys)(hall:AK sz ys=true)(hS:S[l]? = some (.row cs el sz))(hm:cs.length=m*sz)(hkm:k≤m)(hk:m<k+ys.length)(hfit:CM (k+ys.length) by_=true):
  AU P o e S (.wr l (k+ys.length) none) (S.set l (.row (cs.take (k*sz)++Ak ys) el sz)):=
 C5 fun ρ w g hw hr=>by
  have hrx:=hr x (by rw[ho];simp[Op.operands,Call.operands])
  have hry:=hr y (by rw[ho];simp[Op.operands,Call.operands])
  rw[hx]at hrx;obtain⟨hut,hsz0,i,z,hi,hz,rfl,rfl,hzs⟩:=HA ht;obtain⟨us,hsrc,hus⟩:=JY hs hry hall;have hus:=hus.ofNoid;have hfy:=FZ (EV hall);obtain⟨hf1,hf2⟩:=Ik hfit;obtain⟨hbuf,⟨_,hwm⟩,hrow⟩:=hw.obj l _ hS;have hmw:g.wm l=m:=Nat.eq_of_mul_eq_mul_right hsz0 (by omega)
  have hmul:(k+ys.length)*i.size=k*i.size+ys.length*i.size:=Nat.add_mul _ _ _;have hle:k*i.size≤m*i.size:=Nat.mul_le_mul_right _ hkm;have hul:=hsrc.size;have hcl':(cs.take (k*i.size)++Ak ys).length=(k+ys.length)*i.size:=by
   rw[List.length_append,List.length_take,hfy];omega
  generalize hcx:ρ x=cx at hrx;have key:∃cv w' g',(Builtin.append_ #[t,u] o.type #[cx,ρ y]).run P w=.ok cv w'∧WF w' g' (S.set l (.row (cs.take (k*i.size)++Ak ys) el i.size))∧Rel w' g' (.wr l (k+ys.length) none) cv∧Evo w g w' g':=by
   cases hrx with
   | wx _ _ _ _ _ c A hl hb hml hc hcm hxx=>
    obtain⟨hA0,hA1⟩:=hxx hmw;obtain⟨rfl,hA⟩:=hA1 rfl;by_cases hroom:k+ys.length≤g.cap l
    ·have hA:=hA (by omega)
     subst hA;rcases hrow with⟨hrow,_⟩|⟨hown,hG,cur,fr,hb',hfr,hcs,hcl,h9,h10⟩
     ·omega
     ·have hlr:(k+ys.length)*i.size≤g.cap l*i.size:=Nat.mul_le_mul_right _ hroom
      have hcurl:cur.toList.length=g.cap l*i.size:=by simpa using hcs
      have hrun:=ON (ty:=o.type) hut hi hsrc hb' (.inl hfr) (n:=k) hroom (by rw[hul];omega)
      have hat:∀(j:Nat) v,(cur.toList.take (k*i.size)++us++cur.toList.drop (k*i.size+us.length)).toArray[j]? = some v→j<(k+ys.length)*i.size→(j<k*i.size∧cur[j]? = some v)∨(k*i.size≤j∧us[j-k*i.size]? = some v):=by
       intro j v hv hj;simp only[List.getElem?_toArray]at hv
       rw[Pz _ _ _ _ (by omega)]at hv
       split at hv
       ·exact .inl ⟨by assumption,by simpa using hv⟩
       ·rw[if_pos (by omega)]at hv
        exact .inr ⟨by omega,hv⟩
      obtain⟨g',h5,h6,h7,h8,h11,h12,h13⟩:=hw.rewrite_row (n':=k+ys.length) (cs':=cs.take (k*i.size)++Ak ys) (cur':=(cur.toList.take (k*i.size)++us++cur.toList.drop (k*i.size+us.length)).toArray) hS (by omega) (by omega) hb' hroom hcl' (by
        simp only[List.size_toArray,List.length_append,List.length_take,List.length_drop,Array.length_toList];rw[Array.length_toList]at hcurl;omega) (fun j v hv hj=>by
        rcases hat j v hv (by omega)with⟨h1,h2⟩|⟨_,h2⟩
        ·exact h9 j v h2 (by omega)
        ·exact hus.2.1 v (by simpa using List.mem_of_getElem? h2)) (fun j u' v hu hv=>by
        have hj:=(List.getElem?_eq_some_iff.1 hu).1
        have htl:(cs.take (k*i.size)).length=k*i.size:=by rw[List.length_take];omega
        rcases hat j v hv (by omega)with⟨h1,h2⟩|⟨h1,h2⟩
        ·rw[List.getElem?_append_left (by omega),List.getElem?_take_of_lt h1]at hu
         exact h10 j u' v hu h2
        ·rw[List.getElem?_append_right (by omega),htl]at hu
         exact hus.2.2 _ u' v hu (by simpa using h2))
      exact⟨_,_,g',hrun,h5,.wr _ l _ _ _ h7 h8 (by omega) (by omega) hcm (fun _=>⟨_,_,rfl⟩) (.inr ⟨h12.symm,fun _=>by rw[h11]⟩),h6⟩
    ·obtain⟨olds,ho1,ho2,ho3⟩:∃olds:List Value,(∀w':World,(∀p,w'.cell? p=w.cell? p)→(Builtin.firstCells i.size k (.slice A k (g.cap l))).run P w'=.ok olds.toArray w')∧AM w g (cs.take (k*i.size)) olds.toArray∧olds.length=k*i.size:=by
      rcases Nat.eq_zero_or_pos k with hn0|hn0
      ·subst hn0
       refine⟨[],fun w' _=>?_,?_,by simp⟩
       ·cases A with
        |none=>simp[Builtin.firstCells]
        |some a=>simp[Builtin.firstCells,loadCells,loadCellsFrom]
       ·rw[Nat.zero_mul,List.take_zero]
        exact⟨rfl,by simp,by simp⟩
      ·have hA:=hA0 hn0
       subst hA;have hpos:0<k*i.size:=Nat.mul_pos hn0 hsz0;rcases hrow with⟨_,hrow⟩|⟨hown,hG,cur,fr,hb',hfr,hcs,hcl,h9,h10⟩
       ·subst hrow
        simp only[List.length_nil]at hm;omega
       ·have hlen:(cur.toList.take (k*i.size)).length=k*i.size:=by rw[List.length_take,Array.length_toList];omega
        have hget:∀(j:Nat) v,(cur.toList.take (k*i.size))[j]? = some v→j<k*i.size∧cur[j]? = some v:=fun j v hv=>by
         have hj:=(List.getElem?_eq_some_iff.1 hv).1
         rw[List.getElem?_take_of_lt (by omega)]at hv
         exact⟨by omega,by simpa using hv⟩
        refine⟨cur.toList.take (k*i.size),fun w' hw'=>?_,⟨by rw[List.size_toArray,hlen,List.length_take];omega,fun v hv=>?_,fun j u v hu hv=>?_⟩,hlen⟩
        ·exact run_firstCells_some (P:=P) w' i.size k ⟨g.pl l,0,none⟩ k (g.cap l) (cur.toList.take (k*i.size)) hlen (fun j v hv=>by
          rw[Addr.add_lit,hw',Nat.zero_add,cell_of_row w _ j cur el fr hb'];exact(hget j v hv).2)
        ·obtain⟨j,hj⟩:=List.mem_iff_getElem?.1 hv
         have :=hget j v (by simpa using hj)
         exact h9 j v this.2 (by omega)
        ·have hv':=hget j v (by simpa using hv)
         rw[List.getElem?_take_of_lt hv'.1]at hu
         exact h10 j u v hu hv'.2
     have hrun:=KC (ty:=o.type) hut hi hz hsrc (ho1 w.drew (fun _=>rfl)) (by omega) (by omega) (growslice_fits (by omega) hf1)
     have hge:=grownCap_ge w (k+ys.length) (g.cap l) el;have hcm':grownCap w (k+ys.length) (g.cap l) el≤maxLen:=grownCap_le_maxLen w _ (g.cap l) el (by simp only[maxLen];omega)
     obtain⟨g',h5,h6,h7⟩:=(hw.draw (w.drawn+1)).regrow_row (n:=k+ys.length) (cs':=cs.take (k*i.size)++Ak ys) (cur:=olds.toArray++us.toArray++Builtin.zeroCells z.cells (grownCap w (k+ys.length) (g.cap l) el-(k+ys.length))) (cap:=grownCap w (k+ys.length) (g.cap l) el) (fr:=(0,0)) hS (by omega) hcl' hge hcm' (by
       simp only[Array.size_append,List.size_toArray,JN _ _ _ hzs,ho3,hul,←Nat.add_mul];congr 1
       omega) (by simp) (olds++us) ((XM ho2 hus).le (Evo.draw w g _).toLe) (by
       simp only[Array.toList_append,List.append_assoc];rw[←List.append_assoc,List.take_left])
     exact⟨_,_,g',hrun,h5,h7,(Evo.draw w g _).trans h6⟩
  obtain⟨cv,w',g',h1,h2,h3,h4⟩:=key;refine⟨cv,w',g',?_,h2,h3,h4⟩
  unfold execOp;simp only[ho];show Sem.run P (do let d ←resolve ρ _ o.type;invoke d.target d.args) w=_
  simp only[resolve,Sem.run_bind,Sem.run_pure,Result.andThen_ok,invoke,builtin,List.map_toArray,List.map_cons,List.map_nil,hcx,h1]
theorem Ao.reserveRowT(N0:Nat){e:Af}{S:Ae}(d:Nat)(hd:e d=.sl .full [])(ty:TypeId){sz:Nat}(hsz:0<sz):Ao N0 e S (Bv e d (.wr S.length 0 none)) (S++[.row [] ty sz]):=by
 rintro N w0 g0 a w hn ⟨h1,h2,g,h3,h4,h5⟩
 obtain⟨g',h6,h7,h8⟩:=h3.reserve_row ty hsz;refine⟨h1,h2,g',h6,fun t=>?_,h5.trans h7⟩
 by_cases ht:t=d
 ·subst ht
  rw[JU];have hr:=h4 t;rw[hd]at hr;generalize a.tmps.getD t undef=cv at hr;cases hr with
  |sl _ _ _ A c sz cu hc hcm hsz hA ho hr hm=>
   obtain rfl:c=0:=hm;exact h8 A
 ·rw[HS _ ht]
  exact(h4 t).le h7.toLe
end
end Pe
end
section
namespace Pe
open Tryz
open Go Go.RowKit Co Sg Ac It Sl Tp
set_option maxRecDepth 100000
set_option maxHeartbeats 4000000
abbrev Bo(l:List Ac.Act):List AV:=Ak (l.map Ba)
theorem Kj(l:List Ac.Act):(Bo l).length=l.length*49:=QK Ba 49 (fun _=>rfl) l
theorem U6(l:List Ac.Act)(k:Nat):(Bo l).take (k*49)=Bo (l.take k):=by
 show List.take _ (Ak _)=Ak _
 rw[List.map_take,Wk (EV (EL l))]
theorem U7(l:List Ac.Act)(k:Nat):(Bo l).drop (k*49)=Bo (l.drop k):=by
 show List.drop _ (Ak _)=Ak _
 rw[List.map_drop,QL (EV (EL l))]
theorem L5(a b:List Ac.Act):Bo (a++b)=Bo a++Bo b:=by
 show Ak _=_
 rw[List.map_append,Jq]
theorem Zer(a:Ac.Act):Bo [a]=G7 (Ay a):=by
 show Ak [Ba a]=_
 simp[Ak,AV.cells]
theorem Zes(l:List Ac.Act)(k:Nat)(x:Ac.Act)(hx:l[k]? = some x):((Bo l).drop (k*49)).take 49=G7 (Ay x):=by
 have hk:=(List.getElem?_eq_some_iff.1 hx).1
 have h1:l.drop k=[x]++l.drop (k+1):=by rw[List.drop_eq_getElem_cons hk,(List.getElem?_eq_some_iff.1 hx).2];rfl
 have h49:(G7 (Ay x)).length=49:=rfl;rw[U7,h1,L5,Zer,List.take_append_of_le_length (by omega),List.take_of_length_le (by omega)]
theorem Zeq(l:List Ac.Act)(k:Nat)(x:Ac.Act)(hk:k<l.length):(Bf (Bo l) (k*49) (Bo [x])).take ((k+1)*49)++Bo (l.drop k)=Bo (l.take k++x::l.drop k):=by
 have h49:(Bo [x]).length=49:=by rw[Kj];rfl
 have hl:=Kj l;have ht:((Bo l).take (k*49)++Bo [x]).length=(k+1)*49:=by rw[List.length_append,List.length_take,h49,hl];omega
 have h2:l.take k++x::l.drop k=(l.take k++[x])++l.drop k:=by simp
 unfold Bf;rw[List.take_append_of_le_length (by omega),List.take_of_length_le (by omega),h2,L5,L5,U6]
theorem VY{a:Ac.Act}(h:Ac.right a=true):AC prog 136 [Ba a] [] (.bo true) []:=by
 have k:=VZ (Ay a) (Dp (act_signed [] h).1);rwa[(act_signed [] h).1]at k
theorem Zeo(l:List Ac.Act)(hl:l.length≤1000)(hr:Bg l):AC prog 193 [.sl .ro (l.map Ba),.it .i64 0] [] (.sl .ro ((D9 [] l).map Ba)) []:=by
 have hsz:=EL l;have hszS:=EL (D9 [] l);have hokS:(Bo (D9 [] l)).all (AV.o1 0)=true:=Om _ (fun _=>rfl) _
 refine AC.hw 65 func193 rfl (by decide) (Nat.le_of_ble_eq_true rfl) rfl ?_
 refine HW.seq (HW.aw [] [] (by decide) (by kernel_rfl) ?_)
 refine AD ?_
 refine run ?_;refine HW.seq (HW.aw [] [] (by decide) (by kernel_rfl) ?_)
 refine AD ?_
 refine run ?_;refine HW.seq (HW.seq (HW.aw [] [] (by decide) (by kernel_rfl) ?_))
 refine AD ?_
 refine run ?_;refine HW.block (HW.loop (fun m e S=>e 0=.sl .ro (l.map Ba)∧e 1=.it .i64 0 ∧ ∃(i:Nat) (out:List Ac.Act) (T:Ae),e 6=.it .i64 (i:Int)∧e 5=.wr 0 out.length none∧S=.row (Bo out) 63 49::T∧out.length=i∧D9 [] l=D9 out (l.drop i)∧(∀x∈out,Ac.right x=true)∧i≤l.length∧m=l.length-i) l.length _ _ (Ao.reserveRowT 0 5 (by rfl) 63 (sz:=49) (by decide))
  ⟨Aa,Aa,0,[],[],Aa,Aa,rfl,rfl,rfl,by simp,by omega,rfl⟩ ?_)
 rintro m e S ⟨s0,s1,i,out,T,s6,s5,rfl,hol,hso,hro,hi,rfl⟩
 by_cases hlt:i<l.length
 rotate_left
 ·obtain rfl:i=l.length:=by omega
  rw[List.drop_length]at hso;have hso:D9 [] l=out:=hso;have hlt':¬(l.length:Int)<(l.length:Int):=by omega
  refine HW.seq (HW.aw [] [] (by decide) (by kernel_rfl) ?_)
  refine AD ?_
  refine Ab (A5 @s0 @s1 @s6 @s5 @hlt') ?_;refine HW.aw [] [] (by decide) (by kernel_rfl) ?_
  refine AD ?_
  refine Ab (A4 @s0 @s1 @s6 @s5) ?_;rw[hso]at hszS hokS ⊢;exact Zgc 4 0 rfl (by rw[List.length_map]) hszS hokS (by rfl) (by rfl) (by rfl)
 have hg:l[i]? = some l[i]:=List.getElem?_eq_getElem hlt
 have hdr:l.drop i=l[i]::l.drop (i+1):=List.drop_eq_getElem_cons hlt;have hlt':(i:Int)<(l.length:Int):=by omega
 have w1:=AT (k:=i) (by omega)
 have hra:=hr l[i] (List.getElem_mem hlt);rw[hdr,D9]at hso;generalize l[i]=a at *;have kr:=VY hra;have kq:((Ay a).kind !=0)=false:=rfl;refine HW.seq (HW.aw [] [] (by decide) (by kernel_rfl) ?_)
 refine AD ?_
 refine Ab (A5 @s0 @s1 @s6 @s5 @hlt') ?_;refine HW.seq (HW.block (HW.seq (HW.aw [136] [] (by decide) (by kernel_rfl) ?_)))
 refine AD ?_
 refine Ab (A8 @s0 @s1 @s6 @s5 @hlt' @hg @hsz @kq) ?_;refine cp kr ?_;refine Ab (A4 @s0 @s1 @s6 @s5) ?_;refine HW.seq (HW.aw [] [] (by decide) (by kernel_rfl) ?_)
 refine AD ?_
 refine Ab (A4 @s0 @s1 @s6 @s5) ?_;have hF:=Kj out;have hat:=fun j x hx=>Zes out j x hx
 have hlow:∀(k:Nat),E3 out a (k+1)=if MG (out.getD k Al) a=true then E3 out a k else k+1:=fun _=>rfl
 have hia:=Dp (act_signed [] hra).1;have kaf:=fun(x:Ac.Act) (hx:Ac.right x=true)=>ZeF x a (Dp (act_signed [] hx).1) hia
 refine HW.cut (fun e S=>e 0=.sl .ro (l.map Ba)∧e 1=.it .i64 0∧e 6=.it .i64 (i:Int)∧e 5=.wr 0 out.length none∧e 7=.it .i64 ((E3 out a out.length:Nat):Int) ∧ ∃T,S=.row (Bo out) 63 49::T) ?_ ?_
 ·intro K hK
  generalize hFe:Bo out=F at *;refine HW.aw [278] [] (by decide) (by kernel_rfl) ?_
  refine AD ?_
  refine Ab (A4 @s0 @s1 @s6 @s5) ?_;refine AN (fun m e S=>e 0=.sl .ro (l.map Ba)∧e 1=.it .i64 0∧e 6=.it .i64 (i:Int)∧e 5=.wr 0 out.length none∧S=.row F 63 49::T ∧ ∃k:Nat,e 7=.it .i64 (k:Int)∧k≤out.length∧E3 out a out.length=E3 out a k∧m=k) out.length ⟨Aa,Aa,Aa,Aa,rfl,out.length,Aa,Nat.le_refl _,rfl,rfl⟩ ?_
  clear s0 s1 s6 s5;rintro m e S ⟨s0,s1,s6,s5,rfl,k,s7,hk,hpos,rfl⟩
  cases m with
  |zero=>
   have hn:¬((0:Nat):Int)>0:=by omega
   refine Ab (A6 @s0 @s1 @s6 @s5 @s7 @hn) ?_;exact hK _ _ ⟨Aa,Aa,Aa,Aa,by rw[hpos,show E3 out a 0=0 from rfl];exact Aa,_,rfl⟩
  | succ j=>
   have hn:((j+1:Nat):Int)>0:=by omega
   have hjl:j<out.length:=by omega
   have hgj:out[j]? = some out[j]:=List.getElem?_eq_getElem hjl
   have wj:IntKind.i64.wrap (((j+1:Nat):Int)-1)=(j:Int):=by rw[wrap64 (by omega) (by omega)];omega
   have hjb:(j:Int)<(out.length:Int):=by omega
   have hj0:(0:Int)≤(j:Int):=by omega
   have htn:((j:Nat):Int).toNat=j:=Int.toNat_natCast j;have ha49:=hat j _ hgj;have kx:=kaf out[j] (hro _ (List.getElem_mem hjl));have hgd:out.getD j Al=out[j]:=by rw[List.getD_eq_getElem?_getD,hgj];rfl
   have hb:j*49+49≤out.length*49:=by omega
   rw[hlow,hgd]at hpos;generalize out[j]=x at *;have hap:(if j*49=0∧49=out.length*49 then some (AV.agg F)else some (AV.agg (G7 (Ay x))))=some (AV.agg (G7 (Ay x))):=by
    split
    ·rename_i hc
     rw[←ha49,hc.1,List.drop_zero,List.take_of_length_le (by omega)]
    ·rfl
   cases hx:MG x a with
   |true=>
    rw[hx]at kx;rw[if_pos hx]at hpos;refine Ab (an @s0 (an @s1 (an @s6 (An @s5 @s7 @hn @wj @hjb @hg @hsz @ha49 @hF @hb @hap)))) ?_;refine cp kx ?_;refine Ab (A6 @s0 @s1 @s6 @s5 @s7 @wj) ?_;exact Aj j (by omega) ⟨Aa,Aa,Aa,Aa,rfl,j,Aa,by omega,hpos,rfl⟩
   |false=>
    rw[hx]at kx;rw[if_neg (by rw[hx];decide)]at hpos
    refine Ab (an @s0 (an @s1 (an @s6 (An @s5 @s7 @hn @wj @hjb @hg @hsz @ha49 @hF @hb @hap)))) ?_;refine cp kx ?_;refine Ab (A5 @s0 @s1 @s6 @s5 @s7) ?_;exact hK _ _ ⟨Aa,Aa,Aa,Aa,by rw[hpos];exact Aa,_,rfl⟩
 clear s0 s1 s6 s5 kaf hlow hat;rintro e S ⟨s0,s1,s6,s5,s7,T,rfl⟩
 have hkn:=PW out a out.length;have hput:Er out a=out.take (E3 out a out.length)++a::out.drop (E3 out a out.length):=rfl;generalize E3 out a out.length=k at *;have hbk:CB (some (.it .i64 ((k:Nat):Int))) 0=some k:=by simp[CB]
 have hap:C7 prog 28=some (63,49,568):=by kernel_rfl
 have hsle:BI prog 28=some (63,49,true):=by kernel_rfl
 have hfk:(Bo out).length=out.length*49:=hF;have hdl:((out.drop k).map Ba).length=out.length-k:=by rw[List.length_map,List.length_drop]
 have hdf:Ak ((out.drop k).map Ba)=((Bo out).drop (k*49)).take ((out.length-k)*49):=by
  rw[U7,List.take_of_length_le (by rw[Kj,List.length_drop];omega)]
 have hfit1:CM (out.length-k) 568=true:=by unfold CM;simp only[Bool.and_eq_true,decide_eq_true_eq];omega
 refine HW.seq (HW.reg [] [] (by kernel_rfl) ?_)
 refine JQ [_,_,_] [_,_,_] _ _ (FM (pf:=[]) (rf:=[]) [_,_,_] _ _ ?_)
 refine AD ?_
 refine Ab (an @s5 @s7) ?_;refine⟨_,_,⟨rfl,fun T'=>W7 (x:=.tmp 49) (lo:=some (.tmp 50)) (hi:=none) (l:=0) (n:=out.length) (a:=k) (b:=out.length) (sz:=49) rfl (by rfl) hsle (by decide) (by exact hbk) (by rfl) hkn (Nat.le_refl _) T'⟩,?_⟩
 refine⟨_,_,ZgE (l:=0) (off:=k*49) (n':=out.length-k) (m:=out.length) (sz:=49) rfl hap (by rw[hsle];rfl) (by rfl) (by rfl) (by rfl) hfk (by omega) hdf hdl (EL _) (Om _ (fun _=>rfl) _) hfit1,?_⟩
 refine FM (pf:=[]) (rf:=[]) [_] _ _ ?_
 refine AD ?_
 refine run ?_;have hgk:out.length-k=(out.drop k).length:=by rw[List.length_drop]
 have hsx:AK 49 [Ba a]=true:=by rfl
 have hfit2:CM (out.length+1) 568=true:=by unfold CM;simp only[Bool.and_eq_true,decide_eq_true_eq];omega
 refine HW.raw [] [] (by decide) (by kernel_rfl) ?_
 refine J5 0 (d:=some 53) (op:=.move (.tmp 5)) rfl rfl rfl rfl (by kernel_rfl) (by kernel_rfl) ?_
 refine Ab (an @s5 @s7) ?_;refine J5 1 (d:=some 54) (op:=.move (.tmp 7)) rfl rfl rfl rfl (by kernel_rfl) (by kernel_rfl) ?_
 refine Ab (an @s5 @s7) ?_;refine ZbR 2 (some 55) (.slice 28 (.tmp 53) none (some (.tmp 54)) none) rfl rfl rfl rfl (by kernel_rfl) (by kernel_rfl) (fun ho=>⟨rfl,fun T'=>W7 (x:=.tmp 53) (lo:=none) (hi:=some (.tmp 54)) (l:=0) (n:=out.length) (a:=0) (b:=k) (sz:=49) ho (by rfl) hsle (by decide) (by rfl) (by exact hbk) (Nat.zero_le _) hkn T'⟩) ?_
 refine J5 3 (d:=some 56) (op:=.move (.tmp 0)) rfl rfl rfl rfl (by kernel_rfl) (by kernel_rfl) ?_
 refine Ab (A3 @s0 @s5 @s7) ?_;refine J5 4 (d:=some 57) (op:=.move (.tmp 6)) rfl rfl rfl rfl (by kernel_rfl) (by kernel_rfl) ?_
 refine Ab (A4 @s0 @s6 @s5 @s7) ?_;refine J5 5 (d:=some 58) (op:=.indexAddr 28 (.tmp 56) (.tmp 57)) rfl rfl rfl rfl (by kernel_rfl) (by kernel_rfl) ?_
 refine Ab (A7 @s0 @s6 @s5 @s7 @hg @hsz @hlt') ?_;refine J5 9 (d:=some 62) (op:=.move (.tmp 8)) rfl rfl rfl rfl (by kernel_rfl) (by kernel_rfl) ?_
 refine Ab (A4 @s0 @s6 @s5 @s7) ?_;refine NG (i:=6) (some 59) (.load 63 (.tmp 58)) (by kernel_rfl) rfl rfl rfl rfl ?_
 refine Ab (A7 @s0 @s6 @s5 @s7 @hg @hsz @hlt') ?_;refine NG (i:=7) (some 60) (.buildSlice 28 1 #[(0,.tmp 59)]) (by kernel_rfl) rfl rfl rfl rfl ?_
 refine Ab @hsx ?_;have hsrc:∀(md:Mode) (ys:List AV),Ft prog 28 (.sl md ys)=some ys:=fun md ys=>by unfold Ft;simp only[hsle]
 have hplen:(Er out a).length=out.length+1:=T1 out a;have hprt:∀x∈Er out a,Ac.right x=true:=fun x hx=>by
  rcases T0 hx with rfl|hx
  ·exact hra
  ·exact hro x hx
 by_cases hkl:k<out.length
 ·have h49:(Bo [a]).length=49:=by rw[Kj];rfl
  have hal:(Bf (Bo out) (k*49) (Bo [a])).length=out.length*49:=by
   unfold Bf;rw[List.length_append,List.length_append,List.length_take,List.length_drop,hfk,h49];omega
  refine NH (i:=8) (some 61) (.call { callee:=.builtin .append,args:=#[.tmp 55,.tmp 60],argTypes:=#[28,28] }) (by kernel_rfl) rfl rfl rfl rfl (fun ho=>ZgI (l:=0) (k:=k) (m:=out.length) (sz:=49) (by_:=568) (cs:=Bo out) (ys:=[Ba a]) ho hap (by rfl) (by exact hsrc _ _) hsx (by rfl) hfk hkl (by exact Nat.zero_lt_one)) ?_
  refine NH (i:=10) (some 63) (.call { callee:=.builtin .append,args:=#[.tmp 61,.tmp 62],argTypes:=#[28,28] }) (by kernel_rfl) rfl rfl rfl rfl (fun ho=>Xa (l:=0) (k:=k+1) (m:=out.length) (sz:=49) (by_:=568) (cs:=Bf (Bo out) (k*49) (Bo [a])) (ys:=(out.drop k).map Ba) ho hap (by rfl) (by exact hsrc _ _) (EL _) (by rfl) hal hkl (by rw[hdl];omega) (by rw[hdl,show k+1+(out.length-k)=out.length+1 by omega];exact hfit2)) ?_
  refine NG (i:=11) (some 5) (.assign (.tmp 63)) (by kernel_rfl) rfl rfl rfl rfl ?_
  refine run ?_;refine⟨by kernel_rfl,?_⟩
  refine HW.aw [] [] (by decide) (by kernel_rfl) ?_
  refine AD ?_
  refine Ab (an @s6 @w1) ?_;exact Aj (l.length-(i+1)) (by omega) ⟨Aa,Aa,i+1,Er out a,_,Aa,congrArg (fun n=>AV.wr 0 n none) (show k+1+(out.drop k).length=(Er out a).length by rw[List.length_drop,hplen];omega),by rw[hput,←Zeq out k a hkl],by omega,hso,hprt,by omega,rfl⟩
 ·obtain rfl:k=out.length:=by omega
  have hdn:out.drop out.length=[]:=List.drop_length;refine NH (i:=8) (some 61) (.call { callee:=.builtin .append,args:=#[.tmp 55,.tmp 60],argTypes:=#[28,28] }) (by kernel_rfl) rfl rfl rfl rfl (fun ho=>Xa (l:=0) (k:=out.length) (m:=out.length) (sz:=49) (by_:=568) (cs:=Bo out) (ys:=[Ba a]) ho hap (by rfl) (by exact hsrc _ _) hsx (by rfl) hfk (Nat.le_refl _) (Nat.lt_succ_self _) hfit2) ?_
  have hcl:((Bo out).take (out.length*49)++Bo [a]).length=(out.length+1)*49:=by
   rw[List.take_of_length_le (by omega),List.length_append,hfk,Kj]
   show _+1*49=_
   omega
  have hrowk:(.row (((Bo out).take (out.length*49)++Bo [a])++Bo (out.drop out.length)) 63 49::(T++[.buf (out.length-out.length) 63 49]):Ae)=.row (Bo (Er out a)) 63 49::(T++[.buf (out.length-out.length) 63 49]):=by
   rw[hput,U6,←L5,←L5,hdn];simp
  have happ:GA prog 28 28 (.row ((Bo out).take (out.length*49)++Bo [a]) 63 49::(T++[.buf (out.length-out.length) 63 49])) (.wr 0 (out.length+1) none) (.sl (.own (T.length+1)) ((out.drop out.length).map Ba))=some (.wr 0 (out.length+1+((out.drop out.length).map Ba).length) none,.row (((Bo out).take (out.length*49)++Bo [a])++Bo (out.drop out.length)) 63 49::(T++[.buf (out.length-out.length) 63 49])):=by
   unfold GA;simp only[hap,hsrc,List.getElem?_cons_zero]
   rw[if_pos ⟨hcl,trivial,trivial,EL _,by rw[hdn];exact hfit2⟩]
   rfl
  refine NH (i:=10) (v:=.wr 0 (out.length+1+((out.drop out.length).map Ba).length) none) (S':=.row (((Bo out).take (out.length*49)++Bo [a])++Bo (out.drop out.length)) 63 49::(T++[.buf (out.length-out.length) 63 49])) (some 63) (.call { callee:=.builtin .append,args:=#[.tmp 61,.tmp 62],argTypes:=#[28,28] }) (by kernel_rfl) rfl rfl rfl rfl (fun ho=>by exact W9 ho happ) ?_
  refine NG (i:=11) (some 5) (.assign (.tmp 63)) (by kernel_rfl) rfl rfl rfl rfl ?_
  refine run ?_;refine⟨by kernel_rfl,?_⟩
  refine HW.aw [] [] (by decide) (by kernel_rfl) ?_
  refine AD ?_
  refine Ab (an @s6 @w1) ?_;exact Aj (l.length-(i+1)) (by omega) ⟨Aa,Aa,i+1,Er out a,_,Aa,congrArg (fun n=>AV.wr 0 n none) (show out.length+1+(out.drop out.length).length=(Er out a).length by rw[hdn,hplen];rfl),hrowk,by omega,hso,hprt,by omega,rfl⟩
end Pe
end
end Go.Proofs.YtipfggegddlgdaaGreatDoor
