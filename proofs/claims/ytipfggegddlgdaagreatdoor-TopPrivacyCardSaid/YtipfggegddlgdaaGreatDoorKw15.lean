import Derived.Test.YtipfggegddlgdaaGreatDoorKw8
import Derived.Test.YtipfggegddlgdaaGreatDoorKw14
import Derived.Deep.RegionHeld3
set_option linter.unusedSectionVars false
set_option linter.unusedVariables false
set_option linter.unusedSimpArgs false
namespace Go.Proofs.YtipfggegddlgdaaGreatDoor
section
section
open Go
section
variable {P:Program} {t:TypeId}
theorem ZcN(a b:BitVec 32)(h:b.toNat≠0):binOp .quo t (Ag a) (Ag b)=pure (Ag (a / b)):=by
 show binOp .quo t (.int .u32 _) (.int .u32 _)=_
 rw[binOp_quo];have ha:=a.isLt;have hz':¬(b.toNat:Int)=0:=by omega
 unfold Ag;rw[BitVec.toNat_udiv];have hd:a.toNat / b.toNat<4294967296:=Nat.lt_of_le_of_lt (Nat.div_le_self _ _) ha;simp only[Op.intDiv,if_neg hz',IntKind.wrap_u32'];congr 2
 rw[←Int.ofNat_tdiv];generalize a.toNat / b.toNat=q at hd ⊢;omega
theorem Zcu(a b:BitVec 32)(h:b.toNat≠0):binOp .rem t (Ag a) (Ag b)=pure (Ag (a % b)):=by
 show binOp .rem t (.int .u32 _) (.int .u32 _)=_
 rw[binOp_rem];have hz':¬(b.toNat:Int)=0:=by omega
 unfold Ag;rw[BitVec.toNat_umod];simp only[Op.intDiv,if_neg hz'];congr 2
@[go_sem] theorem ZjM(a:BitVec 32)(n:Nat)(h:n<4294967296)(h0:0<n):binOp .quo t (Ag a) (.int .u32 (no_index (OfNat.ofNat n)))=pure (Ag (a / (BitVec.ofNat 32 n))):=by
 rw[DW n h,ZcN];rw[BitVec.toNat_ofNat,Nat.mod_eq_of_lt h];omega
@[go_sem] theorem ZjK(a:BitVec 32)(n:Nat)(h:n<4294967296)(h0:0<n):binOp .rem t (Ag a) (.int .u32 (no_index (OfNat.ofNat n)))=pure (Ag (a % (BitVec.ofNat 32 n))):=by
 rw[DW n h,Zcu];rw[BitVec.toNat_ofNat,Nat.mod_eq_of_lt h];omega
end
namespace Sm
open Tryz
theorem Zcg(x:BitVec 32)(n:Int)(h0:0<n)(h:n<32):(x>>>n.toNat|||x<<<(32-n).toNat)=Dk x n.toNat:=by
 rw[Dk,BitVec.or_comm,show(32-n).toNat=32-n.toNat from by omega]
theorem Zdz(l:List UInt8):32*(B9 l 7:Int)+((l.getD 7 0).toNat:Int) / 8=(num l:Int):=by
 have h:B9 l 8=256*B9 l 7+(l.getD 7 0).toNat:=rfl;unfold num;rw[h];generalize B9 l 7=n;generalize (l.getD 7 0).toNat=b;omega
theorem Zag(a b c d:Nat)(ha:a<256)(hb:b<256)(hc:c<256)(hd:d<256):
  (((a*2^24 % 2^32|||b*2^16 % 2^32)|||c*2^8 % 2^32)|||d)=a*16777216+b*65536+c*256+d:=by
 rw[Nat.mod_eq_of_lt (show a*2^24<2^32 from by omega),Nat.mod_eq_of_lt (show b*2^16<2^32 from by omega),Nat.mod_eq_of_lt (show c*2^8<2^32 from by omega)]
 rw[nat_join 24 (a*2^24) (b*2^16) (by omega) (by omega),nat_join 16 (a*2^24+b*2^16) (c*2^8) (by omega) (by omega),nat_join 8 (a*2^24+b*2^16+c*2^8) d (by omega) (by omega)]
theorem Qb(x:BitVec 32)(n:Nat)(hx:x.toNat<256)(hn:n≤16777216):(x*BitVec.ofNat 32 n).toNat=x.toNat*n:=by
 rw[BitVec.toNat_mul,BitVec.toNat_ofNat,Nat.mod_eq_of_lt (show n<2^32 from by omega)]
 have h:x.toNat*n≤255*16777216:=Nat.mul_le_mul (by omega) hn
 exact Nat.mod_eq_of_lt (by omega)
theorem Rv(x y:BitVec 32)(h:x.toNat+y.toNat<4294967296):(x+y).toNat=x.toNat+y.toNat:=by
 rw[BitVec.toNat_add];exact Nat.mod_eq_of_lt (by omega)
theorem Zaf(a b c d:UInt8):bw a*16777216#32+bw b*65536#32+bw c*256#32+bw d=KP a b c d:=by
 have q:∀x:UInt8,(bw x).toNat=x.toNat:=fun x=>by
  have :=x.toNat_lt;unfold bw;rw[BitVec.toNat_setWidth,UInt8.toNat_toBitVec,Nat.mod_eq_of_lt (by omega)]
 have ha:=a.toNat_lt;have hb:=b.toNat_lt;have hc:=c.toNat_lt;have hd:=d.toNat_lt;apply BitVec.eq_of_toNat_eq
 have m1:=Qb (bw a) 16777216 (by rw[q];exact ha) (by omega)
 have m2:=Qb (bw b) 65536 (by rw[q];exact hb) (by omega)
 have m3:=Qb (bw c) 256 (by rw[q];exact hc) (by omega)
 rw[q]at m1 m2 m3;have s1:=Rv (bw a*16777216#32) (bw b*65536#32) (by rw[m1,m2];omega)
 have s2:=Rv (bw a*16777216#32+bw b*65536#32) (bw c*256#32) (by rw[s1,m1,m2,m3];omega)
 have s3:=Rv (bw a*16777216#32+bw b*65536#32+bw c*256#32) (bw d) (by rw[s2,s1,m1,m2,m3,q];omega)
 rw[s3,s2,s1,m1,m2,m3,q];unfold KP;rw[BitVec.toNat_or,BitVec.toNat_or,BitVec.toNat_or,BitVec.toNat_shiftLeft,BitVec.toNat_shiftLeft,BitVec.toNat_shiftLeft,Nat.shiftLeft_eq,Nat.shiftLeft_eq,Nat.shiftLeft_eq,q,q,q,q];exact(Zag _ _ _ _ ha hb hc hd).symm
def FR(l:List UInt8):List UInt8:=ending l l.length
theorem Ziw(l:List UInt8)(st:S8)(n m:Nat):BF l st (n+m)=BF (l.drop (64*n)) (BF l st n) m:=by
 induction m with
 |zero=>rfl
 |succ m ih=>rw[←Nat.add_assoc,BF,BF,ih,List.drop_drop,show 64*n+64*m=64*(n+m)from by omega]
theorem YN(l r:List UInt8)(st:S8)(n:Nat)(h:64*n≤l.length):BF (l++r) st n=BF l st n:=by
 induction n with
 |zero=>rfl
 |succ n ih=>
  rw[BF,BF,ih (by omega),List.drop_append_of_le_length (by omega),List.take_append_of_le_length (by rw[List.length_drop];omega)]
theorem Zdi(l:List UInt8):FR l=l.take (64*(l.length / 64))++ending (l.drop (64*(l.length / 64))) l.length:=by
 unfold FR ending;have hz:BP ((l.drop (64*(l.length / 64))).length+1)=BP (l.length+1):=by
  rw[List.length_drop];unfold BP;omega
 rw[hz];simp only[←List.append_assoc,List.take_append_drop]
theorem Zdh(l:List UInt8):BF (FR l) BS ((FR l).length / 64)=J3 l:=by
 unfold J3;have hl:(l.take (64*(l.length / 64))).length=64*(l.length / 64):=by rw[List.length_take];omega
 have hs:=Zdi l;have hlen:(FR l).length / 64=l.length / 64+(ending (l.drop (64*(l.length / 64))) l.length).length / 64:=by
  rw[hs,List.length_append,hl];omega
 rw[hlen,Ziw];have e1:(FR l).drop (64*(l.length / 64))=ending (l.drop (64*(l.length / 64))) l.length:=by
  rw[hs];exact List.drop_left' hl
 have e2:BF (FR l) BS (l.length / 64)=BF l BS (l.length / 64):=by
  rw[hs,YN _ _ _ _ (by omega)]
  have e:=YN (l.take (64*(l.length / 64))) (l.drop (64*(l.length / 64))) BS (l.length / 64) (by rw[hl];exact Nat.le_refl _)
  rw[List.take_append_drop]at e;exact e.symm
 rw[e1,e2]
def GI(st:S8)(k:Nat):List UInt8:=(List.range k).map fun i=>wb (st.list.getD (i / 4) 0>>>(24-8*(i % 4)))
theorem Zdk(st:S8)(k:Nat):GI st (k+1)=GI st k++[wb (st.list.getD (k / 4) 0>>>(24-8*(k % 4)))]:=by simp[GI,List.range_succ]
theorem Zdl(st:S8)(k:Nat):(GI st k).length=k:=by simp[GI]
theorem Zdm(st:S8):GI st 32=st.list.flatMap GT:=by
 obtain⟨a,b,c,d,e,f,g,h⟩:=st;have z:∀x:BitVec 32,x>>>0=x:=fun x=>by simp
 show[wb (a>>>24),wb (a>>>16),wb (a>>>8),wb (a>>>0),wb (b>>>24),wb (b>>>16),wb (b>>>8),wb (b>>>0),wb (c>>>24),wb (c>>>16),wb (c>>>8),wb (c>>>0),wb (d>>>24),wb (d>>>16),wb (d>>>8),wb (d>>>0),wb (e>>>24),wb (e>>>16),wb (e>>>8),wb (e>>>0),wb (f>>>24),wb (f>>>16),wb (f>>>8),wb (f>>>0),wb (g>>>24),wb (g>>>16),wb (g>>>8),wb (g>>>0),wb (h>>>24),wb (h>>>16),wb (h>>>8),wb (h>>>0)]=_
 simp only[z];rfl
end Sm
end
namespace Sm
open Tryz
def Gx(r s:List (BitVec 32)):Nat→List (BitVec 32)
 |0=>r
 |k+1=>(Gx r s k).set k ((Gx r s k).getD k 0+s.getD k 0)
theorem Zif(r s:List (BitVec 32))(k:Nat):(Gx r s k).length=r.length:=by
 induction k with
 |zero=>rfl
 |succ k ih=>rw[Gx,List.length_set,ih]
theorem Zig(r s:S8):(Gx r.list s.list 8).map Ag=(s.add r).cells:=by
 obtain⟨a,b,c,d,e,f,g,h⟩:=r;obtain⟨a',b',c',d',e',f',g',h'⟩:=s;show[Ag (a+a'),Ag (b+b'),Ag (c+c'),Ag (d+d'),Ag (e+e'),Ag (f+f'),Ag (g+g'),Ag (h+h')]=[Ag (a'+a),Ag (b'+b),Ag (c'+c),Ag (d'+d),Ag (e'+e),Ag (f'+f),Ag (g'+g),Ag (h'+h)]
 rw[BitVec.add_comm a,BitVec.add_comm b,BitVec.add_comm c,BitVec.add_comm d,BitVec.add_comm e,BitVec.add_comm f,BitVec.add_comm g,BitVec.add_comm h]
theorem Zhy(s:S8):s.cells=s.list.map Ag:=rfl
theorem Jf(s:S8):s.list.length=8:=rfl
theorem Ni:EZ.length=64:=rfl
end Sm
end
section
section
open Go.RowKit Sm
theorem LB(x:BitVec 32)(n:Int)(w:World)(h0:0<n)(h:n<32):
  Calls Tryz.prog 241 #[Ag x,.int .i64 n] w fun e w'=>e=.returned (Ag (Dk x n.toNat)) ∧ ∃m,w'=w.drewN m:=by
 have e:=Zcg x n h0 h;have E:=Veil.mk e;clear e;have q0:0≤n:=by omega
 have q1:0≤32-n:=by omega
 have q2:n≤32:=by omega
 go_enter Tryz.func241,Tryz.ntmps241
 go_wp2
 go_quiet (fail)
 go_wp2
 go_ret
 rw[←E.out];exact⟨rfl,_,rfl⟩
theorem Zci(s:ByteArray)(w:World)(hs:s.size≤9223372036854775807):
  Calls Tryz.prog 290 #[.string s] w fun e w'=>e=.returned (.int .i64 (num s.data.toList))∧w=w':=by
 go_enter Tryz.func290,Tryz.ntmps290
 go_wp2
 go_loop [3,4,5] (fun r i _=>∃k:Nat,k≤8∧i=.int .i64 k∧r=.int .i64 (if k≤7 then(B9 s.data.toList k:Int)else(num s.data.toList:Int))) (fun _ i _=>8-(intOf i).toNat)
 case atStart=>exact⟨0,by omega,rfl,rfl⟩
 case round=>
  obtain⟨k,hk,rfl,rfl⟩:=hrel;by_cases hlt:k<8
  ·have h7:k≤7:=by omega
   rw[if_pos h7];have hn:=nat8_lt s.data.toList k;have hp:256^k≤256^7:=Nat.pow_le_pow_right (by omega) h7
   have hnb:B9 s.data.toList k<72057594037927936:=by omega
   clear hn hp;obtain⟨b,hb⟩:∃b:Nat,b=(s.data.toList.getD k 0).toNat:=⟨_,rfl⟩
   have hb8:b<256:=by have :=(s.data.toList.getD k 0).toNat_lt;omega
   have st:k<7→((B9 s.data.toList (k+1):Nat):Int)=256*(B9 s.data.toList k:Int)+(b:Int):=by
    intro _;rw[B9,hb];omega
   have hsm:k<7→B9 s.data.toList k<281474976710656:=by
    intro h;have h1:=nat8_lt s.data.toList k;have h2:256^k≤256^6:=Nat.pow_le_pow_right (by omega) (by omega)
    omega
   have sl:k=7→(num s.data.toList:Int)=32*(B9 s.data.toList k:Int)+(b:Int) / 8:=by
    intro h;subst h;rw[hb];exact(Zdz _).symm
   have ek:∀(h:k<s.size),((s[k]).toNat:Int)=(b:Int):=by
    intro h;rw[hb,List.getD_eq_getElem?_getD,List.getElem?_eq_getElem (by simpa using h)];rfl
   have e0:¬k<s.size→(b:Int)=0:=by
    intro h;rw[hb,List.getD_eq_getElem?_getD,List.getElem?_eq_none (by simp;omega)];rfl
   clear hb;generalize hn:B9 s.data.toList k=n at st sl hnb hsm ⊢;have Hn:=Veil.mk hn;have St:=Veil.mk st;have Sl:=Veil.mk sl;have Ek:=Veil.mk ek;have E0:=Veil.mk e0;have Hsm:=Veil.mk hsm;clear hn st sl ek e0 hsm;by_cases hl:k<s.size
   ·have ek:=Ek.out hl
    by_cases hk7:k<7
    ·have hsm:=Hsm.out hk7
     go_wp2
     go_round
     case rel=>exact⟨k+1,by omega,by go_num,Na (by rw[if_pos (by omega),St.out hk7])⟩
     case measure=>simp[intOf];omega
    ·go_wp2
     go_round
     case rel=>exact⟨k+1,by omega,by go_num,Na (by rw[if_neg (by omega),Sl.out (by omega)])⟩
     case measure=>simp[intOf];omega
   ·by_cases hk7:k<7
    ·have hsm:=Hsm.out hk7
     go_wp2
     go_round
     case rel=>exact⟨k+1,by omega,by go_num,Na (by rw[if_pos (by omega),St.out hk7,E0.out hl,Int.add_zero])⟩
     case measure=>simp[intOf];omega
    ·go_wp2
     go_round
     case rel=>exact⟨k+1,by omega,by go_num,Na (by rw[if_neg (by omega),Sl.out (by omega),E0.out hl];rfl)⟩
     case measure=>simp[intOf];omega
  ·obtain rfl:k=8:=by omega
   rw[if_neg (by omega)]
   go_wp2
   go_ret
   exact⟨rfl,rfl⟩
theorem QY:FL Tryz.prog 189 142 1 4:=FL.mk' (z:=.int .u32 0) Tryz.underlying189 (by kernel_rfl) rfl (by decide)
set_option maxRecDepth 100000 in
set_option maxHeartbeats 4000000 in
theorem ZbT(g o c:Nat)(l:List UInt8)(w:World)(hcell:∀j,j<64→w.cell? ⟨g,o+j,none⟩=some (w8 (l.getD j 0)))(hl:l.length=64)(_hc:64≤c)(hB:g<w.heap.size):
  Calls Tryz.prog 239 #[.slice (some ⟨g,o,none⟩) 64 c] w fun e w'=>∃v',e=.returned v'∧Ap w' w.heap.size 142 1 v' ((Dj l).map Ag)∧Below w.heap.size w w':=by
 have Hcell:=Veil.mk hcell;clear hcell;have Hl:=Veil.mk hl;clear hl;go_enter Tryz.func239,Tryz.ntmps239
 go_wp2
 go_loopw [3,4] (fun v i wr=>∃k:Nat,k≤16∧i=.int .i64 k∧Ap wr w.heap.size 142 1 v ((F0 l k).map Ag)∧Below w.heap.size w wr) (fun _ i _=>16-(intOf i).toNat)
 case atStart=>exact⟨0,by omega,rfl,Ap.nil _ _ _ _,Below.refl _ _⟩
 case round=>
  obtain⟨k,hk,rfl,hown,hb⟩:=hrel;have hle:=hb.size;by_cases hlt:k<16
  ·have rd:∀j,j<64→wr.cell? ⟨g,o+j,none⟩=some (w8 (l.getD j 0)):=fun j hj=>(hb.cell hB).trans (Hcell.out j hj)
   have c0:=rd (4*k) (by omega)
   have c1:=rd (4*k+1) (by omega)
   have c2:=rd (4*k+2) (by omega)
   have c3:=rd (4*k+3) (by omega)
   clear rd;have hw:KP (l.getD (4*k) 0) (l.getD (4*k+1) 0) (l.getD (4*k+2) 0) (l.getD (4*k+3) 0)=M5 l k:=rfl;have Hw:=Veil.mk hw;clear hw;generalize l.getD (4*k) 0=b0 at c0 Hw;generalize l.getD (4*k+1) 0=b1 at c1 Hw;generalize l.getD (4*k+2) 0=b2 at c2 Hw;generalize l.getD (4*k+3) 0=b3 at c3 Hw;have c2':wr.cell? ⟨g,o+(4*k+1+1),none⟩=some (w8 b2):=c2;have c3':wr.cell? ⟨g,o+(4*k+2+1),none⟩=some (w8 b3):=c3;clear c2 c3;have hC:∀{W:World},Below w.heap.size w W→W.cell? ⟨g,o+4*k,none⟩=some (w8 b0)∧W.cell? ⟨g,o+(4*k+1),none⟩=some (w8 b1)∧W.cell? ⟨g,o+(4*k+1+1),none⟩=some (w8 b2)∧W.cell? ⟨g,o+(4*k+2+1),none⟩=some (w8 b3):=fun hB'=>
    ⟨(hB'.cell hB).trans ((hb.cell hB).symm.trans c0),(hB'.cell hB).trans ((hb.cell hB).symm.trans c1),(hB'.cell hB).trans ((hb.cell hB).symm.trans c2'),(hB'.cell hB).trans ((hb.cell hB).symm.trans c3')⟩
   have HC:=Veil.mk @hC;clear hC;have hsum:=Zaf b0 b1 b2 b3;have Hsum:=Veil.mk (hsum.trans Hw.out);clear hsum Hw;have i0:(4:Int)*(k:Int)<64:=by omega
   have i1:(4:Int)*(k:Int)+1<64:=by omega
   have i2:(4:Int)*(k:Int)+2<64:=by omega
   have i3:(4:Int)*(k:Int)+3<64:=by omega
   have w0:IntKind.i64.wrap (4*(k:Int))=4*(k:Int):=by rw[IntKind.wrap_i64];omega
   have w1:IntKind.i64.wrap (4*(k:Int)+1)=4*(k:Int)+1:=by rw[IntKind.wrap_i64];omega
   have w2:IntKind.i64.wrap (4*(k:Int)+2)=4*(k:Int)+2:=by rw[IntKind.wrap_i64];omega
   have w3:IntKind.i64.wrap (4*(k:Int)+3)=4*(k:Int)+3:=by rw[IntKind.wrap_i64];omega
   have t0:(4*(k:Int)).toNat=4*k:=by omega
   have t1:(4*(k:Int)+1).toNat=4*k+1:=by omega
   have t2:(4*(k:Int)+2).toNat=4*k+2:=by omega
   have t3:(4*(k:Int)+3).toNat=4*k+3:=by omega
   have p0:0≤4*(k:Int):=by omega
   have p1:0≤4*(k:Int)+1:=by omega
   have p2:0≤4*(k:Int)+2:=by omega
   have p3:0≤4*(k:Int)+3:=by omega
   have hl1:(((F0 l k).map Ag).length+[Ag (bw b0*16777216#32+bw b1*65536#32+bw b2*256#32+bw b3)].length)*4≤140737488355328:=by
    rw[List.length_map,QN];simp only[List.length_singleton];omega
   have hl2:((F0 l k).map Ag).length+[Ag (bw b0*16777216#32+bw b1*65536#32+bw b2*256#32+bw b3)].length≤140737488355328:=by
    rw[List.length_map,QN];simp only[List.length_singleton];omega
   have HL1:=Veil.mk hl1;have HL2:=Veil.mk hl2;clear hl1 hl2;go_wp2
   have Hb:=Veil.mk hb;have Hown:=Veil.mk hown;have HlE:=Veil.mk hle;clear hb hown hle;go_region_held3 (fun W=>W.cell? ⟨g,o+4*k,none⟩=some (w8 b0)∧W.cell? ⟨g,o+(4*k+1),none⟩=some (w8 b1)∧W.cell? ⟨g,o+(4*k+1+1),none⟩=some (w8 b2)∧W.cell? ⟨g,o+(4*k+2+1),none⟩=some (w8 b3)) (first|go_keep|exact HC.out hb') (first|(refine Ps wr.drew rfl (.tmp 14) (.tmp 48) _ rfl QY [Ag (bw b0*16777216#32+bw b1*65536#32+bw b2*256#32+bw b3)] Hown.out.drew rfl rfl (G6 rfl) HL1.out HL2.out HlE.out ?_;intro v' w' own' gr';have hb':=Gu Hb.out.drew gr' Hown.out.drew (Nat.le_refl _) HlE.out))
   all_goals
    have hb:=Hb.out;have hown:=Hown.out;have hle:=HlE.out;have own2:Ap w' w.heap.size 142 1 v' ((F0 l (k+1)).map Ag):=by
     rw[Wq,List.map_append,←Hsum.out];exact own'
    clear own' gr';go_wp2
    go_roundw
    case rel=>exact⟨k+1,by omega,by go_num,own2,hb'⟩
    case measure=>simp[intOf];omega
  ·have hk16:16≤k:=by omega
   have hown:=Veil.mk (show Ap wr w.heap.size 142 1 _ ((B1 l (16-16)).map Ag) by
    obtain rfl:k=16:=by omega
    exact hown)
   clear hlt;go_wp2
   go_loopw [3,5,6,7,8,9] (fun v i _ _ _ _ wr=>∃m:Nat,16≤m∧m≤64∧i=.int .i64 m∧Ap wr w.heap.size 142 1 v ((B1 l (m-16)).map Ag)∧Below w.heap.size w wr) (fun _ i _ _ _ _ _=>64-(intOf i).toNat)
   case atStart=>exact⟨16,by omega,by omega,rfl,hown.out,hb⟩
   case round=>
    clear hown hb hle;obtain⟨m,hm0,hm,rfl,hown,hb⟩:=hrel;have hle:=hb.size;by_cases hlt:m<64
    ·have hlen:=NF l (m-16)
     obtain⟨gw,cw,rfl,hcw,hbw,hgw,hcellw⟩:=hown.form (by rw[List.length_map];omega)
     rw[List.length_map,hlen,show 16+(m-16)=m from by omega]at hown hcw ⊢
     have rd:∀j,j<m→wr.cell? ⟨gw,j,none⟩=some (Ag ((B1 l (m-16)).getD j 0)):=fun j hj=>hcellw j _ (by
      rw[List.getElem?_map,List.getElem?_eq_getElem (by omega),List.getD_eq_getElem?_getD,List.getElem?_eq_getElem (by omega)];rfl)
     clear hcellw;have c15:=rd (m-15) (by omega)
     have c2:=rd (m-2) (by omega)
     have c7:=rd (m-7) (by omega)
     have c16:=rd (m-16) (by omega)
     clear rd;have hnx:NX (B1 l (m-16)) m=(B1 l (m-16)).getD (m-16) 0+Cn ((B1 l (m-16)).getD (m-15) 0)+(B1 l (m-16)).getD (m-7) 0+S7 ((B1 l (m-16)).getD (m-2) 0):=rfl;generalize (B1 l (m-16)).getD (m-16) 0=x16 at c16 hnx;generalize (B1 l (m-16)).getD (m-15) 0=x15 at c15 hnx;generalize (B1 l (m-16)).getD (m-7) 0=x7 at c7 hnx;generalize (B1 l (m-16)).getD (m-2) 0=x2 at c2 hnx;have Hnx:=Veil.mk hnx;clear hnx;have Hlen:=Veil.mk hlen;clear hlen;have Hown:=Veil.mk hown;have Hb:=Veil.mk hb;clear hown hb;have b1:16≤(m:Int):=by omega
     have b2:(m:Int)<64:=by omega
     go_wp2_with (go_at_call 241;refine(LB _ _ _ (by omega) (by omega)).mono ?_;rintro e w' ⟨rfl,mm,rfl⟩)
     generalize hwz:World.drewN wr _=wz;have c16:wz.cell? ⟨gw,m-16,none⟩=some (Ag x16):=by rw[←hwz];exact c16
     have c7:wz.cell? ⟨gw,m-7,none⟩=some (Ag x7):=by rw[←hwz];exact c7
     have Hown2:=Veil.mk (show Ap wz w.heap.size 142 1 (.slice (some ⟨gw,0,none⟩) m cw) ((B1 l (m-16)).map Ag) by rw[←hwz];exact Hown.out.drewN _)
     have Hb2:=Veil.mk (show Below w.heap.size w wz by rw[←hwz];exact Ir Hb.out _)
     have hle2:=Hb2.out.size;clear hwz c15 c2;have w16:IntKind.i64.wrap ((m:Int)-16)=(m:Int)-16:=by rw[IntKind.wrap_i64];omega
     have w7:IntKind.i64.wrap ((m:Int)-7)=(m:Int)-7:=by rw[IntKind.wrap_i64];omega
     have t16:((m:Int)-16).toNat=m-16:=by omega
     have t7:((m:Int)-7).toNat=m-7:=by omega
     have p16:0≤(m:Int)-16:=by omega
     have p7:0≤(m:Int)-7:=by omega
     have b7:7≤(m:Int):=by omega
     have i16:(m:Int)-16<m:=by omega
     have i7:(m:Int)-7<m:=by omega
     generalize hX:x16+(Dk x15 7^^^Dk x15 18^^^x15>>>3)+x7+(Dk x2 17^^^Dk x2 19^^^x2>>>10)=X;have HX:Veil (X=NX (B1 l (m-16)) m):=⟨by rw[←hX,Hnx.out];rfl⟩
     have hl1:(((B1 l (m-16)).map Ag).length+[Ag X].length)*4≤140737488355328:=by
      rw[List.length_map,Hlen.out];simp only[List.length_singleton];omega
     have hl2:((B1 l (m-16)).map Ag).length+[Ag X].length≤140737488355328:=by
      rw[List.length_map,Hlen.out];simp only[List.length_singleton];omega
     have HL1:=Veil.mk hl1;have HL2:=Veil.mk hl2;clear hl1 hl2 Hb Hown;go_region_law (refine Ps wz.drew rfl (.tmp 80) (.tmp 96) _ rfl QY [Ag X] Hown2.out.drew rfl rfl (G6 rfl) HL1.out HL2.out hle2 ?_;intro v' w' own' gr')
     all_goals
      have own2:Ap w' w.heap.size 142 1 v' ((B1 l (m+1-16)).map Ag):=by
       rw[show m+1-16=m-16+1 from by omega,B1,show 16+(m-16)=m from by omega,List.map_append,←HX.out];exact own'
      have hb':=Gu Hb2.out.drew gr' Hown2.out.drew (Nat.le_refl _) hle2;clear own' gr' w16 w7 t16 t7 p16 p7 i16 i7;go_wp2
      go_roundw
      case rel=>exact⟨m+1,by omega,by omega,by go_num,own2,hb'⟩
      case measure=>simp[intOf];omega
    ·have hm64:m=64:=by omega
     subst hm64;have hown:Ap wr w.heap.size 142 1 _ ((Dj l).map Ag):=hown;go_wp2
     go_ret
     exact⟨_,rfl,hown,hb⟩
theorem ZaV:(EZ.map Ag).toArray = #[.int .u32 1116352408,.int .u32 1899447441,.int .u32 3049323471,.int .u32 3921009573,.int .u32 961987163,.int .u32 1508970993,.int .u32 2453635748,.int .u32 2870763221,.int .u32 3624381080,.int .u32 310598401,.int .u32 607225278,.int .u32 1426881987,.int .u32 1925078388,.int .u32 2162078206,.int .u32 2614888103,.int .u32 3248222580,.int .u32 3835390401,.int .u32 4022224774,.int .u32 264347078,.int .u32 604807628,.int .u32 770255983,.int .u32 1249150122,.int .u32 1555081692,.int .u32 1996064986,.int .u32 2554220882,.int .u32 2821834349,.int .u32 2952996808,.int .u32 3210313671,.int .u32 3336571891,.int .u32 3584528711,.int .u32 113926993,.int .u32 338241895,.int .u32 666307205,.int .u32 773529912,.int .u32 1294757372,.int .u32 1396182291,.int .u32 1695183700,.int .u32 1986661051,.int .u32 2177026350,.int .u32 2456956037,.int .u32 2730485921,.int .u32 2820302411,.int .u32 3259730800,.int .u32 3345764771,.int .u32 3516065817,.int .u32 3600352804,.int .u32 4094571909,.int .u32 275423344,.int .u32 430227734,.int .u32 506948616,.int .u32 659060556,.int .u32 883997877,.int .u32 958139571,.int .u32 1322822218,.int .u32 1537002063,.int .u32 1747873779,.int .u32 1955562222,.int .u32 2024104815,.int .u32 2227730452,.int .u32 2361852424,.int .u32 2428436474,.int .u32 2756734187,.int .u32 3204031479,.int .u32 3329325298]:=by kernel_rfl
theorem Mv{w:World}{g:Nat}{l:List (BitVec 32)}(h:∀j u,(l.map Ag)[j]? = some u→w.cell? ⟨g,j,none⟩=some u)(j:Nat)(hj:j<l.length):w.cell? ⟨g,j,none⟩=some (Ag (l.getD j 0)):=
 h j _ (by rw[List.getElem?_map,List.getElem?_eq_getElem hj,List.getD_eq_getElem?_getD,List.getElem?_eq_getElem hj];rfl)
theorem ZcH(w:World):Calls Tryz.prog 240 #[] w fun e w'=>∃v,e=.returned v∧Ap w' w.heap.size 142 1 v (EZ.map Ag)∧Below w.heap.size w w':=by
 go_enter Tryz.func240,Tryz.ntmps240
 go_wp2
 go_ret
 refine⟨_,rfl,?_,(Below.refl _ _).alloc (Nat.le_refl _) _⟩
 have h:=Ap.lit (e:=142) (base:=w.heap.size) (size:=1) w (EZ.map Ag) 64 (Nat.le_refl _) (by unfold maxLen;omega) (by rw[List.length_map,Ni])
 rw[ZaV]at h;exact h
theorem ZeW:BS.cells.toArray = #[.int .u32 1779033703,.int .u32 3144134277,.int .u32 1013904242,.int .u32 2773480762,.int .u32 1359893119,.int .u32 2600822924,.int .u32 528734635,.int .u32 1541459225]:=by kernel_rfl
theorem Zcp(w:World):Calls Tryz.prog 145 #[] w fun e w'=>∃v,e=.returned v∧Ap w' w.heap.size 142 1 v BS.cells∧Below w.heap.size w w':=by
 go_enter Tryz.func145,Tryz.ntmps145
 go_wp2
 go_ret
 refine⟨_,rfl,?_,(Below.refl _ _).alloc (Nat.le_refl _) _⟩
 have h:=Ap.lit (e:=142) (base:=w.heap.size) (size:=1) w BS.cells 8 (Nat.le_refl _) (by unfold maxLen;omega) (by rw[Jv])
 rw[ZeW]at h;exact h
set_option maxRecDepth 100000 in
set_option maxHeartbeats 4000000 in
theorem Zcj(st:S8)(gh ch g o c:Nat)(l:List UInt8)(w:World)(hh:∀j,j<8→w.cell? ⟨gh,j,none⟩=some (Ag (st.list.getD j 0)))(hgh:gh<w.heap.size)(hch:8≤ch)
  (hcell:∀j,j<64→w.cell? ⟨g,o+j,none⟩=some (w8 (l.getD j 0)))(hl:l.length=64)(hc:64≤c)(hB:g<w.heap.size):
  Calls Tryz.prog 146 #[.slice (some ⟨gh,0,none⟩) 8 ch,.slice (some ⟨g,o,none⟩) 64 c] w fun e w'=>∃v',e=.returned v'∧Ap w' w.heap.size 142 1 v' (Gk st l).cells∧Below w.heap.size w w':=by
 have Hh:=Veil.mk hh;clear hh;have Hcell:=Veil.mk hcell;clear hcell;have Hl:=Veil.mk hl;clear hl;have Hr:Rd w w.heap.size 1 (.slice (some ⟨gh,0,none⟩) 8 ch) st.cells:=⟨_,8,ch,rfl,hch,rfl,fun _=>⟨_,rfl,hgh,fun j u hu=>by
  have hj:j<8:=(List.getElem?_eq_some_iff.1 hu).1
  rw[Addr.add_lit,Nat.zero_add,Hh.out j hj];rw[Zhy,List.getElem?_map]at hu
  rw[List.getD_eq_getElem?_getD]
  obtain⟨x,hx,rfl⟩:=Option.map_eq_some_iff.1 hu;rw[hx];rfl⟩⟩
 have HR:=Veil.mk Hr;clear Hr;go_enter Tryz.func146,Tryz.ntmps146
 go_wp2_with (first
  | (go_at_call 239
     refine(ZbT g o c l _ Hcell.out Hl.out hc hB).mono ?_
     rintro e w1 ⟨vw,rfl,ownw,hb1⟩
     have hs1:=hb1.size;have HB1:=Veil.mk hb1;clear hb1)
  | (go_at_call 240
     refine(ZcH _).mono ?_
     rintro e w2 ⟨vk,rfl,ownk,hb2⟩
     have hs2:=hb2.size;have HB2:=Veil.mk hb2;clear hb2;have Hownw:=Veil.mk (ownw.below HB2.out (Nat.le_refl _));clear ownw;have Hownk:=Veil.mk ownk;clear ownk;have HB:=Veil.mk (HB1.out.trans (HB2.out.mono hs1));clear HB1 HB2;have HR2:=Veil.mk (HR.out.below HB.out);have HO8:=Veil.mk (P4 st.list);have H0:=Veil.mk (Ap.lit (e:=142) (base:=w.heap.size) (size:=1) w2 [] 0 (by omega) (by unfold maxLen;omega) rfl)
     have HR3:=Veil.mk (HR2.out.alloc (Nat.le_trans hs1 hs2) (.cells #[] 142));have hle2:w.heap.size≤(w2.alloc (.cells #[] 142)).heap.size:=by simp;omega
     clear HR HR2)
  | (at_builtin
     go_loud (refine Yt (w2.alloc (.cells #[] 142)) rfl _ _ _ rfl QY H0.out rfl HR3.out rfl HO8.out ?_ ?_ hle2 ?_)
     rotate_left 2;intro v3 w3 own3 gr3 hx3;clear hx3;have gr3:w2.grownBy w3 (some w2.heap.size):=QB gr3;have hs3:=gr3.size;have HBw:Below w.heap.size w w3:=HB.out.grown gr3 (by omega) (fun k hk=>by cases hk;omega)
     have own3:Ap w3 w.heap.size 142 1 v3 (st.list.map Ag):=own3;have hw3:=Hownw.out.grown gr3 (fun g hg=>by have :=(Hownw.out.block g hg).2;simp;omega)
     have hk3:=Hownk.out.grown gr3 (fun g hg=>by have :=(Hownk.out.block g hg).2;simp;omega)
     clear gr3 H0 HR3 HO8))
 rotate_left 1
 ·show(0+8)*4≤_;omega
 ·show 0+8≤_;omega
 obtain⟨gw,cw,rfl,hcw,hbw,hgw,hcellw⟩:=hw3.form (by rw[List.length_map,J4];omega)
 obtain⟨gk,ck,rfl,hck,hbk,hgk,hcellk⟩:=hk3.form (by rw[List.length_map,Ni];omega)
 have CW:=Veil.mk (Mv hcellw);clear hcellw hw3 Hownw;have CK:=Veil.mk (Mv hcellk);clear hcellk hk3 Hownk;rw[List.length_map,J4]at hcw ⊢;rw[List.length_map,Ni]at hck ⊢;have HBw:=Veil.mk HBw;have HB3:=Veil.mk (Below.refl w3.heap.size w3);have Own3:=Veil.mk own3;clear own3;go_loopw [7,8,9,10,11,12] (fun v i _ _ _ _ wr=>∃(n:Nat) (s:S8),n≤64∧i=.int .i64 n∧Veil (Ap wr w.heap.size 142 1 v (s.list.map Ag))∧Veil (s=IY l st n)∧Veil (Below w3.heap.size w3 wr)) (fun _ i _ _ _ _ _=>64-(intOf i).toNat)
 case atStart=>exact⟨0,st,by omega,rfl,Own3,⟨rfl⟩,HB3⟩
 case round=>
  obtain⟨n,s,hn,rfl,Hown,Hs,HBr⟩:=hrel;obtain⟨gv,cv,rfl,hcv,hbv,hgv,hcellv⟩:=Hown.out.form (by rw[List.length_map,Jf];omega)
  rw[List.length_map,Jf]at hcv ⊢;have CV:=Veil.mk (Mv hcellv);clear hcellv;by_cases hlt:n<64
  ·have ck:=(HBr.out.cell hgk).trans (CK.out n (by rw[Ni];exact hlt))
   have cw:=(HBr.out.cell hgw).trans (CW.out n (by rw[J4];exact hlt))
   have hrd:IY l st (n+1)=J9 (EZ.getD n 0) ((Dj l).getD n 0) s:=by rw[IY,←Hs.out]
   generalize EZ.getD n 0=kn at ck hrd;generalize (Dj l).getD n 0=xn at cw hrd;have Hrd:=Veil.mk hrd;clear hrd;obtain⟨sa,sb,sc,sd,se,sf,sg,sh⟩:=s;have c0:wr.cell? ⟨gv,0,none⟩=some (Ag sa):=CV.out 0 (by show 0<8;omega)
   have c1:wr.cell? ⟨gv,1,none⟩=some (Ag sb):=CV.out 1 (by show 1<8;omega)
   have c2:wr.cell? ⟨gv,2,none⟩=some (Ag sc):=CV.out 2 (by show 2<8;omega)
   have c3:wr.cell? ⟨gv,3,none⟩=some (Ag sd):=CV.out 3 (by show 3<8;omega)
   have c4:wr.cell? ⟨gv,4,none⟩=some (Ag se):=CV.out 4 (by show 4<8;omega)
   have c5:wr.cell? ⟨gv,5,none⟩=some (Ag sf):=CV.out 5 (by show 5<8;omega)
   have c6:wr.cell? ⟨gv,6,none⟩=some (Ag sg):=CV.out 6 (by show 6<8;omega)
   have c7:wr.cell? ⟨gv,7,none⟩=some (Ag sh):=CV.out 7 (by show 7<8;omega)
   clear CV;go_wp2
   go_quiet ((go_at_call 241;first|exact Calls.quiet_of (LB _ _ _ (by omega) (by omega))|exact quiet_more (LB _ _ _ (by omega) (by omega))))
   go_wp2
   go_quiet (fail)
   go_wp2
   generalize hwq:World.drewN (World.drewN wr _) _=wq;have c0:wq.cell? ⟨gv,0,none⟩=some (Ag sa):=by rw[←hwq];exact c0
   have c1:wq.cell? ⟨gv,1,none⟩=some (Ag sb):=by rw[←hwq];exact c1
   have c2:wq.cell? ⟨gv,2,none⟩=some (Ag sc):=by rw[←hwq];exact c2
   have c3:wq.cell? ⟨gv,3,none⟩=some (Ag sd):=by rw[←hwq];exact c3
   have c4:wq.cell? ⟨gv,4,none⟩=some (Ag se):=by rw[←hwq];exact c4
   have c5:wq.cell? ⟨gv,5,none⟩=some (Ag sf):=by rw[←hwq];exact c5
   have c6:wq.cell? ⟨gv,6,none⟩=some (Ag sg):=by rw[←hwq];exact c6
   have c7:wq.cell? ⟨gv,7,none⟩=some (Ag sh):=by rw[←hwq];exact c7
   have HBq:=Veil.mk (show Below w3.heap.size w3 wq by rw[←hwq];exact Ir (Ir HBr.out _) _)
   clear hwq ck cw;go_quiet ((go_at_call 241;first|exact Calls.quiet_of (LB _ _ _ (by omega) (by omega))|(refine quiet_more ?_;exact LB _ _ _ (by omega) (by omega))))
   go_wp2
   go_quiet (fail)
   go_wp2
   generalize hwz:World.drewN (World.drewN wq _) _=wz;have c0:wz.cell? ⟨gv,0,none⟩=some (Ag sa):=by rw[←hwz];exact c0
   have c1:wz.cell? ⟨gv,1,none⟩=some (Ag sb):=by rw[←hwz];exact c1
   have c2:wz.cell? ⟨gv,2,none⟩=some (Ag sc):=by rw[←hwz];exact c2
   have c3:wz.cell? ⟨gv,3,none⟩=some (Ag sd):=by rw[←hwz];exact c3
   have c4:wz.cell? ⟨gv,4,none⟩=some (Ag se):=by rw[←hwz];exact c4
   have c5:wz.cell? ⟨gv,5,none⟩=some (Ag sf):=by rw[←hwz];exact c5
   have c6:wz.cell? ⟨gv,6,none⟩=some (Ag sg):=by rw[←hwz];exact c6
   have HBz:=Veil.mk (show Below w3.heap.size w3 wz by rw[←hwz];exact Ir (Ir HBq.out _) _)
   clear hwz HBq;have hsz:=HBz.out.size;refine wp_region_still_tail 26 (by kernel_rfl) (by kernel_rfl) ?_
   simp only[List.take_succ_cons,List.take_zero,List.drop_succ_cons,List.drop_zero];repeat still_step
   refine wpStill_nil ?_
   change wpList _ _ _ _ _ wz.drew;go_wp2
   have HBn:=Veil.mk ((HBz.out.drew).alloc hsz (.cells (J9 kn xn ⟨sa,sb,sc,sd,se,sf,sg,sh⟩).cells.toArray 142));have HOn:=Veil.mk (Ap.lit (e:=142) (base:=w.heap.size) (size:=1) wz.drew (J9 kn xn ⟨sa,sb,sc,sd,se,sf,sg,sh⟩).cells 8 (Nat.le_trans HBw.out.size hsz) (by unfold maxLen;omega) rfl)
   go_roundw
   case rel=>exact⟨n+1,J9 kn xn ⟨sa,sb,sc,sd,se,sf,sg,sh⟩,by omega,by go_num,HOn,⟨Hrd.out.symm⟩,HBn⟩
   case measure=>simp[intOf];omega
  ·have hn64:64≤n:=by omega
   have Hm:Veil (Gk st l=st.add s):=⟨by
    obtain rfl:n=64:=by omega
    rw[Gk,←Hs.out]⟩
   have HBw2:=Veil.mk (HBw.out.trans (HBr.out.mono HBw.out.size));clear CV hlt HBr Hs;go_wp2
   go_loopw [13] (fun i wr=>∃k:Nat,k≤8∧i=.int .i64 k∧Veil (Ap wr w.heap.size 142 1 (.slice (some ⟨gv,0,none⟩) 8 cv) ((Gx s.list st.list k).map Ag))∧Veil (Below w.heap.size w wr)) (fun i _=>8-(intOf i).toNat)
   case atStart=>exact⟨0,by omega,rfl,Hown,HBw2⟩
   case round=>
    clear Hown HBw2 hgv;obtain⟨k,hk,rfl,Hown,HB⟩:=hrel;by_cases hlt:k<8
    ·have hal:=Zif s.list st.list k
     rw[Jf]at hal;obtain⟨gv',cv',hv',_,hbg,hgv,hcellv⟩:=Hown.out.form (by rw[List.length_map];omega)
     obtain⟨rfl,rfl⟩:gv=gv'∧cv=cv':=by
      simp only[Value.slice.injEq,Option.some.injEq,Addr.mk.injEq]at hv';exact⟨hv'.1.1,hv'.2.2⟩
     clear hv';have cv:=Mv hcellv k (by omega)
     have chh:=(HB.out.cell hgh).trans (Hh.out k hlt);have hfz:=Hown.out.free k (by rw[List.length_map];omega)
     clear hcellv;have hset:Gx s.list st.list (k+1)=(Gx s.list st.list k).set k ((Gx s.list st.list k).getD k 0+st.list.getD k 0):=rfl;generalize (Gx s.list st.list k).getD k 0=x at cv hset;generalize st.list.getD k 0=y at chh hset;have Hset:=Veil.mk hset;clear hset;have Hal:=Veil.mk hal;clear hal;have k8:(k:Int)<8:=by omega
     go_wp2
     refine wp_region_still_tail 12 (by kernel_rfl) (by kernel_rfl) ?_
     simp only[List.take_succ_cons,List.take_zero,List.drop_succ_cons,List.drop_zero];repeat still_step
     refine wpStill_nil ?_
     change wpList _ _ _ _ _ wr.drew;go_wp2
     have HOn:=Veil.mk (Hown.out.drew.set k (by rw[List.length_map];have :=Hal.out;omega) (Ag (x+y)))
     have HBn:=Veil.mk ((Ir HB.out 1).setCell (p:=⟨gv,k,none⟩) hbg (Ag (x+y)));go_roundw
     case rel=>exact⟨k+1,by omega,by go_num,⟨by rw[Hset.out,List.map_set];exact HOn.out⟩,HBn⟩
     case measure=>simp[intOf];omega
    ·have hk8:8≤k:=by omega
     have hfin:(Gx s.list st.list k).map Ag=(Gk st l).cells:=by
      obtain rfl:k=8:=by omega
      rw[Hm.out,Zig]
     have Hf:=Veil.mk hfin;clear hfin;clear hlt;go_wp2
     go_ret
     exact⟨_,rfl,by rw[←Hf.out];exact Hown.out,HB.out⟩
end
section
open Go.RowKit Sm
set_option maxRecDepth 100000 in
set_option maxHeartbeats 2000000 in
theorem Zca(s:ByteArray)(w:World)(hs:s.size≤70368744177664):
  Calls Tryz.prog 75 #[.string s] w fun e w'=>e=.returned (.string ⟨(sha s.data.toList).toArray⟩)∧Below w.heap.size w w':=by
 have hm:s.size≤maxLen:=by unfold maxLen;omega
 go_enter Tryz.func75,Tryz.ntmps75
 go_wp2_with (first
  |(refine XR w rfl _ _ (.tmp 10) rfl 5 s rfl Tryz.underlying9 Tryz.underlying133 Tryz.underlying5 hm (base:=w.heap.size) (Nat.le_refl _) ?_;intro v0 w0 own0 gr0 hx;clear hx)
  |(at_builtin;refine Iu w0 rfl _ _ _ rfl GP [.int .u8 128] own0 rfl rfl ?_ ?_ ?_ ?_ ?_;rotate_left 4;intro v1 w1 own1 gr1))
 rotate_left 1
 ·exact G6 rfl
 ·simp;omega
 ·simp;omega
 ·exact gr0.size
 have hb1:Below w.heap.size w w1:=Gu ((Below.refl _ _).grown gr0 (Nat.le_refl _) (fun k hk=>by cases hk)) gr1 own0 (Nat.le_refl _) gr0.size
 have own1':Ap w1 w.heap.size 5 1 v1 ((C4 s.data.toList 0).map w8):=by
  rw[show((C4 s.data.toList 0).map w8)=s.data.toList.map w8++[.int .u8 128]from by simp[C4];rfl]
  exact own1
 clear own0 gr0 gr1 own1;have hl:s.data.toList.length=s.size:=by simp
 generalize hs0:s.data.toList=l at own1' hl ⊢;have Hl:=Veil.mk hl;have Hs0:=Veil.mk hs0;clear hl hs0;go_loopw [3] (fun v wr=>∃(N z:Nat) (A:Option Addr) (c:Nat),v=.slice A N c∧Veil (N=l.length+1+z)∧z≤BP (l.length+1)∧Ap wr w.heap.size 5 1 (.slice A N c) ((C4 l z).map w8)∧Below w.heap.size w wr) (fun v _=>l.length+1+BP (l.length+1)-lenOf v)
 case atStart=>
  obtain⟨A,c,rfl⟩:=own1'.len1;exact⟨_,0,A,c,rfl,⟨by rw[List.length_map,F1]⟩,Nat.zero_le _,own1',hb1⟩
 case round=>
  obtain⟨N,z,A,c,rfl,HN,hz,hown,hb⟩:=hrel;have hzl:=O0 (l.length+1);have hNs:N≤70368744177964:=by have :=HN.out;have :=Hl.out;omega
  have hmod:((N:Int) % 64 !=56)=decide (z<BP (l.length+1)):=by
   have h1:=O1 (l.length+1);have h2:=RR (l.length+1) z;rw[HN.out];by_cases hlt:z<BP (l.length+1)
   ·have :=h2 hlt
    simp only[hlt,decide_true,bne_iff_ne];omega
   ·obtain rfl:z=BP (l.length+1):=by omega
    simp only[hlt,decide_false,bne_eq_false_iff_eq];omega
  have hle:=hb.size;by_cases hlt:z<BP (l.length+1)
  ·have ht:((N:Int) % 64 !=56)=true:=by rw[hmod];simpa using hlt
   clear hmod;go_wp2_with (at_builtin;refine Iu wr rfl _ _ _ rfl GP [.int .u8 0] hown rfl rfl ?_ ?_ ?_ hle ?_;rotate_left 3;intro v' w' own' gr')
   rotate_left 1
   ·exact G6 rfl
   ·rw[List.length_map,F1,←HN.out];simp;omega
   ·rw[List.length_map,F1,←HN.out];simp;omega
   have hb':=Gu hb gr' hown (Nat.le_refl _) hle;have own2:Ap w' w.heap.size 5 1 v' ((C4 l (z+1)).map w8):=by rw[WR,List.map_append];exact own'
   clear own' gr' hown hb;go_wp2
   go_roundw
   obtain⟨A',c',rfl⟩:=own2.len1;case rel=>exact⟨_,z+1,A',c',rfl,⟨by rw[List.length_map,F1]⟩,by omega,own2,hb'⟩
   case measure=>
    obtain⟨A',c',rfl⟩:=own2.len1;simp only[lenOf,List.length_map,F1];have :=HN.out;omega
  ·have ht:((N:Int) % 64 !=56)=false:=by rw[hmod];simpa using hlt
   obtain rfl:z=BP (l.length+1):=by omega
   clear hmod;go_wp2
   generalize hX:8#64*BitVec.ofNat 64 s.size=X;have HX:Veil (X=BitVec.ofInt 64 (l.length:Int)*8#64):=⟨by rw[←hX,Hl.out,BitVec.mul_comm,BitVec.ofInt_natCast]⟩
   clear hX;go_loopw [3,5] (fun v i wr=>∃(M j:Nat) (A:Option Addr) (c:Nat),v=.slice A M c∧j≤8∧i=.int .i64 (56-8*(j:Int))∧Ap wr w.heap.size 5 1 (.slice A M c) ((C4 l (BP (l.length+1))++EU X j).map w8)∧Below w.heap.size w wr) (fun _ i _=>(intOf i+8).toNat)
   case atStart=>exact⟨N,0,A,c,rfl,by omega,rfl,by simpa[EU] using hown,hb⟩
   case round=>
    clear hown hb hle;obtain⟨M,j,A',c',rfl,hj,rfl,hown,hb⟩:=hrel;have hle:=hb.size;have hlen:(C4 l (BP (l.length+1))++EU X j).length≤70368744177964:=by
     rw[List.length_append,F1]
     have:(EU X j).length≤8:=by simp[EU,MB];omega
     have :=Hl.out;omega
    by_cases hlt:j<8
    ·have hge:(0:Int)≤56-8*(j:Int):=by omega
     go_wp2_with (at_builtin;refine Iu wr rfl _ _ _ rfl GP [_] hown rfl rfl ?_ ?_ ?_ hle ?_;rotate_left 3;intro v' w' own' gr')
     rotate_left 1
     ·exact G6 rfl
     iterate 2
      ·rw[List.length_map];simp only[List.length_singleton];omega
     have hb':=Gu hb gr' hown (Nat.le_refl _) hle;have own2:Ap w' w.heap.size 5 1 v' ((C4 l (BP (l.length+1))++EU X (j+1)).map w8):=by
      rw[Yk _ _ hlt,←List.append_assoc,List.map_append];exact own'
     clear own' gr' hown hb;obtain⟨A2,c2,rfl⟩:=own2.len1;go_wp2
     go_roundw
     case rel=>exact⟨_,j+1,A2,c2,rfl,by omega,by go_num,own2,hb'⟩
     case measure=>simp[intOf];omega
    ·have hj8:8≤j:=by omega
     have hP:C4 l (BP (l.length+1))++EU X j=FR l:=by
      obtain rfl:j=8:=by omega
      rw[HX.out];rfl
     rw[hP]at hown hlen;have hPl:(FR l).length % 64=0:=WQ l l.length;have hP0:0<(FR l).length:=by unfold FR;rw[QX];omega
     have hst:=Zdh l;generalize FR l=P at hown hlen hPl hP0 hst;have Hst:=Veil.mk hst;clear hst hP;obtain⟨gp,cp,hv,hcp,hbp,hgp,hcellp⟩:=hown.form (by rw[List.length_map];exact hP0)
     rw[hv]at hown ⊢;clear hv;rw[List.length_map]at hcp hown ⊢;have HP:=Veil.mk hcellp;clear hcellp;have hneg:¬(0:Int)≤56-8*(j:Int):=by omega
     go_wp2_with (go_at_call 145;refine(Zcp _).mono ?_;rintro e w2 ⟨vh,rfl,ownh,hb2⟩)
     have hbB:=Veil.mk (hb.trans (hb2.mono hle));have hownh:=Veil.mk (ownh.less hle);have Hown2:=Veil.mk (hown.below hb2 (Nat.le_refl _));have hs2:=hb2.size;clear hown hb ownh hb2 HP;go_loopw [6,7] (fun v i wr=>∃(m gh ch:Nat),v=.slice (some ⟨gh,0,none⟩) 8 ch∧64*m≤P.length∧i=.int .i64 (64*(m:Int))∧Veil (Ap wr w.heap.size 142 1 (.slice (some ⟨gh,0,none⟩) 8 ch) ((BF P BS m).list.map Ag))∧Veil (Ap wr w.heap.size 5 1 (.slice (some ⟨gp,0,none⟩) P.length cp) (P.map w8))∧Veil (Below w.heap.size w wr)) (fun _ i _=>P.length-(intOf i).toNat)
     case atStart=>
      obtain⟨gh,ch,hv,_⟩:=hownh.out.form (by show 0<8;omega)
      subst hv;exact⟨0,gh,ch,rfl,by omega,rfl,hownh,Hown2,hbB⟩
     case round=>
      clear hownh Hown2 hbB hle hs2 hgp hbp;obtain⟨m,gh,ch,rfl,hm,rfl,Hown,HownP,HB⟩:=hrel;have hle:=HB.out.size;obtain⟨gh',ch',hv,hch,hbh,hgh,hcellh⟩:=Hown.out.form (by rw[List.length_map,Jf];omega)
      obtain⟨rfl,rfl⟩:gh=gh'∧ch=ch':=by
       simp only[Value.slice.injEq,Option.some.injEq,Addr.mk.injEq]at hv;exact⟨hv.1.1,hv.2.2⟩
      clear hv;rw[List.length_map,Jf]at hch;have CH:=Veil.mk (Mv hcellh);clear hcellh;by_cases hlt:64*m<P.length
      ·have h64:64*m+64≤P.length:=by omega
       obtain⟨gp',cp',hv,_,hbp,hgp,hcellp⟩:=HownP.out.form (by rw[List.length_map];exact hP0)
       obtain⟨rfl,rfl⟩:gp=gp'∧cp=cp':=by
        simp only[Value.slice.injEq,Option.some.injEq,Addr.mk.injEq]at hv;exact⟨hv.1.1,hv.2.2⟩
       clear hv;have CP:Veil (∀j,j<64→wr.cell? ⟨gp,64*m+j,none⟩=some (w8 (((P.drop (64*m)).take 64).getD j 0))):=⟨fun j hj=>hcellp _ _ (by
        rw[List.getElem?_map,List.getElem?_eq_getElem (by omega),List.getD_eq_getElem?_getD,List.getElem?_take_of_lt hj,List.getElem?_drop,List.getElem?_eq_getElem (by omega)];rfl)⟩
       clear hcellp;have hbl:((P.drop (64*m)).take 64).length=64:=by rw[List.length_take,List.length_drop];omega
       have Hbl:=Veil.mk hbl;clear hbl;have hcap:64*m<cp:=by omega
       have hcap1:(64:Int)*(m:Int)<cp:=by omega
       have hcap2:(64:Int)*(m:Int)+64≤cp:=by omega
       have hcap3:¬(cp=64*m):=by omega
       have hcap4:64≤cp-64*m:=by omega
       go_wp2_with (go_at_call 146;go_loud (refine(Zcj (BF P BS m) gh ch gp (64*m) (cp-64*m) ((P.drop (64*m)).take 64) _ CH.out hgh hch CP.out Hbl.out hcap4 hgp).mono ?_);rintro e w' ⟨v',rfl,ownv,hb'⟩)
       have hab:BF P BS (m+1)=Gk (BF P BS m) ((P.drop (64*m)).take 64):=rfl;have Hab:=Veil.mk hab;clear hab;have ownv2:Veil (Ap w' w.heap.size 142 1 v' ((BF P BS (m+1)).list.map Ag)):=⟨by rw[Hab.out];exact ownv.less hle⟩
       have HownP2:=Veil.mk (HownP.out.below hb' (Nat.le_refl _));have HB2:=Veil.mk (HB.out.trans (hb'.mono hle));clear ownv hb' Hown HownP HB CP CH;obtain⟨gh2,ch2,hv,_⟩:=ownv2.out.form (by rw[List.length_map,Jf];omega)
       subst hv;go_roundw
       case rel=>exact⟨m+1,gh2,ch2,rfl,by omega,by go_num,ownv2,HownP2,HB2⟩
       case measure=>simp[intOf];omega
      ·have hm64:¬(64:Int)*(m:Int)<P.length:=by omega
       have hfin:J3 l=BF P BS m:=by
        rw[←Hst.out];congr 1
        omega
       have Hfin:=Veil.mk hfin;clear hfin;generalize BF P BS m=st at Hfin CH Hown;clear HownP;go_wp2
       go_loopw [8,9] (fun v i wx=>∃k:Nat,k≤32∧i=.int .i64 k∧Ap wx wr.heap.size 5 1 v ((GI st k).map w8)∧Below wr.heap.size wr wx) (fun _ i _=>32-(intOf i).toNat)
       case atStart=>exact⟨0,by omega,rfl,Ap.nil _ _ _ _,Below.refl _ _⟩
       case round=>
        obtain⟨k,hk,rfl,hown,hb⟩:=hrel;have hle:=hb.size;by_cases hlt:k<32
        ·have ch4:=(hb.cell (p:=⟨gh,k / 4,none⟩) hgh).trans (CH.out (k / 4) (by rw[Jf];omega))
         have hsn:=Zdk st k;generalize st.list.getD (k / 4) 0=x at ch4 hsn;have Hsn:=Veil.mk hsn;clear hsn;have q0:0≤(k:Int) / 4:=by omega
         have q1:(k:Int) / 4<8:=by omega
         have q2:((k:Int) / 4).toNat=k / 4:=by omega
         have q3:8*((k:Int) % 4)≤24:=by omega
         have q4:(24-8*((k:Int) % 4)).toNat=24-8*(k % 4):=by omega
         have Hlen:=Veil.mk (Zdl st k);go_wp2_with (at_builtin;refine Iu wr rfl _ _ _ rfl GP [_] hown rfl rfl ?_ ?_ ?_ hle ?_;rotate_left 3;intro v' w' own' gr')
         rotate_left 1
         ·exact G6 rfl
         iterate 2
          ·rw[List.length_map,Hlen.out];simp only[List.length_singleton];omega
         have own2:=own';rw[show ∀y,(GI st k).map w8++[w8 y]=((GI st k)++[y]).map w8 from fun y=>by rw[List.map_append];rfl,←Hsn.out]at own2
         have hb':=Gu hb gr' hown (Nat.le_refl _) hle;clear own' gr' hown hb q0 q1 q2 q3 q4;go_roundw
         case rel=>exact⟨k+1,by omega,by go_num,own2,hb'⟩
         case measure=>simp[intOf];omega
        ·obtain rfl:k=32:=by omega
         have hc:=Nl (P:=Tryz.prog) wr 133 9 5 Tryz.underlying133 Tryz.underlying5 Tryz.underlying9 hown.rd;have hfin:(GI st 32)=sha l:=by rw[Zdm,sha,Hfin.out]
         have Hfin2:=Veil.mk hfin;clear hfin;have HBf:=Veil.mk (HB.out.trans (hb.mono HB.out.size));go_wp2
         go_ret
         exact⟨by rw[Hs0.out,←Hfin2.out];rfl,HBf.out⟩
end
end
section
namespace Pe
open Tryz
open Go Go.RowKit Sm
instance tabs:Tab:=⟨fun b i=>if b=1∧i<64 then some (Ag (EZ.getD i 0))else if b=0∧i<8 then some (Ag (BS.list.getD i 0))else none⟩
theorem Ds.of{w:World}{g:Gh}(h:KF w g):Ds w:=by
 refine⟨fun i hi=>(h 1 i _ ?_).2,fun i hi=>(h 0 i _ ?_).2⟩
 ·show(if _ then _ else _)=_
  rw[if_pos ⟨rfl,hi⟩]
 ·show(if _ then _ else _)=_
  rw[if_neg (fun e=>absurd e.1 (by decide)),if_pos ⟨rfl,hi⟩]
theorem Px(l:List UInt8)(h:l.length≤70368744177664):AC prog 46 [.st l] [] (.st (sha l)) []:=by
 refine AC.ofBelow (by kernel_rfl) fun w g cargs ht hargs=>?_
 rw[LX hargs];refine(Zbz ⟨l.toArray⟩ w (by simp[ByteArray.size];omega) (Ds.of ht)).mono ?_
 rintro r w' ⟨rfl,hb⟩
 refine⟨_,rfl,fun g'=>?_,hb⟩
 exact .st g' _
theorem J8(l:List UInt8)(h:l.length≤70368744177664):AC prog 75 [.st l] [] (.st (sha l)) []:=by
 refine AC.ofBelow (by kernel_rfl) fun w g cargs ht hargs=>?_
 rw[LX hargs];refine(Zca ⟨l.toArray⟩ w (by simp[ByteArray.size];omega)).mono ?_
 rintro r w' ⟨rfl,hb⟩
 refine⟨_,rfl,fun g'=>?_,hb⟩
 exact .st g' _
end Pe
end
end Go.Proofs.YtipfggegddlgdaaGreatDoor
