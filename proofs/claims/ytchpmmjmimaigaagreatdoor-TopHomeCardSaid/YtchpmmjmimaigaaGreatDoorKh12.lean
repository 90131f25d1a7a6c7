import Derived.Test.YtchpmmjmimaigaaGreatDoorKh9
set_option linter.unusedSectionVars false
set_option linter.unusedVariables false
set_option linter.unusedSimpArgs false
namespace Go.Proofs.YtchpmmjmimaigaaGreatDoor
section
section
open Go
section
variable {P:Program} {t:TypeId}
theorem Zfg(a b:BitVec 32)(h:b.toNat≠0):binOp .quo t (Ag a) (Ag b)=pure (Ag (a / b)):=by
 show binOp .quo t (.int .u32 _) (.int .u32 _)=_
 rw[binOp_quo];have ha:=a.isLt;have hz':¬(b.toNat:Int)=0:=by omega
 unfold Ag;rw[BitVec.toNat_udiv];have hd:a.toNat / b.toNat<4294967296:=Nat.lt_of_le_of_lt (Nat.div_le_self _ _) ha;simp only[Op.intDiv,if_neg hz',IntKind.wrap_u32'];congr 2
 rw[←Int.ofNat_tdiv];generalize a.toNat / b.toNat=q at hd ⊢;omega
theorem ZeU(a b:BitVec 32)(h:b.toNat≠0):binOp .rem t (Ag a) (Ag b)=pure (Ag (a % b)):=by
 show binOp .rem t (.int .u32 _) (.int .u32 _)=_
 rw[binOp_rem];have hz':¬(b.toNat:Int)=0:=by omega
 unfold Ag;rw[BitVec.toNat_umod];simp only[Op.intDiv,if_neg hz'];congr 2
@[go_sem] theorem Zl0(a:BitVec 32)(n:Nat)(h:n<4294967296)(h0:0<n):binOp .quo t (Ag a) (.int .u32 (no_index (OfNat.ofNat n)))=pure (Ag (a / (BitVec.ofNat 32 n))):=by
 rw[Ed n h,Zfg];rw[BitVec.toNat_ofNat,Nat.mod_eq_of_lt h];omega
@[go_sem] theorem ZlY(a:BitVec 32)(n:Nat)(h:n<4294967296)(h0:0<n):binOp .rem t (Ag a) (.int .u32 (no_index (OfNat.ofNat n)))=pure (Ag (a % (BitVec.ofNat 32 n))):=by
 rw[Ed n h,ZeU];rw[BitVec.toNat_ofNat,Nat.mod_eq_of_lt h];omega
end
namespace Sm
theorem Zey(x:BitVec 32)(n:Int)(h0:0<n)(h:n<32):(x>>>n.toNat|||x<<<(32-n).toNat)=DF x n.toNat:=by
 rw[DF,BitVec.or_comm,show(32-n).toNat=32-n.toNat from by omega]
theorem Zf3(l:List UInt8):32*(Ck l 7:Int)+((l.getD 7 0).toNat:Int) / 8=(num l:Int):=by
 have h:Ck l 8=256*Ck l 7+(l.getD 7 0).toNat:=rfl;unfold num;rw[h];generalize Ck l 7=n;generalize (l.getD 7 0).toNat=b;omega
theorem Zcb(a b c d:Nat)(ha:a<256)(hb:b<256)(hc:c<256)(hd:d<256):
  (((a*2^24 % 2^32|||b*2^16 % 2^32)|||c*2^8 % 2^32)|||d)=a*16777216+b*65536+c*256+d:=by
 rw[Nat.mod_eq_of_lt (show a*2^24<2^32 from by omega),Nat.mod_eq_of_lt (show b*2^16<2^32 from by omega),Nat.mod_eq_of_lt (show c*2^8<2^32 from by omega)]
 rw[nat_join 24 (a*2^24) (b*2^16) (by omega) (by omega),nat_join 16 (a*2^24+b*2^16) (c*2^8) (by omega) (by omega),nat_join 8 (a*2^24+b*2^16+c*2^8) d (by omega) (by omega)]
theorem RS(x:BitVec 32)(n:Nat)(hx:x.toNat<256)(hn:n≤16777216):(x*BitVec.ofNat 32 n).toNat=x.toNat*n:=by
 rw[BitVec.toNat_mul,BitVec.toNat_ofNat,Nat.mod_eq_of_lt (show n<2^32 from by omega)]
 have h:x.toNat*n≤255*16777216:=Nat.mul_le_mul (by omega) hn
 exact Nat.mod_eq_of_lt (by omega)
theorem TQ(x y:BitVec 32)(h:x.toNat+y.toNat<4294967296):(x+y).toNat=x.toNat+y.toNat:=by
 rw[BitVec.toNat_add];exact Nat.mod_eq_of_lt (by omega)
theorem Zca(a b c d:UInt8):bw a*16777216#32+bw b*65536#32+bw c*256#32+bw d=MB a b c d:=by
 have q:∀x:UInt8,(bw x).toNat=x.toNat:=fun x=>by
  have :=x.toNat_lt;unfold bw;rw[BitVec.toNat_setWidth,UInt8.toNat_toBitVec,Nat.mod_eq_of_lt (by omega)]
 have ha:=a.toNat_lt;have hb:=b.toNat_lt;have hc:=c.toNat_lt;have hd:=d.toNat_lt;apply BitVec.eq_of_toNat_eq
 have m1:=RS (bw a) 16777216 (by rw[q];exact ha) (by omega)
 have m2:=RS (bw b) 65536 (by rw[q];exact hb) (by omega)
 have m3:=RS (bw c) 256 (by rw[q];exact hc) (by omega)
 rw[q]at m1 m2 m3;have s1:=TQ (bw a*16777216#32) (bw b*65536#32) (by rw[m1,m2];omega)
 have s2:=TQ (bw a*16777216#32+bw b*65536#32) (bw c*256#32) (by rw[s1,m1,m2,m3];omega)
 have s3:=TQ (bw a*16777216#32+bw b*65536#32+bw c*256#32) (bw d) (by rw[s2,s1,m1,m2,m3,q];omega)
 rw[s3,s2,s1,m1,m2,m3,q];unfold MB;rw[BitVec.toNat_or,BitVec.toNat_or,BitVec.toNat_or,BitVec.toNat_shiftLeft,BitVec.toNat_shiftLeft,BitVec.toNat_shiftLeft,Nat.shiftLeft_eq,Nat.shiftLeft_eq,Nat.shiftLeft_eq,q,q,q,q];exact(Zcb _ _ _ _ ha hb hc hd).symm
def Ge(l:List UInt8):List UInt8:=ending l l.length
theorem ZkA(l:List UInt8)(st:S8)(n m:Nat):BE l st (n+m)=BE (l.drop (64*n)) (BE l st n) m:=by
 induction m with
 |zero=>rfl
 |succ m ih=>rw[←Nat.add_assoc,BE,BE,ih,List.drop_drop,show 64*n+64*m=64*(n+m)from by omega]
theorem ZaK(l r:List UInt8)(st:S8)(n:Nat)(h:64*n≤l.length):BE (l++r) st n=BE l st n:=by
 induction n with
 |zero=>rfl
 |succ n ih=>
  rw[BE,BE,ih (by omega),List.drop_append_of_le_length (by omega),List.take_append_of_le_length (by rw[List.length_drop];omega)]
theorem ZfN(l:List UInt8):Ge l=l.take (64*(l.length / 64))++ending (l.drop (64*(l.length / 64))) l.length:=by
 unfold Ge ending;have hz:BZ ((l.drop (64*(l.length / 64))).length+1)=BZ (l.length+1):=by
  rw[List.length_drop];unfold BZ;omega
 rw[hz];simp only[←List.append_assoc,List.take_append_drop]
theorem ZfM(l:List UInt8):BE (Ge l) B3 ((Ge l).length / 64)=LD l:=by
 unfold LD;have hl:(l.take (64*(l.length / 64))).length=64*(l.length / 64):=by rw[List.length_take];omega
 have hs:=ZfN l;have hlen:(Ge l).length / 64=l.length / 64+(ending (l.drop (64*(l.length / 64))) l.length).length / 64:=by
  rw[hs,List.length_append,hl];omega
 rw[hlen,ZkA];have e1:(Ge l).drop (64*(l.length / 64))=ending (l.drop (64*(l.length / 64))) l.length:=by
  rw[hs];exact List.drop_left' hl
 have e2:BE (Ge l) B3 (l.length / 64)=BE l B3 (l.length / 64):=by
  rw[hs,ZaK _ _ _ _ (by omega)]
  have e:=ZaK (l.take (64*(l.length / 64))) (l.drop (64*(l.length / 64))) B3 (l.length / 64) (by rw[hl];exact Nat.le_refl _)
  rw[List.take_append_drop]at e;exact e.symm
 rw[e1,e2]
def He(st:S8)(k:Nat):List UInt8:=(List.range k).map fun i=>wb (st.list.getD (i / 4) 0>>>(24-8*(i % 4)))
theorem ZfO(st:S8)(k:Nat):He st (k+1)=He st k++[wb (st.list.getD (k / 4) 0>>>(24-8*(k % 4)))]:=by simp[He,List.range_succ]
theorem ZfP(st:S8)(k:Nat):(He st k).length=k:=by simp[He]
theorem ZfQ(st:S8):He st 32=st.list.flatMap HJ:=by
 obtain⟨a,b,c,d,e,f,g,h⟩:=st;have z:∀x:BitVec 32,x>>>0=x:=fun x=>by simp
 show[wb (a>>>24),wb (a>>>16),wb (a>>>8),wb (a>>>0),wb (b>>>24),wb (b>>>16),wb (b>>>8),wb (b>>>0),wb (c>>>24),wb (c>>>16),wb (c>>>8),wb (c>>>0),wb (d>>>24),wb (d>>>16),wb (d>>>8),wb (d>>>0),wb (e>>>24),wb (e>>>16),wb (e>>>8),wb (e>>>0),wb (f>>>24),wb (f>>>16),wb (f>>>8),wb (f>>>0),wb (g>>>24),wb (g>>>16),wb (g>>>8),wb (g>>>0),wb (h>>>24),wb (h>>>16),wb (h>>>8),wb (h>>>0)]=_
 simp only[z];rfl
end Sm
end
namespace Sm
def G2(r s:List (BitVec 32)):Nat→List (BitVec 32)
 |0=>r
 |k+1=>(G2 r s k).set k ((G2 r s k).getD k 0+s.getD k 0)
theorem Zkm(r s:List (BitVec 32))(k:Nat):(G2 r s k).length=r.length:=by
 induction k with
 |zero=>rfl
 |succ k ih=>rw[G2,List.length_set,ih]
theorem Zkn(r s:S8):(G2 r.list s.list 8).map Ag=(s.add r).cells:=by
 obtain⟨a,b,c,d,e,f,g,h⟩:=r;obtain⟨a',b',c',d',e',f',g',h'⟩:=s;show[Ag (a+a'),Ag (b+b'),Ag (c+c'),Ag (d+d'),Ag (e+e'),Ag (f+f'),Ag (g+g'),Ag (h+h')]=[Ag (a'+a),Ag (b'+b),Ag (c'+c),Ag (d'+d),Ag (e'+e),Ag (f'+f),Ag (g'+g),Ag (h'+h)]
 rw[BitVec.add_comm a,BitVec.add_comm b,BitVec.add_comm c,BitVec.add_comm d,BitVec.add_comm e,BitVec.add_comm f,BitVec.add_comm g,BitVec.add_comm h]
theorem Zjw(s:S8):s.cells=s.list.map Ag:=rfl
theorem J0(s:S8):s.list.length=8:=rfl
theorem Om:Ff.length=64:=rfl
end Sm
end
end Go.Proofs.YtchpmmjmimaigaaGreatDoor
