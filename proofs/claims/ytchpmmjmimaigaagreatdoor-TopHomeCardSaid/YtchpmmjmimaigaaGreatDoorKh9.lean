import Derived.Test.YtchpmmjmimaigaaGreatDoorKh1
set_option linter.unusedSectionVars false
set_option linter.unusedVariables false
set_option linter.unusedSimpArgs false
namespace Go.Proofs.YtchpmmjmimaigaaGreatDoor
section
namespace Sm
open Go
def Zi0(r:BitVec 32):BitVec 32:=if Io (r&&&1#32) 1#32 then(r>>>1)^^^0x82f63b78#32 else r>>>1
def Y6:Nat→BitVec 32→BitVec 32
 |0,r=>r
 |n+1,r=>Zi0 (Y6 n r)
def ZjD(r:BitVec 32)(b:UInt8):BitVec 32:=Y6 8 (r^^^bw b)
def Zi2(l:List UInt8):BitVec 32:=l.foldl ZjD 0xffffffff#32
def ZmL(l:List UInt8):BitVec 32:= ~~~ (Zi2 l)
theorem ZcI(s:ByteArray)(k:Nat)(h:k<s.size):s.data.toList.take (k+1)=s.data.toList.take k++[s[k]]:=by
 rw[List.take_succ_eq_append_getElem (by simpa using h)];rfl
theorem ZcJ(s:ByteArray)(k:Nat)(h:¬k<s.size):s.data.toList.take k=s.data.toList:=List.take_of_length_le (by simp;omega)
def MB(a b c d:UInt8):BitVec 32:=(bw a<<<24)|||(bw b<<<16)|||(bw c<<<8)|||bw d
def Oa(l:List UInt8)(i:Nat):BitVec 32:=MB (l.getD (4*i) 0) (l.getD (4*i+1) 0) (l.getD (4*i+2) 0) (l.getD (4*i+3) 0)
def DF(x:BitVec 32)(n:Nat):BitVec 32:=(x<<<(32-n))|||(x>>>n)
def A0(x:BitVec 32):BitVec 32:=DF x 7^^^DF x 18^^^x>>>3
def U9(x:BitVec 32):BitVec 32:=DF x 17^^^DF x 19^^^x>>>10
def Gq(l:List UInt8)(k:Nat):List (BitVec 32):=(List.range k).map (Oa l)
def O3(ws:List (BitVec 32))(i:Nat):BitVec 32:=ws.getD (i-16) 0+A0 (ws.getD (i-15) 0)+ws.getD (i-7) 0+U9 (ws.getD (i-2) 0)
def B9(l:List UInt8):Nat→List (BitVec 32)
 |0=>Gq l 16
 |n+1=>B9 l n++[O3 (B9 l n) (16+n)]
def DD(l:List UInt8):List (BitVec 32):=B9 l 48
theorem OG(l:List UInt8)(n:Nat):(B9 l n).length=16+n:=by
 induction n with
 |zero=>simp[B9,Gq]
 |succ n ih=>simp[B9,ih];omega
theorem SN(l:List UInt8)(k:Nat):(Gq l k).length=k:=by simp[Gq]
theorem Ye(l:List UInt8)(k:Nat):Gq l (k+1)=Gq l k++[Oa l k]:=by simp[Gq,List.range_succ]
theorem LF(l:List UInt8):(DD l).length=64:=by rw[DD,OG]
theorem ZhH{α:Type}(l:List α)(x d:α)(j:Nat):(l++[x]).getD j d=if j=l.length then x else l.getD j d:=by
 simp only[List.getD_eq_getElem?_getD,List.getElem?_append]
 split
 ·rename_i h;rw[if_neg (by omega)]
 ·rename_i h
  by_cases hj:j=l.length
  ·subst hj;simp
  ·rw[if_neg hj,List.getElem?_eq_none (by simp;omega),List.getElem?_eq_none (by omega)]
theorem Zh6(s:ByteArray)(a b i:Nat)(h:a+i<b)(hb:b≤s.size)(h':i<(s.extract a b).size):(s.extract a b)[i]=s.data.toList.getD (a+i) 0:=by
 have hs:s.data.size=s.size:=rfl;rw[ByteArray.getElem_extract,List.getD_eq_getElem?_getD,List.getElem?_eq_getElem (by simp;omega)]
 rfl
def Ff:List (BitVec 32):=[1116352408,1899447441,3049323471,3921009573,961987163,1508970993,2453635748,2870763221,3624381080,310598401,607225278,1426881987,1925078388,2162078206,2614888103,3248222580,3835390401,4022224774,264347078,604807628,770255983,1249150122,1555081692,1996064986,2554220882,2821834349,2952996808,3210313671,3336571891,3584528711,113926993,338241895,666307205,773529912,1294757372,1396182291,1695183700,1986661051,2177026350,2456956037,2730485921,2820302411,3259730800,3345764771,3516065817,3600352804,4094571909,275423344,430227734,506948616,659060556,883997877,958139571,1322822218,1537002063,1747873779,1955562222,2024104815,2227730452,2361852424,2428436474,2756734187,3204031479,3329325298]
structure S8 where
 a:BitVec 32
 b:BitVec 32
 c:BitVec 32
 d:BitVec 32
 e:BitVec 32
 f:BitVec 32
 g:BitVec 32
 h:BitVec 32
def S8.list(s:S8):List (BitVec 32):=[s.a,s.b,s.c,s.d,s.e,s.f,s.g,s.h]
def S8.cells(s:S8):List Value:=[Ag s.a,Ag s.b,Ag s.c,Ag s.d,Ag s.e,Ag s.f,Ag s.g,Ag s.h]
theorem Kk(s:S8):s.cells.length=8:=rfl
theorem Zjv(s:S8):s.cells.toArray.size=8:=rfl
theorem ZB(s t:S8):s.cells.length=t.cells.toArray.size:=(Kk s).trans (Zjv t).symm
def S8.add(s t:S8):S8:=⟨s.a+t.a,s.b+t.b,s.c+t.c,s.d+t.d,s.e+t.e,s.f+t.f,s.g+t.g,s.h+t.h⟩
def Wq(k x:BitVec 32)(s:S8):BitVec 32:=s.h+(DF s.e 6^^^DF s.e 11^^^DF s.e 25)+((s.e&&&s.f)^^^(~~~ s.e&&&s.g))+k+x
def ZcE(s:S8):BitVec 32:=(DF s.a 2^^^DF s.a 13^^^DF s.a 22)+((s.a&&&s.b)^^^(s.a&&&s.c)^^^(s.b&&&s.c))
def LL(k x:BitVec 32)(s:S8):S8:=⟨Wq k x s+ZcE s,s.a,s.b,s.c,s.d+Wq k x s,s.e,s.f,s.g⟩
def JO(l:List UInt8)(s:S8):Nat→S8
 |0=>s
 |n+1=>LL (Ff.getD n 0) ((DD l).getD n 0) (JO l s n)
def GT(s:S8)(l:List UInt8):S8:=s.add (JO l s 64)
def B3:S8:=⟨1779033703,3144134277,1013904242,2773480762,1359893119,2600822924,528734635,1541459225⟩
def BZ(m:Nat):Nat:=(120-m % 64) % 64
def NN(x:BitVec 64):List UInt8:=[qb (x>>>56),qb (x>>>48),qb (x>>>40),qb (x>>>32),qb (x>>>24),qb (x>>>16),qb (x>>>8),qb (x>>>0)]
def ending(l:List UInt8)(n:Int):List UInt8:=l++[128]++List.replicate (BZ (l.length+1)) 0++NN (BitVec.ofInt 64 n*8#64)
theorem Qe(m:Nat):BZ m<64:=Nat.mod_lt _ (by omega)
theorem Qf(m:Nat):(m+BZ m) % 64=56:=by unfold BZ;omega
theorem T3(m z:Nat)(h:z<BZ m):(m+z) % 64≠56:=by unfold BZ at h;omega
def Di(l:List UInt8)(z:Nat):List UInt8:=l++[128]++List.replicate z 0
theorem Gr(l:List UInt8)(z:Nat):(Di l z).length=l.length+1+z:=by simp[Di];omega
theorem YB(l:List UInt8)(z:Nat):Di l (z+1)=Di l z++[0]:=by simp[Di,List.replicate_succ']
def Fe(x:BitVec 64)(j:Nat):List UInt8:=(NN x).take j
theorem Z7(x:BitVec 64)(j:Nat)(h:j<8):Fe x (j+1)=Fe x j++[qb (x>>>(56-8*j))]:=by
 rcases j with _|_|_|_|_|_|_|_|j
 all_goals first|rfl|omega
theorem SW(l:List UInt8)(n:Int):(ending l n).length=l.length+1+BZ (l.length+1)+8:=by simp[ending,NN];omega
def BE(l:List UInt8)(st:S8):Nat→S8
 |0=>st
 |n+1=>GT (BE l st n) ((l.drop (64*n)).take 64)
def HJ(x:BitVec 32):List UInt8:=[wb (x>>>24),wb (x>>>16),wb (x>>>8),wb x]
def LD(l:List UInt8):S8:=
 let st:=BE l B3 (l.length / 64)
 let tail:=ending (l.drop (64*(l.length / 64))) l.length
 BE tail st (tail.length / 64)
def sha(l:List UInt8):List UInt8:=(LD l).list.flatMap HJ
theorem ZcF:∀n:Fin 32,0<n.val→(BitVec.ofInt 64 (-(n.val:Int))&&&31#64).toNat=32-n.val∧(32#64-(BitVec.ofInt 64 (-(n.val:Int))&&&31#64)).toNat=n.val:=by decide +kernel
theorem Zex(x:BitVec 32)(n:Int)(h0:0<n)(h:n<32):(x<<<(BitVec.ofInt 64 (-n)&&&31#64).toNat|||x>>>(32#64-(BitVec.ofInt 64 (-n)&&&31#64)).toNat)=DF x n.toNat:=by
 obtain⟨k,rfl⟩:=Int.eq_ofNat_of_zero_le (Int.le_of_lt h0);have :=ZcF ⟨k,by omega⟩ (by simp only;omega)
 simp only at this
 rw[this.1,this.2,DF,Int.toNat_natCast]
theorem YA(l:List UInt8)(n:Int):(ending l n).length % 64=0:=by
 rw[SW];have :=Qf (l.length+1);omega
def digs:List UInt8:=[48,49,50,51,52,53,54,55,56,57,97,98,99,100,101,102]
def J6(b:UInt8):UInt8:=digs.getD b.toNat 0
def hex2(b:UInt8):List UInt8:=[J6 (GL b 4),J6 (b&&&15)]
def hex(l:List UInt8):List UInt8:=l.flatMap hex2
theorem Zhw(l:List UInt8)(b:UInt8):hex (l++[b])=hex l++hex2 b:=by simp[hex]
theorem Zhx(l:List UInt8):(hex l).length=2*l.length:=by
 induction l with
 |nil=>rfl
 |cons b l ih=>
  have:hex (b::l)=hex2 b++hex l:=rfl;rw[this,List.length_append,ih];simp[hex2];omega
theorem ZdK(b:UInt8):(GL b 4).toNat<16:=by
 have :=b.toNat_lt;unfold GL;rw[UInt8.toNat_ofNat'];omega
theorem Zki(b:UInt8):(b&&&15).toNat<16:=by
 rw[UInt8.toNat_and]
 have:b.toNat&&&(15:UInt8).toNat≤15:=Nat.and_le_right;omega
def dig(c:UInt8):UInt8×Bool:=if Gf 48 c&&Gf c 57 then(c-48,true)else if Gf 97 c&&Gf c 102 then(c-97+10,true)else(0,false)
def Ck(l:List UInt8):Nat→Nat
 |0=>0
 |k+1=>256*Ck l k+(l.getD k 0).toNat
def num(l:List UInt8):Nat:=Ck l 8 / 8
theorem nat8_lt(l:List UInt8)(k:Nat):Ck l k<256^k:=by
 induction k with
 |zero=>simp[Ck]
 |succ k ih=>
  have :=(l.getD k 0).toNat_lt;rw[Ck,Nat.pow_succ];omega
theorem Wy(l:List UInt8)(k:Nat)(h:k<8):(BitVec.ofNat 64 (Ck l k)<<<8|||bq (l.getD k 0))=BitVec.ofNat 64 (Ck l (k+1)):=by
 have hlt:=nat8_lt l k;have hp:256^k≤256^7:=Nat.pow_le_pow_right (by omega) (by omega)
 have hb:=(l.getD k 0).toNat_lt;rw[Ck];apply BitVec.eq_of_toNat_eq
 rw[BitVec.toNat_or,BitVec.toNat_shiftLeft,BitVec.toNat_ofNat,BitVec.toNat_ofNat,Nat.shiftLeft_eq];have hq:(bq (l.getD k 0)).toNat=(l.getD k 0).toNat:=by
  unfold bq;rw[BitVec.toNat_setWidth,UInt8.toNat_toBitVec,Nat.mod_eq_of_lt (by omega)]
 rw[hq];generalize (l.getD k 0).toNat=b at hb ⊢;generalize Ck l k=n at hlt ⊢;have h1:n % 2^64=n:=Nat.mod_eq_of_lt (by omega)
 rw[h1];have h2:n*2^8 % 2^64=n*2^8:=Nat.mod_eq_of_lt (by omega)
 rw[h2,nat_join 8 (n*2^8) b (by omega) (by omega)]
 omega
theorem Zf0(l:List UInt8)(k:Nat)(h:k<8)(hk:l.length≤k):BitVec.ofNat 64 (Ck l k)<<<8=BitVec.ofNat 64 (Ck l (k+1)):=by
 have h1:=Wy l k h;have h0:l.getD k 0=0:=by simp[List.getD_eq_getElem?_getD,List.getElem?_eq_none hk]
 rw[h0]at h1;rw[←h1];simp[bq]
theorem Zf4(l:List UInt8):Sw ((BitVec.ofNat 64 (Ck l 8))>>>3)=(num l:Int):=by
 unfold Sw;have hlt:=nat8_lt l 8;have h1:((BitVec.ofNat 64 (Ck l 8))>>>3).toNat=num l:=by
  rw[BitVec.toNat_ushiftRight,BitVec.toNat_ofNat,Nat.mod_eq_of_lt (by omega),Nat.shiftRight_eq_div_pow];rfl
 rw[BitVec.toInt_eq_toNat_of_lt (by rw[h1];unfold num;omega),h1]
theorem Zga{y:ByteArray}(h:0<y.size):y.toList.isEmpty=false:=by
 rw[ByteArray.toList_eq]
 have:y.data.toList.length=y.size:=by simp
 cases hh:y.data.toList with
 |nil=>rw[hh]at this;simp at this;omega
 |cons a l=>rfl
theorem Zij{y:ByteArray}(h:¬0<y.size):y.toList.isEmpty=true:=by
 rw[ByteArray.toList_eq]
 have:y.data.toList.length=y.size:=by simp
 cases hh:y.data.toList with
 |nil=>rfl
 |cons a l=>rw[hh]at this;simp at this;omega
theorem ZiO(st:S8)(j:Nat)(h:j<8):(st.list.take (j+1)).flatMap HJ=(st.list.take j).flatMap HJ++HJ (st.list.getD j 0):=by
 rcases j with _|_|_|_|_|_|_|_|j
 all_goals first|rfl|omega
theorem U7(r:ByteArray)(h:64≤r.size):(r.extract 0 64).size=64:=by rw[ByteArray.size_extract];omega
theorem UH(r:ByteArray):(r.extract 0 64).data.toList=r.data.toList.take 64:=by
 simp[ByteArray.data_extract]
theorem YU(r:ByteArray)(b:Nat)(h:r.size≤b):(r.extract 64 b).data.toList=r.data.toList.drop 64:=by
 have:r.data.toList.length=r.size:=by simp
 rw[ByteArray.data_extract,Array.toList_extract,List.extract_eq_take_drop,List.take_of_length_le (by simp;omega)]
end Sm
end
end Go.Proofs.YtchpmmjmimaigaaGreatDoor
