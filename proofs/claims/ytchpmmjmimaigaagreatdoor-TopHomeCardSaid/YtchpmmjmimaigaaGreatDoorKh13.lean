import Derived.Test.YtchpmmjmimaigaaGreatDoorKh11
import Derived.Test.YtchpmmjmimaigaaGreatDoorKh12
import Derived.Deep.RegionHeld3
set_option linter.unusedSectionVars false
set_option linter.unusedVariables false
set_option linter.unusedSimpArgs false
namespace Go.Proofs.YtchpmmjmimaigaaGreatDoor
section
section
open Go.RowKit Sm
theorem MO(x:BitVec 32)(n:Int)(w:World)(h0:0<n)(h:n<32):
  Calls Tryz.prog 269 #[Ag x,.int .i64 n] w fun e w'=>e=.returned (Ag (DF x n.toNat)) ∧ ∃m,w'=w.drewN m:=by
 have e:=Zey x n h0 h;have E:=Veil.mk e;clear e;have q0:0≤n:=by omega
 have q1:0≤32-n:=by omega
 have q2:n≤32:=by omega
 go_enter Tryz.func269,Tryz.ntmps269
 go_wp2
 go_quiet (fail)
 go_wp2
 go_ret
 rw[←E.out];exact⟨rfl,_,rfl⟩
theorem ZeB(s:ByteArray)(w:World)(hs:s.size≤9223372036854775807):
  Calls Tryz.prog 278 #[.string s] w fun e w'=>e=.returned (.int .i64 (num s.data.toList))∧w=w':=by
 go_enter Tryz.func278,Tryz.ntmps278
 go_wp2
 go_loop [3,4,5] (fun r i _=>∃k:Nat,k≤8∧i=.int .i64 k∧r=.int .i64 (if k≤7 then(Ck s.data.toList k:Int)else(num s.data.toList:Int))) (fun _ i _=>8-(intOf i).toNat)
 case atStart=>exact⟨0,by omega,rfl,rfl⟩
 case round=>
  obtain⟨k,hk,rfl,rfl⟩:=hrel;by_cases hlt:k<8
  ·have h7:k≤7:=by omega
   rw[if_pos h7];have hn:=nat8_lt s.data.toList k;have hp:256^k≤256^7:=Nat.pow_le_pow_right (by omega) h7
   have hnb:Ck s.data.toList k<72057594037927936:=by omega
   clear hn hp;obtain⟨b,hb⟩:∃b:Nat,b=(s.data.toList.getD k 0).toNat:=⟨_,rfl⟩
   have hb8:b<256:=by have :=(s.data.toList.getD k 0).toNat_lt;omega
   have st:k<7→((Ck s.data.toList (k+1):Nat):Int)=256*(Ck s.data.toList k:Int)+(b:Int):=by
    intro _;rw[Ck,hb];omega
   have hsm:k<7→Ck s.data.toList k<281474976710656:=by
    intro h;have h1:=nat8_lt s.data.toList k;have h2:256^k≤256^6:=Nat.pow_le_pow_right (by omega) (by omega)
    omega
   have sl:k=7→(num s.data.toList:Int)=32*(Ck s.data.toList k:Int)+(b:Int) / 8:=by
    intro h;subst h;rw[hb];exact(Zf3 _).symm
   have ek:∀(h:k<s.size),((s[k]).toNat:Int)=(b:Int):=by
    intro h;rw[hb,List.getD_eq_getElem?_getD,List.getElem?_eq_getElem (by simpa using h)];rfl
   have e0:¬k<s.size→(b:Int)=0:=by
    intro h;rw[hb,List.getD_eq_getElem?_getD,List.getElem?_eq_none (by simp;omega)];rfl
   clear hb;generalize hn:Ck s.data.toList k=n at st sl hnb hsm ⊢;have Hn:=Veil.mk hn;have St:=Veil.mk st;have Sl:=Veil.mk sl;have Ek:=Veil.mk ek;have E0:=Veil.mk e0;have Hsm:=Veil.mk hsm;clear hn st sl ek e0 hsm;by_cases hl:k<s.size
   ·have ek:=Ek.out hl
    by_cases hk7:k<7
    ·have hsm:=Hsm.out hk7
     go_wp2
     go_round
     case rel=>exact⟨k+1,by omega,by go_num,Oi (by rw[if_pos (by omega),St.out hk7])⟩
     case measure=>simp[intOf];omega
    ·go_wp2
     go_round
     case rel=>exact⟨k+1,by omega,by go_num,Oi (by rw[if_neg (by omega),Sl.out (by omega)])⟩
     case measure=>simp[intOf];omega
   ·by_cases hk7:k<7
    ·have hsm:=Hsm.out hk7
     go_wp2
     go_round
     case rel=>exact⟨k+1,by omega,by go_num,Oi (by rw[if_pos (by omega),St.out hk7,E0.out hl,Int.add_zero])⟩
     case measure=>simp[intOf];omega
    ·go_wp2
     go_round
     case rel=>exact⟨k+1,by omega,by go_num,Oi (by rw[if_neg (by omega),Sl.out (by omega),E0.out hl];rfl)⟩
     case measure=>simp[intOf];omega
  ·obtain rfl:k=8:=by omega
   rw[if_neg (by omega)]
   go_wp2
   go_ret
   exact⟨rfl,rfl⟩
theorem SY:F0 Tryz.prog 218 173 1 4:=F0.mk' (z:=.int .u32 0) Tryz.underlying218 (by kernel_rfl) rfl (by decide)
set_option maxRecDepth 100000 in
set_option maxHeartbeats 4000000 in
theorem Zea(g o c:Nat)(l:List UInt8)(w:World)(hcell:∀j,j<64→w.cell? ⟨g,o+j,none⟩=some (w8 (l.getD j 0)))(hl:l.length=64)(_hc:64≤c)(hB:g<w.heap.size):
  Calls Tryz.prog 267 #[.slice (some ⟨g,o,none⟩) 64 c] w fun e w'=>∃v',e=.returned v'∧Au w' w.heap.size 173 1 v' ((DD l).map Ag)∧Below w.heap.size w w':=by
 have Hcell:=Veil.mk hcell;clear hcell;have Hl:=Veil.mk hl;clear hl;go_enter Tryz.func267,Tryz.ntmps267
 go_wp2
 go_loopw [3,4] (fun v i wr=>∃k:Nat,k≤16∧i=.int .i64 k∧Au wr w.heap.size 173 1 v ((Gq l k).map Ag)∧Below w.heap.size w wr) (fun _ i _=>16-(intOf i).toNat)
 case atStart=>exact⟨0,by omega,rfl,Au.nil _ _ _ _,Below.refl _ _⟩
 case round=>
  obtain⟨k,hk,rfl,hown,hb⟩:=hrel;have hle:=hb.size;by_cases hlt:k<16
  ·have rd:∀j,j<64→wr.cell? ⟨g,o+j,none⟩=some (w8 (l.getD j 0)):=fun j hj=>(hb.cell hB).trans (Hcell.out j hj)
   have c0:=rd (4*k) (by omega)
   have c1:=rd (4*k+1) (by omega)
   have c2:=rd (4*k+2) (by omega)
   have c3:=rd (4*k+3) (by omega)
   clear rd;have hw:MB (l.getD (4*k) 0) (l.getD (4*k+1) 0) (l.getD (4*k+2) 0) (l.getD (4*k+3) 0)=Oa l k:=rfl;have Hw:=Veil.mk hw;clear hw;generalize l.getD (4*k) 0=b0 at c0 Hw;generalize l.getD (4*k+1) 0=b1 at c1 Hw;generalize l.getD (4*k+2) 0=b2 at c2 Hw;generalize l.getD (4*k+3) 0=b3 at c3 Hw;have c2':wr.cell? ⟨g,o+(4*k+1+1),none⟩=some (w8 b2):=c2;have c3':wr.cell? ⟨g,o+(4*k+2+1),none⟩=some (w8 b3):=c3;clear c2 c3;have hC:∀{W:World},Below w.heap.size w W→W.cell? ⟨g,o+4*k,none⟩=some (w8 b0)∧W.cell? ⟨g,o+(4*k+1),none⟩=some (w8 b1)∧W.cell? ⟨g,o+(4*k+1+1),none⟩=some (w8 b2)∧W.cell? ⟨g,o+(4*k+2+1),none⟩=some (w8 b3):=fun hB'=>
    ⟨(hB'.cell hB).trans ((hb.cell hB).symm.trans c0),(hB'.cell hB).trans ((hb.cell hB).symm.trans c1),(hB'.cell hB).trans ((hb.cell hB).symm.trans c2'),(hB'.cell hB).trans ((hb.cell hB).symm.trans c3')⟩
   have HC:=Veil.mk @hC;clear hC;have hsum:=Zca b0 b1 b2 b3;have Hsum:=Veil.mk (hsum.trans Hw.out);clear hsum Hw;have i0:(4:Int)*(k:Int)<64:=by omega
   have i1:(4:Int)*(k:Int)+1<64:=by omega
   have i2:(4:Int)*(k:Int)+2<64:=by omega
   have i3:(4:Int)*(k:Int)+3<64:=by omega
   have w0:IntKind.i64.wrap (4*(k:Int))=4*(k:Int):=by rw[IntKind.wrap_i64];omega
   have w1:IntKind.i64.wrap (4*(k:Int)+1)=4*(k:Int)+1:=by rw[IntKind.wrap_i64];omega
   have w2:IntKind.i64.wrap (4*(k:Int)+2)=4*(k:Int)+2:=by rw[IntKind.wrap_i64];omega
   have w3:IntKind.i64.wrap (4*(k:Int)+3)=4*(k:Int)+3:=by rw[IntKind.wrap_i64];omega
   have t0:(4*(k:Int)).toNat=4*k:=by omega
   have t1:(4*(k:Int)+1).toNat=4*k+1:=by omega
   have t2:(4*(k:Int)+2).toNat=4*k+2:=by omega
   have t3:(4*(k:Int)+3).toNat=4*k+3:=by omega
   have p0:0≤4*(k:Int):=by omega
   have p1:0≤4*(k:Int)+1:=by omega
   have p2:0≤4*(k:Int)+2:=by omega
   have p3:0≤4*(k:Int)+3:=by omega
   have hl1:(((Gq l k).map Ag).length+[Ag (bw b0*16777216#32+bw b1*65536#32+bw b2*256#32+bw b3)].length)*4≤140737488355328:=by
    rw[List.length_map,SN];simp only[List.length_singleton];omega
   have hl2:((Gq l k).map Ag).length+[Ag (bw b0*16777216#32+bw b1*65536#32+bw b2*256#32+bw b3)].length≤140737488355328:=by
    rw[List.length_map,SN];simp only[List.length_singleton];omega
   have HL1:=Veil.mk hl1;have HL2:=Veil.mk hl2;clear hl1 hl2;go_wp2
   have Hb:=Veil.mk hb;have Hown:=Veil.mk hown;have HlE:=Veil.mk hle;clear hb hown hle;go_region_held3 (fun W=>W.cell? ⟨g,o+4*k,none⟩=some (w8 b0)∧W.cell? ⟨g,o+(4*k+1),none⟩=some (w8 b1)∧W.cell? ⟨g,o+(4*k+1+1),none⟩=some (w8 b2)∧W.cell? ⟨g,o+(4*k+2+1),none⟩=some (w8 b3)) (first|go_keep|exact HC.out hb') (first|(refine QC wr.drew rfl (.tmp 14) (.tmp 48) _ rfl SY [Ag (bw b0*16777216#32+bw b1*65536#32+bw b2*256#32+bw b3)] Hown.out.drew rfl rfl (Ia rfl) HL1.out HL2.out HlE.out ?_;intro v' w' own' gr';have hb':=G1 Hb.out.drew gr' Hown.out.drew (Nat.le_refl _) HlE.out))
   all_goals
    have hb:=Hb.out;have hown:=Hown.out;have hle:=HlE.out;have own2:Au w' w.heap.size 173 1 v' ((Gq l (k+1)).map Ag):=by
     rw[Ye,List.map_append,←Hsum.out];exact own'
    clear own' gr';go_wp2
    go_roundw
    case rel=>exact⟨k+1,by omega,by go_num,own2,hb'⟩
    case measure=>simp[intOf];omega
  ·have hk16:16≤k:=by omega
   have hown:=Veil.mk (show Au wr w.heap.size 173 1 _ ((B9 l (16-16)).map Ag) by
    obtain rfl:k=16:=by omega
    exact hown)
   clear hlt;go_wp2
   go_loopw [3,5,6,7,8,9] (fun v i _ _ _ _ wr=>∃m:Nat,16≤m∧m≤64∧i=.int .i64 m∧Au wr w.heap.size 173 1 v ((B9 l (m-16)).map Ag)∧Below w.heap.size w wr) (fun _ i _ _ _ _ _=>64-(intOf i).toNat)
   case atStart=>exact⟨16,by omega,by omega,rfl,hown.out,hb⟩
   case round=>
    clear hown hb hle;obtain⟨m,hm0,hm,rfl,hown,hb⟩:=hrel;have hle:=hb.size;by_cases hlt:m<64
    ·have hlen:=OG l (m-16)
     obtain⟨gw,cw,rfl,hcw,hbw,hgw,hcellw⟩:=hown.form (by rw[List.length_map];omega)
     rw[List.length_map,hlen,show 16+(m-16)=m from by omega]at hown hcw ⊢
     have rd:∀j,j<m→wr.cell? ⟨gw,j,none⟩=some (Ag ((B9 l (m-16)).getD j 0)):=fun j hj=>hcellw j _ (by
      rw[List.getElem?_map,List.getElem?_eq_getElem (by omega),List.getD_eq_getElem?_getD,List.getElem?_eq_getElem (by omega)];rfl)
     clear hcellw;have c15:=rd (m-15) (by omega)
     have c2:=rd (m-2) (by omega)
     have c7:=rd (m-7) (by omega)
     have c16:=rd (m-16) (by omega)
     clear rd;have hnx:O3 (B9 l (m-16)) m=(B9 l (m-16)).getD (m-16) 0+A0 ((B9 l (m-16)).getD (m-15) 0)+(B9 l (m-16)).getD (m-7) 0+U9 ((B9 l (m-16)).getD (m-2) 0):=rfl;generalize (B9 l (m-16)).getD (m-16) 0=x16 at c16 hnx;generalize (B9 l (m-16)).getD (m-15) 0=x15 at c15 hnx;generalize (B9 l (m-16)).getD (m-7) 0=x7 at c7 hnx;generalize (B9 l (m-16)).getD (m-2) 0=x2 at c2 hnx;have Hnx:=Veil.mk hnx;clear hnx;have Hlen:=Veil.mk hlen;clear hlen;have Hown:=Veil.mk hown;have Hb:=Veil.mk hb;clear hown hb;have b1:16≤(m:Int):=by omega
     have b2:(m:Int)<64:=by omega
     go_wp2_with (go_at_call 269;refine(MO _ _ _ (by omega) (by omega)).mono ?_;rintro e w' ⟨rfl,mm,rfl⟩)
     generalize hwz:World.drewN wr _=wz;have c16:wz.cell? ⟨gw,m-16,none⟩=some (Ag x16):=by rw[←hwz];exact c16
     have c7:wz.cell? ⟨gw,m-7,none⟩=some (Ag x7):=by rw[←hwz];exact c7
     have Hown2:=Veil.mk (show Au wz w.heap.size 173 1 (.slice (some ⟨gw,0,none⟩) m cw) ((B9 l (m-16)).map Ag) by rw[←hwz];exact Hown.out.drewN _)
     have Hb2:=Veil.mk (show Below w.heap.size w wz by rw[←hwz];exact Jp Hb.out _)
     have hle2:=Hb2.out.size;clear hwz c15 c2;have w16:IntKind.i64.wrap ((m:Int)-16)=(m:Int)-16:=by rw[IntKind.wrap_i64];omega
     have w7:IntKind.i64.wrap ((m:Int)-7)=(m:Int)-7:=by rw[IntKind.wrap_i64];omega
     have t16:((m:Int)-16).toNat=m-16:=by omega
     have t7:((m:Int)-7).toNat=m-7:=by omega
     have p16:0≤(m:Int)-16:=by omega
     have p7:0≤(m:Int)-7:=by omega
     have b7:7≤(m:Int):=by omega
     have i16:(m:Int)-16<m:=by omega
     have i7:(m:Int)-7<m:=by omega
     generalize hX:x16+(DF x15 7^^^DF x15 18^^^x15>>>3)+x7+(DF x2 17^^^DF x2 19^^^x2>>>10)=X;have HX:Veil (X=O3 (B9 l (m-16)) m):=⟨by rw[←hX,Hnx.out];rfl⟩
     have hl1:(((B9 l (m-16)).map Ag).length+[Ag X].length)*4≤140737488355328:=by
      rw[List.length_map,Hlen.out];simp only[List.length_singleton];omega
     have hl2:((B9 l (m-16)).map Ag).length+[Ag X].length≤140737488355328:=by
      rw[List.length_map,Hlen.out];simp only[List.length_singleton];omega
     have HL1:=Veil.mk hl1;have HL2:=Veil.mk hl2;clear hl1 hl2 Hb Hown;go_region_law (refine QC wz.drew rfl (.tmp 80) (.tmp 96) _ rfl SY [Ag X] Hown2.out.drew rfl rfl (Ia rfl) HL1.out HL2.out hle2 ?_;intro v' w' own' gr')
     all_goals
      have own2:Au w' w.heap.size 173 1 v' ((B9 l (m+1-16)).map Ag):=by
       rw[show m+1-16=m-16+1 from by omega,B9,show 16+(m-16)=m from by omega,List.map_append,←HX.out];exact own'
      have hb':=G1 Hb2.out.drew gr' Hown2.out.drew (Nat.le_refl _) hle2;clear own' gr' w16 w7 t16 t7 p16 p7 i16 i7;go_wp2
      go_roundw
      case rel=>exact⟨m+1,by omega,by omega,by go_num,own2,hb'⟩
      case measure=>simp[intOf];omega
    ·have hm64:m=64:=by omega
     subst hm64;have hown:Au wr w.heap.size 173 1 _ ((DD l).map Ag):=hown;go_wp2
     go_ret
     exact⟨_,rfl,hown,hb⟩
theorem ZcO:(Ff.map Ag).toArray = #[.int .u32 1116352408,.int .u32 1899447441,.int .u32 3049323471,.int .u32 3921009573,.int .u32 961987163,.int .u32 1508970993,.int .u32 2453635748,.int .u32 2870763221,.int .u32 3624381080,.int .u32 310598401,.int .u32 607225278,.int .u32 1426881987,.int .u32 1925078388,.int .u32 2162078206,.int .u32 2614888103,.int .u32 3248222580,.int .u32 3835390401,.int .u32 4022224774,.int .u32 264347078,.int .u32 604807628,.int .u32 770255983,.int .u32 1249150122,.int .u32 1555081692,.int .u32 1996064986,.int .u32 2554220882,.int .u32 2821834349,.int .u32 2952996808,.int .u32 3210313671,.int .u32 3336571891,.int .u32 3584528711,.int .u32 113926993,.int .u32 338241895,.int .u32 666307205,.int .u32 773529912,.int .u32 1294757372,.int .u32 1396182291,.int .u32 1695183700,.int .u32 1986661051,.int .u32 2177026350,.int .u32 2456956037,.int .u32 2730485921,.int .u32 2820302411,.int .u32 3259730800,.int .u32 3345764771,.int .u32 3516065817,.int .u32 3600352804,.int .u32 4094571909,.int .u32 275423344,.int .u32 430227734,.int .u32 506948616,.int .u32 659060556,.int .u32 883997877,.int .u32 958139571,.int .u32 1322822218,.int .u32 1537002063,.int .u32 1747873779,.int .u32 1955562222,.int .u32 2024104815,.int .u32 2227730452,.int .u32 2361852424,.int .u32 2428436474,.int .u32 2756734187,.int .u32 3204031479,.int .u32 3329325298]:=by kernel_rfl
theorem NI{w:World}{g:Nat}{l:List (BitVec 32)}(h:∀j u,(l.map Ag)[j]? = some u→w.cell? ⟨g,j,none⟩=some u)(j:Nat)(hj:j<l.length):w.cell? ⟨g,j,none⟩=some (Ag (l.getD j 0)):=
 h j _ (by rw[List.getElem?_map,List.getElem?_eq_getElem hj,List.getD_eq_getElem?_getD,List.getElem?_eq_getElem hj];rfl)
theorem Ze8(w:World):Calls Tryz.prog 268 #[] w fun e w'=>∃v,e=.returned v∧Au w' w.heap.size 173 1 v (Ff.map Ag)∧Below w.heap.size w w':=by
 go_enter Tryz.func268,Tryz.ntmps268
 go_wp2
 go_ret
 refine⟨_,rfl,?_,(Below.refl _ _).alloc (Nat.le_refl _) _⟩
 have h:=Au.lit (e:=173) (base:=w.heap.size) (size:=1) w (Ff.map Ag) 64 (Nat.le_refl _) (by unfold maxLen;omega) (by rw[List.length_map,Om])
 rw[ZcO]at h;exact h
theorem Zhl:B3.cells.toArray = #[.int .u32 1779033703,.int .u32 3144134277,.int .u32 1013904242,.int .u32 2773480762,.int .u32 1359893119,.int .u32 2600822924,.int .u32 528734635,.int .u32 1541459225]:=by kernel_rfl
theorem ZeM(w:World):Calls Tryz.prog 161 #[] w fun e w'=>∃v,e=.returned v∧Au w' w.heap.size 173 1 v B3.cells∧Below w.heap.size w w':=by
 go_enter Tryz.func161,Tryz.ntmps161
 go_wp2
 go_ret
 refine⟨_,rfl,?_,(Below.refl _ _).alloc (Nat.le_refl _) _⟩
 have h:=Au.lit (e:=173) (base:=w.heap.size) (size:=1) w B3.cells 8 (Nat.le_refl _) (by unfold maxLen;omega) (by rw[Kk])
 rw[Zhl]at h;exact h
set_option maxRecDepth 100000 in
set_option maxHeartbeats 4000000 in
theorem ZeC(st:S8)(gh ch g o c:Nat)(l:List UInt8)(w:World)(hh:∀j,j<8→w.cell? ⟨gh,j,none⟩=some (Ag (st.list.getD j 0)))(hgh:gh<w.heap.size)(hch:8≤ch)
  (hcell:∀j,j<64→w.cell? ⟨g,o+j,none⟩=some (w8 (l.getD j 0)))(hl:l.length=64)(hc:64≤c)(hB:g<w.heap.size):
  Calls Tryz.prog 162 #[.slice (some ⟨gh,0,none⟩) 8 ch,.slice (some ⟨g,o,none⟩) 64 c] w fun e w'=>∃v',e=.returned v'∧Au w' w.heap.size 173 1 v' (GT st l).cells∧Below w.heap.size w w':=by
 have Hh:=Veil.mk hh;clear hh;have Hcell:=Veil.mk hcell;clear hcell;have Hl:=Veil.mk hl;clear hl;have Hr:Rd w w.heap.size 1 (.slice (some ⟨gh,0,none⟩) 8 ch) st.cells:=⟨_,8,ch,rfl,hch,rfl,fun _=>⟨_,rfl,hgh,fun j u hu=>by
  have hj:j<8:=(List.getElem?_eq_some_iff.1 hu).1
  rw[Addr.add_lit,Nat.zero_add,Hh.out j hj];rw[Zjw,List.getElem?_map]at hu
  rw[List.getD_eq_getElem?_getD]
  obtain⟨x,hx,rfl⟩:=Option.map_eq_some_iff.1 hu;rw[hx];rfl⟩⟩
 have HR:=Veil.mk Hr;clear Hr;go_enter Tryz.func162,Tryz.ntmps162
 go_wp2_with (first
  | (go_at_call 267
     refine(Zea g o c l _ Hcell.out Hl.out hc hB).mono ?_
     rintro e w1 ⟨vw,rfl,ownw,hb1⟩
     have hs1:=hb1.size;have HB1:=Veil.mk hb1;clear hb1)
  | (go_at_call 268
     refine(Ze8 _).mono ?_
     rintro e w2 ⟨vk,rfl,ownk,hb2⟩
     have hs2:=hb2.size;have HB2:=Veil.mk hb2;clear hb2;have Hownw:=Veil.mk (ownw.below HB2.out (Nat.le_refl _));clear ownw;have Hownk:=Veil.mk ownk;clear ownk;have HB:=Veil.mk (HB1.out.trans (HB2.out.mono hs1));clear HB1 HB2;have HR2:=Veil.mk (HR.out.below HB.out);have HO8:=Veil.mk (RJ st.list);have H0:=Veil.mk (Au.lit (e:=173) (base:=w.heap.size) (size:=1) w2 [] 0 (by omega) (by unfold maxLen;omega) rfl)
     have HR3:=Veil.mk (HR2.out.alloc (Nat.le_trans hs1 hs2) (.cells #[] 173));have hle2:w.heap.size≤(w2.alloc (.cells #[] 173)).heap.size:=by simp;omega
     clear HR HR2)
  | (at_builtin
     go_loud (refine Zan (w2.alloc (.cells #[] 173)) rfl _ _ _ rfl SY H0.out rfl HR3.out rfl HO8.out ?_ ?_ hle2 ?_)
     rotate_left 2;intro v3 w3 own3 gr3 hx3;clear hx3;have gr3:w2.grownBy w3 (some w2.heap.size):=Sy gr3;have hs3:=gr3.size;have HBw:Below w.heap.size w w3:=HB.out.grown gr3 (by omega) (fun k hk=>by cases hk;omega)
     have own3:Au w3 w.heap.size 173 1 v3 (st.list.map Ag):=own3;have hw3:=Hownw.out.grown gr3 (fun g hg=>by have :=(Hownw.out.block g hg).2;simp;omega)
     have hk3:=Hownk.out.grown gr3 (fun g hg=>by have :=(Hownk.out.block g hg).2;simp;omega)
     clear gr3 H0 HR3 HO8))
 rotate_left 1
 ·show(0+8)*4≤_;omega
 ·show 0+8≤_;omega
 obtain⟨gw,cw,rfl,hcw,hbw,hgw,hcellw⟩:=hw3.form (by rw[List.length_map,LF];omega)
 obtain⟨gk,ck,rfl,hck,hbk,hgk,hcellk⟩:=hk3.form (by rw[List.length_map,Om];omega)
 have CW:=Veil.mk (NI hcellw);clear hcellw hw3 Hownw;have CK:=Veil.mk (NI hcellk);clear hcellk hk3 Hownk;rw[List.length_map,LF]at hcw ⊢;rw[List.length_map,Om]at hck ⊢;have HBw:=Veil.mk HBw;have HB3:=Veil.mk (Below.refl w3.heap.size w3);have Own3:=Veil.mk own3;clear own3;go_loopw [7,8,9,10,11,12] (fun v i _ _ _ _ wr=>∃(n:Nat) (s:S8),n≤64∧i=.int .i64 n∧Veil (Au wr w.heap.size 173 1 v (s.list.map Ag))∧Veil (s=JO l st n)∧Veil (Below w3.heap.size w3 wr)) (fun _ i _ _ _ _ _=>64-(intOf i).toNat)
 case atStart=>exact⟨0,st,by omega,rfl,Own3,⟨rfl⟩,HB3⟩
 case round=>
  obtain⟨n,s,hn,rfl,Hown,Hs,HBr⟩:=hrel;obtain⟨gv,cv,rfl,hcv,hbv,hgv,hcellv⟩:=Hown.out.form (by rw[List.length_map,J0];omega)
  rw[List.length_map,J0]at hcv ⊢;have CV:=Veil.mk (NI hcellv);clear hcellv;by_cases hlt:n<64
  ·have ck:=(HBr.out.cell hgk).trans (CK.out n (by rw[Om];exact hlt))
   have cw:=(HBr.out.cell hgw).trans (CW.out n (by rw[LF];exact hlt))
   have hrd:JO l st (n+1)=LL (Ff.getD n 0) ((DD l).getD n 0) s:=by rw[JO,←Hs.out]
   generalize Ff.getD n 0=kn at ck hrd;generalize (DD l).getD n 0=xn at cw hrd;have Hrd:=Veil.mk hrd;clear hrd;obtain⟨sa,sb,sc,sd,se,sf,sg,sh⟩:=s;have c0:wr.cell? ⟨gv,0,none⟩=some (Ag sa):=CV.out 0 (by show 0<8;omega)
   have c1:wr.cell? ⟨gv,1,none⟩=some (Ag sb):=CV.out 1 (by show 1<8;omega)
   have c2:wr.cell? ⟨gv,2,none⟩=some (Ag sc):=CV.out 2 (by show 2<8;omega)
   have c3:wr.cell? ⟨gv,3,none⟩=some (Ag sd):=CV.out 3 (by show 3<8;omega)
   have c4:wr.cell? ⟨gv,4,none⟩=some (Ag se):=CV.out 4 (by show 4<8;omega)
   have c5:wr.cell? ⟨gv,5,none⟩=some (Ag sf):=CV.out 5 (by show 5<8;omega)
   have c6:wr.cell? ⟨gv,6,none⟩=some (Ag sg):=CV.out 6 (by show 6<8;omega)
   have c7:wr.cell? ⟨gv,7,none⟩=some (Ag sh):=CV.out 7 (by show 7<8;omega)
   clear CV;go_wp2
   go_quiet ((go_at_call 269;first|exact Calls.quiet_of (MO _ _ _ (by omega) (by omega))|exact quiet_more (MO _ _ _ (by omega) (by omega))))
   go_wp2
   go_quiet (fail)
   go_wp2
   generalize hwq:World.drewN (World.drewN wr _) _=wq;have c0:wq.cell? ⟨gv,0,none⟩=some (Ag sa):=by rw[←hwq];exact c0
   have c1:wq.cell? ⟨gv,1,none⟩=some (Ag sb):=by rw[←hwq];exact c1
   have c2:wq.cell? ⟨gv,2,none⟩=some (Ag sc):=by rw[←hwq];exact c2
   have c3:wq.cell? ⟨gv,3,none⟩=some (Ag sd):=by rw[←hwq];exact c3
   have c4:wq.cell? ⟨gv,4,none⟩=some (Ag se):=by rw[←hwq];exact c4
   have c5:wq.cell? ⟨gv,5,none⟩=some (Ag sf):=by rw[←hwq];exact c5
   have c6:wq.cell? ⟨gv,6,none⟩=some (Ag sg):=by rw[←hwq];exact c6
   have c7:wq.cell? ⟨gv,7,none⟩=some (Ag sh):=by rw[←hwq];exact c7
   have HBq:=Veil.mk (show Below w3.heap.size w3 wq by rw[←hwq];exact Jp (Jp HBr.out _) _)
   clear hwq ck cw;go_quiet ((go_at_call 269;first|exact Calls.quiet_of (MO _ _ _ (by omega) (by omega))|(refine quiet_more ?_;exact MO _ _ _ (by omega) (by omega))))
   go_wp2
   go_quiet (fail)
   go_wp2
   generalize hwz:World.drewN (World.drewN wq _) _=wz;have c0:wz.cell? ⟨gv,0,none⟩=some (Ag sa):=by rw[←hwz];exact c0
   have c1:wz.cell? ⟨gv,1,none⟩=some (Ag sb):=by rw[←hwz];exact c1
   have c2:wz.cell? ⟨gv,2,none⟩=some (Ag sc):=by rw[←hwz];exact c2
   have c3:wz.cell? ⟨gv,3,none⟩=some (Ag sd):=by rw[←hwz];exact c3
   have c4:wz.cell? ⟨gv,4,none⟩=some (Ag se):=by rw[←hwz];exact c4
   have c5:wz.cell? ⟨gv,5,none⟩=some (Ag sf):=by rw[←hwz];exact c5
   have c6:wz.cell? ⟨gv,6,none⟩=some (Ag sg):=by rw[←hwz];exact c6
   have HBz:=Veil.mk (show Below w3.heap.size w3 wz by rw[←hwz];exact Jp (Jp HBq.out _) _)
   clear hwz HBq;have hsz:=HBz.out.size;refine wp_region_still_tail 26 (by kernel_rfl) (by kernel_rfl) ?_
   simp only[List.take_succ_cons,List.take_zero,List.drop_succ_cons,List.drop_zero];repeat still_step
   refine wpStill_nil ?_
   change wpList _ _ _ _ _ wz.drew;go_wp2
   have HBn:=Veil.mk ((HBz.out.drew).alloc hsz (.cells (LL kn xn ⟨sa,sb,sc,sd,se,sf,sg,sh⟩).cells.toArray 173));have HOn:=Veil.mk (Au.lit (e:=173) (base:=w.heap.size) (size:=1) wz.drew (LL kn xn ⟨sa,sb,sc,sd,se,sf,sg,sh⟩).cells 8 (Nat.le_trans HBw.out.size hsz) (by unfold maxLen;omega) rfl)
   go_roundw
   case rel=>exact⟨n+1,LL kn xn ⟨sa,sb,sc,sd,se,sf,sg,sh⟩,by omega,by go_num,HOn,⟨Hrd.out.symm⟩,HBn⟩
   case measure=>simp[intOf];omega
  ·have hn64:64≤n:=by omega
   have Hm:Veil (GT st l=st.add s):=⟨by
    obtain rfl:n=64:=by omega
    rw[GT,←Hs.out]⟩
   have HBw2:=Veil.mk (HBw.out.trans (HBr.out.mono HBw.out.size));clear CV hlt HBr Hs;go_wp2
   go_loopw [13] (fun i wr=>∃k:Nat,k≤8∧i=.int .i64 k∧Veil (Au wr w.heap.size 173 1 (.slice (some ⟨gv,0,none⟩) 8 cv) ((G2 s.list st.list k).map Ag))∧Veil (Below w.heap.size w wr)) (fun i _=>8-(intOf i).toNat)
   case atStart=>exact⟨0,by omega,rfl,Hown,HBw2⟩
   case round=>
    clear Hown HBw2 hgv;obtain⟨k,hk,rfl,Hown,HB⟩:=hrel;by_cases hlt:k<8
    ·have hal:=Zkm s.list st.list k
     rw[J0]at hal;obtain⟨gv',cv',hv',_,hbg,hgv,hcellv⟩:=Hown.out.form (by rw[List.length_map];omega)
     obtain⟨rfl,rfl⟩:gv=gv'∧cv=cv':=by
      simp only[Value.slice.injEq,Option.some.injEq,Addr.mk.injEq]at hv';exact⟨hv'.1.1,hv'.2.2⟩
     clear hv';have cv:=NI hcellv k (by omega)
     have chh:=(HB.out.cell hgh).trans (Hh.out k hlt);have hfz:=Hown.out.free k (by rw[List.length_map];omega)
     clear hcellv;have E3:G2 s.list st.list (k+1)=(G2 s.list st.list k).set k ((G2 s.list st.list k).getD k 0+st.list.getD k 0):=rfl;generalize (G2 s.list st.list k).getD k 0=x at cv E3;generalize st.list.getD k 0=y at chh E3;have Hset:=Veil.mk E3;clear E3;have Hal:=Veil.mk hal;clear hal;have k8:(k:Int)<8:=by omega
     go_wp2
     refine wp_region_still_tail 12 (by kernel_rfl) (by kernel_rfl) ?_
     simp only[List.take_succ_cons,List.take_zero,List.drop_succ_cons,List.drop_zero];repeat still_step
     refine wpStill_nil ?_
     change wpList _ _ _ _ _ wr.drew;go_wp2
     have HOn:=Veil.mk (Hown.out.drew.set k (by rw[List.length_map];have :=Hal.out;omega) (Ag (x+y)))
     have HBn:=Veil.mk ((Jp HB.out 1).setCell (p:=⟨gv,k,none⟩) hbg (Ag (x+y)));go_roundw
     case rel=>exact⟨k+1,by omega,by go_num,⟨by rw[Hset.out,List.map_set];exact HOn.out⟩,HBn⟩
     case measure=>simp[intOf];omega
    ·have hk8:8≤k:=by omega
     have hfin:(G2 s.list st.list k).map Ag=(GT st l).cells:=by
      obtain rfl:k=8:=by omega
      rw[Hm.out,Zkn]
     have Hf:=Veil.mk hfin;clear hfin;clear hlt;go_wp2
     go_ret
     exact⟨_,rfl,by rw[←Hf.out];exact Hown.out,HB.out⟩
end
section
open Go.RowKit Sm
set_option maxRecDepth 100000 in
set_option maxHeartbeats 2000000 in
theorem Zer(s:ByteArray)(w:World)(hs:s.size≤70368744177664):
  Calls Tryz.prog 89 #[.string s] w fun e w'=>e=.returned (.string ⟨(sha s.data.toList).toArray⟩)∧Below w.heap.size w w':=by
 have hm:s.size≤maxLen:=by unfold maxLen;omega
 go_enter Tryz.func89,Tryz.ntmps89
 go_wp2_with (first
  |(refine ZG w rfl _ _ (.tmp 10) rfl 5 s rfl Tryz.underlying9 Tryz.underlying164 Tryz.underlying5 hm (base:=w.heap.size) (Nat.le_refl _) ?_;intro v0 w0 own0 gr0 hx;clear hx)
  |(at_builtin;refine Jq w0 rfl _ _ _ rfl HG [.int .u8 128] own0 rfl rfl ?_ ?_ ?_ ?_ ?_;rotate_left 4;intro v1 w1 own1 gr1))
 rotate_left 1
 ·exact Ia rfl
 ·simp;omega
 ·simp;omega
 ·exact gr0.size
 have hb1:Below w.heap.size w w1:=G1 ((Below.refl _ _).grown gr0 (Nat.le_refl _) (fun k hk=>by cases hk)) gr1 own0 (Nat.le_refl _) gr0.size
 have own1':Au w1 w.heap.size 5 1 v1 ((Di s.data.toList 0).map w8):=by
  rw[show((Di s.data.toList 0).map w8)=s.data.toList.map w8++[.int .u8 128]from by simp[Di];rfl]
  exact own1
 clear own0 gr0 gr1 own1;have hl:s.data.toList.length=s.size:=by simp
 generalize hs0:s.data.toList=l at own1' hl ⊢;have Hl:=Veil.mk hl;have Hs0:=Veil.mk hs0;clear hl hs0;go_loopw [3] (fun v wr=>∃(N z:Nat) (A:Option Addr) (c:Nat),v=.slice A N c∧Veil (N=l.length+1+z)∧z≤BZ (l.length+1)∧Au wr w.heap.size 5 1 (.slice A N c) ((Di l z).map w8)∧Below w.heap.size w wr) (fun v _=>l.length+1+BZ (l.length+1)-lenOf v)
 case atStart=>
  obtain⟨A,c,rfl⟩:=own1'.len1;exact⟨_,0,A,c,rfl,⟨by rw[List.length_map,Gr]⟩,Nat.zero_le _,own1',hb1⟩
 case round=>
  obtain⟨N,z,A,c,rfl,HN,hz,hown,hb⟩:=hrel;have hzl:=Qe (l.length+1);have hNs:N≤70368744177964:=by have :=HN.out;have :=Hl.out;omega
  have hmod:((N:Int) % 64 !=56)=decide (z<BZ (l.length+1)):=by
   have h1:=Qf (l.length+1);have h2:=T3 (l.length+1) z;rw[HN.out];by_cases hlt:z<BZ (l.length+1)
   ·have :=h2 hlt
    simp only[hlt,decide_true,bne_iff_ne];omega
   ·obtain rfl:z=BZ (l.length+1):=by omega
    simp only[hlt,decide_false,bne_eq_false_iff_eq];omega
  have hle:=hb.size;by_cases hlt:z<BZ (l.length+1)
  ·have ht:((N:Int) % 64 !=56)=true:=by rw[hmod];simpa using hlt
   clear hmod;go_wp2_with (at_builtin;refine Jq wr rfl _ _ _ rfl HG [.int .u8 0] hown rfl rfl ?_ ?_ ?_ hle ?_;rotate_left 3;intro v' w' own' gr')
   rotate_left 1
   ·exact Ia rfl
   ·rw[List.length_map,Gr,←HN.out];simp;omega
   ·rw[List.length_map,Gr,←HN.out];simp;omega
   have hb':=G1 hb gr' hown (Nat.le_refl _) hle;have own2:Au w' w.heap.size 5 1 v' ((Di l (z+1)).map w8):=by rw[YB,List.map_append];exact own'
   clear own' gr' hown hb;go_wp2
   go_roundw
   obtain⟨A',c',rfl⟩:=own2.len1;case rel=>exact⟨_,z+1,A',c',rfl,⟨by rw[List.length_map,Gr]⟩,by omega,own2,hb'⟩
   case measure=>
    obtain⟨A',c',rfl⟩:=own2.len1;simp only[lenOf,List.length_map,Gr];have :=HN.out;omega
  ·have ht:((N:Int) % 64 !=56)=false:=by rw[hmod];simpa using hlt
   obtain rfl:z=BZ (l.length+1):=by omega
   clear hmod;go_wp2
   generalize hX:8#64*BitVec.ofNat 64 s.size=X;have HX:Veil (X=BitVec.ofInt 64 (l.length:Int)*8#64):=⟨by rw[←hX,Hl.out,BitVec.mul_comm,BitVec.ofInt_natCast]⟩
   clear hX;go_loopw [3,5] (fun v i wr=>∃(M j:Nat) (A:Option Addr) (c:Nat),v=.slice A M c∧j≤8∧i=.int .i64 (56-8*(j:Int))∧Au wr w.heap.size 5 1 (.slice A M c) ((Di l (BZ (l.length+1))++Fe X j).map w8)∧Below w.heap.size w wr) (fun _ i _=>(intOf i+8).toNat)
   case atStart=>exact⟨N,0,A,c,rfl,by omega,rfl,by simpa[Fe] using hown,hb⟩
   case round=>
    clear hown hb hle;obtain⟨M,j,A',c',rfl,hj,rfl,hown,hb⟩:=hrel;have hle:=hb.size;have hlen:(Di l (BZ (l.length+1))++Fe X j).length≤70368744177964:=by
     rw[List.length_append,Gr]
     have:(Fe X j).length≤8:=by simp[Fe,NN];omega
     have :=Hl.out;omega
    by_cases hlt:j<8
    ·have hge:(0:Int)≤56-8*(j:Int):=by omega
     go_wp2_with (at_builtin;refine Jq wr rfl _ _ _ rfl HG [_] hown rfl rfl ?_ ?_ ?_ hle ?_;rotate_left 3;intro v' w' own' gr')
     rotate_left 1
     ·exact Ia rfl
     iterate 2
      ·rw[List.length_map];simp only[List.length_singleton];omega
     have hb':=G1 hb gr' hown (Nat.le_refl _) hle;have own2:Au w' w.heap.size 5 1 v' ((Di l (BZ (l.length+1))++Fe X (j+1)).map w8):=by
      rw[Z7 _ _ hlt,←List.append_assoc,List.map_append];exact own'
     clear own' gr' hown hb;obtain⟨A2,c2,rfl⟩:=own2.len1;go_wp2
     go_roundw
     case rel=>exact⟨_,j+1,A2,c2,rfl,by omega,by go_num,own2,hb'⟩
     case measure=>simp[intOf];omega
    ·have hj8:8≤j:=by omega
     have hP:Di l (BZ (l.length+1))++Fe X j=Ge l:=by
      obtain rfl:j=8:=by omega
      rw[HX.out];rfl
     rw[hP]at hown hlen;have hPl:(Ge l).length % 64=0:=YA l l.length;have hP0:0<(Ge l).length:=by unfold Ge;rw[SW];omega
     have hst:=ZfM l;generalize Ge l=P at hown hlen hPl hP0 hst;have Hst:=Veil.mk hst;clear hst hP;obtain⟨gp,cp,hv,hcp,hbp,hgp,hcellp⟩:=hown.form (by rw[List.length_map];exact hP0)
     rw[hv]at hown ⊢;clear hv;rw[List.length_map]at hcp hown ⊢;have HP:=Veil.mk hcellp;clear hcellp;have hneg:¬(0:Int)≤56-8*(j:Int):=by omega
     go_wp2_with (go_at_call 161;refine(ZeM _).mono ?_;rintro e w2 ⟨vh,rfl,ownh,hb2⟩)
     have hbB:=Veil.mk (hb.trans (hb2.mono hle));have hownh:=Veil.mk (ownh.less hle);have Hown2:=Veil.mk (hown.below hb2 (Nat.le_refl _));have hs2:=hb2.size;clear hown hb ownh hb2 HP;go_loopw [6,7] (fun v i wr=>∃(m gh ch:Nat),v=.slice (some ⟨gh,0,none⟩) 8 ch∧64*m≤P.length∧i=.int .i64 (64*(m:Int))∧Veil (Au wr w.heap.size 173 1 (.slice (some ⟨gh,0,none⟩) 8 ch) ((BE P B3 m).list.map Ag))∧Veil (Au wr w.heap.size 5 1 (.slice (some ⟨gp,0,none⟩) P.length cp) (P.map w8))∧Veil (Below w.heap.size w wr)) (fun _ i _=>P.length-(intOf i).toNat)
     case atStart=>
      obtain⟨gh,ch,hv,_⟩:=hownh.out.form (by show 0<8;omega)
      subst hv;exact⟨0,gh,ch,rfl,by omega,rfl,hownh,Hown2,hbB⟩
     case round=>
      clear hownh Hown2 hbB hle hs2 hgp hbp;obtain⟨m,gh,ch,rfl,hm,rfl,Hown,HownP,HB⟩:=hrel;have hle:=HB.out.size;obtain⟨gh',ch',hv,hch,hbh,hgh,hcellh⟩:=Hown.out.form (by rw[List.length_map,J0];omega)
      obtain⟨rfl,rfl⟩:gh=gh'∧ch=ch':=by
       simp only[Value.slice.injEq,Option.some.injEq,Addr.mk.injEq]at hv;exact⟨hv.1.1,hv.2.2⟩
      clear hv;rw[List.length_map,J0]at hch;have CH:=Veil.mk (NI hcellh);clear hcellh;by_cases hlt:64*m<P.length
      ·have h64:64*m+64≤P.length:=by omega
       obtain⟨gp',cp',hv,_,hbp,hgp,hcellp⟩:=HownP.out.form (by rw[List.length_map];exact hP0)
       obtain⟨rfl,rfl⟩:gp=gp'∧cp=cp':=by
        simp only[Value.slice.injEq,Option.some.injEq,Addr.mk.injEq]at hv;exact⟨hv.1.1,hv.2.2⟩
       clear hv;have CP:Veil (∀j,j<64→wr.cell? ⟨gp,64*m+j,none⟩=some (w8 (((P.drop (64*m)).take 64).getD j 0))):=⟨fun j hj=>hcellp _ _ (by
        rw[List.getElem?_map,List.getElem?_eq_getElem (by omega),List.getD_eq_getElem?_getD,List.getElem?_take_of_lt hj,List.getElem?_drop,List.getElem?_eq_getElem (by omega)];rfl)⟩
       clear hcellp;have hbl:((P.drop (64*m)).take 64).length=64:=by rw[List.length_take,List.length_drop];omega
       have Hbl:=Veil.mk hbl;clear hbl;have hcap:64*m<cp:=by omega
       have hcap1:(64:Int)*(m:Int)<cp:=by omega
       have hcap2:(64:Int)*(m:Int)+64≤cp:=by omega
       have hcap3:¬(cp=64*m):=by omega
       have hcap4:64≤cp-64*m:=by omega
       go_wp2_with (go_at_call 162;go_loud (refine(ZeC (BE P B3 m) gh ch gp (64*m) (cp-64*m) ((P.drop (64*m)).take 64) _ CH.out hgh hch CP.out Hbl.out hcap4 hgp).mono ?_);rintro e w' ⟨v',rfl,ownv,hb'⟩)
       have hab:BE P B3 (m+1)=GT (BE P B3 m) ((P.drop (64*m)).take 64):=rfl;have Hab:=Veil.mk hab;clear hab;have ownv2:Veil (Au w' w.heap.size 173 1 v' ((BE P B3 (m+1)).list.map Ag)):=⟨by rw[Hab.out];exact ownv.less hle⟩
       have HownP2:=Veil.mk (HownP.out.below hb' (Nat.le_refl _));have HB2:=Veil.mk (HB.out.trans (hb'.mono hle));clear ownv hb' Hown HownP HB CP CH;obtain⟨gh2,ch2,hv,_⟩:=ownv2.out.form (by rw[List.length_map,J0];omega)
       subst hv;go_roundw
       case rel=>exact⟨m+1,gh2,ch2,rfl,by omega,by go_num,ownv2,HownP2,HB2⟩
       case measure=>simp[intOf];omega
      ·have hm64:¬(64:Int)*(m:Int)<P.length:=by omega
       have hfin:LD l=BE P B3 m:=by
        rw[←Hst.out];congr 1
        omega
       have Hfin:=Veil.mk hfin;clear hfin;generalize BE P B3 m=st at Hfin CH Hown;clear HownP;go_wp2
       go_loopw [8,9] (fun v i wx=>∃k:Nat,k≤32∧i=.int .i64 k∧Au wx wr.heap.size 5 1 v ((He st k).map w8)∧Below wr.heap.size wr wx) (fun _ i _=>32-(intOf i).toNat)
       case atStart=>exact⟨0,by omega,rfl,Au.nil _ _ _ _,Below.refl _ _⟩
       case round=>
        obtain⟨k,hk,rfl,hown,hb⟩:=hrel;have hle:=hb.size;by_cases hlt:k<32
        ·have ch4:=(hb.cell (p:=⟨gh,k / 4,none⟩) hgh).trans (CH.out (k / 4) (by rw[J0];omega))
         have hsn:=ZfO st k;generalize st.list.getD (k / 4) 0=x at ch4 hsn;have Hsn:=Veil.mk hsn;clear hsn;have q0:0≤(k:Int) / 4:=by omega
         have q1:(k:Int) / 4<8:=by omega
         have q2:((k:Int) / 4).toNat=k / 4:=by omega
         have q3:8*((k:Int) % 4)≤24:=by omega
         have q4:(24-8*((k:Int) % 4)).toNat=24-8*(k % 4):=by omega
         have Hlen:=Veil.mk (ZfP st k);go_wp2_with (at_builtin;refine Jq wr rfl _ _ _ rfl HG [_] hown rfl rfl ?_ ?_ ?_ hle ?_;rotate_left 3;intro v' w' own' gr')
         rotate_left 1
         ·exact Ia rfl
         iterate 2
          ·rw[List.length_map,Hlen.out];simp only[List.length_singleton];omega
         have own2:=own';rw[show ∀y,(He st k).map w8++[w8 y]=((He st k)++[y]).map w8 from fun y=>by rw[List.map_append];rfl,←Hsn.out]at own2
         have hb':=G1 hb gr' hown (Nat.le_refl _) hle;clear own' gr' hown hb q0 q1 q2 q3 q4;go_roundw
         case rel=>exact⟨k+1,by omega,by go_num,own2,hb'⟩
         case measure=>simp[intOf];omega
        ·obtain rfl:k=32:=by omega
         have hc:=Oq (P:=Tryz.prog) wr 164 9 5 Tryz.underlying164 Tryz.underlying5 Tryz.underlying9 hown.rd;have hfin:(He st 32)=sha l:=by rw[ZfQ,sha,Hfin.out]
         have Hfin2:=Veil.mk hfin;clear hfin;have HBf:=Veil.mk (HB.out.trans (hb.mono HB.out.size));go_wp2
         go_ret
         exact⟨by rw[Hs0.out,←Hfin2.out];rfl,HBf.out⟩
end
end
end Go.Proofs.YtchpmmjmimaigaaGreatDoor
