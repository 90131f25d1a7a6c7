import Derived.Test.YtipfggegddlgdaaGreatDoorKw27
import Derived.Test.YtipfggegddlgdaaGreatDoorKw28
set_option linter.unusedSectionVars false
set_option linter.unusedVariables false
set_option linter.unusedSimpArgs false
namespace Go.Proofs.YtipfggegddlgdaaGreatDoor
section
namespace Pe
open Tryz
open Go Go.RowKit Co Sg Ac It Sl Tp
set_option maxRecDepth 100000
set_option maxHeartbeats 8000000
section
variable (ps:List Int) (items:List AV) (cl:It.Claim) (won:Bool) (es:List Dt) (o0 o1 c5 c6:SObj)
theorem Vv{l:List Ac.Act}{d:By}{i:Nat}(h:Bl l d=some i):i<l.length:=Oc l d i h
theorem ZfM(c:Chn)(a:Ac.Act)(h:BOk ps items cl won es o0 o1 c5 c6 c)(hl:c.acts.length≤100)(hz:Sz a):
  AC prog 118 [AG c,Am a,.fn (.func 117) [] [.ptr 9 0]] (IL ps items cl won es o0 o1 c5 c6 c) (.bo (Bh c a)) (IL ps items cl won es o0 o1 c5 c6 c):=by
 have hok:=h.st10;have k1:=NK a hz;have hp:=Zdc ps items cl won es o0 o1 c5 c6 c a.object h;have hpre:=fun T=>hp.pre T rfl hok hok rfl rfl
 have ku:=fun k=>ZaD k
 have kp:=fun k=>LL k
 have hsz:=BX c.acts;clear hp;unfold IL at hok hpre ⊢;cases h1:Ac.right a with
 |false=>
  rw[h1]at k1;rw[show Bh c a=false by unfold Bh;simp[h1]]
  refine Ah [85,192,70] [] func118 ?_;refine run ?_;refine cp k1 ?_;refine run ?_;exact DD hok
 |true=>
 rw[h1]at k1;by_cases h2:a.author=c.id
 rotate_left
 ·have q2:(!(a.author==c.id))=true:=by simp[h2]
  rw[show Bh c a=false by unfold Bh;simp[h2]]
  refine Ah [85,192,70] [] func118 ?_;refine run ?_;refine cp k1 ?_;refine Ab @q2 ?_;exact DD hok
 have q2:(!(a.author==c.id))=false:=by simp[h2]
 by_cases h3:a.seq=c.acts.length
 rotate_left
 ·have q3:(a.seq !=(c.acts.length:Int))=true:=C6 h3
  rw[show Bh c a=false by unfold Bh;simp[h3]]
  refine Ah [85,192,70] [] func118 ?_;refine run ?_;refine cp k1 ?_;refine Ab (an @q2 @q3) ?_;exact DD hok
 have q3:(a.seq !=(c.acts.length:Int))=false:=Df h3;by_cases h4:a.prev=c.prev
 rotate_left
 ·have q4:(!(a.prev==c.prev))=true:=by simp[h4]
  rw[show Bh c a=false by unfold Bh;simp[h4]]
  refine Ah [85,192,70] [] func118 ?_;refine run ?_;refine cp k1 ?_;refine Ab (A3 @q2 @q3 @q4) ?_;exact DD hok
 have q4:(!(a.prev==c.prev))=false:=by simp[h4]
 have hf:Bh c a=(decide ((a.kind=0)↔(c.acts.length=0))&&FT c a):=by unfold Bh;simp[h1,h2,h3,h4]
 rw[hf];clear hf;by_cases h56:(a.kind=0)↔(c.acts.length=0)
 rotate_left
 ·have q5:(!((a.kind==0)==((c.acts.length:Int)==0)))=true:=by
   cases e1:(a.kind==0)<;>cases e2:((c.acts.length:Int)==0)<;>simp_all
  rw[decide_eq_false h56,Bool.false_and];refine Ah [85,192,70] [] func118 ?_;refine run ?_;refine cp k1 ?_;refine Ab (A4 @q2 @q3 @q4 @q5) ?_;exact DD hok
 have q5:(!((a.kind==0)==((c.acts.length:Int)==0)))=false:=by
  cases e1:(a.kind==0)<;>cases e2:((c.acts.length:Int)==0)<;>simp_all
 rw[decide_eq_true h56,Bool.true_and];unfold FT;by_cases hk:a.kind≠6∧a.kind≠13∧a.kind≠14
 ·rw[if_pos hk]
  have q6:(a.kind==6)=false:=Cb hk.1;have q7:(a.kind==13)=false:=Cb hk.2.1;have q8:(a.kind==14)=false:=Cb hk.2.2;refine Ah [85,192,70] [] func118 ?_;refine run ?_;refine cp k1 ?_;refine Ab (A7 @q2 @q3 @q4 @q5 @q6 @q7 @q8) ?_;exact DD hok
 rw[if_neg hk];by_cases h6:a.kind=6
 ·have q6:(a.kind==6)=true:=beq_iff_eq.2 h6
  cases hi:Bl c.acts a.object with
  |none=>
   rw[hi]at hpre;change ∀T,AC _ _ _ _ (.tup [.it .i64 0,.bo false]) _ at hpre
   refine Ah [85,192,70] [] func118 ?_;refine run ?_;refine cp k1 ?_;refine Ab (A5 @q2 @q3 @q4 @q5 @q6) ?_;refine AZ (hpre _) ?_;refine run ?_;exact DD hok
  |some i=>
   rw[hi]at hpre;change ∀T,AC _ _ _ _ (.tup [.it .i64 (i:Int),.bo true]) _ at hpre
   have hil:=Vv hi;have hg:c.acts[i]? = some c.acts[i]:=List.getElem?_eq_getElem hil
   have hgd:c.acts.getD i Al=c.acts[i]:=by rw[List.getD_eq_getElem?_getD,hg];rfl
   simp only[if_pos h6,hgd];have x1:(i:Int)<(c.acts.length:Int):=by omega
   have x0:(0:Int)≤(i:Int):=by omega
   generalize c.acts[i]=b at *;have ku:=ku b.kind;refine Ah [85,192,70] [] func118 ?_;refine run ?_;refine cp k1 ?_;refine Ab (A5 @q2 @q3 @q4 @q5 @q6) ?_;refine AZ (hpre _) ?_;refine Ab (A4 @x1 @x0 @hg @hsz) ?_;refine cp ku ?_;refine run ?_;exact DD hok
 ·have q6:(a.kind==6)=false:=Cb h6
  have q78:(a.kind==13)=true∨((a.kind==13)=false∧(a.kind==14)=true):=by
   by_cases h7:a.kind=13
   ·exact .inl (beq_iff_eq.2 h7)
   ·exact .inr ⟨Cb h7,beq_iff_eq.2 (by omega)⟩
  cases hi:Bl c.acts a.object with
  | none=>
   rw[hi]at hpre;change ∀T,AC _ _ _ _ (.tup [.it .i64 0,.bo false]) _ at hpre
   refine Ah [85,192,70] [] func118 ?_;refine run ?_;refine cp k1 ?_;rcases q78 with q7|⟨q7,q8⟩
   ·refine Ab (A6 @q2 @q3 @q4 @q5 @q6 @q7) ?_
    refine AZ (hpre _) ?_;refine run ?_;exact DD hok
   ·refine Ab (A7 @q2 @q3 @q4 @q5 @q6 @q7 @q8) ?_
    refine AZ (hpre _) ?_;refine run ?_;exact DD hok
  | some i=>
   rw[hi]at hpre;change ∀T,AC _ _ _ _ (.tup [.it .i64 (i:Int),.bo true]) _ at hpre
   have hil:=Vv hi;have hg:c.acts[i]? = some c.acts[i]:=List.getElem?_eq_getElem hil
   have hgd:c.acts.getD i Al=c.acts[i]:=by rw[List.getD_eq_getElem?_getD,hg];rfl
   simp only[if_neg h6,hgd];have x1:(i:Int)<(c.acts.length:Int):=by omega
   have x0:(0:Int)≤(i:Int):=by omega
   generalize c.acts[i]=b at *;have kp:=kp b.kind;refine Ah [85,192,70] [] func118 ?_;refine run ?_;refine cp k1 ?_;rcases q78 with q7|⟨q7,q8⟩
   ·refine Ab (A6 @q2 @q3 @q4 @q5 @q6 @q7) ?_
    refine AZ (hpre _) ?_;refine Ab (A4 @x1 @x0 @hg @hsz) ?_;refine cp kp ?_;refine run ?_;exact DD hok
   ·refine Ab (A7 @q2 @q3 @q4 @q5 @q6 @q7 @q8) ?_
    refine AZ (hpre _) ?_;refine Ab (A4 @x1 @x0 @hg @hsz) ?_;refine cp kp ?_;refine run ?_;exact DD hok
end
end Pe
end
section
namespace Pe
open Tryz
open Go Go.RowKit Co Sg Ac It Sl Tp
set_option maxRecDepth 100000
set_option maxHeartbeats 8000000
section
variable (ps:List Int) (items:List AV) (cl:It.Claim) (won:Bool) (es:List Dt) (o0 o1 c5 c6:SObj)
theorem Zd7(c:Chn)(cl':It.Claim)(won':Bool)(h:BOk ps items cl won es o0 o1 c5 c6 c)(kw:AC prog 114 [.agg [AP ps,.sl .ro items],.st c.id,.it .i64 c.gen] [] (.tup [Mu cl',.bo won']) []):
  AC prog 53 [.ptr 4 0] (EW ps items cl won es o0 o1 c5 c6 c) (.tup []) (EW ps items cl' won' es o0 o1 c5 c6 c):=by
 have hok:(EW ps items cl' won' es o0 o1 c5 c6 c).all (SObj.ok 9)=true:=by
  simp only[List.all_cons,List.all_nil,h.o0 9 (Nat.le_refl _),h.o1 9 (Nat.le_refl _),h.es 9,LO 9 c.acts 0,h.bld c cl' won' 9 (Nat.le_refl _),h.c5 9 (Nat.le_refl _),h.c6 9 (Nat.le_refl _)];rfl
 unfold EW at hok ⊢;refine Ah [114] [] func53 ?_;refine run ?_;refine cp kw ?_;refine run ?_;exact CO hok
theorem ZcC(c:Chn)(h:BOk ps items cl false es o0 o1 c5 c6 c):
  AC prog 54 [.ptr 4 0] (EW ps items cl false es o0 o1 c5 c6 c) (.bo false) (EW ps items cl false es o0 o1 c5 c6 c):=by
 have hok:=h.st9;unfold EW at hok ⊢;refine Ah [115,116,19] [] func54 ?_;refine run ?_;exact DD hok
theorem Zg4(c:Chn)(h:BOk ps items cl won es o0 o1 c5 c6 c)(hl:c.acts.length≤100)(hlk:c.keys.length≤200)(hk0:c.keys≠[])(hV:Jy (c.acts.length:Int) c.prev es=.sl .full []):
  AC prog 55 [.ptr 4 0] (EW ps items cl won es o0 o1 c5 c6 c) (.bo false) (EW ps items cl won es o0 o1 c5 c6 { c with fork:=false }):=by
 have hok:(EW ps items cl won es o0 o1 c5 c6 { c with fork:=false }).all (SObj.ok 9)=true:=BOk.st9 ps items cl won es o0 o1 c5 c6 (c:={ c with fork:=false }) ⟨h.o0,h.o1,h.es,h.bld,h.c5,h.c6⟩
 unfold EW at hok ⊢;have hkl:0<c.keys.length:=List.length_pos_iff.2 hk0;have hkp:=GK c.keys;obtain⟨q,hq⟩:∃q,q=c.keys.length-1:=⟨_,rfl⟩
 have hm1:IntKind.i64.wrap ((c.keys.length:Int)-1)=(q:Int):=by rw[wrap64 (by omega) (by omega)];omega
 have hq1:(q:Int)<(c.keys.length:Int):=by omega
 have hq0:(0:Int)≤(q:Int):=by omega
 have hg:c.keys[q]? = some c.keys[q]:=List.getElem?_eq_getElem (by omega)
 generalize c.keys[q]'(by omega)=key at hg
 refine AC.hw 76 func55 rfl (by decide) (Nat.le_of_ble_eq_true rfl) rfl ?_
 refine HW.seq (HW.aw (P:=prog) [] [] (by decide) (by kernel_rfl) ?_)
 refine AD ?_
 refine run ?_;refine HW.seq (HW.aw (P:=prog) [] [] (by decide) (by kernel_rfl) ?_)
 refine AD ?_
 refine run ?_;refine HW.seq (HW.aw (P:=prog) [] [] (by decide) (by kernel_rfl) ?_)
 refine AD ?_
 refine Ab (A5 @hm1 @hq1 @hq0 @hg @hkp) ?_;refine HW.seq (HW.aw (P:=prog) [] [] (by decide) (by kernel_rfl) ?_)
 refine AD ?_
 refine run ?_;refine HW.seq (HW.aw (P:=prog) [] [] (by decide) (by kernel_rfl) ?_)
 refine AD ?_
 refine run ?_;refine HW.seq (HW.seq (HW.spec4 (P:=prog) [] [] [0] [] [] (by decide) (by decide +kernel) (by decide +kernel) ?_))
 refine HL [_,_,_] [_,_,_,_,_,_,_,_,_,_,_,_,_,_] _ _ (Fq (pf:=[]) (rf:=[]) [_,_,_,_,_,_,_,_,_,_,_,_,_,_] _ _ ?_)
 refine AD ?_
 repeat (refine g4 (by rfl) ?_;(first|refine B6 ?_|refine a4 ?_);refine runf4 @hm1 ?_;(first|refine EN ?_|refine EM ?_))
 refine FD ?_
 refine M3 (fun R=>Mn (n:=(c.acts.length:Int)) (s:=c.prev) (es:=es) rfl (by rfl) (by rfl) (by rfl)) ?_
 rw[hV];refine Fq (pf:=[]) (rf:=[]) [_,_] _ _ ?_
 refine AD ?_
 repeat (refine g4 (by rfl) ?_;(first|refine B6 ?_|refine a4 ?_);refine runf4 @hm1 ?_;(first|refine EN ?_|refine EM ?_))
 refine FD ?_
 refine HW.aw (P:=prog) [51] [118] (by decide) (by kernel_rfl) ?_
 refine AD ?_
 refine run ?_;refine Fz ?_
 refine run ?_;refine HW.aw (P:=prog) [] [] (by decide) (by kernel_rfl) ?_
 refine AD ?_
 refine run ?_;exact DD hok
end
end Pe
end
section
namespace Pe
open Tryz
open Go Go.RowKit Co Sg Ac It Sl Tp
set_option maxRecDepth 100000
set_option maxHeartbeats 8000000
section
variable (ps:List Int) (items:List AV) (cl:It.Claim) (won:Bool) (es:List Dt) (o0 o1 c5 c6:SObj)
theorem Zg3(c:Chn)(a:Ac.Act)(h:BOk ps items cl won es o0 o1 c5 c6 c)(hl:c.acts.length≤100)(hlk:c.keys.length≤200)(hk0:c.keys≠[])(hV:Jy (c.acts.length:Int) c.prev es=.sl .ro [Am a])(hra:Ac.right a=true)(hdg:dg a∉c.acts.map dg)(hpub:Em (BM c).pub):
  AC prog 55 [.ptr 4 0] (EW ps items cl won es o0 o1 c5 c6 c) (.bo (Bh c a&&BO (BM c).pub a)) (EW ps items cl won es o0 o1 c5 c6 (if(Bh c a&&BO (BM c).pub a)=true then D5 c a else { c with fork:=false })):=by
 have hbk:∀c',BOk ps items cl won es o0 o1 c5 c6 c':=fun c'=>⟨h.o0,h.o1,h.es,h.bld,h.c5,h.c6⟩
 have hok:=BOk.st9 ps items cl won es o0 o1 c5 c6 (hbk { c with fork:=false })
 have hok9:=BOk.st9 ps items cl won es o0 o1 c5 c6 (hbk c);have hok2:=BOk.st9 ps items cl won es o0 o1 c5 c6 (hbk (D5 c a));have hok10:=BOk.st10 ps items cl won es o0 o1 c5 c6 (hbk c);have hza:Sz a:=(Dp (act_signed ps hra).1).act;have kf:=ZfM ps items cl won es o0 o1 c5 c6 c a h hl hza;have kfp:=fun T=>kf.pre T rfl hok10 hok10 (by rfl) rfl
 have kv:=Sw (BM c).pub a hza hpub;have ka:=YI ps items cl won es o0 o1 c5 c6 c a hra hdg hl hlk (.inr trivial) (h.o0 9 (Nat.le_refl _)) (h.o1 9 (Nat.le_refl _)) (h.es 9) (h.bld _ _ _ 9 (Nat.le_refl _)) (h.c5 9 (Nat.le_refl _)) (h.c6 9 (Nat.le_refl _));have kap:=fun T=>ka.pre T rfl hok9 hok2 (by rfl) rfl
 clear kf ka hok9 hok10;unfold IL at kfp;unfold EW at hok hok2 ⊢;have hkl:0<c.keys.length:=List.length_pos_iff.2 hk0;have hkp:=GK c.keys;obtain⟨q,hq⟩:∃q,q=c.keys.length-1:=⟨_,rfl⟩
 have hm1:IntKind.i64.wrap ((c.keys.length:Int)-1)=(q:Int):=by rw[wrap64 (by omega) (by omega)];omega
 have hq1:(q:Int)<(c.keys.length:Int):=by omega
 have hq0:(0:Int)≤(q:Int):=by omega
 have hg:c.keys[q]? = some c.keys[q]:=List.getElem?_eq_getElem (by omega)
 have hkey:BM c=c.keys[q]'(by omega):=by unfold BM;rw[List.getD_eq_getElem?_getD,←hq,hg];rfl
 rw[←hkey]at hg;generalize BM c=key at *;clear hkey;cases hff:Bh c a with
 |false=>
  rw[hff]at kfp;rw[Bool.false_and,if_neg (by decide)]
  refine AC.hw 76 func55 rfl (by decide) (Nat.le_of_ble_eq_true rfl) rfl ?_
  refine HW.seq (HW.aw (P:=prog) [] [] (by decide) (by kernel_rfl) ?_)
  refine AD ?_
  refine run ?_;refine HW.seq (HW.aw (P:=prog) [] [] (by decide) (by kernel_rfl) ?_)
  refine AD ?_
  refine run ?_;refine HW.seq (HW.aw (P:=prog) [] [] (by decide) (by kernel_rfl) ?_)
  refine AD ?_
  refine Ab (A5 @hm1 @hq1 @hq0 @hg @hkp) ?_;refine HW.seq (HW.aw (P:=prog) [] [] (by decide) (by kernel_rfl) ?_)
  refine AD ?_
  refine run ?_;refine HW.seq (HW.aw (P:=prog) [] [] (by decide) (by kernel_rfl) ?_)
  refine AD ?_
  refine run ?_;refine HW.seq (HW.seq (HW.spec4 (P:=prog) [] [] [0] [] [] (by decide) (by decide +kernel) (by decide +kernel) ?_))
  refine HL [_,_,_] [_,_,_,_,_,_,_,_,_,_,_,_,_,_] _ _ (Fq (pf:=[]) (rf:=[]) [_,_,_,_,_,_,_,_,_,_,_,_,_,_] _ _ ?_)
  refine AD ?_
  repeat (refine g4 (by rfl) ?_;(first|refine B6 ?_|refine a4 ?_);refine runf4 @hm1 ?_;(first|refine EN ?_|refine EM ?_))
  refine FD ?_
  refine M3 (fun R=>Mn (n:=(c.acts.length:Int)) (s:=c.prev) (es:=es) rfl (by rfl) (by rfl) (by rfl)) ?_
  rw[hV];refine Fq (pf:=[]) (rf:=[]) [_,_] _ _ ?_
  refine AD ?_
  repeat (refine g4 (by rfl) ?_;(first|refine B6 ?_|refine a4 ?_);refine runf4 @hm1 ?_;(first|refine EN ?_|refine EM ?_))
  refine FD ?_
  refine HW.aw (P:=prog) [51] [118] (by decide) (by kernel_rfl) ?_
  refine AD ?_
  refine run ?_;refine Ic fun K hK=>?_
  refine run ?_;refine AZ ⟨fun R=>kfp _,rfl⟩ ?_
  refine run ?_;refine hK _ _ ?_
  refine run ?_;refine HW.aw (P:=prog) [] [] (by decide) (by kernel_rfl) ?_
  refine AD ?_
  refine run ?_;exact DD hok
 | true=>
  rw[hff]at kfp;cases hvv:BO key.pub a with
  |false=>
   rw[hvv]at kv;rw[Bool.true_and,if_neg (by decide)]
   refine AC.hw 76 func55 rfl (by decide) (Nat.le_of_ble_eq_true rfl) rfl ?_
   refine HW.seq (HW.aw (P:=prog) [] [] (by decide) (by kernel_rfl) ?_)
   refine AD ?_
   refine run ?_;refine HW.seq (HW.aw (P:=prog) [] [] (by decide) (by kernel_rfl) ?_)
   refine AD ?_
   refine run ?_;refine HW.seq (HW.aw (P:=prog) [] [] (by decide) (by kernel_rfl) ?_)
   refine AD ?_
   refine Ab (A5 @hm1 @hq1 @hq0 @hg @hkp) ?_;refine HW.seq (HW.aw (P:=prog) [] [] (by decide) (by kernel_rfl) ?_)
   refine AD ?_
   refine run ?_;refine HW.seq (HW.aw (P:=prog) [] [] (by decide) (by kernel_rfl) ?_)
   refine AD ?_
   refine run ?_;refine HW.seq (HW.seq (HW.spec4 (P:=prog) [] [] [0] [] [] (by decide) (by decide +kernel) (by decide +kernel) ?_))
   refine HL [_,_,_] [_,_,_,_,_,_,_,_,_,_,_,_,_,_] _ _ (Fq (pf:=[]) (rf:=[]) [_,_,_,_,_,_,_,_,_,_,_,_,_,_] _ _ ?_)
   refine AD ?_
   repeat (refine g4 (by rfl) ?_;(first|refine B6 ?_|refine a4 ?_);refine runf4 @hm1 ?_;(first|refine EN ?_|refine EM ?_))
   refine FD ?_
   refine M3 (fun R=>Mn (n:=(c.acts.length:Int)) (s:=c.prev) (es:=es) rfl (by rfl) (by rfl) (by rfl)) ?_
   rw[hV];refine Fq (pf:=[]) (rf:=[]) [_,_] _ _ ?_
   refine AD ?_
   repeat (refine g4 (by rfl) ?_;(first|refine B6 ?_|refine a4 ?_);refine runf4 @hm1 ?_;(first|refine EN ?_|refine EM ?_))
   refine FD ?_
   refine HW.aw (P:=prog) [51] [118] (by decide) (by kernel_rfl) ?_
   refine AD ?_
   refine run ?_;refine Ic fun K hK=>?_
   refine run ?_;refine AZ ⟨fun R=>kfp _,rfl⟩ ?_
   refine run ?_;refine cp kv ?_;refine run ?_;refine hK _ _ ?_
   refine run ?_;refine HW.aw (P:=prog) [] [] (by decide) (by kernel_rfl) ?_
   refine AD ?_
   refine run ?_;exact DD hok
  |true=>
   rw[hvv]at kv;rw[Bool.true_and,if_pos rfl];refine AC.hw 76 func55 rfl (by decide) (Nat.le_of_ble_eq_true rfl) rfl ?_
   refine HW.seq (HW.aw (P:=prog) [] [] (by decide) (by kernel_rfl) ?_)
   refine AD ?_
   refine run ?_;refine HW.seq (HW.aw (P:=prog) [] [] (by decide) (by kernel_rfl) ?_)
   refine AD ?_
   refine run ?_;refine HW.seq (HW.aw (P:=prog) [] [] (by decide) (by kernel_rfl) ?_)
   refine AD ?_
   refine Ab (A5 @hm1 @hq1 @hq0 @hg @hkp) ?_;refine HW.seq (HW.aw (P:=prog) [] [] (by decide) (by kernel_rfl) ?_)
   refine AD ?_
   refine run ?_;refine HW.seq (HW.aw (P:=prog) [] [] (by decide) (by kernel_rfl) ?_)
   refine AD ?_
   refine run ?_;refine HW.seq (HW.seq (HW.spec4 (P:=prog) [] [] [0] [] [] (by decide) (by decide +kernel) (by decide +kernel) ?_))
   refine HL [_,_,_] [_,_,_,_,_,_,_,_,_,_,_,_,_,_] _ _ (Fq (pf:=[]) (rf:=[]) [_,_,_,_,_,_,_,_,_,_,_,_,_,_] _ _ ?_)
   refine AD ?_
   repeat (refine g4 (by rfl) ?_;(first|refine B6 ?_|refine a4 ?_);refine runf4 @hm1 ?_;(first|refine EN ?_|refine EM ?_))
   refine FD ?_
   refine M3 (fun R=>Mn (n:=(c.acts.length:Int)) (s:=c.prev) (es:=es) rfl (by rfl) (by rfl) (by rfl)) ?_
   rw[hV];refine Fq (pf:=[]) (rf:=[]) [_,_] _ _ ?_
   refine AD ?_
   repeat (refine g4 (by rfl) ?_;(first|refine B6 ?_|refine a4 ?_);refine runf4 @hm1 ?_;(first|refine EN ?_|refine EM ?_))
   refine FD ?_
   refine HW.aw (P:=prog) [51] [118] (by decide) (by kernel_rfl) ?_
   refine AD ?_
   refine run ?_;refine Ic fun K hK=>?_
   refine run ?_;refine AZ ⟨fun R=>kfp _,rfl⟩ ?_
   refine run ?_;refine cp kv ?_;refine run ?_;refine hK _ _ ?_
   refine run ?_;refine HW.aw (P:=prog) [] [] (by decide) (by kernel_rfl) ?_
   refine AD ?_
   refine run ?_;refine AZ (kap _) ?_;refine run ?_;exact DD hok2
end
end Pe
end
section
namespace Pe
open Tryz
open Go Go.RowKit Co Sg Ac It Sl Tp
set_option maxRecDepth 100000
abbrev BN(A:List Ac.Act):List Dt:=A.map fun a=>((a.seq,a.prev),AV.sl .ro [Am a])
def GH(A:List Ac.Act)(n:Int)(s:By):Option Ac.Act:=A.find? fun a=>n==a.seq&&s==a.prev
theorem Qv(n:Int)(s:By):∀(A:List Ac.Act) (i:Nat),(C2 n s (BN A) i=none∧GH A n s=none) ∨ ∃j a,C2 n s (BN A) i=some (i+j)∧A[j]? = some a∧GH A n s=some a
 |[],_=>.inl ⟨rfl,rfl⟩
 | a::A,i=>by
  unfold GH;rw[List.find?_cons]
  show(C2 n s (((a.seq,a.prev),AV.sl .ro [Am a])::BN A) i=none∧_)∨_
  cases hb:(n==a.seq&&s==a.prev)with
  |true=>
   refine .inr ⟨0,a,?_,rfl,rfl⟩
   show C2 n s (((a.seq,a.prev),AV.sl .ro [Am a])::BN A) i=_
   unfold C2;rw[if_pos hb];rfl
  | false=>
   have e:C2 n s (((a.seq,a.prev),AV.sl .ro [Am a])::BN A) i=C2 n s (BN A) (i+1):=by
    rw[C2,if_neg (by rw[hb];decide)]
   rcases Qv n s A (i+1)with⟨h1,h2⟩|⟨j,b,h1,h2,h3⟩
   ·exact .inl ⟨e.trans h1,h2⟩
   ·refine .inr ⟨j+1,b,?_,h2,h3⟩
    show C2 n s (((a.seq,a.prev),AV.sl .ro [Am a])::BN A) i=_
    rw[e,h1,show i+1+j=i+(j+1) by omega]
theorem Yp(A:List Ac.Act)(n:Int)(s:By):Jy n s (BN A)=match GH A n s with
  |some a=>.sl .ro [Am a]
  |none=>.sl .full []:=by
 unfold Jy;rcases Qv n s A 0 with⟨h1,h2⟩|⟨j,a,h1,h2,h3⟩
 ·rw[h1,h2]
 ·rw[h1,h3,Nat.zero_add]
  simp only
  rw[List.getD_eq_getElem?_getD,List.getElem?_map,h2]
  rfl
theorem Ow(n:Nat):∀A:List Ac.Act,(Dn (BN A)).ok n=true
 |[]=>rfl
 |a::A=>by
  have :=Ow n A;show((AV.o2 n (Ed a.seq a.prev)&&AV.o2 n (AV.sl .ro [Am a]))&&(Dn (BN A)).ok n)=true
  rw[this];rfl
abbrev OU(A:List Ac.Act):Prop:=(A.map fun a=>(a.seq,a.prev)).Nodup
theorem Ze1{A:List Ac.Act}(h:OU A){k:Nat}(hk:k<A.length):C2 A[k].seq A[k].prev (BN (A.take k)) 0=none:=by
 rcases Qv A[k].seq A[k].prev (A.take k) 0 with⟨h1,_⟩|⟨j,a,_,h2,h3⟩
 ·exact h1
 ·exfalso
  have hp:=List.find?_some h3
  simp only[Bool.and_eq_true,beq_iff_eq]at hp;have hj:=(List.getElem?_eq_some_iff.1 h2).1
  rw[List.length_take]at hj;rw[List.getElem?_take,if_pos (by omega)]at h2
  have :=List.pairwise_iff_getElem.1 h j k (by rw[List.length_map];omega) (by rw[List.length_map];omega) (by omega)
  simp only[List.getElem_map]at this;rw[(List.getElem?_eq_some_iff.1 h2).2]at this
  exact this (by rw[hp.1,hp.2])
theorem PY{A:List Ac.Act}{n:Int}{s:By}{a:Ac.Act}(h:GH A n s=some a):a∈A∧a.seq=n∧a.prev=s:=by
 have hp:=List.find?_some h
 simp only[Bool.and_eq_true,beq_iff_eq]at hp;exact⟨List.mem_of_find?_eq_some h,hp.1.symm,hp.2.symm⟩
theorem ZhH{A:List Ac.Act}(h:OU A)(c:Chn):BJ A c=match GH A c.acts.length c.prev with
  |some a=>if(Bh c a&&BO (BM c).pub a)=true then [a]else []
  |none=>[]:=by
 have hnd:A.Nodup:=List.Pairwise.imp (fun {a b} hab e=>hab (by rw[e])) (List.pairwise_map.1 h)
 cases hp:GH A c.acts.length c.prev with
 |none=>
  simp only
  rw[BJ,List.filter_eq_nil_iff];intro x hx hpx;rw[Bool.and_eq_true]at hpx;obtain⟨_,_,f3,f4,_⟩:=Hj hpx.1;have :=List.find?_eq_none.1 hp x hx
  simp[f3,f4]at this
 | some a=>
  obtain⟨p1,p2,p3⟩:=PY hp;simp only
  have huniq:∀x∈A,(Bh c x&&BO (BM c).pub x)=true→x=a:=fun x hx hpx=>by
   rw[Bool.and_eq_true]at hpx;obtain⟨_,_,f3,f4,_⟩:=Hj hpx.1;exact Kg h hx p1 (by rw[f3,f4,p2,p3])
  split
  ·rename_i hb
   exact Ml hnd p1 hb huniq
  ·rename_i hb
   rw[BJ,List.filter_eq_nil_iff];intro x hx hpx;exact hb (by rw[←huniq x hx hpx];exact hpx)
end Pe
end
section
namespace Pe
open Tryz
open Go Go.RowKit Co Sg Ac It Sl Tp
set_option maxRecDepth 100000
set_option maxHeartbeats 8000000
abbrev Rh(ps:List Int)(items:List AV)(id:By):SObj:=
 .cells [AP ps,.sl .ro items,.st id,.sl .full [],.sl .full [],.st [],.it .i64 0,.bo false,.mp 2,.mp 3,.st [],.it .i64 0,.st [],.it .i64 0,.it .i64 0,.it .i64 0,.it .i64 0,.it .i64 0,.it .i64 0,.bo false]
abbrev GR:SObj:=.cells [.st [],.sl .full [],.sl .full [],.st [],.it .i64 0,.bo false]
theorem Zip(n:Nat)(A:List Ac.Act):(Bu A).ok n=true:=rfl
theorem Zai(A:List Ac.Act):((BN A).map fun p=>(Ed p.1.1 p.1.2,p.2)).map (fun p=>(p.1,p.2.wk1))=(BN A).map fun p=>(Ed p.1.1 p.1.2,p.2):=by
 rw[List.map_map,List.map_map,List.map_map];rfl
theorem X4(ps:List Int)(items:List AV)(c:Chn)(cl:It.Claim)(won:Bool)(n:Nat)(hn:9≤n):(F4 ps items c cl won).ok n=true:=by
 have h7:decide (7<n)=true:=decide_eq_true (by omega)
 have h8:decide (8<n)=true:=decide_eq_true (by omega)
 have h2:decide (2<n)=true:=decide_eq_true (by omega)
 have h3:decide (3<n)=true:=decide_eq_true (by omega)
 simp only[SObj.ok,List.all_cons,List.all_nil,AV.o1,AV.o0,h7,h8,h2,h3,Bool.and_self,Bool.and_true]
theorem ZhS(ps:List Int)(items:List AV)(cl:It.Claim)(won:Bool)(A:List Ac.Act)(a0:Ac.Act)(c:Chn):BOk ps items cl won (BN A) (.cells [AP ps,.sl .ro items]) GR (.cells (Am a0).cells) (.buf 1 45 20) c:=
 ⟨fun _ _=>rfl,fun _ _=>rfl,fun n=>Ow n A,fun c cl won n hn=>X4 ps items c cl won n hn,fun _ _=>rfl,fun _ _=>rfl⟩
theorem Zhj(ps:List Int)(items:List AV)(id:By)(A:List Ac.Act)(a0:Ac.Act)(r:Chn)(cl:It.Claim)(n:Nat)
  (kA:AC prog 49 [.agg [AP ps,.sl .ro items],.st id] [] (Bu A) [])
  (kw:AC prog 114 [.agg [AP ps,.sl .ro items],.st id,.it .i64 0] [] (.tup [Mu cl,.bo false]) [])
  (hr:Bg A)(hpos:OU A)(hdg:(A.map dg).Nodup)(hal:A.length≤60)(hnl:n≤60)(ha0:a0∈A)(hb:C1 id a0=true)
  (hruns:JJ (fun _=>none) A n (AB id [a0]) r):
  AC prog 22 [.agg [AP ps,.sl .ro items],.st id] [] (AG r) []:=by
 obtain⟨b1,b2,b3,b4,b5,b6⟩:=Qr hb;have hra0:=hr a0 ha0;have hsm:=Cp hra0;have hsz:=BX A;have hV0:Jy 0 [] (BN A)=.sl .ro [Am a0]:=by
  rw[Yp]
  have:GH A 0 []=some a0:=by
   cases hp:GH A 0 []with
   |none=>
    have :=List.find?_eq_none.1 hp a0 ha0
    simp[b3,b4]at this
   |some a=>
    obtain⟨p1,p2,p3⟩:=PY hp;rw[Kg hpos p1 ha0 (by rw[p2,p3,b3,b4])]
  rw[this]
 have kid:=Ze7 a0.n (by have :=hsm.n;exact⟨by omega,by omega⟩)
 rw[b5]at kid;have kver:=Sw a0.n a0 (Dp (act_signed ps hra0).1).act (by have :=hsm.n;exact⟨by omega,by omega⟩)
 rw[b6]at kver;have hk0:(a0.kind==0)=true:=beq_iff_eq.2 b2;have hidd:(id==id)=true:=beq_self_eq_true _;refine AC.hw 121 func22 rfl (by decide) (Nat.le_of_ble_eq_true rfl) rfl ?_
 refine HW.seq (HW.aw (P:=prog) [] [] (by decide) (by kernel_rfl) ?_)
 refine AD ?_
 refine run ?_;refine HW.seq (HW.aw (P:=prog) [] [] (by decide) (by kernel_rfl) ?_)
 refine AD ?_
 refine run ?_;refine HW.seq (HW.seq (HW.aw (P:=prog) [49] [] (by decide) (by kernel_rfl) ?_))
 refine AD ?_
 refine run ?_;refine cp kA ?_;refine run ?_;refine HW.block (HW.loop (fun t e S=>∃k:Nat,k≤A.length∧t=A.length-k∧e 1=.st id∧e 2=.ptr 0 0∧e 4=.ptr 1 0∧e 5=.ptr 4 0∧e 21=Bu A∧e 22=.it .i64 (A.length:Int)∧e 23=.it .i64 (k:Int)∧S=[.cells [AP ps,.sl .ro items],GR,Dn (BN (A.take k)),.map [],Rh ps items id]) A.length _ _ (Ao.refl _ _ _) ⟨0,Nat.zero_le _,rfl,Aa,Aa,Aa,Aa,Aa,Aa,Aa,rfl⟩ ?_)
 rintro t e S ⟨k,hk,rfl,s1,s2,s4,s5,s21,s22,s23,rfl⟩
 by_cases hlt:k<A.length
 ·have hlt':(k:Int)<(A.length:Int):=by omega
  have hg:A[k]? = some A[k]:=List.getElem?_eq_getElem hlt
  have hnew:=Ze1 hpos hlt;have htk:A.take (k+1)=A.take k++[A[k]]:=List.take_succ_eq_append_getElem hlt;have w1:=AT (k:=k) (by omega)
  have hel:(BN (A.take k)).length=k:=by rw[List.length_map,List.length_take];omega
  have k0:(0:Int)≤(k:Int):=by omega
  generalize A[k]=a at *;refine HW.seq (HW.aw (P:=prog) [] [] (by decide) (by kernel_rfl) ?_)
  refine AD ?_
  refine Ab (A3 @s22 @s23 @hlt') ?_;refine HW.seq (HW.aw (P:=prog) [] [] (by decide) (by kernel_rfl) ?_)
  refine AD ?_
  refine run ?_;refine HW.seq (HW.block (HW.seq (HW.aw (P:=prog) [] [] (by decide) (by kernel_rfl) ?_)))
  refine AD ?_
  refine Ab (A6 @s21 @s23 @hg @hsz @hlt' @k0) ?_;refine HW.seq (HW.aw (P:=prog) [] [] (by decide) (by kernel_rfl) ?_)
  refine AD ?_
  refine run ?_;refine HW.spec4 (P:=prog) [] [] [5] [38] [] (by decide) (by decide +kernel) (by decide +kernel) ?_
  refine HL [_,_,_,_,_] [_,_,_,_,_,_,_] _ _ (Fq (pf:=[]) (rf:=[]) [_,_,_,_,_,_,_] _ _ ?_)
  refine AD ?_
  repeat (refine g4 (by rfl) ?_;(first|refine B6 ?_|refine a4 ?_);refine runf4 @s5 ?_;(first|refine EN ?_|refine EM ?_))
  refine FD ?_
  refine Sq (ZgD (n:=a.seq) (s:=a.prev) (es:=BN (A.take k)) (l:=2) rfl (by rfl) (by rfl) (by rfl) hnew) ?_ ?_
  ·intro k hk
   simp only[List.mem_cons,List.not_mem_nil,or_false]at hk;subst hk;rfl
  rw[hel];refine HL [_] [_,_,_] _ _ (Fq (pf:=[]) (rf:=[]) [_,_,_] _ _ ?_)
  refine AD ?_
  repeat (refine g4 (by rfl) ?_;(first|refine B6 ?_|refine a4 ?_);refine runf4 @s5 ?_;(first|refine EN ?_|refine EM ?_))
  refine FD ?_
  refine Sq (ZgC (p:=(a.seq,a.prev)) (es:=BN (A.take k)) (v0:=.sl .full []) (l:=2) rfl (by rfl) (by rw[hel];rfl) (by rfl) (by rfl)) ?_ ?_
  ·intro k hk
   simp only[List.mem_cons,List.not_mem_nil,or_false]at hk;subst hk;rfl
  refine HW.aw (P:=prog) [] [] (by decide) (by kernel_rfl) ?_
  refine AD ?_
  refine Ab (an @s23 @w1) ?_;refine⟨A.length-(k+1),Bv (Bv (Bv (Bv (Bv (Bv (Bv (fun _=>.junk) 1 (.st id)) 2 (.ptr 0 0)) 4 (.ptr 1 0)) 5 (.ptr 4 0)) 21 (Bu A)) 22 (.it .i64 (A.length:Int))) 23 (.it .i64 ((k+1:Nat):Int)),[.cells [AP ps,.sl .ro items],GR,Dn (BN (A.take (k+1))),.map [],Rh ps items id],by omega,?_,k+1,by omega,rfl,Aa,Aa,Aa,Aa,Aa,Aa,Aa,rfl⟩
  refine Ao.trans2 (Ao.wkMap 0 2 rfl) ?_
  simp only[List.set_cons_succ,List.set_cons_zero];have hst:((BN (A.take k)++[((a.seq,a.prev),AV.sl (Mode.own 7) [Am a])]).map fun p=>(Ed p.1.1 p.1.2,p.2)).map (fun p=>(p.1,p.2.wk1))=(BN (A.take (k+1))).map fun p=>(Ed p.1.1 p.1.2,p.2):=by
   rw[htk,show BN (A.take k++[a])=BN (A.take k)++BN [a]from List.map_append,List.map_append,List.map_append,List.map_append,Zai]
   rfl
  rw[hst];refine Ao.pre 0 (S':=[.cells [AP ps,.sl .ro items],GR,Dn (BN (A.take (k+1))),.map [],Rh ps items id]) (T:=[_,_,_]) ?_ ?_
  ·exact(((((((IM.nil 5 _).cons 1 _ Aa).cons 2 _ Aa).cons 4 _ Aa).cons 5 _ Aa).cons 21 _ Aa (Zip 5 A)).cons 22 _ Aa).cons 23 _ Aa
  ·show(SObj.ok 5 _&&(SObj.ok 5 _&&(SObj.ok 5 (Dn _)&&(SObj.ok 5 _&&(SObj.ok 5 _&&true)))))=true
   rw[Ow 5];rfl
 ·obtain rfl:k=A.length:=by omega
  have hlt':¬(A.length:Int)<(A.length:Int):=by omega
  rw[List.take_length];refine HW.seq (HW.aw (P:=prog) [] [] (by decide) (by kernel_rfl) ?_)
  refine AD ?_
  refine Ab (A3 @s22 @s23 @hlt') ?_;refine HW.seq (HW.aw (P:=prog) [] [] (by decide) (by kernel_rfl) ?_)
  refine AD ?_
  refine run ?_;refine HW.seq (HW.aw (P:=prog) [] [] (by decide) (by kernel_rfl) ?_)
  refine AD ?_
  refine run ?_;refine HW.seq (HW.seq (HW.reg (P:=prog) [] [] (by kernel_rfl) ?_))
  refine JQ [_,_,_] [_,_,_,_,_] _ _ (FM (pf:=[]) (rf:=[]) [_,_,_,_,_] _ _ ?_)
  refine AD ?_
  refine Ab @s5 ?_;refine⟨_,_,⟨rfl,fun R=>Mn (n:=0) (s:=[]) (es:=BN A) (l:=2) rfl (by rfl) (by rfl) (by rfl)⟩,?_⟩
  rw[hV0];refine FM (pf:=[]) (rf:=[]) [_,_] _ _ ?_
  refine AD ?_
  refine run ?_;refine HW.aw (P:=prog) [50,51] [] (by decide) (by kernel_rfl) ?_
  refine AD ?_
  refine run ?_;refine Ic fun K hK=>?_
  refine Ab (an @hk0 @s1) ?_;refine cp kid ?_;refine Ab (an @hidd @s1) ?_;refine cp kver ?_;refine run ?_;refine hK _ _ ?_
  refine Ab @s5 ?_;refine HW.seq (HW.aw (P:=prog) [] [] (by decide) (by kernel_rfl) ?_)
  refine AD ?_
  refine Ab @s5 ?_;refine HW.seq (HW.aw (P:=prog) [] [] (by decide) (by kernel_rfl) ?_)
  refine AD ?_
  refine Ab @s5 ?_;refine HW.weak (Ao.reserveN 0 4 3 rfl rfl 45 20) ?_
  refine HW.weak (Ao.reserveN 0 4 4 rfl rfl 107 3) ?_
  simp only[List.set_cons_succ,List.set_cons_zero,List.length_cons,List.length_nil,List.length_append,List.cons_append,List.nil_append,Nat.reduceAdd];refine HW.aw (P:=prog) [] [] (by decide) (by kernel_rfl) ?_
  refine AD ?_
  refine Ab @s5 ?_;have hB:=fun cl c=>ZhS ps items cl false A a0 c
  have ka:=YI ps items Ei false (BN A) (.cells [AP ps,.sl .ro items]) GR (.cells (Am a0).cells) (.buf 1 45 20) { Tp.nilC id with keys:=[⟨0,a0.n,a0.m⟩] } a0 hra0 (by simp[Tp.nilC]) (by simp[Tp.nilC]) (by simp) (.inr trivial) rfl rfl (Ow 9 A) (X4 _ _ _ _ _ 9 (Nat.le_refl _)) rfl rfl
  have hc1:D5 { Tp.nilC id with keys:=[⟨0,a0.n,a0.m⟩] } a0=AB id [a0]:=by
   unfold D5 AB;rw[if_neg (by rw[b2];decide)]
   show _=Bz (Tp.nilC id) a0
   unfold Bz;rw[if_pos (.inr b2),if_pos b2];rfl
  rw[hc1]at ka;have kl:=Zd7 ps items Ei false (BN A) (.cells [AP ps,.sl .ro items]) GR (.cells (Am a0).cells) (.buf 1 45 20) (AB id [a0]) cl false (hB Ei _) (by rw[Jp,V9];exact kw)
  have hcok:COk (AB id [a0]) 1:=KB (Ms id false) hra0 fun _=>b2
  have hacts:(AB id [a0]).acts=[a0]:=Cr id [a0];have hcg:(AB id [a0]).gen=0:=V9 id [a0];generalize AB id [a0]=c1 at *;refine AZ ka ?_;refine Ab @s5 ?_;refine AZ kl ?_;clear ka kl hc1;refine run ?_;refine AN (fun t e S=>e 4=.ptr 1 0∧e 5=.ptr 4 0 ∧ ∃c:Chn,S=[.cells [AP ps,.sl .ro items],GR,Dn (BN A),.map (E5 c.acts 0),F4 ps items c cl false,.cells (Am a0).cells,.buf 1 45 20,Mz c.acts.length,My c.keys.length]∧JJ (fun _=>none) A t c r∧COk c c.acts.length∧(∀x∈c.acts,x∈A∧x.seq<(c.acts.length:Int))∧c.acts.length+t≤100∧c.acts≠[]) n ⟨Aa,Aa,c1,rfl,hruns,by rw[hacts];exact hcok,by rw[hacts];intro x hx;rw[List.mem_singleton.1 hx];exact⟨ha0,by rw[b3];simp⟩,by rw[hacts];simp;omega,by rw[hacts];simp⟩ ?_
  clear s1 s2 s4 s5 s21 s22 s23 hruns hcok hacts hcg;rintro t e S ⟨s4,s5,c,rfl,hrun,hck,hsub,htl,hne⟩
  rw[Db s4];cases t with
  |zero=>exact hrun.elim
  |succ t=>
  have hkl:=hck.klen;have hk1:=hck.key hne;have hlast:=hck.last;have kr:=ZcC ps items cl (BN A) (.cells [AP ps,.sl .ro items]) GR (.cells (Am a0).cells) (.buf 1 45 20) c (hB cl c);unfold JJ at hrun;simp only[Pj]at hrun;rw[ZhH hpos c]at hrun;have hat:=Yp A (c.acts.length:Int) c.prev;cases hp:GH A (c.acts.length:Int) c.prev with
  |none=>
   rw[hp]at hrun hat;simp only at hrun hat
   have kc:=Zg4 ps items cl false (BN A) (.cells [AP ps,.sl .ro items]) GR (.cells (Am a0).cells) (.buf 1 45 20) c (hB cl c) (by omega) (by omega) hk1 hat
   subst hrun;refine Ab @s5 ?_;refine AZ kr ?_;refine Ab @s5 ?_;refine AZ kc ?_;refine Ab (an @s4 @s5) ?_;exact Au
  | some a=>
   obtain⟨p1,p2,p3⟩:=PY hp;rw[hp]at hrun hat;simp only at hrun hat
   have hdn:dg a∉c.acts.map dg:=fun hm=>by
    obtain⟨x,hx,e⟩:=List.mem_map.1 hm;obtain⟨q1,q2⟩:=hsub x hx;have :=Kg hdg q1 p1 e;rw[this,p2]at q2;omega
   have kc:=Zg3 ps items cl false (BN A) (.cells [AP ps,.sl .ro items]) GR (.cells (Am a0).cells) (.buf 1 45 20) c a (hB cl c) (by omega) (by omega) hk1 hat (hr a p1) hdn ⟨by omega,by omega⟩
   cases hfv:(Bh c a&&BO (BM c).pub a)with
   |false=>
    rw[hfv,if_neg (by decide)]at kc hrun
    simp only at hrun
    subst hrun;refine Ab @s5 ?_;refine AZ kr ?_;refine Ab @s5 ?_;refine AZ kc ?_;refine Ab (an @s4 @s5) ?_;exact Au
   | true=>
    rw[hfv,if_pos rfl]at kc hrun;simp only at hrun
    have hfit:=Hj ((Bool.and_eq_true _ _).mp hfv).1;have hk00:a.kind≠0:=fun e=>by
     have :=hfit.2.2.2.2.1.1 e;exact hne (List.eq_nil_of_length_eq_zero this)
    rw[Zio hk00]at kc;have hal2:(Bz c a).acts.length=c.acts.length+1:=by show(c.acts++[a]).length=_;simp
    refine Ab @s5 ?_;refine AZ kr ?_;refine Ab @s5 ?_;refine AZ kc ?_;refine Ab (an @s4 @s5) ?_;refine Aj t (by omega) ⟨Aa,Aa,Bz c a,rfl,hrun,by rw[hal2];exact KB hck (hr a p1) (fun h=>absurd h hne),?_,by rw[hal2];omega,?_⟩
    ·intro x hx
     rw[hal2];rcases List.mem_append.1 hx with hx|hx
     ·exact⟨(hsub x hx).1,by have :=(hsub x hx).2;omega⟩
     ·rw[List.mem_singleton.1 hx];exact⟨p1,by rw[p2];omega⟩
    ·show c.acts++[a]≠[]
     simp
end Pe
end
section
namespace Pe
open Tryz
open Go Go.RowKit Co Sg Ac It Sl Tp
set_option maxRecDepth 100000
set_option maxHeartbeats 4000000
theorem Zdf(ps:List Int)(l:List It.Item)(id:By)(hl:l.length≤1000)(hk:∀x∈l,(x.kind==1)=false):
  AC prog 273 [EK ps l,.fn (.func 274) [] [.ptr 0 0]] [.cells [.st id]] (.sl .ro []) [.cells [.st id]]:=by
 have hsz:=Ji l;have k4':=Zbj 314;refine Ah [39,19,313] [] func273 ?_;refine run ?_;refine Cq (fun m e S=>e 1=.fn (.func 274) [] [.ptr 0 0]∧e 5=.sl .full []∧e 15=.sl .ro (l.map Be)∧e 16=.it .i64 (l.length:Int) ∧ ∃(k:Nat) (T:Ae),e 17=.it .i64 (k:Int)∧S=.cells [.st id]::.cells [AP ps,.sl .ro (l.map Be)]::T∧k≤l.length∧m=l.length-k) l.length _ _ (Ao.refl _ _ _)
  ⟨Aa,Aa,Aa,Aa,0,[],Aa,rfl,by omega,rfl⟩ ?_
 rintro m e S ⟨s1,s5,s15,s16,k,T,s17,rfl,hk',rfl⟩
 have hT1:∀y:SObj,(T++[y])[T.length]? = some y:=fun y=>by simp
 have hT2:∀y z:SObj,(T++[y]).set T.length z=T++[z]:=fun y z=>by simp
 have hT3:∀y z:SObj,(T++[y]++[z])[T.length]? = some y:=fun y z=>by simp
 have hT4:∀y z:SObj,(T++[y]++[z])[T.length+1]? = some z:=fun y z=>by simp
 have hT5:∀y z u:SObj,(T++[y]++[z]).set (T.length+1) u=T++[y]++[u]:=fun y z u=>by simp
 by_cases hlt:k<l.length
 ·have hg:l[k]? = some l[k]:=List.getElem?_eq_getElem hlt
  have hlt':(k:Int)<(l.length:Int):=by omega
  have w1:=AT (k:=k) (by omega)
  have hkk:=hk l[k] (List.getElem_mem hlt);generalize l[k]=it at *;have k1:=Zhf it id hkk;refine Ab (BZ @s1 @s15 @s16 @s17 @s5 @hlt' @hg @hsz @hT1 @hT2) ?_;refine cl (xs:=[Be it]) 0 k1 ?_;refine Ab (An @s1 @s15 @s16 @s17 @s5 @w1 @hT1 @hT2 @hT3 @hT4 @hT5) ?_;exact Aj (l.length-(k+1)) (by omega) ⟨Aa,Aa,Aa,Aa,k+1,_,Aa,rfl,by omega,rfl⟩
 ·obtain rfl:k=l.length:=by omega
  have hlt':¬(l.length:Int)<(l.length:Int):=by omega
  refine Ab (A6 @s1 @s15 @s16 @s17 @s5 @hlt') ?_;refine cp k4' ?_;refine Ab @s5 ?_;refine Fz ?_
  refine run ?_;exact WH
theorem Zhe(ps:List Int)(l:List It.Item)(id:By)(hl:l.length≤1000)(hk:∀x∈l,(x.kind==1)=false):AC prog 190 [EK ps l,.st id] [] (.sl .ro []) []:=by
 have k:=Zdf ps l id hl hk;refine Ah [] [] func190 ?_;refine run ?_;refine XE 1 k ?_;refine run ?_;exact Au
theorem Zah(ps:List Int)(l:List It.Item)(id:By)(gen:Int)(hps:ps.length=4)(hl:l.length≤1000)(hk:∀x∈l,(x.kind==1)=false):AC prog 114 [EK ps l,.st id,.it .i64 gen] [] (.tup [Mu Ei,.bo false]) []:=by
 have k1:=ZcL;have k2:=Zhe ps l id hl hk;refine Ah [189,190,116,19,191] [] func114 ?_;refine Ab @hps ?_;refine cp k1 ?_;refine Ab @hps ?_;refine cp k2 ?_;refine run ?_;refine Fz ?_
 refine run ?_;exact Ad
end Pe
end
section
namespace Pe
open Tryz
open Go Go.RowKit Go.Maps Go.Sort Co
set_option maxRecDepth 100000
set_option maxHeartbeats 4000000
theorem UL{w:World}{blk:Nat}{arr:Array Value}{e:TypeId}{fr:Nat×Nat}(f:Array Value→Array Value)(h:w.heap[blk]? = some (.cells arr e fr)):mapBlock w blk f={ w with heap:=w.heap.setIfInBounds blk (.cells (f arr) e fr) }:=by
 unfold mapBlock;congr 1
 apply Array.ext_getElem?
 intro i;rw[Array.getElem?_modify,Array.getElem?_setIfInBounds]
 by_cases hi:blk=i
 ·subst hi
  have :=(Array.getElem?_eq_some_iff.1 h).1
  rw[if_pos rfl,if_pos rfl,if_pos this,h];rfl
 ·rw[if_neg hi,if_neg hi]
theorem SV(ss:List By)(h0:ss≠[])(hl:ss.length≤1000000):AC prog 20 [.wr 0 ss.length none] [.row (ss.map AV.st) 9 1] (.tup []) [.row ((ss.mergeSort fun x y=>decide (x≤y)).map AV.st) 9 1]:=by
 refine⟨by kernel_rfl,fun w g cargs hw hargs=>?_⟩
 obtain⟨cv,rfl,hrv⟩:=Kh hargs;have hpos:=List.length_pos_iff.2 h0;obtain⟨k1,⟨_,k2⟩,k3⟩:=hw.obj 0 _ rfl;rw[List.length_map,Nat.mul_one]at k2;generalize hn:ss.length=n at *;cases hrv with
 | wr _ _ _ c A hl' hb hw' hc hm h0' hA=>
  obtain⟨rfl,hA⟩:c=g.cap 0∧(0<c→A=some ⟨g.pl 0,0,none⟩):=by
   rcases hA with hA|hA
   ·omega
   ·exact hA
  obtain rfl:=hA (by omega)
  rcases k3 with⟨hcap,hnil⟩|⟨hown,hG,arr,fr,hheap,hfr,hsz,hle,hone,hrel⟩
  ·exact absurd (List.map_eq_nil_iff.1 hnil) h0
  rw[Nat.mul_one]at hsz;rw[List.length_map]at hle;have hcell:∀(j:Nat) (h:j<ss.length),arr[j]? = some (encStr ss[j]):=fun j h=>by
   have hx:arr[j]? = some arr[j]:=Array.getElem?_eq_getElem (by omega)
   have :=hrel j (.st ss[j]) arr[j] (by rw[List.getElem?_map,List.getElem?_eq_getElem h];rfl) hx
   rw[hx];generalize arr[j]=x at this;cases this
   rfl
  have hH:Holds encStr w (g.pl 0) 0 ss.toArray:=fun j hj=>by
   have hj:j<ss.length:=by simpa using hj
   refine⟨?_,?_⟩
   ·rw[Nat.zero_add,cell_of_row w (g.pl 0) j arr _ fr hheap,hcell j hj]
    simp[hj]
   ·unfold World.frozen?
    simp only[hheap];rw[Bool.and_eq_false_iff];by_cases h:fr.1≤0+j
    ·exact .inr (by simp;omega)
    ·exact .inl (by simpa using h)
  have hblk:g.pl 0<w.heap.size:=(Array.getElem?_eq_some_iff.1 hheap).1
  have kc:=AnyM.slices_Sort_string Tryz.sortS (g.pl 0) 0 (g.cap 0) ss w hH hblk (by omega)
  rw[hn]at kc;change Calls prog 20 _ _ _ at kc;refine kc.mono ?_
  rintro r w' ⟨rfl,m,os,rfl⟩
  have hll:(ss.mergeSort fun x y=>decide (x≤y)).length=n:=by rw[List.length_mergeSort,hn]
  generalize (ss.mergeSort fun x y=>decide (x≤y))=so at *
  have hput:∀(j:Nat) v,(putCells encStr 0 so.toArray arr)[j]? = some v→j<so.length→v=encStr (so.getD j []):=fun j v hv hj=>by
   unfold putCells at hv;rw[Array.getElem?_mapIdx]at hv
   obtain⟨x,hx,rfl⟩:=Option.map_eq_some_iff.1 hv;rw[if_pos (by simp;omega)]
   simp only[Nat.sub_zero];congr 1
   rw[List.getD_eq_getElem?_getD,List.getElem?_eq_getElem hj,Option.getD_some]
   simp[hj]
  obtain⟨q1,q2⟩:=hw.put (l:=0) (o:=.row (so.map AV.st) 9 1) (ob:=.cells (putCells encStr 0 so.toArray arr) 9 fr) (by simp) hown hG ⟨k1,⟨by decide,by rw[List.length_map,Nat.mul_one];omega⟩,.inr ⟨hown,hG,putCells encStr 0 so.toArray arr,fr,by simp[hblk],hfr,by rw[Nat.mul_one];simp[putCells];exact hsz,by simp[putCells];omega,fun j v hv hj=>by
    rw[List.length_map]at hj;rw[hput j v hv hj];rfl,fun j u v hu hv=>by
    rw[List.getElem?_map]at hu
    obtain⟨x,hx,rfl⟩:=Option.map_eq_some_iff.1 hu;have hj:=(List.getElem?_eq_some_iff.1 hx).1
    rw[hput j v hv hj,List.getD_eq_getElem?_getD,hx]
    exact .st _ _⟩⟩
  have hm1:=UL (w:=w) (putCells encStr 0 so.toArray) hheap;rw[←hm1]at q1 q2;have hbel:RowKit.Below (mapBlock w (g.pl 0) (putCells encStr 0 so.toArray)).heap.size (mapBlock w (g.pl 0) (putCells encStr 0 so.toArray)) (grow (putRow encStr (_root_.Go.Sort.ahead w m) (g.pl 0) 0 so.toArray) os):=by
   refine⟨rfl,rfl,rfl,?_,fun k hk=>?_⟩
   ·show(mapBlock w (g.pl 0) (putCells encStr 0 so.toArray)).heap.size≤(_++os).size
    rw[Array.size_append];exact Nat.le_add_right _ _
   ·show((mapBlock w (g.pl 0) (putCells encStr 0 so.toArray)).heap++os)[k]? = _
    rw[Array.getElem?_append_left hk]
  exact⟨_,g,rfl,q1.below hbel,.tup _ _ _ rfl (fun j u v hu hv=>by simp at hu),q2.trans (Evo.below g hbel)⟩
end Pe
end
section
namespace Pe
open Tryz
open Go Go.RowKit Go.Maps Go.Sort Co
set_option maxRecDepth 100000
set_option maxHeartbeats 4000000
theorem ZdW{zs:List By}{x:By}:x∈Lib.compact zs↔x∈zs:=by
 have hget:∀j,j<zs.length→zs.toArray[j]! = zs.getD j []:=fun j hj=>by
  simp[List.getD_eq_getElem?_getD,List.getElem?_eq_getElem hj,hj]
 unfold Lib.compact Lib.compactUpTo;simp only[List.mem_map,List.mem_filter,List.mem_range];constructor
 ·rintro⟨j,⟨hj,_⟩,rfl⟩
  rw[hget j hj,List.getD_eq_getElem?_getD,List.getElem?_eq_getElem hj]
  exact List.getElem_mem hj
 ·intro hx
  obtain⟨j,hj,rfl⟩:=List.mem_iff_getElem.1 hx
  -- the first place of the run
  have:∀j,∀h:j<zs.length,∃i,(i<zs.length∧Lib.keeps zs.toArray i=true)∧zs.toArray[i]! = zs[j]:=by
   intro j;induction j with
   |zero=>exact fun h=>⟨0,⟨h,rfl⟩,by rw[hget 0 h,List.getD_eq_getElem?_getD,List.getElem?_eq_getElem h];rfl⟩
   | succ j ih=>
    intro h;by_cases e:zs.toArray[j+1]! = zs.toArray[j]!
    ·obtain⟨i,hi,he⟩:=ih (by omega)
     refine⟨i,hi,he.trans ?_⟩
     rw[hget _ h,hget _ (by omega),List.getD_eq_getElem?_getD,List.getD_eq_getElem?_getD,List.getElem?_eq_getElem h,List.getElem?_eq_getElem (by omega:j<zs.length)]at e
     exact e.symm
    ·exact⟨j+1,⟨h,Lib.keeps_pos (by simpa using e)⟩,by rw[hget _ h,List.getD_eq_getElem?_getD,List.getElem?_eq_getElem h];rfl⟩
  exact this j hj
theorem Xz(zs:List By):(Lib.compact zs).length≤zs.length:=by
 unfold Lib.compact Lib.compactUpTo;rw[List.length_map];exact Nat.le_trans (List.length_filter_le _ _) (by rw[List.length_range];exact Nat.le_refl _)
theorem Za4{w:World}{g:Gh}{es:List AV}{A:Option Addr}{c m:Nat}(h:Rel w g (.sl .ro es) (.slice A es.length c))(hm:m≤es.length):Rel w g (.sl .ro (es.take m)) (.slice A m c):=by
 have hlen:(es.take m).length=m:=by rw[List.length_take];omega
 cases h with
 | sl _ _ _ _ _ sz cu hc hcm hsz hA h1 hr _=>
  have hft:∀j,j<(Ak (es.take m)).length→j<(Ak es).length:=fun j hj=>by
   have e:Ak es=Ak (es.take m)++Ak (es.drop m):=by rw[←Jq,List.take_append_drop]
   rw[e,List.length_append];omega
  have hget:∀(j:Nat) u,(Ak (es.take m))[j]? = some u→(Ak es)[j]? = some u:=fun j u hu=>by
   have e:Ak es=Ak (es.take m)++Ak (es.drop m):=by rw[←Jq,List.take_append_drop]
   rw[e,List.getElem?_append_left (List.getElem?_eq_some_iff.1 hu).1]
   exact hu
  have :=Rel.sl (w:=w) g .ro (es.take m) A c sz cu (by omega) hcm (fun e he=>hsz e (List.mem_of_mem_take he)) (fun h=>by
   obtain⟨b,o,rfl,hb⟩:=hA (by omega)
   exact⟨b,o,rfl,fun j hj=>hb j (hft j hj)⟩) (fun j hj=>h1 j (hft j hj)) (fun j u hu=>hr j u (hget j u hu)) trivial
  rwa[hlen]at this
theorem XA(ss:List By)(h0:ss≠[])(hl:ss.length≤1000000):AC prog 21 [.wr 0 ss.length none] [.row (ss.map AV.st) 9 1] (.sl .ro ((Lib.compact ss).map AV.st)) [.dead]:=by
 refine⟨by kernel_rfl,fun w g cargs hw hargs=>?_⟩
 obtain⟨cv,rfl,hrv⟩:=Kh hargs;have hpos:=List.length_pos_iff.2 h0;obtain⟨k1,⟨_,k2⟩,k3⟩:=hw.obj 0 _ rfl;rw[List.length_map,Nat.mul_one]at k2;generalize hn:ss.length=n at *;cases hrv with
 | wr _ _ _ c A hl' hb hw' hc hm h0' hA=>
  obtain⟨rfl,hA⟩:c=g.cap 0∧(0<c→A=some ⟨g.pl 0,0,none⟩):=by
   rcases hA with hA|hA
   ·omega
   ·exact hA
  obtain rfl:=hA (by omega)
  rcases k3 with⟨hcap,hnil⟩|⟨hown,hG,arr,fr,hheap,hfr,hsz,hle,hone,hrel⟩
  ·exact absurd (List.map_eq_nil_iff.1 hnil) h0
  rw[Nat.mul_one]at hsz;rw[List.length_map]at hle;have hcell:∀(j:Nat) (h:j<ss.length),arr[j]? = some (encStr ss[j]):=fun j h=>by
   have hx:arr[j]? = some arr[j]:=Array.getElem?_eq_getElem (by omega)
   have :=hrel j (.st ss[j]) arr[j] (by rw[List.getElem?_map,List.getElem?_eq_getElem h];rfl) hx
   rw[hx];generalize arr[j]=x at this;cases this
   rfl
  have hH:Holds encStr w (g.pl 0) 0 ss.toArray:=fun j hj=>by
   have hj:j<ss.length:=by simpa using hj
   refine⟨?_,?_⟩
   ·rw[Nat.zero_add,cell_of_row w (g.pl 0) j arr _ fr hheap,hcell j hj]
    simp[hj]
   ·unfold World.frozen?
    simp only[hheap];rw[Bool.and_eq_false_iff];by_cases h:fr.1≤0+j
    ·exact .inr (by simp;omega)
    ·exact .inl (by simpa using h)
  have hblk:g.pl 0<w.heap.size:=(Array.getElem?_eq_some_iff.1 hheap).1
  have kc:=Tryz.slices_Compact_string (g.pl 0) 0 (g.cap 0) ss w hH (by omega) (by omega)
  rw[hn]at kc;change Calls prog 21 _ _ _ at kc;refine kc.mono ?_
  have hcl:=Xz ss;rintro r w' ⟨rfl,m,rfl⟩
  obtain⟨so,hso⟩:∃so,so=Lib.compact ss++List.replicate (n-(Lib.compact ss).length) []:=⟨_,rfl⟩
  rw[←hso];have hll:so.length=n:=by rw[hso,List.length_append,List.length_replicate];omega
  have htk:so.take (Lib.compact ss).length=Lib.compact ss:=by rw[hso,List.take_left]
  generalize Lib.compact ss=cs at *;clear hso;have hput:∀(j:Nat) v,(putCells encStr 0 so.toArray arr)[j]? = some v→j<so.length→v=encStr (so.getD j []):=fun j v hv hj=>by
   unfold putCells at hv;rw[Array.getElem?_mapIdx]at hv
   obtain⟨x,hx,rfl⟩:=Option.map_eq_some_iff.1 hv;rw[if_pos (by simp;omega)]
   simp only[Nat.sub_zero];congr 1
   rw[List.getD_eq_getElem?_getD,List.getElem?_eq_getElem hj,Option.getD_some]
   simp[hj]
  obtain⟨q1,q2⟩:=hw.put (l:=0) (o:=.row (so.map AV.st) 9 1) (ob:=.cells (putCells encStr 0 so.toArray arr) 9 fr) (by simp) hown hG ⟨k1,⟨by decide,by rw[List.length_map,Nat.mul_one];omega⟩,.inr ⟨hown,hG,putCells encStr 0 so.toArray arr,fr,by simp[hblk],hfr,by rw[Nat.mul_one];simp[putCells];exact hsz,by simp[putCells];omega,fun j v hv hj=>by
    rw[List.length_map]at hj;rw[hput j v hv hj];rfl,fun j u v hu hv=>by
    rw[List.getElem?_map]at hu
    obtain⟨x,hx,rfl⟩:=Option.map_eq_some_iff.1 hu;have hj:=(List.getElem?_eq_some_iff.1 hx).1
    rw[hput j v hv hj,List.getD_eq_getElem?_getD,hx]
    exact .st _ _⟩⟩
  have hm1:=UL (w:=w) (putCells encStr 0 so.toArray) hheap;rw[←hm1]at q1 q2;have hbel:RowKit.Below (mapBlock w (g.pl 0) (putCells encStr 0 so.toArray)).heap.size (mapBlock w (g.pl 0) (putCells encStr 0 so.toArray)) (putRow encStr (_root_.Go.Sort.ahead w m) (g.pl 0) 0 so.toArray):=⟨rfl,rfl,rfl,Nat.le_refl _,fun k hk=>rfl⟩
  have q3:=q1.below hbel;have q4:=q2.trans (Evo.below g hbel);have hflat:Ak (so.map AV.st)=so.map AV.st:=by
   clear hll htk hput q1 q2 q3 q4 hbel hm1;induction so with
   |nil=>rfl
   |cons x l ih=>rw[List.map_cons,show Ak (AV.st x::l.map AV.st)=AV.st x::Ak (l.map AV.st)from rfl,ih]
  obtain⟨g',z1,z2,z3⟩:=WF.frz (l:=0) (es:=so.map AV.st) (e:=9) (sz:=1) q3 (by rw[hflat];rfl) (fun x hx=>by obtain⟨y,_,rfl⟩:=List.mem_map.1 hx;rfl) (by rw[hflat,List.all_eq_true];intro x hx;obtain⟨y,_,rfl⟩:=List.mem_map.1 hx;rfl)
  have hwr:Rel (putRow encStr (_root_.Go.Sort.ahead w m) (g.pl 0) 0 so.toArray) g (.wr 0 (so.map AV.st).length none) (.slice (some ⟨g.pl 0,0,none⟩) (so.map AV.st).length (g.cap 0)):=by
   rw[List.length_map,hll];exact .wr g 0 n (g.cap 0) _ hl' hb hw' hc hm (fun _=>⟨_,_,rfl⟩) (.inr ⟨rfl,fun _=>rfl⟩)
  have hsub:=Za4 (z3 _ hwr) (m:=cs.length) (by rw[List.length_map];omega)
  rw[←List.map_take,htk]at hsub;exact⟨_,g',rfl,z1,hsub,q4.trans z2⟩
end Pe
end
section
namespace Pe
open Tryz
open Go Go.RowKit Co Sg Ac It Sl Tp
set_option maxRecDepth 100000
set_option maxHeartbeats 4000000
theorem SW:AC prog 20 [.wr 0 0 none] [.row [] 9 1] (.tup []) [.row [] 9 1]:=by
 refine⟨by kernel_rfl,fun w g cargs hw hargs=>?_⟩
 obtain⟨cv,rfl,hrv⟩:=Kh hargs;cases hrv with
 |wr _ _ _ c A hl' hb hw' hc hm h0' hA=>
  have kc:=AnyM.slices_Sort_string_none Tryz.sortS A c w;change Calls prog 20 _ _ _ at kc;refine kc.mono ?_
  rintro r w' ⟨rfl,rfl⟩
  exact⟨_,g,rfl,hw,.tup _ _ _ rfl (fun j u v hu hv=>by simp at hu),Evo.refl _ g⟩
theorem XB:AC prog 21 [.wr 0 0 none] [.row [] 9 1] (.sl .ro []) [.dead]:=by
 refine⟨by kernel_rfl,fun w g cargs hw hargs=>?_⟩
 obtain⟨cv,rfl,hrv⟩:=Kh hargs;cases hrv with
 |wr _ _ _ c A hl' hb hw' hc hm h0' hA=>
  have kc:=Tryz.slices_Compact_string_empty A c w;change Calls prog 21 _ _ _ at kc;refine kc.mono ?_
  rintro r w' ⟨rfl,rfl⟩
  exact⟨_,g,rfl,hw.kill 0,.sl _ .ro [] A c 1 (fun _=>undef) hc hm (by simp) (fun h=>absurd h (Nat.lt_irrefl 0)) (by simp[Ak]) (by simp[Ak]) trivial,Evo.refl _ g⟩
theorem Xy{zs:List By}(h:zs.Nodup):Lib.compact zs=zs:=by
 have hget:∀j (hj:j<zs.length),zs.toArray[j]! = zs[j]:=fun j hj=>by simp[hj]
 unfold Lib.compact Lib.compactUpTo;rw[List.filter_eq_self.2]
 ·refine List.ext_getElem (by simp) fun j h1 h2=>?_
  simp only[List.getElem_map,List.getElem_range];exact hget j h2
 ·intro j hj
  have hj:j<zs.length:=by simpa using hj
  cases j with
  |zero=>rfl
  | succ j=>
   refine Lib.keeps_pos ?_
   rw[hget _ hj,hget _ (by omega)]
   have hne:zs[j+1]≠zs[j]:=fun e=>by
    have :=(List.getElem_inj h).1 e;omega
   simpa using hne
theorem Zbk(M:List By)(h:EX M)(hl:M.length≤1000000):AC prog 20 [.wr 0 M.length none] [.row (M.map AV.st) 9 1] (.tup []) [.row (M.map AV.st) 9 1]:=by
 by_cases h0:M=[]
 ·subst h0
  exact SW
 ·have k:=SV M h0 hl
  rwa[show(M.mergeSort fun x y=>decide (x≤y))=M from Ls (.refl M) h]at k
theorem Zg5(M:List By)(h:EX M)(hl:M.length≤1000000):AC prog 21 [.wr 0 M.length none] [.row (M.map AV.st) 9 1] (Av M) [.dead]:=by
 by_cases h0:M=[]
 ·subst h0
  exact XB
 ·have k:=XA M h0 hl
  rwa[Xy (Zh0 h)]at k
theorem WV{α:Type}{p:α→Bool}:∀{l:List α},(∀y∈l,p y=true)→l.dropWhile p=[]
 |[],_=>rfl
 |x::l,h=>by
  rw[List.dropWhile_cons,if_pos (h x (by simp))]
  exact WV fun y hy=>h y (List.mem_cons_of_mem _ hy)
theorem ZeT{l:List By}{s:By}(h:∀y∈l,Op.bytesLess y s=true):Eu l s=l++[s]:=by
 have h1:l.dropWhile (fun y=>Op.bytesLess y s)=[]:=WV h
 have h2:l.takeWhile (fun y=>Op.bytesLess y s)=l:=by
  have :=List.takeWhile_append_dropWhile (p:=fun y=>Op.bytesLess y s) (l:=l)
  rw[h1,List.append_nil]at this;exact this
 unfold Eu;rw[h1,h2];rfl
theorem V6:∀(M acc:List By),EX (acc++M)→M.foldl Eu acc=acc++M
 |[],acc,_=>by simp
 |x::M,acc,h=>by
  have h1:∀y∈acc,Op.bytesLess y x=true:=fun y hy=>(List.pairwise_append.1 h).2.2 y hy x (by simp)
  have e:acc++x::M=(acc++[x])++M:=by simp
  rw[List.foldl_cons,ZeT h1,V6 M (acc++[x]) (by rw[←e];exact h),←e]
theorem SA(c:Chn)(n:Nat):TAsc (Cm c n):=Pf _ _
abbrev Fy(id:By)(B:List By)(x:By):Bool:=!(x==id) && !(B.contains x)
theorem N1(c:Chn)(n:Nat):AR c n=(Cm c n).accepts.filter (Fy c.id (Cm c n).blocks):=by
 unfold AR;rw[V6 _ [] (by rw[List.nil_append];exact List.Pairwise.filter _ (SA c n).accepts),List.nil_append]
theorem PE(l:List By)(ty:TypeId)(n:Nat):(SObj.row (l.map AV.st) ty 1).ok n=true:=List.all_eq_true.2 fun x hx=>by
 obtain⟨y,_,rfl⟩:=List.mem_map.1 hx;rfl
theorem XJ(c:Chn)(n:Nat)(to:List By)(hn:n≤c.acts.length)(hcl:c.acts.length≤400)(hr:Bg c.acts):
  AC prog 73 [AG c,.it .i64 (n:Int),.it .i64 1,.st [],Av to] [] (Av (AR c n)) []:=by
 have kr:=Zcy c n hn (by omega) hr
 have hok:=HZ c.acts (min n c.acts.length);have hasc:=SA c n;rw[N1];change TOk (Cm c n) _ at hok;generalize Cm c n=t at *;obtain⟨t1,A,B,t4⟩:=t;have hal:A.length≤400:=by have :=hok.a;simp only at this;omega
 have hbl:B.length≤400:=by have :=hok.b;simp only at this;omega
 have hmA:EX (A.filter (Fy c.id B)):=List.Pairwise.filter _ hasc.accepts;have hml:(A.filter (Fy c.id B)).length≤400:=Nat.le_trans (List.length_filter_le _ _) hal;have kS:=Zbk _ hmA (by omega)
 have kC:=Zg5 _ hmA (by omega)
 have kB:=fun x=>Xv B x (by omega)
 obtain⟨id,acts,keys,prev,gen,fork⟩:=c;simp only at hn hcl hr kr kS kC ⊢
 have hsz:=D8 A;have hstep:∀k (h:k<A.length),(A.take (k+1)).filter (Fy id B)=(A.take k).filter (Fy id B)++if Fy id B A[k]=true then [A[k]]else []:=fun k h=>by
  rw[List.take_succ_eq_append_getElem h,List.filter_append];congr 1
  by_cases hp:Fy id B A[k]=true
  ·rw[if_pos hp,List.filter_cons,if_pos hp];rfl
  ·rw[if_neg hp,List.filter_cons,if_neg hp];rfl
 have hend:(A.take A.length).filter (Fy id B)=A.filter (Fy id B):=by rw[List.take_length]
 have hfl:∀k,((A.take k).filter (Fy id B)).length≤400:=fun k=>Nat.le_trans (List.length_filter_le _ _) (by rw[List.length_take];omega)
 generalize hMk:(fun k:Nat=>(A.take k).filter (Fy id B))=Mk at *
 have hMk':∀k,(A.take k).filter (Fy id B)=Mk k:=fun k=>by rw[←hMk]
 have hM0:Mk 0=[]:=by rw[←hMk' 0];rfl
 simp only[hMk']at hstep hend hfl;rw[←hend]at kS kC ⊢;clear hMk hMk' hend hmA hml hasc hok;refine Ah [143,144,31] [] func73 ?_;refine run ?_;refine cp kr ?_;refine run ?_;refine Cq (fun m e S=>e 5=.ptr 0 0∧e 11=.ptr 1 0∧e 54=Av A∧e 55=.it .i64 (A.length:Int) ∧ ∃(k:Nat) (T:Ae),e 56=.it .i64 (k:Int)∧e 15=.wr 2 (Mk k).length none∧S=.cells [.st id,Bu acts,.sl .ro (keys.map Bt),.st prev,.it .i64 gen,.bo fork]::.cells [Av t1,Av A,Av B,Av t4]::.row ((Mk k).map AV.st) 9 1::T∧k≤A.length∧m=A.length-k) A.length _ _ (Ao.reserveRowT 0 15 (by rfl) 9 (sz:=1) (by decide))
  ⟨Aa,Aa,Aa,Aa,0,[],Aa,by rw[hM0];exact Aa,by rw[hM0];rfl,by omega,rfl⟩ ?_
 rintro m e S ⟨s5,s11,s54,s55,k,T,s56,s15,rfl,hk,rfl⟩
 have hrl:((Mk k).map AV.st).length=(Mk k).length*1:=by rw[List.length_map];omega
 have hfk:=hfl k;by_cases hlt:k<A.length
 ·have hg:A[k]? = some A[k]:=List.getElem?_eq_getElem hlt
  have hlt':(k:Int)<(A.length:Int):=by omega
  have w1:=AT (k:=k) (by omega)
  have hst:=hstep k hlt;have kb:=kB A[k];unfold Fy at hst;generalize A[k]=x at *;cases q:(x==id)with
  |true=>
   have q':(x !=id)=false:=by rw[bne,q];rfl
   rw[q,Bool.not_true,Bool.false_and,if_neg (by decide),List.append_nil]at hst
   refine Ab (an @s5 (An @s11 @s54 @s55 @s56 @s15 @hlt' @hg @hsz @q @q' @w1)) ?_;exact Aj (A.length-(k+1)) (by omega) ⟨Aa,Aa,Aa,Aa,k+1,_,Aa,by rw[hst];exact Aa,by rw[hst],by omega,rfl⟩
  | false=>
   have q':(x !=id)=true:=by rw[bne,q];rfl
   rw[q,Bool.not_false,Bool.true_and]at hst;generalize B.contains x=b at *;cases b with
   |true=>
    rw[Bool.not_true,if_neg (by decide),List.append_nil]at hst
    refine Ab (An @s5 @s11 @s54 @s55 @s56 @s15 @hlt' @hg @hsz @q @q') ?_;refine cp kb ?_;refine Ab (A7 @s5 @s11 @s54 @s55 @s56 @s15 @w1) ?_;exact Aj (A.length-(k+1)) (by omega) ⟨Aa,Aa,Aa,Aa,k+1,_,Aa,by rw[hst];exact Aa,by rw[hst],by omega,rfl⟩
   |false=>
    rw[Bool.not_false,if_pos rfl]at hst;refine Ab (An @s5 @s11 @s54 @s55 @s56 @s15 @hlt' @hg @hsz @q @q') ?_;refine cp kb ?_;refine Ab (A8 @s5 @s11 @s54 @s55 @s56 @s15 @hrl @w1) ?_;exact Aj (A.length-(k+1)) (by omega) ⟨Aa,Aa,Aa,Aa,k+1,_,Aa,by rw[hst,List.length_append];exact Aa,by rw[hst,List.map_append];rfl,by omega,rfl⟩
 ·obtain rfl:k=A.length:=by omega
  have hlt':¬(A.length:Int)<(A.length:Int):=by omega
  refine Ab (A7 @s5 @s11 @s54 @s55 @s56 @s15 @hlt') ?_;refine D4 2 kS ?_ (PE _ _ _) (PE _ _ _)
  refine Ab @s15 ?_;refine D4 2 kC ?_ (PE _ _ _) rfl
  refine run ?_;exact Au
theorem Zhp(c:Chn)(n:Nat)(a:Ac.Act)(hg:c.acts[n]? = some a)(hcl:c.acts.length≤400)(hr:Bg c.acts)(hk:Cx a.kind=true∨a.kind=14)(hs:a.scope=1)(hgr:a.group=[])(hep:AS c n=(a.epoch,AR c n,true)):
  AC prog 72 [AG c,.it .i64 (n:Int)] [] (.bo true) []:=by
 have hn:=(List.getElem?_eq_some_iff.1 hg).1
 have ke:=Zhu c n (by omega) (by omega) hr
 have km:=XJ c n a.to (by omega) hcl hr
 have kq:=WL (AR c n) (AR c n) (by rw[N1];exact Nat.le_trans (List.length_filter_le _ _) (by have :=(HZ c.acts (min n c.acts.length)).a;change(Cm c n).accepts.length≤_ at this;omega)) (by rw[N1];exact Nat.le_trans (List.length_filter_le _ _) (by have :=(HZ c.acts (min n c.acts.length)).a;change(Cm c n).accepts.length≤_ at this;omega))
 rw[decide_eq_true rfl]at kq;have kp:=LL a.kind;rw[hep]at ke;simp only at ke
 generalize AR c n=M at *;obtain⟨id,acts,keys,prev,gen,fork⟩:=c;simp only at hg hcl hr hn hep ⊢
 have hsz:=BX acts;have h0:¬(n:Int)<0:=by omega
 have h0':(0:Int)≤(n:Int):=by omega
 have h1:¬(n:Int)≥(acts.length:Int):=by omega
 have h1':(n:Int)<(acts.length:Int):=by omega
 have hq:(Cx a.kind=true∧True)∨(Cx a.kind=false∧(a.kind !=14)=false):=by
  cases hp:Cx a.kind with
  |true=>exact .inl ⟨rfl,trivial⟩
  |false=>
   refine .inr ⟨rfl,?_⟩
   rcases hk with hk|hk
   ·rw[hp]at hk;cases hk
   ·rw[hk];rfl
 rcases hq with⟨hp,_⟩|⟨hp,hp'⟩
 ·rw[hp]at kp
  refine Ah [70,141,73,142] [] func72 ?_;refine Ab (A6 @h0 @h0' @h1 @h1' @hg @hsz) ?_;refine cp kp ?_;refine Ab (an @hs @hgr) ?_;refine cp ke ?_;refine Ab (an @hs @hgr) ?_;refine cp km ?_;refine Ab (an @hs @hgr) ?_;refine cp kq ?_;refine run ?_;exact Ad
 ·rw[hp]at kp
  refine Ah [70,141,73,142] [] func72 ?_;refine Ab (A6 @h0 @h0' @h1 @h1' @hg @hsz) ?_;refine cp kp ?_;refine Ab (A3 @hs @hgr @hp') ?_;refine cp ke ?_;refine Ab (an @hs @hgr) ?_;refine cp km ?_;refine Ab (an @hs @hgr) ?_;refine cp kq ?_;refine run ?_;exact Ad
end Pe
end
section
namespace Pe
open Tryz
open Go Go.RowKit Co Sg Ac It Sl Tp
set_option maxRecDepth 100000
set_option maxHeartbeats 4000000
abbrev Jk(a:Ac.Act):Prop:=Cx a.kind=true∨a.kind=14
theorem Pg{a:Ac.Act}(hk:Jk a):Cx a.kind=true∨(Cx a.kind=false∧(a.kind==14)=true∧(a.kind !=14)=false):=by
 cases hp:Cx a.kind with
 |true=>exact .inl rfl
 |false=>
  refine .inr ⟨rfl,?_⟩
  rcases hk with hk|hk
  ·rw[hp]at hk;cases hk
  ·rw[hk];exact⟨rfl,rfl⟩
theorem Zb8(c:Chn)(n:Nat)(a:Ac.Act)(hg:c.acts[n]? = some a)(hcl:c.acts.length≤400)(hk:Jk a):AC prog 30 [AG c,.it .i64 (n:Int)] [] (.bo true) []:=by
 have hn:=(List.getElem?_eq_some_iff.1 hg).1
 have kp:=LL a.kind;obtain⟨id,acts,keys,prev,gen,fork⟩:=c;simp only at hg hcl hn ⊢
 have hsz:=BX acts;have h0:(0:Int)≤(n:Int):=by omega
 have h1:(n:Int)<(acts.length:Int):=by omega
 rcases Pg hk with hp|⟨hp,hp',_⟩
 ·rw[hp]at kp
  refine Ah [70] [] func30 ?_;refine Ab (A4 @h0 @h1 @hg @hsz) ?_;refine cp kp ?_;refine run ?_;exact Ad
 ·rw[hp]at kp
  refine Ah [70] [] func30 ?_;refine Ab (A4 @h0 @h1 @hg @hsz) ?_;refine cp kp ?_;refine Ab (A5 @h0 @h1 @hg @hsz @hp') ?_;exact Ad
theorem Zcl(c:Chn)(n:Nat)(a:Ac.Act)(hg:c.acts[n]? = some a)(hcl:c.acts.length≤400)(hr:Bg c.acts)(hk:Jk a)(hs:a.scope=1)(hgr:a.group=[])(hep:AS c n=(a.epoch,AR c n,true)):
  AC prog 32 [AG c,.it .i64 (n:Int)] [] (Av (AR c n)) []:=by
 have hn:=(List.getElem?_eq_some_iff.1 hg).1
 have kw:=Zhp c n a hg hcl hr hk hs hgr hep;have km:=XJ c n a.to (by omega) hcl hr
 generalize AR c n=M at *;obtain⟨id,acts,keys,prev,gen,fork⟩:=c;simp only at hg hcl hn ⊢
 have hsz:=BX acts;have h0:(0:Int)≤(n:Int):=by omega
 have h1:(n:Int)<(acts.length:Int):=by omega
 refine Ah [72,73] [] func32 ?_;refine run ?_;refine cp kw ?_;refine Ab (A6 @h0 @h1 @hg @hsz @hs @hgr) ?_;refine cp km ?_;refine run ?_;exact Au
def Jc(c:Chn)(a:Ac.Act)(n:Nat)(reader:By):Bool:=reader==c.id||(a.scope==0||(AR c n).contains reader)
theorem ZdX(c:Chn)(n:Nat)(a:Ac.Act)(reader:By)(hg:c.acts[n]? = some a)(hcl:c.acts.length≤400)(hr:Bg c.acts)(hk:Jk a)(hs:a.scope=0∨(a.scope=1∧a.group=[]∧AS c n=(a.epoch,AR c n,true))):
  AC prog 10 [AG c,.it .i64 (n:Int),.st reader] [] (.bo (Jc c a n reader)) []:=by
 have hn:=(List.getElem?_eq_some_iff.1 hg).1
 have kt:=Zb8 c n a hg hcl hk;have km:=fun h1 h2 h3=>Zcl c n a hg hcl hr hk h1 h2 h3
 have kc:=Xv (AR c n) reader (by rw[N1];exact Nat.le_trans (List.length_filter_le _ _) (by have :=(HZ c.acts (min n c.acts.length)).a;change(Cm c n).accepts.length≤_ at this;omega))
 unfold Jc;generalize AR c n=M at *;generalize AS c n=E at *;obtain⟨id,acts,keys,prev,gen,fork⟩:=c;simp only at hg hcl hn ⊢
 have hsz:=BX acts;have h0:(0:Int)≤(n:Int):=by omega
 have h1:(n:Int)<(acts.length:Int):=by omega
 cases q:(reader==id)with
 |true=>
  rw[Bool.true_or];refine Ah [30,32,31] [] func10 ?_;refine run ?_;refine cp kt ?_;refine Ab @q ?_;exact Ad
 | false=>
  rw[Bool.false_or];rcases hs with hs|⟨hs,hgr,hep⟩
  ·have qs:(a.scope==0)=true:=beq_iff_eq.2 hs
   rw[qs,Bool.true_or];refine Ah [30,32,31] [] func10 ?_;refine run ?_;refine cp kt ?_;refine Ab (A6 @q @h0 @h1 @hg @hsz @qs) ?_;exact Ad
  ·have qs:(a.scope==0)=false:=by rw[hs];rfl
   have km:=km hs hgr hep;rw[qs,Bool.false_or];generalize M.contains reader=b at *;refine Ah [30,32,31] [] func10 ?_;refine run ?_;refine cp kt ?_;refine Ab (A6 @q @h0 @h1 @hg @hsz @qs) ?_;refine cp km ?_;refine run ?_;refine cp kc ?_;refine run ?_;exact Ad
def OP(acc:List Int)(p:Int):List Int:=if p∈acc then acc else acc++[p]
def Gp(acc:List Int)(x:Int):List Int:=if 1≤x∧x≤2305843009213693949 then OP acc (Ev 37 x:Nat)else acc
def Fe(l:List Int):List Int:=l.foldl Gp []
abbrev Dq(acc:List Int):List (AV×AV):=acc.map fun p=>(AV.it .i64 p,AV.bo true)
theorem Qz(p:Int):∀(acc:List Int) (j:Nat),Cj (.it .i64 p) (Dq acc) j=some ((acc.findIdx? fun y=>p==y).map fun k=>(j+k,.bo true))
 |[],_=>rfl
 | y::acc,j=>by
  rw[List.findIdx?_cons]
  show Cj _ ((AV.it .i64 y,AV.bo true)::Dq acc) j=_
  unfold Cj;rw[show Fb (.it .i64 p) (.it .i64 y)=some (p==y) by simp[Fb]]
  cases h:(p==y)with
  |true=>simp
  |false=>
   simp only[Bool.false_eq_true,if_false];rw[Qz p acc (j+1),Option.map_map];congr 2
   funext k
   simp only[Function.comp];rw[show j+1+k=j+(k+1) by omega]
theorem VF{p:Int}{acc:List Int}:p∈acc → ∃j,Cj (.it .i64 p) (Dq acc) 0=some (some (j,.bo true))∧(Dq acc).set j (.it .i64 p,.bo true)=Dq acc:=fun h=>by
 rw[Qz];cases hf:acc.findIdx? (fun y=>p==y)with
 |none=>
  rw[List.findIdx?_eq_none_iff]at hf
  have :=hf p h;simp at this
 | some j=>
  rw[List.findIdx?_eq_some_iff_getElem]at hf
  obtain⟨hj,h1,_⟩:=hf;refine⟨j,by simp,?_⟩
  have e:p=acc[j]:=by simpa using h1
  refine List.ext_getElem? fun i=>?_
  by_cases hi:i=j
  ·subst hi
   rw[List.getElem?_set_self (by simpa using hj),List.getElem?_map,List.getElem?_eq_getElem hj,Option.map_some,e]
  ·rw[List.getElem?_set_ne (Ne.symm hi)]
theorem VD{p:Int}{acc:List Int}(h:p∉acc):Cj (.it .i64 p) (Dq acc) 0=some none:=by
 rw[Qz];cases hf:acc.findIdx? (fun y=>p==y)with
 |none=>rfl
 |some j=>
  rw[List.findIdx?_eq_some_iff_getElem]at hf
  obtain⟨hj,h1,_⟩:=hf;have e:p=acc[j]:=by simpa using h1
  exact absurd (e▸List.getElem_mem hj) h
theorem VE(acc:List Int)(n:Nat):(SObj.map (Dq acc)).ok n=true:=by
 show(List.all _ _)=true
 rw[List.all_eq_true];intro p hp;obtain⟨s,_,rfl⟩:=List.mem_map.1 hp;rfl
theorem Zff(l:List Int)(hl:l.length≤1000000)(hi:∀x∈l,-9223372036854775808≤x∧x≤9223372036854775807):AC prog 35 [AP l] [] (.fm (Dq (Fe l))) []:=by
 have hsz:AK 1 (l.map (AV.it .i64))=true:=BG 1 (AV.it .i64) (fun _=>rfl) _
 have hst:∀k (h:k<l.length),(l.take (k+1)).foldl Gp []=Gp ((l.take k).foldl Gp []) l[k]:=fun k h=>by
  rw[List.take_succ_eq_append_getElem h,List.foldl_append];rfl
 have hend:(l.take l.length).foldl Gp []=Fe l:=by rw[List.take_length];rfl
 generalize hH:(fun k:Nat=>(l.take k).foldl Gp [])=H at *
 have hH':∀k,(l.take k).foldl Gp []=H k:=fun k=>by rw[←hH]
 have hH0:H 0=[]:=by rw[←hH' 0];rfl
 simp only[hH']at hst hend;clear hH hH';refine Ah [80] [] func35 ?_;refine run ?_;refine AN (fun m e S=>e 3=.mp 0∧e 7=AP l∧e 8=.it .i64 (l.length:Int) ∧ ∃k:Nat,e 9=.it .i64 (k:Int)∧S=[.map (Dq (H k))]∧k≤l.length∧m=l.length-k) l.length ⟨Aa,Aa,Aa,0,Aa,by rw[hH0];rfl,by omega,rfl⟩ ?_
 rintro m e S ⟨s3,s7,s8,k,s9,rfl,hk,rfl⟩
 by_cases hlt:k<l.length
 ·have hg:l[k]? = some l[k]:=List.getElem?_eq_getElem hlt
  have hlt':(k:Int)<(l.length:Int):=by omega
  have w1:=AT (k:=k) (by omega)
  have hst:=hst k hlt;have hx:=hi l[k] (List.getElem_mem hlt);have kg:=QG 37 l[k] (by decide) hx
  generalize l[k]=x at *;unfold Gp at hst;by_cases h1:1≤x
  rotate_left
  ·rw[if_neg (fun h=>h1 h.1)]at hst
   refine Ab (A9 @s3 @s7 @s8 @s9 @hlt' @hg @hsz @h1 @w1) ?_;exact Aj (l.length-(k+1)) (by omega) ⟨Aa,Aa,Aa,k+1,Aa,by rw[hst],by omega,rfl⟩
  by_cases h2:x≤2305843009213693949
  rotate_left
  ·rw[if_neg (fun h=>h2 h.2)]at hst
   refine Ab (BZ @s3 @s7 @s8 @s9 @hlt' @hg @hsz @h1 @h2 @w1) ?_;exact Aj (l.length-(k+1)) (by omega) ⟨Aa,Aa,Aa,k+1,Aa,by rw[hst],by omega,rfl⟩
  rw[if_pos ⟨h1,h2⟩]at hst;unfold OP at hst;generalize ((Ev 37 x:Nat):Int)=p at *;by_cases hp:p∈H k
  ·rw[if_pos hp]at hst
   obtain⟨j,hf,hset⟩:=VF hp;refine Ab (A9 @s3 @s7 @s8 @s9 @hlt' @hg @hsz @h1 @h2) ?_;refine cp kg ?_;refine Ab (A7 @s3 @s7 @s8 @s9 @hf @hset @w1) ?_;exact Aj (l.length-(k+1)) (by omega) ⟨Aa,Aa,Aa,k+1,Aa,by rw[hst],by omega,rfl⟩
  ·rw[if_neg hp]at hst
   have hf:=VD hp;refine Ab (A9 @s3 @s7 @s8 @s9 @hlt' @hg @hsz @h1 @h2) ?_;refine cp kg ?_;refine Ab (A6 @s3 @s7 @s8 @s9 @hf @w1) ?_;exact Aj (l.length-(k+1)) (by omega) ⟨Aa,Aa,Aa,k+1,Aa,by rw[hst,show Dq (H k++[p])=Dq (H k)++[(.it .i64 p,.bo true)]from List.map_append],by omega,rfl⟩
 ·obtain rfl:k=l.length:=by omega
  have hlt':¬(l.length:Int)<(l.length:Int):=by omega
  rw[hend];have hok:=VE (Fe l) 0;generalize Fe l=G at *;refine Ab (A5 @s3 @s7 @s8 @s9 @hlt') ?_;exact QV _ _ (Ao.freeze 0 2 0 (es:=Dq G) (by rfl) (by rfl) hok) [] (by rfl) (Pq _) (by rfl) (by rfl) (by rfl)
end Pe
end
end Go.Proofs.YtipfggegddlgdaaGreatDoor
