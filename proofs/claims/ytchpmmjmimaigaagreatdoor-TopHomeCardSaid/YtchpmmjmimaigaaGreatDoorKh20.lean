import Derived.Test.YtchpmmjmimaigaaGreatDoorKh19
set_option linter.unusedSectionVars false
set_option linter.unusedVariables false
set_option linter.unusedSimpArgs false
namespace Go.Proofs.YtchpmmjmimaigaaGreatDoor
section
namespace Pe
open Tryz
open Go Go.RowKit Co Sg Ac It
set_option maxRecDepth 100000
set_option maxHeartbeats 4000000
abbrev Br(c:It.Claim):AV:=.agg [.st c.actor,.it .i64 c.base,.st c.prev,.it .i64 c.gen,.it .i64 c.home,.it .i64 c.pub,.it .i64 c.time,.it .i64 c.sig.e,.it .i64 c.sig.s]
abbrev C9(b:It.Ballot):AV:=.agg [.it .i64 b.server,.st b.actor,.it .i64 b.gen,.st b.claim,.it .i64 b.time,.it .i64 b.sig.e,.it .i64 b.sig.s]
abbrev Kf(d:It.Decision):AV:=.agg [.it .i64 d.server,.it .i64 d.number,.it .i64 d.kind,.st d.actor,.st d.object,.st d.text,B8 d.to,.it .i64 d.n,.it .i64 d.frm,.it .i64 d.til,.it .i64 d.sig.e,.it .i64 d.sig.s]
abbrev L2(i:It.Item):List AV:=[.it .i64 i.kind,.st i.act.author,.it .i64 i.act.seq,.st i.act.prev,.it .i64 i.act.kind,.it .i64 i.act.time,.st i.act.object,.st i.act.target,.it .i64 i.act.scope,.st i.act.group,B8 i.act.to,.st i.act.text,.st i.act.body.nonce,.st i.act.body.data,.st i.act.body.tag,.it .i64 i.act.epoch,.sl .ro (i.act.wraps.map Bo),.it .i64 i.act.n,.it .i64 i.act.m,.it .i64 i.act.sig.e,.it .i64 i.act.sig.s,.st i.claim.actor,.it .i64 i.claim.base,.st i.claim.prev,.it .i64 i.claim.gen,.it .i64 i.claim.home,.it .i64 i.claim.pub,.it .i64 i.claim.time,.it .i64 i.claim.sig.e,.it .i64 i.claim.sig.s,.it .i64 i.ballot.server,.st i.ballot.actor,.it .i64 i.ballot.gen,.st i.ballot.claim,.it .i64 i.ballot.time,.it .i64 i.ballot.sig.e,.it .i64 i.ballot.sig.s,.it .i64 i.decision.server,.it .i64 i.decision.number,.it .i64 i.decision.kind,.st i.decision.actor,.st i.decision.object,.st i.decision.text,B8 i.decision.to,.it .i64 i.decision.n,.it .i64 i.decision.frm,.it .i64 i.decision.til,.it .i64 i.decision.sig.e,.it .i64 i.decision.sig.s]
abbrev Ao(i:It.Item):AV:=.agg [.it .i64 i.kind,.st i.act.author,.it .i64 i.act.seq,.st i.act.prev,.it .i64 i.act.kind,.it .i64 i.act.time,.st i.act.object,.st i.act.target,.it .i64 i.act.scope,.st i.act.group,B8 i.act.to,.st i.act.text,.st i.act.body.nonce,.st i.act.body.data,.st i.act.body.tag,.it .i64 i.act.epoch,.sl .ro (i.act.wraps.map Bo),.it .i64 i.act.n,.it .i64 i.act.m,.it .i64 i.act.sig.e,.it .i64 i.act.sig.s,.st i.claim.actor,.it .i64 i.claim.base,.st i.claim.prev,.it .i64 i.claim.gen,.it .i64 i.claim.home,.it .i64 i.claim.pub,.it .i64 i.claim.time,.it .i64 i.claim.sig.e,.it .i64 i.claim.sig.s,.it .i64 i.ballot.server,.st i.ballot.actor,.it .i64 i.ballot.gen,.st i.ballot.claim,.it .i64 i.ballot.time,.it .i64 i.ballot.sig.e,.it .i64 i.ballot.sig.s,.it .i64 i.decision.server,.it .i64 i.decision.number,.it .i64 i.decision.kind,.st i.decision.actor,.st i.decision.object,.st i.decision.text,B8 i.decision.to,.it .i64 i.decision.n,.it .i64 i.decision.frm,.it .i64 i.decision.til,.it .i64 i.decision.sig.e,.it .i64 i.decision.sig.s]
theorem Zjo(x y:It.Claim):((x.actor==y.actor)&&((x.base==y.base)&&((x.prev==y.prev)&&((x.gen==y.gen)&&((x.home==y.home)&&((x.pub==y.pub)&&((x.time==y.time)&&((x.sig.e==y.sig.e)&&(x.sig.s==y.sig.s)))))))))=decide (x=y):=by
 obtain⟨x1,x2,x3,x4,x5,x6,x7,⟨x8,x9⟩⟩:=x;obtain⟨y1,y2,y3,y4,y5,y6,y7,⟨y8,y9⟩⟩:=y;rw[Bool.eq_iff_iff];simp
theorem Zj9(x y:It.Ballot):((x.server==y.server)&&((x.actor==y.actor)&&((x.gen==y.gen)&&((x.claim==y.claim)&&((x.time==y.time)&&((x.sig.e==y.sig.e)&&(x.sig.s==y.sig.s)))))))=decide (x=y):=by
 obtain⟨x1,x2,x3,x4,x5,⟨x8,x9⟩⟩:=x;obtain⟨y1,y2,y3,y4,y5,⟨y8,y9⟩⟩:=y;rw[Bool.eq_iff_iff];simp
theorem Zd3(a b:It.Decision)(ha:a.to.length≤140737488355328)(hb:b.to.length≤140737488355328):AC prog 180 [Kf a,Kf b] [] (.bo (decide (a=b))) []:=by
 refine Ap [274] [] func180 ?_;obtain⟨q,hq⟩:∃q,decide (a=b)=q:=⟨_,rfl⟩
 rw[hq];obtain⟨a_server,a_number,a_kind,a_actor,a_object,a_text,a_to,a_n,a_frm,a_til,⟨a_se,a_ss⟩⟩:=a;obtain⟨b_server,b_number,b_kind,b_actor,b_object,b_text,b_to,b_n,b_frm,b_til,⟨b_se,b_ss⟩⟩:=b;by_cases h_server:a_server=b_server
 rotate_left
 ·obtain rfl:q=false:=by rw[←hq];exact decide_eq_false (fun e=>h_server (by cases e;rfl))
  refine run ?_;exact Ad
 subst h_server;by_cases h_number:a_number=b_number
 rotate_left
 ·obtain rfl:q=false:=by rw[←hq];exact decide_eq_false (fun e=>h_number (by cases e;rfl))
  refine run ?_;exact Ad
 subst h_number;by_cases h_kind:a_kind=b_kind
 rotate_left
 ·obtain rfl:q=false:=by rw[←hq];exact decide_eq_false (fun e=>h_kind (by cases e;rfl))
  refine run ?_;exact Ad
 subst h_kind;by_cases h_actor:a_actor=b_actor
 rotate_left
 ·obtain rfl:q=false:=by rw[←hq];exact decide_eq_false (fun e=>h_actor (by cases e;rfl))
  have e_actor:(a_actor==b_actor)=false:=by simpa using h_actor
  refine Aa @e_actor ?_;exact Ad
 subst h_actor;by_cases h_object:a_object=b_object
 rotate_left
 ·obtain rfl:q=false:=by rw[←hq];exact decide_eq_false (fun e=>h_object (by cases e;rfl))
  have e_object:(a_object==b_object)=false:=by simpa using h_object
  refine Aa @e_object ?_;exact Ad
 subst h_object;by_cases h_text:a_text=b_text
 rotate_left
 ·obtain rfl:q=false:=by rw[←hq];exact decide_eq_false (fun e=>h_text (by cases e;rfl))
  have e_text:(a_text==b_text)=false:=by simpa using h_text
  refine Aa @e_text ?_;exact Ad
 subst h_text;refine run ?_;refine cp (Yw a_to b_to ha hb) ?_;by_cases h_to:a_to=b_to
 rotate_left
 ·obtain rfl:q=false:=by rw[←hq];exact decide_eq_false (fun e=>h_to (by cases e;rfl))
  rw[decide_eq_false h_to];refine run ?_;exact Ad
 subst h_to;rw[decide_eq_true (p:=a_to=a_to) rfl];by_cases h_n:a_n=b_n
 rotate_left
 ·obtain rfl:q=false:=by rw[←hq];exact decide_eq_false (fun e=>h_n (by cases e;rfl))
  refine run ?_;exact Ad
 subst h_n;by_cases h_frm:a_frm=b_frm
 rotate_left
 ·obtain rfl:q=false:=by rw[←hq];exact decide_eq_false (fun e=>h_frm (by cases e;rfl))
  refine run ?_;exact Ad
 subst h_frm;by_cases h_til:a_til=b_til
 rotate_left
 ·obtain rfl:q=false:=by rw[←hq];exact decide_eq_false (fun e=>h_til (by cases e;rfl))
  refine run ?_;exact Ad
 subst h_til;by_cases h_se:a_se=b_se
 rotate_left
 ·obtain rfl:q=false:=by rw[←hq];exact decide_eq_false (fun e=>h_se (by cases e;rfl))
  refine run ?_;exact Ad
 subst h_se;by_cases h_ss:a_ss=b_ss
 rotate_left
 ·obtain rfl:q=false:=by rw[←hq];exact decide_eq_false (fun e=>h_ss (by cases e;rfl))
  refine run ?_;exact Ad
 subst h_ss;obtain rfl:q=true:=by rw[←hq];exact decide_eq_true rfl
 refine run ?_;exact Ad
structure Lz(i:It.Item):Prop where
 to:i.act.to.length≤140737488355328
 wraps:i.act.wraps.length≤140737488355328
 dto:i.decision.to.length≤140737488355328
theorem OH(a b:It.Item)(ha:Lz a)(hb:Lz b):AC prog 102 [Ao a,Ao b] [] (.bo (decide (a=b))) []:=by
 refine Ap [179,180] [] func102 ?_;obtain⟨q,hq⟩:∃q,decide (a=b)=q:=⟨_,rfl⟩
 rw[hq];obtain⟨a_kind,a_act,a_claim,a_ballot,a_dec⟩:=a;obtain⟨b_kind,b_act,b_claim,b_ballot,b_dec⟩:=b;by_cases h_kind:a_kind=b_kind
 rotate_left
 ·obtain rfl:q=false:=by rw[←hq];exact decide_eq_false (fun e=>h_kind (by cases e;rfl))
  refine run ?_;exact Ad
 subst h_kind;refine run ?_;refine cp (Zd2 a_act b_act ⟨ha.to,ha.wraps⟩ ⟨hb.to,hb.wraps⟩) ?_;by_cases h_act:a_act=b_act
 rotate_left
 ·obtain rfl:q=false:=by rw[←hq];exact decide_eq_false (fun e=>h_act (by cases e;rfl))
  rw[decide_eq_false h_act];refine run ?_;exact Ad
 subst h_act;rw[decide_eq_true (p:=a_act=a_act) rfl];by_cases h_claim:a_claim=b_claim
 rotate_left
 ·obtain rfl:q=false:=by rw[←hq];exact decide_eq_false (fun e=>h_claim (by cases e;rfl))
  have e_claim:=Zjo a_claim b_claim;rw[decide_eq_false h_claim]at e_claim;refine Aa @e_claim ?_;exact Ad
 subst h_claim;by_cases h_ballot:a_ballot=b_ballot
 rotate_left
 ·obtain rfl:q=false:=by rw[←hq];exact decide_eq_false (fun e=>h_ballot (by cases e;rfl))
  have e_ballot:=Zj9 a_ballot b_ballot;rw[decide_eq_false h_ballot]at e_ballot;refine Aa @e_ballot ?_;exact Ad
 subst h_ballot;refine run ?_;refine cp (Zd3 a_dec b_dec ha.dto hb.dto) ?_;by_cases h_dec:a_dec=b_dec
 rotate_left
 ·obtain rfl:q=false:=by rw[←hq];exact decide_eq_false (fun e=>h_dec (by cases e;rfl))
  rw[decide_eq_false h_dec];refine run ?_;exact Ad
 subst h_dec;rw[decide_eq_true (p:=a_dec=a_dec) rfl];obtain rfl:q=true:=by rw[←hq];exact decide_eq_true rfl
 refine run ?_;exact Ad
theorem Ht(n lo hi:Int):AC prog 173 [.it .i64 n,.it .i64 lo,.it .i64 hi] [] (.bo (wi n lo hi)) []:=by
 refine Ap [] [] func173 ?_;unfold wi;by_cases h:lo≤n
 ·rw[decide_eq_true h]
  refine run ?_;exact Ad
 ·rw[decide_eq_false h]
  refine run ?_;exact Ad
theorem Se(n:Int):AC prog 175 [.it .i64 n] [] (.bo (Gk n)) []:=by
 refine Ap [173] [] func175 ?_;refine run ?_;refine cp (Ht n 0 19) ?_;refine run ?_;exact Ad
theorem Pg(n:Int):AC prog 176 [.it .i64 n] [] (.bo (EP n)) []:=by
 refine Ap [173] [] func176 ?_;refine run ?_;refine cp (Ht n 0 1099511627776) ?_;refine run ?_;exact Ad
theorem Ss(s:By):AC prog 174 [.st s] [] (.bo (dig s)) []:=by
 refine Ap [] [] func174 ?_;rw[Gt];refine run ?_;exact Ad
theorem Q7(s:Sig):AC prog 177 [JL s] [] (.bo (Bu s)) []:=by
 refine Ap [173] [] func177 ?_;unfold Bu;refine run ?_;refine cp (Ht s.e 0 2305843009213693949) ?_;cases h1:wi s.e 0 2305843009213693949 with
 |false=>refine run ?_;exact Ad
 |true=>
  refine run ?_;refine cp (Ht s.s 0 2305843009213693949) ?_;refine run ?_;exact Ad
theorem ZeI(c:It.Claim)(ha:c.actor.length≤140737488355328):AC prog 99 [Br c] [] (.bo (Fh c)) []:=by
 refine Ap [130,173,174,175,176,177] [] func99 ?_;unfold Fh;refine run ?_;refine cp (L4 c.actor ha) ?_;cases h0:Bg c.actor with
 |false=>refine run ?_;exact Ad
 | true =>
  refine run ?_;refine cp (Ht c.base 1 1073741824) ?_;cases h1:wi c.base 1 1073741824 with
  |false=>refine run ?_;exact Ad
  | true=>
   refine run ?_;refine cp (Ss c.prev) ?_;cases h2:dig c.prev with
   |false=>refine run ?_;exact Ad
   | true=>
    refine run ?_;refine cp (Ht c.gen 0 1073741824) ?_;cases h3:wi c.gen 0 1073741824 with
    |false=>refine run ?_;exact Ad
    | true=>
     refine run ?_;refine cp (Se c.home) ?_;cases h4:Gk c.home with
     |false=>refine run ?_;exact Ad
     | true=>
      refine run ?_;refine cp (Ht c.pub 1 2305843009213693950) ?_;cases h5:wi c.pub 1 2305843009213693950 with
      |false=>refine run ?_;exact Ad
      | true=>
       refine run ?_;refine cp (Pg c.time) ?_;cases h6:EP c.time with
       |false=>refine run ?_;exact Ad
       |true=>
        refine run ?_;refine cp (Q7 c.sig) ?_;refine run ?_;exact Ad
theorem ZeJ(b:It.Ballot)(ha:b.actor.length≤140737488355328):AC prog 100 [C9 b] [] (.bo (Ga b)) []:=by
 refine Ap [130,173,174,175,176,177] [] func100 ?_;unfold Ga;refine run ?_;refine cp (Se b.server) ?_;cases h0:Gk b.server with
 |false=>refine run ?_;exact Ad
 | true=>
  refine run ?_;refine cp (L4 b.actor ha) ?_;cases h1:Bg b.actor with
  |false=>refine run ?_;exact Ad
  | true=>
   refine run ?_;refine cp (Ht b.gen 0 1073741824) ?_;cases h2:wi b.gen 0 1073741824 with
   |false=>refine run ?_;exact Ad
   | true=>
    refine run ?_;refine cp (Ss b.claim) ?_;cases h3:dig b.claim with
    |false=>refine run ?_;exact Ad
    | true=>
     refine run ?_;refine cp (Pg b.time) ?_;cases h4:EP b.time with
     |false=>refine run ?_;exact Ad
     |true=>
      refine run ?_;refine cp (Q7 b.sig) ?_;refine run ?_;exact Ad
structure Dz(d:It.Decision):Prop where
 actor:d.actor.length≤140737488355328
 to:d.to.length≤140737488355328
 tos:∀s∈d.to,s.length≤140737488355328
theorem ZfA(d:It.Decision):IZ d=(if(d.to.length:Int)=0 then(d.n==0)else false):=by
 unfold IZ;by_cases h:d.to=[]
 ·rw[decide_eq_true h,if_pos (by rw[h];rfl)]
  rfl
 ·rw[decide_eq_false h,if_neg (by have :=List.length_pos_iff.2 h;omega)]
  rfl
set_option maxHeartbeats 8000000 in
theorem ZeG(d:It.Decision)(h:Dz d):AC prog 178 [Kf d] [] (.bo (MR d)) []:=by
 refine Ap [130,174,64,173] [] func178 ?_;have hn:=GR;have hs:decide ((d.text.length:Int)≤500)=De d.text:=(JM d.text).symm;have hl:decide ((d.text.length:Int)≤4096)=decide (d.text.length≤4096):=by
  rw[Bool.eq_iff_iff];simp only[decide_eq_true_eq];omega
 obtain⟨p,hp⟩:∃p,IZ d=p:=⟨_,rfl⟩
 have hpe:=ZfA d;rw[hp]at hpe;unfold MR;rw[hp];have k1:=L4 d.actor h.actor;have k2:=Ss d.object;have k3:=L3 d.to h.tos h.to;have k4:=Ht d.n 1 d.to.length;generalize De d.text=sh at *;generalize decide (d.text.length≤4096)=lg at *;by_cases hto:(d.to.length:Int)=0
 focus
  rw[if_pos hto]at hpe;have hpe:=hpe.symm
 rotate_left;focus
  rw[if_neg hto]at hpe;subst hpe;have hpe:d.n=d.n:=rfl
 all_goals
  by_cases c1:d.kind=0∨d.kind=1∨d.kind=4∨d.kind=6∨d.kind=7
  focus
   rw[if_pos c1];rcases c1 with c|c|c|c|c
   all_goals
    refine Aa (A3 @hs @hl @hpe) ?_;refine cp k1 ?_;cases h1:Bg d.actor with
    |false=>refine run ?_;exact Ad
    | true=>
     by_cases h2:d.object=[]
     ·try rw[decide_eq_true h2]
      refine Aa (an @hn @h2) ?_;cases sh with
      |false=>refine run ?_;exact Ad
      |true=>refine run ?_;exact Ad
     ·try rw[decide_eq_false h2]
      refine Aa (an @hn @h2) ?_;exact Ad
  rw[if_neg c1];by_cases c2:d.kind=2∨d.kind=3∨d.kind=5
  focus
   rw[if_pos c2];rcases c2 with c|c|c
   all_goals
    by_cases h2:d.actor=[]
    rotate_left
    ·try rw[decide_eq_false h2]
     refine Aa (A5 @hs @hl @hpe @hn @h2) ?_;exact Ad
    try rw[decide_eq_true h2]
    have h2':(d.actor==[])=true:=by rw[h2];rfl
    refine Aa (A4 @hs @hl @hpe @h2') ?_;refine cp k2 ?_;cases h3:dig d.object with
    |false=>refine run ?_;exact Ad
    |true=>
     cases sh with
     |false=>refine run ?_;exact Ad
     |true=>refine run ?_;exact Ad
  rw[if_neg c2];by_cases c3:d.kind=8
  focus
   rw[if_pos c3];by_cases h2:d.actor=[]
   rotate_left
   ·try rw[decide_eq_false h2]
    refine Aa (A5 @hs @hl @hpe @hn @h2) ?_;exact Ad
   try rw[decide_eq_true h2]
   have h2':(d.actor==[])=true:=by rw[h2];rfl
   by_cases h3:d.object=[]
   rotate_left
   ·try rw[decide_eq_false h3]
    refine Aa (A6 @hs @hl @hpe @hn @h2' @h3) ?_;exact Ad
   try rw[decide_eq_true h3]
   have h3':(d.object==[])=true:=by rw[h3];rfl
   cases sh with
   |false=>refine Aa (A5 @hs @hl @hpe @h2' @h3') ?_;exact Ad
   | true=>
    refine Aa (A5 @hs @hl @hpe @h2' @h3') ?_;refine cp k3 ?_;cases h4:CI d.to with
    |false=>refine run ?_;exact Ad
    |true=>
     refine run ?_;refine cp k4 ?_;refine run ?_;exact Ad
  rw[if_neg c3];by_cases c4:d.kind=9
  focus
   rw[if_pos c4];by_cases h2:d.actor=[]
   rotate_left
   ·try rw[decide_eq_false h2]
    refine Aa (A5 @hs @hl @hpe @hn @h2) ?_;exact Ad
   try rw[decide_eq_true h2]
   have h2':(d.actor==[])=true:=by rw[h2];rfl
   by_cases h3:d.object=[]
   rotate_left
   ·try rw[decide_eq_false h3]
    refine Aa (A6 @hs @hl @hpe @hn @h2' @h3) ?_;exact Ad
   try rw[decide_eq_true h3]
   have h3':(d.object==[])=true:=by rw[h3];rfl
   cases lg with
   |false=>refine Aa (A5 @hs @hl @hpe @h2' @h3') ?_;exact Ad
   |true=>refine Aa (A5 @hs @hl @hpe @h2' @h3') ?_;exact Ad
  rw[if_neg c4];refine Aa (A3 @hs @hl @hpe) ?_;exact Ad
theorem ZeH(d:It.Decision)(h:Dz d):AC prog 101 [Kf d] [] (.bo (G9 d)) []:=by
 refine Ap [175,173,176,178,177] [] func101 ?_;unfold G9;refine run ?_;refine cp (Se d.server) ?_;cases h0:Gk d.server with
 |false=>refine run ?_;exact Ad
 | true=>
  refine run ?_;refine cp (Ht d.number 0 1073741824) ?_;cases h1:wi d.number 0 1073741824 with
  |false=>refine run ?_;exact Ad
  | true=>
   refine run ?_;refine cp (Pg d.frm) ?_;cases h2:EP d.frm with
   |false=>refine run ?_;exact Ad
   | true=>
    refine run ?_;refine cp (Pg d.til) ?_;cases h3:EP d.til with
    |false=>refine run ?_;exact Ad
    | true=>
     by_cases h4:d.frm<d.til
     rotate_left
     ·rw[decide_eq_false h4]
      refine run ?_;exact Ad
     rw[decide_eq_true h4];refine run ?_;refine cp (ZeG d h) ?_;cases h5:MR d with
     |false=>refine run ?_;exact Ad
     |true=>
      refine run ?_;refine cp (Q7 d.sig) ?_;refine run ?_;exact Ad
structure Iz(i:It.Item):Prop where
 act:Sz i.act
 claim:i.claim.actor.length≤140737488355328
 ballot:i.ballot.actor.length≤140737488355328
 decision:Dz i.decision
theorem Iz.lz{i:It.Item}(h:Iz i):Lz i:=⟨h.act.to,h.act.wraps,h.decision.to⟩
theorem Pb:Lz B2:=⟨by decide,by decide,by decide⟩
theorem F9(i:It.Item)(h:Iz i):AC prog 45 [Ao i] [] (.bo (It.right i)) []:=by
 refine Ap [73,99,100,101,102] [] func45 ?_;have hl:=h.lz;unfold It.right IX rest;have lz:∀j:It.Item,(j.act=i.act∨j.act=act0)→(j.decision=i.decision∨j.decision=Fu)→Lz j:=fun j h1 h2=>by
  refine⟨?_,?_,?_⟩
  ·rcases h1 with e|e<;>rw[e];exact hl.to;exact by decide
  ·rcases h1 with e|e<;>rw[e];exact hl.wraps;exact by decide
  ·rcases h2 with e|e<;>rw[e];exact hl.dto;exact by decide
 by_cases h0:i.kind=0
 ·rw[if_pos h0,if_pos h0]
  have ks:AC _ _ [Ao { i with kind:=0,act:=act0 },Ao B2] [] _ []:=OH { i with kind:=0,act:=act0 } B2 (lz _ (.inr rfl) (.inl rfl)) Pb
  refine run ?_;refine cp (LM i.act h.act) ?_;cases hr:Ac.right i.act with
  |false=>refine run ?_;exact Ad
  |true=>
   refine run ?_;refine cp ks ?_;refine run ?_;exact Ad
 rw[if_neg h0,if_neg h0];by_cases h1:i.kind=1
 ·rw[if_pos h1,if_pos h1]
  have ks:AC _ _ [Ao { i with kind:=0,claim:=CX },Ao B2] [] _ []:=OH { i with kind:=0,claim:=CX } B2 (lz _ (.inl rfl) (.inl rfl)) Pb
  refine run ?_;refine cp (ZeI i.claim h.claim) ?_;cases hr:Fh i.claim with
  |false=>refine run ?_;exact Ad
  |true=>
   refine run ?_;refine cp ks ?_;refine run ?_;exact Ad
 rw[if_neg h1,if_neg h1];by_cases h2:i.kind=2
 ·rw[if_pos h2,if_pos h2]
  have ks:AC _ _ [Ao { i with kind:=0,ballot:=FY },Ao B2] [] _ []:=OH { i with kind:=0,ballot:=FY } B2 (lz _ (.inl rfl) (.inl rfl)) Pb
  refine run ?_;refine cp (ZeJ i.ballot h.ballot) ?_;cases hr:Ga i.ballot with
  |false=>refine run ?_;exact Ad
  |true=>
   refine run ?_;refine cp ks ?_;refine run ?_;exact Ad
 rw[if_neg h2,if_neg h2];by_cases h3:i.kind=3
 ·rw[if_pos h3,if_pos h3]
  have ks:AC _ _ [Ao { i with kind:=0,decision:=Fu },Ao B2] [] _ []:=OH { i with kind:=0,decision:=Fu } B2 (lz _ (.inl rfl) (.inr rfl)) Pb
  refine run ?_;refine cp (ZeH i.decision h.decision) ?_;cases hr:G9 i.decision with
  |false=>refine run ?_;exact Ad
  |true=>
   refine run ?_;refine cp ks ?_;refine run ?_;exact Ad
 ·rw[if_neg h3]
  refine run ?_;exact Ad
theorem Aq.reserveC[Tab](N0:Nat){e:Af}{S:Ae}(l:Nat){es:List AV}(hS:S[l]? = some (.cells [.sl .full es]))(ty:TypeId)(sz:Nat):Aq N0 e S e (S.set l (.cells [.sl (.own S.length) es])++[.buf es.length ty sz]):=by
 rintro N w0 g0 a w hn ⟨h1,h2,g,h3,h4,h5⟩
 obtain⟨g',h6,h7,h8,h9,h10⟩:=h3.reserve es.length ty sz;have hlS:=(List.getElem?_eq_some_iff.1 hS).1
 have hn3:=h3.nid;have hn6:=h6.nid;rw[List.length_append,List.length_singleton]at hn6;refine⟨h1,h2,g',⟨by rw[List.length_append,List.length_set,List.length_singleton];exact hn6,fun k o hk=>?_,h6.disj,h6.lt,h6.tab⟩,fun t=>(h4 t).le h7.toLe,h5.trans h7⟩
 by_cases hkl:k=l
 ·subst hkl
  rw[List.getElem?_append_left (by rw[List.length_set];exact hlS),List.getElem?_set_self hlS]at hk
  cases hk
  obtain⟨k1,k2,k3,arr,T,fr,k4,k5,k6,k7,k8⟩:=h6.obj k (.cells [.sl .full es]) (J7 hS _);refine⟨k1,k2,k3,arr,T,fr,k4,k5,by simpa using k6,k7,fun j u v hu hv=>?_⟩
  cases j with
  |zero=>
   simp only[List.getElem?_cons_zero,Option.some.injEq]at hu
   subst hu;refine(k8 0 _ v rfl hv).own_full (by omega) ?_ ?_
   ·rw[←hn3];exact h9
   ·rw[←hn3];exact h10
  |succ j=>simp at hu
 ·refine h6.obj k o ?_
  by_cases hkS:k<S.length
  ·rw[List.getElem?_append_left (by rw[List.length_set];exact hkS),List.getElem?_set_ne (Ne.symm hkl)]at hk
   rw[List.getElem?_append_left hkS]
   exact hk
  ·rw[List.getElem?_append_right (by rw[List.length_set];omega),List.length_set]at hk
   rw[List.getElem?_append_right (by omega)]
   exact hk
abbrev BV(ty:TypeId)(acc:By):Ae:=[.cells [.sl (.own 1) (acc.map u8)],.buf acc.length ty 1]
section
variable [Tab] {P:Program} {pf rf:List FuncId} {e:Af} {f:FuncId} {d:Option Nat} {rest:List AO} {K:Af→Ae→Prop}
theorem cb{args gargs:List AV}{T:Ae}{acc acc':By}{v:AV}{ty:TypeId}(l l':Nat)(h:AC P f (.ptr 0 0::args) (BV ty acc) v (BV ty acc'))
  (h':Bs P pf rf rest (put e d v) ((T.set l (.cells [.sl (.own l') (acc'.map u8)])).set l' (.buf acc'.length ty 1)) K)
  (ha:args.all (AV.ok 0)=true:=by rfl)(hv:v.ok 0=true:=by rfl)(hne:l≠l':=by decide)(hT:T[l]? = some (.cells [.sl (.own l') (acc.map u8)]):=by rfl)(hT':T[l']? = some (.buf acc.length ty 1):=by rfl)
  (hg:gargs.map AV.wk=.ptr l 0::args:=by rfl):Dy (KD P f gargs T) (F1 P pf rf d rest e K):=by
 refine AT (show AC P f (gargs.map AV.wk) T v _ from ?_) h'
 rw[hg];have ha1:∀u∈args,u.ok 2=true:=fun u hu=>Ev (List.all_eq_true.1 ha u hu) (Nat.zero_le 2)
 have :=h.frame (T:=T) [l,l'] (Qz l l' hne rfl rfl hT hT') (by simp only[List.all_cons,Bool.and_eq_true];exact⟨rfl,List.all_eq_true.2 ha1⟩) (Ev hv (Nat.zero_le 2)) (fun i o hi=>by
  match i,hi with
  |0,hi=>cases hi;rfl
  |1,hi=>cases hi;rfl)
 rw[List.map_cons,Q8 ha,DG hv (fun i hi=>absurd hi (Nat.not_lt_zero _))]at this
 simpa[after,Es,ext,Az,SObj.ren,AV.r1,AV.r0,Mode.ren,AV.ren,AV.r2] using this
theorem Kl{args gargs:List AV}{T:Ae}{acc':By}{v:AV}{ty:TypeId}(l:Nat)(h:AC P f (.ptr 0 0::args) [.cells [.sl .full []]] v (BV ty acc'))
  (h':Bs P pf rf rest (put e d v) (T.set l (.cells [.sl (.own T.length) (acc'.map u8)])++[.buf acc'.length ty 1]) K)
  (ha:args.all (AV.ok 0)=true:=by rfl)(hv:v.ok 0=true:=by rfl)(hT:T[l]? = some (.cells [.sl .full []]):=by rfl)
  (hg:gargs.map AV.wk=.ptr l 0::args:=by rfl):Dy (KD P f gargs T) (F1 P pf rf d rest e K):=by
 refine AT (show AC P f (gargs.map AV.wk) T v _ from ?_) h'
 rw[hg];have ha1:∀u∈args,u.ok 1=true:=fun u hu=>Ev (List.all_eq_true.1 ha u hu) (Nat.zero_le 1)
 have :=h.frame (T:=T) [l] (IU l rfl hT) (by simp only[List.all_cons,Bool.and_eq_true];exact⟨rfl,List.all_eq_true.2 ha1⟩) (Ev hv (Nat.zero_le 2)) (fun i o hi=>by
  match i,hi with
  |0,hi=>cases hi;rfl
  |1,hi=>cases hi;rfl)
 rw[List.map_cons,Q8 ha,DG hv (fun i hi=>absurd hi (Nat.not_lt_zero _))]at this
 simpa[after,Es,ext,Az,SObj.ren,AV.r1,AV.r0,Mode.ren,AV.ren,AV.r2] using this
theorem Kc{rs:List ResultVar}{v:AV}{S:Ae}{o o':SObj}{vs:List AV}{N0:Nat}(hn:[0,1].take N0=List.range N0)(h:Da P rs e S=some vs:=by rfl)(ho:o.ok 2=true:=by rfl)(ho':o'.ok 2=true:=by rfl)
  (hS:S[0]? = some (o.ren (Az [0,1])):=by rfl)(hS':S[1]? = some (o'.ren (Az [0,1])):=by rfl)(hk:v.ok 2=true:=by rfl)(hv:Ea vs=v.ren (Az [0,1]):=by rfl):Dw P rs N0 v [o,o'] .norm e S:=
 ⟨e,S,vs,[0,1],Aq.refl N0 e S,h,Qz 0 1 (by decide) ho ho' hS hS',hn,hk,.inl hv⟩
end
theorem PU(ty:TypeId)(a b:By):[SObj.cells [.sl (.own 1) (a.map u8++b.map u8)],.buf (a.length+b.length) ty 1]=BV ty (a++b):=by
 show _=[SObj.cells [.sl (.own 1) ((a++b).map u8)],.buf (a++b).length ty 1]
 rw[List.map_append,List.length_append]
theorem Ps{α:Type}(g:α→By){l:List α}{k:Nat}(hk:k<l.length):((l.take (k+1)).map g).flatten=((l.take k).map g).flatten++g l[k]:=by
 rw[List.take_succ_eq_append_getElem hk,List.map_append,List.flatten_append];congr 1
 exact List.append_nil _
theorem Pv{α:Type}(g:α→By)(l:List α)(B k:Nat)(h:∀x∈l,(g x).length≤B):((l.take k).map g).flatten.length≤k*B:=by
 induction l generalizing k with
 |nil=>simp
 | cons a l ih=>
  cases k with
  |zero=>simp
  |succ k=>
   have h1:=h a (by simp)
   have h2:=ih k fun x hx=>h x (by simp[hx])
   simp only[List.take_succ_cons,List.map_cons,List.flatten_cons,List.length_append,Nat.succ_mul];omega
theorem Hj(l:List Int)(acc:By)(hl:l.length≤100)(h:∀x∈l,-9223372036854775808≤x∧x≤9223372036854775807)(hac:acc.length≤1000000000):AC prog 107 [.ptr 0 0,.sl .ro (l.map (AV.it .i64))] (BV 5 acc) (.tup []) (BV 5 (acc++(l.map Ah).flatten)):=by
 refine Ap [67] [] func107 ?_;refine run ?_;refine CG (fun m e S=>e 0=.ptr 0 0∧e 6=.sl .ro (l.map (AV.it .i64))∧e 7=.it .i64 (l.length:Int) ∧ ∃(k:Nat) (cur:By),e 8=.it .i64 (k:Int)∧S=BV 5 cur∧cur=acc++((l.take k).map Ah).flatten∧k≤l.length∧m=l.length-k) l.length _ _ (Aq.refl 2 _ _)
  ⟨Ab,Ab,Ab,0,acc,Ab,rfl,by simp,by omega,rfl⟩ ?_
 rintro m e S ⟨s0,s6,s7,k,cur,s8,rfl,hcur,hk,rfl⟩
 have hb:=Pv Ah l 9 k (fun x hx=>AD x (by have :=h x hx;omega))
 have hk100:k*9≤100*9:=Nat.mul_le_mul_right _ (by omega)
 have hcl:cur.length≤1000000000+100*9:=by rw[hcur];rw[List.length_append];omega
 by_cases hlt:k<l.length
 rotate_left
 ·obtain rfl:k=l.length:=by omega
  rw[List.take_length]at hcur;rw[←hcur];refine Aa (A4 @s0 @s6 @s7 @s8) ?_;exact Kc rfl
 have hg:l[k]? = some l[k]:=List.getElem?_eq_getElem hlt
 have hx:=h l[k] (List.getElem_mem hlt);have hst:=Ps Ah hlt;have hbx:=((fun x hx=>AD x (by have :=h x hx;omega))) l[k] (List.getElem_mem hlt)
 generalize l[k]=x at *;have hsz:AH 1 (l.map (AV.it .i64))=true:=BM 1 _ (fun _=>rfl) _
 refine Aa (A6 @s0 @s6 @s7 @s8 @hg @hsz) ?_;refine cp (BQ x (by omega) (by omega)) ?_
 refine Aa (A4 @s0 @s6 @s7 @s8) ?_;exact As (l.length-(k+1)) (by omega) ⟨Ab,Ab,Ab,k+1,cur++Ah x,Ab,PU _ _ _,by rw[hst,hcur];rw[List.append_assoc],by omega,rfl⟩
theorem O1(l:List Int)(hl:l.length≤100)(h:∀x∈l,-9223372036854775808≤x∧x≤9223372036854775807):AC prog 107 [.ptr 0 0,.sl .ro (l.map (AV.it .i64))] [.cells [.sl .full []]] (.tup []) (BV 5 ((l.map Ah).flatten)):=by
 refine Ap [67] [] func107 ?_;refine run ?_;refine CG (fun m e S=>e 0=.ptr 0 0∧e 6=.sl .ro (l.map (AV.it .i64))∧e 7=.it .i64 (l.length:Int) ∧ ∃(k:Nat) (cur:By),e 8=.it .i64 (k:Int)∧S=BV 5 cur∧cur=((l.take k).map Ah).flatten∧k≤l.length∧m=l.length-k) l.length _ _ (Aq.reserveC 1 0 (es:=[]) (by rfl) 5 1)
  ⟨Ab,Ab,Ab,0,[],Ab,rfl,by simp,by omega,rfl⟩ ?_
 rintro m e S ⟨s0,s6,s7,k,cur,s8,rfl,hcur,hk,rfl⟩
 have hb:=Pv Ah l 9 k (fun x hx=>AD x (by have :=h x hx;omega))
 have hk100:k*9≤100*9:=Nat.mul_le_mul_right _ (by omega)
 have hcl:cur.length≤100*9:=by rw[hcur];exact Nat.le_trans hb hk100
 by_cases hlt:k<l.length
 rotate_left
 ·obtain rfl:k=l.length:=by omega
  rw[List.take_length]at hcur;rw[←hcur];refine Aa (A4 @s0 @s6 @s7 @s8) ?_;exact Kc rfl
 have hg:l[k]? = some l[k]:=List.getElem?_eq_getElem hlt
 have hx:=h l[k] (List.getElem_mem hlt);have hst:=Ps Ah hlt;have hbx:=((fun x hx=>AD x (by have :=h x hx;omega))) l[k] (List.getElem_mem hlt)
 generalize l[k]=x at *;have hsz:AH 1 (l.map (AV.it .i64))=true:=BM 1 _ (fun _=>rfl) _
 refine Aa (A6 @s0 @s6 @s7 @s8 @hg @hsz) ?_;refine cp (BQ x (by omega) (by omega)) ?_
 refine Aa (A4 @s0 @s6 @s7 @s8) ?_;exact As (l.length-(k+1)) (by omega) ⟨Ab,Ab,Ab,k+1,cur++Ah x,Ab,PU _ _ _,by rw[hst,hcur],by omega,rfl⟩
theorem ME(l:List By)(acc:By)(hl:l.length≤100)(h:∀x∈l,x.length≤1000000)(hac:acc.length≤1000000000):AC prog 118 [.ptr 0 0,B8 l] (BV 5 acc) (.tup []) (BV 5 (acc++(l.map text).flatten)):=by
 refine Ap [66] [] func118 ?_;refine run ?_;refine CG (fun m e S=>e 0=.ptr 0 0∧e 6=B8 l∧e 7=.it .i64 (l.length:Int) ∧ ∃(k:Nat) (cur:By),e 8=.it .i64 (k:Int)∧S=BV 5 cur∧cur=acc++((l.take k).map text).flatten∧k≤l.length∧m=l.length-k) l.length _ _ (Aq.refl 2 _ _)
  ⟨Ab,Ab,Ab,0,acc,Ab,rfl,by simp,by omega,rfl⟩ ?_
 rintro m e S ⟨s0,s6,s7,k,cur,s8,rfl,hcur,hk,rfl⟩
 have hb:=Pv text l 1000009 k (fun x hx=>Be (h x hx))
 have hk100:k*1000009≤100*1000009:=Nat.mul_le_mul_right _ (by omega)
 have hcl:cur.length≤1000000000+100*1000009:=by rw[hcur];rw[List.length_append];omega
 by_cases hlt:k<l.length
 rotate_left
 ·obtain rfl:k=l.length:=by omega
  rw[List.take_length]at hcur;rw[←hcur];refine Aa (A4 @s0 @s6 @s7 @s8) ?_;exact Kc rfl
 have hg:l[k]? = some l[k]:=List.getElem?_eq_getElem hlt
 have hx:=h l[k] (List.getElem_mem hlt);have hst:=Ps text hlt;have hbx:=((fun x hx=>Be (h x hx))) l[k] (List.getElem_mem hlt)
 generalize l[k]=x at *;have hsz:AH 1 (l.map AV.st)=true:=BM 1 _ (fun _=>rfl) _
 refine Aa (A6 @s0 @s6 @s7 @s8 @hg @hsz) ?_;refine cp (C2 x (by omega)) ?_
 refine Aa (A4 @s0 @s6 @s7 @s8) ?_;exact As (l.length-(k+1)) (by omega) ⟨Ab,Ab,Ab,k+1,cur++text x,Ab,PU _ _ _,by rw[hst,hcur];rw[List.append_assoc],by omega,rfl⟩
theorem Qu(l:List By)(hl:l.length≤100)(h:∀x∈l,x.length≤1000000):AC prog 118 [.ptr 0 0,B8 l] [.cells [.sl .full []]] (.tup []) (BV 5 ((l.map text).flatten)):=by
 refine Ap [66] [] func118 ?_;refine run ?_;refine CG (fun m e S=>e 0=.ptr 0 0∧e 6=B8 l∧e 7=.it .i64 (l.length:Int) ∧ ∃(k:Nat) (cur:By),e 8=.it .i64 (k:Int)∧S=BV 5 cur∧cur=((l.take k).map text).flatten∧k≤l.length∧m=l.length-k) l.length _ _ (Aq.reserveC 1 0 (es:=[]) (by rfl) 5 1)
  ⟨Ab,Ab,Ab,0,[],Ab,rfl,by simp,by omega,rfl⟩ ?_
 rintro m e S ⟨s0,s6,s7,k,cur,s8,rfl,hcur,hk,rfl⟩
 have hb:=Pv text l 1000009 k (fun x hx=>Be (h x hx))
 have hk100:k*1000009≤100*1000009:=Nat.mul_le_mul_right _ (by omega)
 have hcl:cur.length≤100*1000009:=by rw[hcur];exact Nat.le_trans hb hk100
 by_cases hlt:k<l.length
 rotate_left
 ·obtain rfl:k=l.length:=by omega
  rw[List.take_length]at hcur;rw[←hcur];refine Aa (A4 @s0 @s6 @s7 @s8) ?_;exact Kc rfl
 have hg:l[k]? = some l[k]:=List.getElem?_eq_getElem hlt
 have hx:=h l[k] (List.getElem_mem hlt);have hst:=Ps text hlt;have hbx:=((fun x hx=>Be (h x hx))) l[k] (List.getElem_mem hlt)
 generalize l[k]=x at *;have hsz:AH 1 (l.map AV.st)=true:=BM 1 _ (fun _=>rfl) _
 refine Aa (A6 @s0 @s6 @s7 @s8 @hg @hsz) ?_;refine cp (C2 x (by omega)) ?_
 refine Aa (A4 @s0 @s6 @s7 @s8) ?_;exact As (l.length-(k+1)) (by omega) ⟨Ab,Ab,Ab,k+1,cur++text x,Ab,PU _ _ _,by rw[hst,hcur],by omega,rfl⟩
structure Ez(i:It.Item):Prop where
 c:i.claim.actor.length≤1000000∧i.claim.prev.length≤1000000
 ci:∀x∈[i.claim.base,i.claim.gen,i.claim.home,i.claim.pub,i.claim.time],-9223372036854775808≤x∧x≤9223372036854775807
 b:i.ballot.actor.length≤1000000∧i.ballot.claim.length≤1000000
 bi:∀x∈[i.ballot.server,i.ballot.gen,i.ballot.time],-9223372036854775808≤x∧x≤9223372036854775807
 d:i.decision.actor.length≤1000000∧i.decision.object.length≤1000000∧i.decision.text.length≤1000000
 dt:i.decision.to.length≤1000000 ∧ ∀s∈i.decision.to,s.length≤1000000
 di:∀x∈[i.decision.server,i.decision.number,i.decision.kind,i.decision.n,i.decision.frm,i.decision.til],-9223372036854775808≤x∧x≤9223372036854775807
theorem Mc(g:Int→By)(a:Int):([a].map g).flatten=g a:=by simp
theorem Nt(a:By):([a].map text).flatten=text a:=by simp
theorem Zaa(i:It.Item)(acc:By)(h:Ez i)(hac:acc.length≤100000000):AC prog 183 [.ptr 0 0,Ao i] (BV 5 acc) (.tup []) (BV 5 (acc++FU i.claim)):=by
 refine Ap [] [] func183 ?_;have h1:=h.c;have h2:=h.ci;simp only[List.forall_mem_cons]at h2;have l1:=Be h1.1;have l2:=AD i.claim.base (by omega)
 have l3:=Be h1.2;have k1:=ME [i.claim.actor] acc (by simp) (by simpa using h1.1) (by omega)
 have k2:=Hj [i.claim.base] (acc++text i.claim.actor) (by simp) (by simp;omega) (by simp only[List.length_append];omega)
 have k3:=ME [i.claim.prev] (acc++text i.claim.actor++Ah i.claim.base) (by simp) (by simpa using h1.2) (by simp only[List.length_append];omega)
 have k4:=Hj [i.claim.gen,i.claim.home,i.claim.pub,i.claim.time] (acc++text i.claim.actor++Ah i.claim.base++text i.claim.prev) (by simp) (by simp;omega) (by simp only[List.length_append];omega)
 rw[Nt]at k1 k3;rw[Mc]at k2;have he:acc++FU i.claim=acc++text i.claim.actor++Ah i.claim.base++text i.claim.prev++([i.claim.gen,i.claim.home,i.claim.pub,i.claim.time].map Ah).flatten:=by
  unfold FU;simp
 rw[he];clear he l1 l2 l3 h1 h2;generalize ([i.claim.gen,i.claim.home,i.claim.pub,i.claim.time].map Ah).flatten=tl at *;generalize acc++text i.claim.actor++Ah i.claim.base++text i.claim.prev++tl=a4 at *;generalize acc++text i.claim.actor++Ah i.claim.base++text i.claim.prev=a3 at *;generalize acc++text i.claim.actor++Ah i.claim.base=a2 at *;generalize acc++text i.claim.actor=a1 at *;refine run ?_;refine cb 0 1 k1 ?_
 refine run ?_;refine cb 0 1 k2 ?_
 refine run ?_;refine cb 0 1 k3 ?_
 refine run ?_;refine cb 0 1 k4 ?_
 refine run ?_;exact Kc rfl
theorem Zab(i:It.Item)(acc:By)(h:Ez i)(hac:acc.length≤100000000):AC prog 184 [.ptr 0 0,Ao i] (BV 5 acc) (.tup []) (BV 5 (acc++FX i.ballot)):=by
 refine Ap [] [] func184 ?_;have h1:=h.b;have h2:=h.bi;simp only[List.forall_mem_cons]at h2;have l1:=AD i.ballot.server (by omega)
 have l2:=Be h1.1;have l3:=AD i.ballot.gen (by omega)
 have l4:=Be h1.2;have k1:=Hj [i.ballot.server] acc (by simp) (by simp;omega) (by omega)
 have k2:=ME [i.ballot.actor] (acc++Ah i.ballot.server) (by simp) (by simpa using h1.1) (by simp only[List.length_append];omega)
 have k3:=Hj [i.ballot.gen] (acc++Ah i.ballot.server++text i.ballot.actor) (by simp) (by simp;omega) (by simp only[List.length_append];omega)
 have k4:=ME [i.ballot.claim] (acc++Ah i.ballot.server++text i.ballot.actor++Ah i.ballot.gen) (by simp) (by simpa using h1.2) (by simp only[List.length_append];omega)
 have k5:=Hj [i.ballot.time] (acc++Ah i.ballot.server++text i.ballot.actor++Ah i.ballot.gen++text i.ballot.claim) (by simp) (by simp;omega) (by simp only[List.length_append];omega)
 rw[Nt]at k2 k4;rw[Mc]at k1 k3 k5;have he:acc++FX i.ballot=acc++Ah i.ballot.server++text i.ballot.actor++Ah i.ballot.gen++text i.ballot.claim++Ah i.ballot.time:=by
  unfold FX;simp only[List.append_assoc]
 rw[he];clear he l1 l2 l3 l4 h1 h2;generalize acc++Ah i.ballot.server++text i.ballot.actor++Ah i.ballot.gen++text i.ballot.claim++Ah i.ballot.time=a5 at *;generalize acc++Ah i.ballot.server++text i.ballot.actor++Ah i.ballot.gen++text i.ballot.claim=a4 at *;generalize acc++Ah i.ballot.server++text i.ballot.actor++Ah i.ballot.gen=a3 at *;generalize acc++Ah i.ballot.server++text i.ballot.actor=a2 at *;generalize acc++Ah i.ballot.server=a1 at *;refine run ?_;refine cb 0 1 k1 ?_
 refine run ?_;refine cb 0 1 k2 ?_
 refine run ?_;refine cb 0 1 k3 ?_
 refine run ?_;refine cb 0 1 k4 ?_
 refine run ?_;refine cb 0 1 k5 ?_
 refine run ?_;exact Kc rfl
theorem Z9(i:It.Item)(acc:By)(h:Ez i)(hac:acc.length≤100000000)(hlist:(list i.decision.to).length≤100000000):AC prog 185 [.ptr 0 0,Ao i] (BV 5 acc) (.tup []) (BV 5 (acc++FT i.decision)):=by
 refine Ai [169] [] func185 ?_;have h1:=h.d;have h2:=h.di;have h3:=h.dt;simp only[List.forall_mem_cons]at h2;have hx3:([i.decision.server,i.decision.number,i.decision.kind].map Ah).flatten=Ah i.decision.server++(Ah i.decision.number++Ah i.decision.kind):=by simp
 have hx4:([i.decision.actor,i.decision.object,i.decision.text].map text).flatten=text i.decision.actor++(text i.decision.object++text i.decision.text):=by simp
 have hx5:([i.decision.n,i.decision.frm,i.decision.til].map Ah).flatten=Ah i.decision.n++(Ah i.decision.frm++Ah i.decision.til):=by simp
 have n1:=AD i.decision.server (by omega)
 have n2:=AD i.decision.number (by omega)
 have n3:=AD i.decision.kind (by omega)
 have t1:=Be h1.1;have t2:=Be h1.2.1;have t3:=Be h1.2.2;have k1:=Hj [i.decision.server,i.decision.number,i.decision.kind] acc (by simp) (by simp;omega) (by omega)
 rw[hx3]at k1;have k2:=ME [i.decision.actor,i.decision.object,i.decision.text] (acc++(Ah i.decision.server++(Ah i.decision.number++Ah i.decision.kind))) (by simp) (by simp;omega) (by simp only[List.length_append];omega)
 rw[hx4]at k2;have k3:=R3 i.decision.to h3.1 h3.2;have he:acc++FT i.decision=acc++(Ah i.decision.server++(Ah i.decision.number++Ah i.decision.kind))++(text i.decision.actor++(text i.decision.object++text i.decision.text))++list i.decision.to++(Ah i.decision.n++(Ah i.decision.frm++Ah i.decision.til)):=by
  unfold FT;simp only[List.append_assoc]
 rw[he];have hl1:(acc++(Ah i.decision.server++(Ah i.decision.number++Ah i.decision.kind))++(text i.decision.actor++(text i.decision.object++text i.decision.text))).length≤200000000:=by simp only[List.length_append];omega
 have k4:=Hj [i.decision.n,i.decision.frm,i.decision.til] (acc++(Ah i.decision.server++(Ah i.decision.number++Ah i.decision.kind))++(text i.decision.actor++(text i.decision.object++text i.decision.text))++list i.decision.to) (by simp) (by simp;omega) (by rw[List.length_append];omega)
 rw[hx5]at k4;generalize acc++(Ah i.decision.server++(Ah i.decision.number++Ah i.decision.kind))++(text i.decision.actor++(text i.decision.object++text i.decision.text))=a2 at *;generalize acc++(Ah i.decision.server++(Ah i.decision.number++Ah i.decision.kind))=a1 at *;generalize list i.decision.to=li at *;generalize Ah i.decision.n++(Ah i.decision.frm++Ah i.decision.til)=tl at *;have hmap:a2.map u8++li.map u8=(a2++li).map u8:=List.map_append.symm;have hlen:a2.length+li.length=(a2++li).length:=List.length_append.symm;clear n1 n2 n3 t1 t2 t3 he hx3 hx4 hx5;generalize a2++li=a3 at *;generalize a3++tl=a4 at *;refine run ?_;refine cb 0 1 k1 ?_
 refine run ?_;refine cb 0 1 k2 ?_
 refine run ?_;refine cp k3 ?_;refine Aa (an @hmap @hlen) ?_;refine cb 0 1 k4 ?_
 refine run ?_;exact Kc rfl
end Pe
namespace Pe
open Tryz
open Go Go.RowKit Co Sg Ac It
set_option maxRecDepth 100000
set_option maxHeartbeats 4000000
theorem Yn{c:It.Claim}(h:Fh c=true∨c=CX):(c.actor.length≤1000000∧c.prev.length≤1000000) ∧ ∀x∈[c.base,c.gen,c.home,c.pub,c.time],-9223372036854775808≤x∧x≤9223372036854775807:=by
 rcases h with h|rfl
 ·have s:=Zt h
  have h1:=s.actor;have h2:=s.base;have h3:=s.prev;have h4:=s.gen;have h5:=s.home;have h6:=s.pub;have h7:=s.time;simp only[List.forall_mem_cons,List.not_mem_nil,false_implies,implies_true,and_true];omega
 ·decide
theorem Yo{b:It.Ballot}(h:Ga b=true∨b=FY):(b.actor.length≤1000000∧b.claim.length≤1000000) ∧ ∀x∈[b.server,b.gen,b.time],-9223372036854775808≤x∧x≤9223372036854775807:=by
 rcases h with h|rfl
 ·have s:=TH h
  have h1:=s.actor;have h2:=s.server;have h3:=s.claim;have h4:=s.gen;have h5:=s.time;simp only[List.forall_mem_cons,List.not_mem_nil,false_implies,implies_true,and_true];omega
 ·decide
theorem SU{d:It.Decision}(h:G9 d=true∨d=Fu):(d.actor.length≤1000000∧d.object.length≤1000000∧d.text.length≤1000000)∧(d.to.length≤64 ∧ ∀s∈d.to,s.length≤16) ∧ ∀x∈[d.server,d.number,d.kind,d.n,d.frm,d.til],-9223372036854775808≤x∧x≤9223372036854775807:=by
 rcases h with h|rfl
 ·have s:=Tb h
  have h1:=s.actor;have h2:=s.server;have h3:=s.number;have h4:=s.kind;have h5:=s.object;have h6:=s.text;have h7:=s.to;have h8:=s.n;have h9:=s.frm;have h10:=s.til;simp only[List.forall_mem_cons,List.not_mem_nil,false_implies,implies_true,and_true];refine⟨by omega,⟨h7.1,fun s hs=>Nat.le_of_eq (h7.2 s hs)⟩,by omega⟩
 ·decide
theorem Q4{i:It.Item}(h:It.right i=true):(Ac.right i.act=true∨i.act=act0)∧(Fh i.claim=true∨i.claim=CX)∧(Ga i.ballot=true∨i.ballot=FY)∧(G9 i.decision=true∨i.decision=Fu):=by
 rcases MQ h with e|e|e|e
 ·obtain⟨q1,q2,q3,q4⟩:=(VD e).1 h
  exact⟨.inl q1,.inr q2,.inr q3,.inr q4⟩
 ·obtain⟨q1,q2,q3,q4⟩:=(VC e).1 h
  exact⟨.inr q2,.inl q1,.inr q3,.inr q4⟩
 ·obtain⟨q1,q2,q3,q4⟩:=(Q6 e).1 h
  exact⟨.inr q2,.inr q3,.inl q1,.inr q4⟩
 ·obtain⟨q1,q2,q3,q4⟩:=(Q5 e).1 h
  exact⟨.inr q2,.inr q3,.inr q4,.inl q1⟩
theorem Zh5{i:It.Item}(hc:Fh i.claim=true∨i.claim=CX)(hb:Ga i.ballot=true∨i.ballot=FY)(hd:G9 i.decision=true∨i.decision=Fu):Ez i:=by
 have c:=Yn hc;have b:=Yo hb;have d:=SU hd;exact⟨c.1,c.2,b.1,b.2,d.1,⟨by have :=d.2.1.1;omega,fun s hs=>by have :=d.2.1.2 s hs;omega⟩,d.2.2⟩
theorem Zh4{i:It.Item}(h:It.right i=true):Ez i:=have p:=Q4 h;Zh5 p.2.1 p.2.2.1 p.2.2.2
theorem MI{i:It.Item}(h:It.right i=true)(h0:i.kind≠0):Bu (CS i)=true:=by
 unfold CS;rcases MQ h with e|e|e|e
 ·exact absurd e h0
 ·rw[if_pos e];exact(Zt ((VC e).1 h).1).sig
 ·rw[if_neg (by omega),if_pos e];exact(TH ((Q6 e).1 h).1).sig
 ·rw[if_neg (by omega),if_neg (by omega)];exact(Tb ((Q5 e).1 h).1).sig
theorem ZgC{l:List By}(h:l.length≤64 ∧ ∀s∈l,s.length≤16):(list l).length≤2000:=by
 have h1:=EL (n:=l.length) (by have :=h.1;omega)
 have h2:∀l:List By,(∀s∈l,s.length≤16)→(l.map text).flatten.length≤l.length*25:=fun l=>by
  induction l with
  |nil=>intro _;simp
  | cons s l ih=>
   intro h;have e0:=h s (by simp)
   have e1:(text s).length≤25:=by
    have :=EL (n:=s.length) (by omega)
    unfold text;rw[List.length_append];omega
   have e2:=ih fun x hx=>h x (by simp[hx])
   rw[List.map_cons,List.flatten_cons,List.length_append,List.length_cons,Nat.succ_mul];omega
 have h3:=h2 l h.2;have h4:l.length*25≤64*25:=Nat.mul_le_mul_right _ h.1;unfold list;rw[List.length_append];omega
structure Sh(i:It.Item):Prop where
 ez:Ez i
 to:(list i.decision.to).length≤50000000
theorem H2{i:It.Item}(h:It.right i=true):Sh i:=⟨Zh4 h,by have :=ZgC (SU (Q4 h).2.2.2).2.1;omega⟩
theorem Tu{i:It.Item}(h:Ez i):(FU i.claim).length≤10000000:=by
 have h1:=h.c;have h2:=h.ci;simp only[List.forall_mem_cons]at h2;have l1:=Be h1.1;have l2:=Be h1.2;have n1:=AD i.claim.base (by omega)
 have n2:=AD i.claim.gen (by omega)
 have n3:=AD i.claim.home (by omega)
 have n4:=AD i.claim.pub (by omega)
 have n5:=AD i.claim.time (by omega)
 unfold FU;simp only[List.length_append];omega
theorem TI{i:It.Item}(h:Ez i):(FX i.ballot).length≤10000000:=by
 have h1:=h.b;have h2:=h.bi;simp only[List.forall_mem_cons]at h2;have l1:=Be h1.1;have l2:=Be h1.2;have n1:=AD i.ballot.server (by omega)
 have n2:=AD i.ballot.gen (by omega)
 have n3:=AD i.ballot.time (by omega)
 unfold FX;simp only[List.length_append];omega
theorem Tc{i:It.Item}(h:Sh i):(FT i.decision).length≤60000000:=by
 have h1:=h.ez.d;have h2:=h.ez.di;have h3:=h.to;simp only[List.forall_mem_cons]at h2;have l1:=Be h1.1;have l2:=Be h1.2.1;have l3:=Be h1.2.2;have n1:=AD i.decision.server (by omega)
 have n2:=AD i.decision.number (by omega)
 have n3:=AD i.decision.kind (by omega)
 have n4:=AD i.decision.n (by omega)
 have n5:=AD i.decision.frm (by omega)
 have n6:=AD i.decision.til (by omega)
 unfold FT;simp only[List.length_append];omega
theorem Zg{i:It.Item}(h:Sh i):(HH i).length≤60000000:=by
 have h1:=Tu h.ez;have h2:=TI h.ez;have h3:=Tc h;unfold HH;split
 ·omega
 split<;>omega
abbrev SD(F:FuncId)(n:By)(s:Sig):AV:=.agg [.st n,.fn (.func F) [] [],.it .i64 s.e,.it .i64 s.s]
theorem SG(i:It.Item)(hk:i.kind=1):AC prog 109 [Ao i] [] (SD 183 JE i.claim.sig) []:=by
 refine Ap [] [] func109 ?_;refine Aa @hk ?_;exact AQ
theorem SF(i:It.Item)(hk:i.kind=2):AC prog 109 [Ao i] [] (SD 184 JF i.ballot.sig) []:=by
 refine Ap [] [] func109 ?_;refine Aa @hk ?_;exact AQ
theorem SE(i:It.Item)(hk:i.kind≠1∧i.kind≠2):AC prog 109 [Ao i] [] (SD 185 JD i.decision.sig) []:=by
 refine Ap [] [] func109 ?_;obtain⟨h1,h2⟩:=hk;refine run ?_;exact AQ
theorem Zgq(i:It.Item)(hk:i.kind=1)(h:Sh i):AC prog 52 [Ao i] [] (.st (C6 i)) []:=by
 refine Ap [109] [] func52 ?_;have hm:C6 i=text JE++FU i.claim:=by unfold C6 LQ HH;simp[hk]
 rw[hm];have k1:=Qu [JE] (by simp) (by decide)
 rw[Nt]at k1;have k2:=Zaa i (text JE) h.ez (by decide)
 have hl:(text JE).length≤100:=by decide
 have hl2:(FU i.claim).length≤60000000:=by have :=Tu h.ez;omega
 generalize text JE=tw at *;refine run ?_;refine cp (SG i hk) ?_;refine run ?_;refine Kl 2 k1 ?_
 refine run ?_;refine cb 2 3 k2 ?_
 generalize FU i.claim=cb' at *;refine run ?_;exact Ad
theorem Zgp(i:It.Item)(hk:i.kind=2)(h:Sh i):AC prog 52 [Ao i] [] (.st (C6 i)) []:=by
 refine Ap [109] [] func52 ?_;have hm:C6 i=text JF++FX i.ballot:=by unfold C6 LQ HH;simp[hk]
 rw[hm];have k1:=Qu [JF] (by simp) (by decide)
 rw[Nt]at k1;have k2:=Zab i (text JF) h.ez (by decide)
 have hl:(text JF).length≤100:=by decide
 have hl2:(FX i.ballot).length≤60000000:=by have :=TI h.ez;omega
 generalize text JF=tw at *;refine run ?_;refine cp (SF i hk) ?_;refine run ?_;refine Kl 2 k1 ?_
 refine run ?_;refine cb 2 3 k2 ?_
 generalize FX i.ballot=cb' at *;refine run ?_;exact Ad
theorem Zgo(i:It.Item)(hk:i.kind≠1∧i.kind≠2)(h:Sh i):AC prog 52 [Ao i] [] (.st (C6 i)) []:=by
 refine Ap [109] [] func52 ?_;have hm:C6 i=text JD++FT i.decision:=by unfold C6 LQ HH;simp[hk]
 rw[hm];have k1:=Qu [JD] (by simp) (by decide)
 rw[Nt]at k1;have k2:=Z9 i (text JD) h.ez (by decide) (by have :=h.to;omega)
 have hl:(text JD).length≤100:=by decide
 have hl2:(FT i.decision).length≤60000000:=by have :=Tc h;omega
 generalize text JD=tw at *;refine run ?_;refine cp (SE i hk) ?_;refine run ?_;refine Kl 2 k1 ?_
 refine run ?_;refine cb 2 3 k2 ?_
 generalize FT i.decision=cb' at *;refine run ?_;exact Ad
theorem M3{i:It.Item}(h:Sh i):(C6 i).length≤100000000:=by
 have h1:=Zg h;have h2:(text (LQ i)).length≤100:=by
  unfold LQ;split
  ·decide
  split<;>decide
 unfold C6;rw[List.length_append];omega
theorem Xf(i:It.Item):i.kind=1∨i.kind=2∨(i.kind≠1∧i.kind≠2):=by omega
theorem RY(i:It.Item)(h:Sh i):AC prog 52 [Ao i] [] (.st (C6 i)) []:=by
 rcases Xf i with e|e|e
 ·exact Zgq i e h
 ·exact Zgp i e h
 ·exact Zgo i e h
theorem QM(p:Int)(i:It.Item)(h:Sh i)(hp:-9223372036854775808≤p∧p≤9223372036854775807)(hs:-9223372036854775808≤(CS i).e∧(CS i).e≤9223372036854775807)(hl:(C6 i).length≤100000000):AC prog 106 [.it .i64 p,Ao i] [] (.bo (Ou p i)) []:=by
 refine Ap [52,109,95] [] func106 ?_;unfold Ou;have k1:=RY i h;generalize C6 i=ms at *;rcases Xf i with e|e|e
 ·have hsg:CS i=i.claim.sig:=by unfold CS;simp[e]
  rw[hsg]at hs ⊢;refine run ?_;refine cp k1 ?_;refine run ?_;refine cp (SG i e) ?_;refine run ?_;refine cp (Oh p ms i.claim.sig hl hp hs) ?_;refine run ?_;exact Ad
 ·have hsg:CS i=i.ballot.sig:=by unfold CS;simp[e]
  rw[hsg]at hs ⊢;refine run ?_;refine cp k1 ?_;refine run ?_;refine cp (SF i e) ?_;refine run ?_;refine cp (Oh p ms i.ballot.sig hl hp hs) ?_;refine run ?_;exact Ad
 ·have hsg:CS i=i.decision.sig:=by unfold CS;simp[e]
  rw[hsg]at hs ⊢;refine run ?_;refine cp k1 ?_;refine run ?_;refine cp (SE i e) ?_;refine run ?_;refine cp (Oh p ms i.decision.sig hl hp hs) ?_;refine run ?_;exact Ad
theorem SK(g:Int→By)(a b:Int):([a,b].map g).flatten=g a++g b:=by simp
theorem ZH{i:It.Item}(h:It.right i=true)(h0:i.kind=0):It.bytes i=Ah i.kind++Ac.bytes i.act:=by
 rw[Jl h];unfold Kq;rw[if_pos h0]
theorem ZjS(i:It.Item)(h:Iz i)(h0:i.kind=0)(hr:It.right i=true):AC prog 49 [Ao i] [] (.st (It.bytes i)) []:=by
 refine Ai [45,108,109] [] func49 ?_;have kr:=F9 i h;rw[hr]at kr;rw[ZH hr h0];have k1:=O1 [i.kind] (by simp) (by simp[h0])
 rw[Mc]at k1;have hq:(i.kind==0)=true:=by rw[h0];rfl
 have k2:=ZjN i.act h.act;have hl:=TA (a:=i.act);have hl0:=AD i.kind (by omega)
 generalize Ac.bytes i.act=z at *;generalize Ah i.kind=n0 at *;refine run ?_;refine cp kr ?_;refine Aa @hq ?_;refine Kl 1 k1 ?_
 refine Aa @hq ?_;refine cp k2 ?_;have hmap:n0.map u8++z.map u8=(n0++z).map u8:=List.map_append.symm;have hlen:n0.length+z.length=(n0++z).length:=List.length_append.symm;generalize n0++z=c1 at *;refine Aa (A3 @hq @hmap @hlen) ?_;exact Ad
theorem ZjR(i:It.Item)(h:Iz i)(hk:i.kind=1)(hr:It.right i=true):AC prog 49 [Ao i] [] (.st (It.bytes i)) []:=by
 refine Ai [45,108,109] [] func49 ?_;have kr:=F9 i h;rw[hr]at kr;have h3:=H2 hr;have hs:=MI hr (by omega)
 have hb:It.bytes i=Ah i.kind++FU i.claim++(Ah i.claim.sig.e++Ah i.claim.sig.s):=by
  rw[Jl hr];unfold Kq HH CS;have e0:i.kind≠0:=by omega
  simp[hk]
 have hsg:CS i=i.claim.sig:=by unfold CS;simp[hk]
 rw[hsg]at hs;simp only[Bu,Bool.and_eq_true,Ch]at hs;rw[hb];have k1:=O1 [i.kind] (by simp) (by simp[hk])
 rw[Mc]at k1;have hl0:=AD i.kind (by omega)
 have hq:(i.kind==0)=false:=CL (by omega)
 have k2:=Zaa i (Ah i.kind) h3.ez (by omega)
 have hl:(FU i.claim).length≤60000000:=by have :=Tu h3.ez;omega
 have k3:=Hj [i.claim.sig.e,i.claim.sig.s] (Ah i.kind++FU i.claim) (by simp) (by simp;omega) (by rw[List.length_append];omega)
 rw[SK]at k3;have n1:=AD i.claim.sig.e (by omega)
 have n2:=AD i.claim.sig.s (by omega)
 have kf:=SG i hk;generalize Ah i.claim.sig.e++Ah i.claim.sig.s=tl at *;generalize Ah i.kind=n0 at *;generalize FU i.claim=Bq at *;generalize n0++Bq++tl=c2 at *;generalize n0++Bq=c1 at *;refine run ?_;refine cp kr ?_;refine Aa @hq ?_;refine Kl 1 k1 ?_
 refine Aa @hq ?_;refine cp kf ?_;refine Aa @hq ?_;refine cb 1 2 k2 ?_
 refine Aa @hq ?_;refine cb 1 2 k3 ?_
 refine run ?_;exact Ad
theorem ZjQ(i:It.Item)(h:Iz i)(hk:i.kind=2)(hr:It.right i=true):AC prog 49 [Ao i] [] (.st (It.bytes i)) []:=by
 refine Ai [45,108,109] [] func49 ?_;have kr:=F9 i h;rw[hr]at kr;have h3:=H2 hr;have hs:=MI hr (by omega)
 have hb:It.bytes i=Ah i.kind++FX i.ballot++(Ah i.ballot.sig.e++Ah i.ballot.sig.s):=by
  rw[Jl hr];unfold Kq HH CS;have e0:i.kind≠0:=by omega
  simp[hk]
 have hsg:CS i=i.ballot.sig:=by unfold CS;simp[hk]
 rw[hsg]at hs;simp only[Bu,Bool.and_eq_true,Ch]at hs;rw[hb];have k1:=O1 [i.kind] (by simp) (by simp[hk])
 rw[Mc]at k1;have hl0:=AD i.kind (by omega)
 have hq:(i.kind==0)=false:=CL (by omega)
 have k2:=Zab i (Ah i.kind) h3.ez (by omega)
 have hl:(FX i.ballot).length≤60000000:=by have :=TI h3.ez;omega
 have k3:=Hj [i.ballot.sig.e,i.ballot.sig.s] (Ah i.kind++FX i.ballot) (by simp) (by simp;omega) (by rw[List.length_append];omega)
 rw[SK]at k3;have n1:=AD i.ballot.sig.e (by omega)
 have n2:=AD i.ballot.sig.s (by omega)
 have kf:=SF i hk;generalize Ah i.ballot.sig.e++Ah i.ballot.sig.s=tl at *;generalize Ah i.kind=n0 at *;generalize FX i.ballot=Bq at *;generalize n0++Bq++tl=c2 at *;generalize n0++Bq=c1 at *;refine run ?_;refine cp kr ?_;refine Aa @hq ?_;refine Kl 1 k1 ?_
 refine Aa @hq ?_;refine cp kf ?_;refine Aa @hq ?_;refine cb 1 2 k2 ?_
 refine Aa @hq ?_;refine cb 1 2 k3 ?_
 refine run ?_;exact Ad
theorem ZjP(i:It.Item)(h:Iz i)(hk:i.kind=3)(hr:It.right i=true):AC prog 49 [Ao i] [] (.st (It.bytes i)) []:=by
 refine Ai [45,108,109] [] func49 ?_;have kr:=F9 i h;rw[hr]at kr;have h3:=H2 hr;have hs:=MI hr (by omega)
 have hb:It.bytes i=Ah i.kind++FT i.decision++(Ah i.decision.sig.e++Ah i.decision.sig.s):=by
  rw[Jl hr];unfold Kq HH CS;have e0:i.kind≠0:=by omega
  simp[hk]
 have hsg:CS i=i.decision.sig:=by unfold CS;simp[hk]
 rw[hsg]at hs;simp only[Bu,Bool.and_eq_true,Ch]at hs;rw[hb];have k1:=O1 [i.kind] (by simp) (by simp[hk])
 rw[Mc]at k1;have hl0:=AD i.kind (by omega)
 have hq:(i.kind==0)=false:=CL (by omega)
 have k2:=Z9 i (Ah i.kind) h3.ez (by omega) (by have :=h3.to;omega)
 have hl:(FT i.decision).length≤60000000:=by have :=Tc h3;omega
 have k3:=Hj [i.decision.sig.e,i.decision.sig.s] (Ah i.kind++FT i.decision) (by simp) (by simp;omega) (by rw[List.length_append];omega)
 rw[SK]at k3;have n1:=AD i.decision.sig.e (by omega)
 have n2:=AD i.decision.sig.s (by omega)
 have kf:=SE i (by omega)
 generalize Ah i.decision.sig.e++Ah i.decision.sig.s=tl at *;generalize Ah i.kind=n0 at *;generalize FT i.decision=Bq at *;generalize n0++Bq++tl=c2 at *;generalize n0++Bq=c1 at *;refine run ?_;refine cp kr ?_;refine Aa @hq ?_;refine Kl 1 k1 ?_
 refine Aa @hq ?_;refine cp kf ?_;refine Aa @hq ?_;refine cb 1 2 k2 ?_
 refine Aa @hq ?_;refine cb 1 2 k3 ?_
 refine run ?_;exact Ad
theorem ZjO(i:It.Item)(h:Iz i):AC prog 49 [Ao i] [] (.st (It.bytes i)) []:=by
 cases hr:It.right i with
 |true=>
  rcases MQ hr with e|e|e|e
  ·exact ZjS i h e hr
  ·exact ZjR i h e hr
  ·exact ZjQ i h e hr
  ·exact ZjP i h e hr
 |false=>
  refine Ai [45,108,109] [] func49 ?_;have kr:=F9 i h;rw[hr]at kr;rw[It.bytes_wrong hr];refine run ?_;refine cp kr ?_;refine run ?_;exact Ad
theorem Oo{a:Ac.Act}(h:Sm a):Sz a:=⟨by have :=h.author;omega,by have :=h.target;omega,by have :=h.group;omega,by have :=h.text;omega,fun s hs=>by have :=h.to.2 s hs;omega,by have :=h.to.1;omega,by have :=h.wraps.1;omega⟩
theorem ZcV:Sz act0:=⟨by decide,by decide,by decide,by decide,by decide,by decide,by decide⟩
theorem WE(s t:By)(h:s≠t):(s==t)=false:=by simpa using h
theorem EA{i:It.Item}(h:It.right i=true):Iz i:=by
 have p:=Q4 h;have c:=(Yn p.2.1).1.1;have b:=(Yo p.2.2.1).1.1;have d:=SU p.2.2.2;refine⟨?_,by omega,by omega,⟨by have :=d.1.1;omega,by have :=d.2.1.1;omega,fun s hs=>by have :=d.2.1.2 s hs;omega⟩⟩
 rcases p.1 with e|e
 ·exact Oo (C3 e)
 ·rw[e];exact ZcV
theorem ZJ(i:It.Item):(It.bytes i).length≤70000000:=by
 cases hr:It.right i with
 |false=>rw[It.bytes_wrong hr];decide
 | true=>
  have hk:=MQ hr;have n0:=AD i.kind (by omega)
  rw[Jl hr];unfold Kq;rw[List.length_append];by_cases h0:i.kind=0
  ·rw[if_pos h0]
   have :=TA (a:=i.act);omega
  ·rw[if_neg h0]
   have hs:=MI hr h0;simp only[Bu,Bool.and_eq_true,Ch]at hs;have n1:=AD (CS i).e (by omega)
   have n2:=AD (CS i).s (by omega)
   have hc:=Zg (H2 hr);simp only[List.length_append];omega
theorem Gs(i:It.Item)(h:Iz i):AC prog 14 [Ao i] [] (.st (It.digest i)) []:=by
 refine Ap [49,50] [] func14 ?_;unfold It.digest;have hb:=ZjO i h;have hl:=ZJ i;generalize It.bytes i=bs at *;by_cases he:bs=[]
 ·rw[if_pos he]
  have hq:(bs==[])=true:=by rw[he];rfl
  refine run ?_;refine cp hb ?_;refine Aa @hq ?_;exact Ad
 ·rw[if_neg he]
  have hq:=WE bs [] he;refine run ?_;refine cp hb ?_;refine Aa @hq ?_;refine cp (MK bs (by omega)) ?_
  refine run ?_;exact Ad
theorem Ww(a:Ac.Act)(h:a.to.length≤1000000)(hw:a.wraps.length≤1000000):AC prog 25 [Am a] [] (Ao (An a)) []:=by
 refine Ap [60,61] [] func25 ?_;refine run ?_;refine cp (Tq a.to h) ?_;refine run ?_;refine cp (Zo a.wraps hw) ?_;refine run ?_;exact AQ
theorem Hg(c:It.Claim):AC prog 13 [Br c] [] (Ao (Ax c)) []:=by
 refine Ap [] [] func13 ?_;refine run ?_;exact AQ
theorem Wv(c:It.Ballot):AC prog 15 [C9 c] [] (Ao (Cj c)) []:=by
 refine Ap [] [] func15 ?_;refine run ?_;exact AQ
theorem ZdG(k:Key)(c:It.Claim)(h:Sh (Ax c))(hk:-9223372036854775808≤k.secret∧k.secret≤9223372036854775807):AC prog 44 [Bx k,Br c] [] (Br (signClaim k c)) []:=by
 refine Ap [13,52,51] [] func44 ?_;unfold signClaim;have hm:=RY (Ax c) h;have hl:=M3 h;generalize C6 (Ax c)=ms at *;have hsg:=QN k ms hl hk;generalize Do k ms=sg at *;refine run ?_;refine cp (Hg c) ?_;refine run ?_;refine cp hm ?_;refine run ?_;refine cp hsg ?_;refine run ?_;exact AQ
theorem ZdH(k:Key)(c:It.Ballot)(h:Sh (Cj c))(hk:-9223372036854775808≤k.secret∧k.secret≤9223372036854775807):AC prog 16 [Bx k,C9 c] [] (C9 (signBallot k c)) []:=by
 refine Ap [15,52,51] [] func16 ?_;unfold signBallot;have hm:=RY (Cj c) h;have hl:=M3 h;generalize C6 (Cj c)=ms at *;have hsg:=QN k ms hl hk;generalize Do k ms=sg at *;refine run ?_;refine cp (Wv c) ?_;refine run ?_;refine cp hm ?_;refine run ?_;refine cp hsg ?_;refine run ?_;exact AQ
theorem Zs(p:Int)(c:It.Claim)(h:Sh (Ax c))(hp:-9223372036854775808≤p∧p≤9223372036854775807)(hs:-9223372036854775808≤c.sig.e∧c.sig.e≤9223372036854775807):AC prog 48 [.it .i64 p,Br c] [] (.bo (claimed p c)) []:=by
 refine Ap [13,106] [] func48 ?_;unfold claimed;have k1:=QM p (Ax c) h hp hs (M3 h);refine run ?_;refine cp (Hg c) ?_;refine run ?_;refine cp k1 ?_;refine run ?_;exact Ad
theorem ZdZ{i:It.Item}(h:It.right i=true)(hk:i.kind=2∨i.kind=3):0≤H4 i∧H4 i≤19:=by
 unfold H4;rcases hk with e|e
 ·rw[if_pos e];exact(TH ((Q6 e).1 h).1).server
 ·rw[if_neg (by omega)];exact(Tb ((Q5 e).1 h).1).server
theorem ZdD(ps:List Int)(i:It.Item)(h:Iz i)(hps:∀p∈ps,-9223372036854775808≤p∧p≤9223372036854775807):AC prog 58 [.sl .ro (ps.map (AV.it .i64)),Ao i] [] (.bo (It.signed ps i)) []:=by
 refine Ap [45,106] [] func58 ?_;have kr:=F9 i h;unfold It.signed;cases hr:It.right i with
 |false=>
  rw[hr]at kr;refine run ?_;refine cp kr ?_;refine run ?_;exact Ad
 | true=>
  rw[hr]at kr;rw[if_pos rfl];by_cases hk:i.kind=2∨i.kind=3
  rotate_left
  ·rw[if_neg hk]
   have q2:(i.kind==2)=false:=CL (by omega)
   have q3:(i.kind==3)=false:=CL (by omega)
   refine run ?_;refine cp kr ?_;refine Aa (an @q2 @q3) ?_;exact Ad
  rw[if_pos hk];have hsv:=ZdZ hr hk;have hsg:=MI hr (by omega)
  simp only[Bu,Bool.and_eq_true,Ch]at hsg;have hsh:=H2 hr;have hsz:AH 1 (ps.map (AV.it .i64))=true:=BM 1 _ (fun _=>rfl) _
  rcases hk with e|e
  ·have hv:H4 i=i.ballot.server:=by unfold H4;simp[e]
   rw[hv]at hsv ⊢;have q2:(i.kind==2)=true:=by rw[e];rfl
   obtain⟨n,hn⟩:∃n:Nat,i.ballot.server=(n:Int):=⟨i.ballot.server.toNat,by omega⟩
   have hpos:decide (0≤i.ballot.server)=true:=decide_eq_true hsv.1;by_cases hlt:n<ps.length
   ·have hg:ps[i.ballot.server.toNat]? = some (ps.getD n 0):=by
     rw[hn,Int.toNat_natCast,List.getD_eq_getElem?_getD,List.getElem?_eq_getElem hlt]
     rfl
    have hgd:ps.getD i.ballot.server.toNat 0=ps.getD n 0:=by rw[hn];rfl
    have hp:=hps (ps.getD n 0) (by rw[List.getD_eq_getElem?_getD,List.getElem?_eq_getElem hlt];exact List.getElem_mem hlt)
    have k1:=QM (ps.getD n 0) i hsh hp (by omega) (M3 hsh)
    have hl:i.ballot.server<(ps.length:Int):=by omega
    have h0:0≤i.ballot.server:=hsv.1;rw[hgd,decide_eq_true hl];generalize ps.getD n 0=p at *;refine run ?_;refine cp kr ?_;refine Aa (A5 @q2 @hl @h0 @hg @hsz) ?_;refine cp k1 ?_;refine run ?_;exact Ad
   ·have hl:¬i.ballot.server<(ps.length:Int):=by omega
    rw[decide_eq_false hl];refine run ?_;refine cp kr ?_;refine Aa (an @q2 @hl) ?_;exact Ad
  ·have hv:H4 i=i.decision.server:=by unfold H4;simp[e]
   rw[hv]at hsv ⊢;have q2:(i.kind==2)=false:=CL (by omega)
   have q3:(i.kind==3)=true:=by rw[e];rfl
   obtain⟨n,hn⟩:∃n:Nat,i.decision.server=(n:Int):=⟨i.decision.server.toNat,by omega⟩
   have hpos:decide (0≤i.decision.server)=true:=decide_eq_true hsv.1;by_cases hlt:n<ps.length
   ·have hg:ps[i.decision.server.toNat]? = some (ps.getD n 0):=by
     rw[hn,Int.toNat_natCast,List.getD_eq_getElem?_getD,List.getElem?_eq_getElem hlt]
     rfl
    have hgd:ps.getD i.decision.server.toNat 0=ps.getD n 0:=by rw[hn];rfl
    have hp:=hps (ps.getD n 0) (by rw[List.getD_eq_getElem?_getD,List.getElem?_eq_getElem hlt];exact List.getElem_mem hlt)
    have k1:=QM (ps.getD n 0) i hsh hp (by omega) (M3 hsh)
    have hl:i.decision.server<(ps.length:Int):=by omega
    have h0:0≤i.decision.server:=hsv.1;rw[hgd,decide_eq_true hl];generalize ps.getD n 0=p at *;refine run ?_;refine cp kr ?_;refine Aa (A6 @q2 @q3 @hl @h0 @hg @hsz) ?_;refine cp k1 ?_;refine run ?_;exact Ad
   ·have hl:¬i.decision.server<(ps.length:Int):=by omega
    rw[decide_eq_false hl];refine run ?_;refine cp kr ?_;refine Aa (A3 @q2 @q3 @hl) ?_;exact Ad
end Pe
end
section
namespace Pe
open Tryz
open Go Go.RowKit Co Sg Ac
set_option maxRecDepth 100000
set_option maxHeartbeats 4000000
theorem ZcU{a:Ac.Act}(h:Sm a):Sz a:=⟨by have :=h.author;omega,by have :=h.target;omega,by have :=h.group;omega,by have :=h.text;omega,fun s hs=>by have :=h.to.2 s hs;omega,by have :=h.to.1;omega,by have :=h.wraps.1;omega⟩
theorem ZcT{a:Ac.Act}(h:right a=true):Sz a:=ZcU (C3 h)
structure In(a:Ac.Act):Prop where
 sz:Sz a
 prev:a.prev.length≤140737488355328
 object:a.object.length≤140737488355328
 body:a.body.nonce.length≤140737488355328∧a.body.data.length≤140737488355328∧a.body.tag.length≤140737488355328
 ws:∀w∈a.wraps,w.box.nonce.length≤140737488355328∧w.box.data.length≤140737488355328∧w.box.tag.length≤140737488355328
 ints:(-9223372036854775808≤a.epoch∧a.epoch≤9223372036854775807)∧(-9223372036854775808≤a.m∧a.m≤9223372036854775807)
end Pe
end
section
namespace Pe
open Tryz
open Go Go.RowKit Co Sg Ac It
set_option maxRecDepth 100000
set_option maxHeartbeats 4000000
structure InI(i:It.Item):Prop where
 act:In i.act
 iz:Iz i
 ci:∀x∈[i.claim.base,i.claim.gen,i.claim.home,i.claim.pub,i.claim.time],-9223372036854775808≤x∧x≤9223372036854775807
 bi:∀x∈[i.ballot.server,i.ballot.gen,i.ballot.time],-9223372036854775808≤x∧x≤9223372036854775807
 di:∀x∈[i.decision.server,i.decision.number,i.decision.kind,i.decision.n,i.decision.frm,i.decision.til],-9223372036854775808≤x∧x≤9223372036854775807
 si:∀x∈[i.claim.sig.e,i.claim.sig.s,i.ballot.sig.e,i.ballot.sig.s,i.decision.sig.e,i.decision.sig.s],-9223372036854775808≤x∧x≤9223372036854775807
end Pe
end
end Go.Proofs.YtchpmmjmimaigaaGreatDoor
