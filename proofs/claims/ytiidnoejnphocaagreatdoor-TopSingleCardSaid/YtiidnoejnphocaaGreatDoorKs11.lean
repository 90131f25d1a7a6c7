import Derived.Test.YtiidnoejnphocaaGreatDoorKs10
set_option linter.unusedSectionVars false
set_option linter.unusedVariables false
set_option linter.unusedSimpArgs false
namespace Go.Proofs.YtiidnoejnphocaaGreatDoor
section
namespace Pe
open Tryz
open Go Go.RowKit Co Sg Ac It
set_option maxRecDepth 100000
set_option maxHeartbeats 4000000
abbrev JD (c : It.Claim) : AV := .agg [.st c.actor, .it .i64 c.base, .st c.prev, .it .i64 c.gen, .it .i64 c.home, .it .i64 c.pub, .it .i64 c.time, .it .i64 c.sig.e, .it .i64 c.sig.s]
abbrev PY (b : It.Ballot) : AV := .agg [.it .i64 b.server, .st b.actor, .it .i64 b.gen, .st b.claim, .it .i64 b.time, .it .i64 b.sig.e, .it .i64 b.sig.s]
abbrev G9 (d : It.Decision) : AV := .agg [.it .i64 d.server, .it .i64 d.number, .it .i64 d.kind, .st d.actor, .st d.object, .st d.text, At d.to, .it .i64 d.n, .it .i64 d.frm, .it .i64 d.til, .it .i64 d.sig.e, .it .i64 d.sig.s]
abbrev FT (i : It.Item) : List AV := [.it .i64 i.kind, .st i.act.author, .it .i64 i.act.seq, .st i.act.prev, .it .i64 i.act.kind, .it .i64 i.act.time, .st i.act.object, .st i.act.target, .it .i64 i.act.scope, .st i.act.group, At i.act.to, .st i.act.text, .st i.act.body.nonce, .st i.act.body.data, .st i.act.body.tag, .it .i64 i.act.epoch, .sl .ro (i.act.wraps.map Ba), .it .i64 i.act.n, .it .i64 i.act.m, .it .i64 i.act.sig.e, .it .i64 i.act.sig.s, .st i.claim.actor, .it .i64 i.claim.base, .st i.claim.prev, .it .i64 i.claim.gen, .it .i64 i.claim.home, .it .i64 i.claim.pub, .it .i64 i.claim.time, .it .i64 i.claim.sig.e, .it .i64 i.claim.sig.s, .it .i64 i.ballot.server, .st i.ballot.actor, .it .i64 i.ballot.gen, .st i.ballot.claim, .it .i64 i.ballot.time, .it .i64 i.ballot.sig.e, .it .i64 i.ballot.sig.s, .it .i64 i.decision.server, .it .i64 i.decision.number, .it .i64 i.decision.kind, .st i.decision.actor, .st i.decision.object, .st i.decision.text, At i.decision.to, .it .i64 i.decision.n, .it .i64 i.decision.frm, .it .i64 i.decision.til, .it .i64 i.decision.sig.e, .it .i64 i.decision.sig.s]
abbrev AN (i : It.Item) : AV := .agg [.it .i64 i.kind, .st i.act.author, .it .i64 i.act.seq, .st i.act.prev, .it .i64 i.act.kind, .it .i64 i.act.time, .st i.act.object, .st i.act.target, .it .i64 i.act.scope, .st i.act.group, At i.act.to, .st i.act.text, .st i.act.body.nonce, .st i.act.body.data, .st i.act.body.tag, .it .i64 i.act.epoch, .sl .ro (i.act.wraps.map Ba), .it .i64 i.act.n, .it .i64 i.act.m, .it .i64 i.act.sig.e, .it .i64 i.act.sig.s, .st i.claim.actor, .it .i64 i.claim.base, .st i.claim.prev, .it .i64 i.claim.gen, .it .i64 i.claim.home, .it .i64 i.claim.pub, .it .i64 i.claim.time, .it .i64 i.claim.sig.e, .it .i64 i.claim.sig.s, .it .i64 i.ballot.server, .st i.ballot.actor, .it .i64 i.ballot.gen, .st i.ballot.claim, .it .i64 i.ballot.time, .it .i64 i.ballot.sig.e, .it .i64 i.ballot.sig.s, .it .i64 i.decision.server, .it .i64 i.decision.number, .it .i64 i.decision.kind, .st i.decision.actor, .st i.decision.object, .st i.decision.text, At i.decision.to, .it .i64 i.decision.n, .it .i64 i.decision.frm, .it .i64 i.decision.til, .it .i64 i.decision.sig.e, .it .i64 i.decision.sig.s]
theorem U1 (x y : It.Claim) : ((x.actor == y.actor) && ((x.base == y.base) && ((x.prev == y.prev) && ((x.gen == y.gen) && ((x.home == y.home) && ((x.pub == y.pub) && ((x.time == y.time) && ((x.sig.e == y.sig.e) && (x.sig.s == y.sig.s))))))))) = decide (x = y) := by
 obtain ⟨x1, x2, x3, x4, x5, x6, x7, ⟨x8, x9⟩⟩ := x;obtain ⟨y1, y2, y3, y4, y5, y6, y7, ⟨y8, y9⟩⟩ := y;rw [Bool.eq_iff_iff];simp
theorem VE (x y : It.Ballot) : ((x.server == y.server) && ((x.actor == y.actor) && ((x.gen == y.gen) && ((x.claim == y.claim) && ((x.time == y.time) && ((x.sig.e == y.sig.e) && (x.sig.s == y.sig.s))))))) = decide (x = y) := by
 obtain ⟨x1, x2, x3, x4, x5, ⟨x8, x9⟩⟩ := x;obtain ⟨y1, y2, y3, y4, y5, ⟨y8, y9⟩⟩ := y;rw [Bool.eq_iff_iff];simp
theorem YM (a b : It.Decision) (ha : a.to.length ≤ 140737488355328) (hb : b.to.length ≤ 140737488355328) : AC prog 98 [G9 a, G9 b] [] (.bo (decide (a = b))) [] := by
 refine Ar [159] [] func98 ?_;obtain ⟨q, hq⟩ : ∃ q, decide (a = b) = q := ⟨_, rfl⟩
 rw [hq];obtain ⟨a_server, a_number, a_kind, a_actor, a_object, a_text, a_to, a_n, a_frm, a_til, ⟨a_se, a_ss⟩⟩ := a;obtain ⟨b_server, b_number, b_kind, b_actor, b_object, b_text, b_to, b_n, b_frm, b_til, ⟨b_se, b_ss⟩⟩ := b;by_cases h_server : a_server = b_server
 rotate_left
 ·obtain rfl : q = false := by rw [← hq]; exact decide_eq_false (fun e => h_server (by cases e; rfl))
  refine run ?_;exact Ab
 subst h_server;by_cases h_number : a_number = b_number
 rotate_left
 ·obtain rfl : q = false := by rw [← hq]; exact decide_eq_false (fun e => h_number (by cases e; rfl))
  refine run ?_;exact Ab
 subst h_number;by_cases h_kind : a_kind = b_kind
 rotate_left
 ·obtain rfl : q = false := by rw [← hq]; exact decide_eq_false (fun e => h_kind (by cases e; rfl))
  refine run ?_;exact Ab
 subst h_kind;by_cases h_actor : a_actor = b_actor
 rotate_left
 ·obtain rfl : q = false := by rw [← hq]; exact decide_eq_false (fun e => h_actor (by cases e; rfl))
  have e_actor : (a_actor == b_actor) = false := by simpa using h_actor
  refine Aa @e_actor ?_;exact Ab
 subst h_actor;by_cases h_object : a_object = b_object
 rotate_left
 ·obtain rfl : q = false := by rw [← hq]; exact decide_eq_false (fun e => h_object (by cases e; rfl))
  have e_object : (a_object == b_object) = false := by simpa using h_object
  refine Aa @e_object ?_;exact Ab
 subst h_object;by_cases h_text : a_text = b_text
 rotate_left
 ·obtain rfl : q = false := by rw [← hq]; exact decide_eq_false (fun e => h_text (by cases e; rfl))
  have e_text : (a_text == b_text) = false := by simpa using h_text
  refine Aa @e_text ?_;exact Ab
 subst h_text;refine run ?_;refine cp (Ug a_to b_to ha hb) ?_;by_cases h_to : a_to = b_to
 rotate_left
 ·obtain rfl : q = false := by rw [← hq]; exact decide_eq_false (fun e => h_to (by cases e; rfl))
  rw [decide_eq_false h_to];refine run ?_;exact Ab
 subst h_to;rw [decide_eq_true (p := a_to = a_to) rfl];by_cases h_n : a_n = b_n
 rotate_left
 ·obtain rfl : q = false := by rw [← hq]; exact decide_eq_false (fun e => h_n (by cases e; rfl))
  refine run ?_;exact Ab
 subst h_n;by_cases h_frm : a_frm = b_frm
 rotate_left
 ·obtain rfl : q = false := by rw [← hq]; exact decide_eq_false (fun e => h_frm (by cases e; rfl))
  refine run ?_;exact Ab
 subst h_frm;by_cases h_til : a_til = b_til
 rotate_left
 ·obtain rfl : q = false := by rw [← hq]; exact decide_eq_false (fun e => h_til (by cases e; rfl))
  refine run ?_;exact Ab
 subst h_til;by_cases h_se : a_se = b_se
 rotate_left
 ·obtain rfl : q = false := by rw [← hq]; exact decide_eq_false (fun e => h_se (by cases e; rfl))
  refine run ?_;exact Ab
 subst h_se;by_cases h_ss : a_ss = b_ss
 rotate_left
 ·obtain rfl : q = false := by rw [← hq]; exact decide_eq_false (fun e => h_ss (by cases e; rfl))
  refine run ?_;exact Ab
 subst h_ss;obtain rfl : q = true := by rw [← hq]; exact decide_eq_true rfl
 refine run ?_;exact Ab
structure Lz (i : It.Item) : Prop where
 to : i.act.to.length ≤ 140737488355328
 wraps : i.act.wraps.length ≤ 140737488355328
 dto : i.decision.to.length ≤ 140737488355328
theorem KD (a b : It.Item) (ha : Lz a) (hb : Lz b) : AC prog 43 [AN a, AN b] [] (.bo (decide (a = b))) [] := by
 refine Ar [97, 98] [] func43 ?_;obtain ⟨q, hq⟩ : ∃ q, decide (a = b) = q := ⟨_, rfl⟩
 rw [hq];obtain ⟨a_kind, a_act, a_claim, a_ballot, a_dec⟩ := a;obtain ⟨b_kind, b_act, b_claim, b_ballot, b_dec⟩ := b;by_cases h_kind : a_kind = b_kind
 rotate_left
 ·obtain rfl : q = false := by rw [← hq]; exact decide_eq_false (fun e => h_kind (by cases e; rfl))
  refine run ?_;exact Ab
 subst h_kind;refine run ?_;refine cp (YL a_act b_act ⟨ha.to, ha.wraps⟩ ⟨hb.to, hb.wraps⟩) ?_;by_cases h_act : a_act = b_act
 rotate_left
 ·obtain rfl : q = false := by rw [← hq]; exact decide_eq_false (fun e => h_act (by cases e; rfl))
  rw [decide_eq_false h_act];refine run ?_;exact Ab
 subst h_act;rw [decide_eq_true (p := a_act = a_act) rfl];by_cases h_claim : a_claim = b_claim
 rotate_left
 ·obtain rfl : q = false := by rw [← hq]; exact decide_eq_false (fun e => h_claim (by cases e; rfl))
  have e_claim := U1 a_claim b_claim;rw [decide_eq_false h_claim] at e_claim;refine Aa @e_claim ?_;exact Ab
 subst h_claim;by_cases h_ballot : a_ballot = b_ballot
 rotate_left
 ·obtain rfl : q = false := by rw [← hq]; exact decide_eq_false (fun e => h_ballot (by cases e; rfl))
  have e_ballot := VE a_ballot b_ballot;rw [decide_eq_false h_ballot] at e_ballot;refine Aa @e_ballot ?_;exact Ab
 subst h_ballot;refine run ?_;refine cp (YM a_dec b_dec ha.dto hb.dto) ?_;by_cases h_dec : a_dec = b_dec
 rotate_left
 ·obtain rfl : q = false := by rw [← hq]; exact decide_eq_false (fun e => h_dec (by cases e; rfl))
  rw [decide_eq_false h_dec];refine run ?_;exact Ab
 subst h_dec;rw [decide_eq_true (p := a_dec = a_dec) rfl];obtain rfl : q = true := by rw [← hq]; exact decide_eq_true rfl
 refine run ?_;exact Ab
theorem FS (n lo hi : Int) : AC prog 168 [.it .i64 n, .it .i64 lo, .it .i64 hi] [] (.bo (wi n lo hi)) [] := by
 refine Ar [] [] func168 ?_;unfold wi;by_cases h : lo ≤ n
 ·rw [decide_eq_true h]
  refine run ?_;exact Ab
 ·rw [decide_eq_false h]
  refine run ?_;exact Ab
theorem O5 (n : Int) : AC prog 170 [.it .i64 n] [] (.bo (B4 n)) [] := by
 refine Ar [168] [] func170 ?_;refine run ?_;refine cp (FS n 0 19) ?_;refine run ?_;exact Ab
theorem Lf (n : Int) : AC prog 151 [.it .i64 n] [] (.bo (isTime n)) [] := by
 refine Ar [168] [] func151 ?_;refine run ?_;refine cp (FS n 0 1099511627776) ?_;refine run ?_;exact Ab
theorem O7 (s : By) : AC prog 169 [.st s] [] (.bo (AP s)) [] := by
 refine Ar [] [] func169 ?_;rw [C4];refine run ?_;exact Ab
theorem Ot (s : Sig) : AC prog 171 [GO s] [] (.bo (AI s)) [] := by
 refine Ar [168] [] func171 ?_;unfold AI;refine run ?_;refine cp (FS s.e 0 2305843009213693949) ?_;cases h1 : wi s.e 0 2305843009213693949 with
 | false => refine run ?_; exact Ab
 | true =>
  refine run ?_;refine cp (FS s.s 0 2305843009213693949) ?_;refine run ?_;exact Ab
theorem Zs (c : It.Claim) (ha : c.actor.length ≤ 140737488355328) : AC prog 104 [JD c] [] (.bo (D2 c)) [] := by
 refine Ar [163, 168, 169, 170, 151, 171] [] func104 ?_;unfold D2;refine run ?_;refine cp (Jw c.actor ha) ?_;cases h0 : AD c.actor with
 | false => refine run ?_; exact Ab
 | true =>
  refine run ?_;refine cp (FS c.base 1 1073741824) ?_;cases h1 : wi c.base 1 1073741824 with
  | false => refine run ?_; exact Ab
  | true =>
   refine run ?_;refine cp (O7 c.prev) ?_;cases h2 : AP c.prev with
   | false => refine run ?_; exact Ab
   | true =>
    refine run ?_;refine cp (FS c.gen 0 1073741824) ?_;cases h3 : wi c.gen 0 1073741824 with
    | false => refine run ?_; exact Ab
    | true =>
     refine run ?_;refine cp (O5 c.home) ?_;cases h4 : B4 c.home with
     | false => refine run ?_; exact Ab
     | true =>
      refine run ?_;refine cp (FS c.pub 1 2305843009213693950) ?_;cases h5 : wi c.pub 1 2305843009213693950 with
      | false => refine run ?_; exact Ab
      | true =>
       refine run ?_;refine cp (Lf c.time) ?_;cases h6 : isTime c.time with
       | false => refine run ?_; exact Ab
       | true =>
        refine run ?_;refine cp (Ot c.sig) ?_;refine run ?_;exact Ab
theorem Zt (b : It.Ballot) (ha : b.actor.length ≤ 140737488355328) : AC prog 105 [PY b] [] (.bo (D3 b)) [] := by
 refine Ar [163, 168, 169, 170, 151, 171] [] func105 ?_;unfold D3;refine run ?_;refine cp (O5 b.server) ?_;cases h0 : B4 b.server with
 | false => refine run ?_; exact Ab
 | true =>
  refine run ?_;refine cp (Jw b.actor ha) ?_;cases h1 : AD b.actor with
  | false => refine run ?_; exact Ab
  | true =>
   refine run ?_;refine cp (FS b.gen 0 1073741824) ?_;cases h2 : wi b.gen 0 1073741824 with
   | false => refine run ?_; exact Ab
   | true =>
    refine run ?_;refine cp (O7 b.claim) ?_;cases h3 : AP b.claim with
    | false => refine run ?_; exact Ab
    | true =>
     refine run ?_;refine cp (Lf b.time) ?_;cases h4 : isTime b.time with
     | false => refine run ?_; exact Ab
     | true =>
      refine run ?_;refine cp (Ot b.sig) ?_;refine run ?_;exact Ab
structure Dz (d : It.Decision) : Prop where
 actor : d.actor.length ≤ 140737488355328
 to : d.to.length ≤ 140737488355328
 tos : ∀ s ∈ d.to, s.length ≤ 140737488355328
theorem Z7 (d : It.Decision) : AK d = (if (d.to.length : Int) = 0 then (d.n == 0) else false) := by
 unfold AK;by_cases h : d.to = []
 ·rw [decide_eq_true h, if_pos (by rw [h]; rfl)]
  rfl
 ·rw [decide_eq_false h, if_neg (by have := List.length_pos_iff.2 h; omega)]
  rfl
set_option maxHeartbeats 8000000 in
theorem Zq (d : It.Decision) (h : Dz d) : AC prog 172 [G9 d] [] (.bo (Ct d)) [] := by
 refine Ar [163, 169, 261, 168] [] func172 ?_;have hn := E3;have hs : decide ((d.text.length : Int) ≤ 500) = Cs d.text := (GP d.text).symm;have hl : decide ((d.text.length : Int) ≤ 4096) = decide (d.text.length ≤ 4096) := by
  rw [Bool.eq_iff_iff];simp only [decide_eq_true_eq];omega
 obtain ⟨p, hp⟩ : ∃ p, AK d = p := ⟨_, rfl⟩
 have hpe := Z7 d;rw [hp] at hpe;unfold Ct;rw [hp];have k1 := Jw d.actor h.actor;have k2 := O7 d.object;have k3 := Lh d.to h.tos h.to;have k4 := FS d.n 1 d.to.length;generalize Cs d.text = sh at *;generalize decide (d.text.length ≤ 4096) = lg at *;by_cases hto : (d.to.length : Int) = 0
 focus
  rw [if_pos hto] at hpe;have hpe := hpe.symm
 rotate_left;focus
  rw [if_neg hto] at hpe;subst hpe;have hpe : d.n = d.n := rfl
 all_goals
  by_cases c1 : d.kind = 0 ∨ d.kind = 1 ∨ d.kind = 4 ∨ d.kind = 6 ∨ d.kind = 7
  focus
   rw [if_pos c1];rcases c1 with c | c | c | c | c
   all_goals
    refine Aa (A3 @hs @hl @hpe) ?_;refine cp k1 ?_;cases h1 : AD d.actor with
    | false => refine run ?_; exact Ab
    | true =>
     by_cases h2 : d.object = []
     ·try rw [decide_eq_true h2]
      refine Aa (an @hn @h2) ?_;cases sh with
      | false => refine run ?_; exact Ab
      | true => refine run ?_; exact Ab
     ·try rw [decide_eq_false h2]
      refine Aa (an @hn @h2) ?_;exact Ab
  rw [if_neg c1];by_cases c2 : d.kind = 2 ∨ d.kind = 3 ∨ d.kind = 5
  focus
   rw [if_pos c2];rcases c2 with c | c | c
   all_goals
    by_cases h2 : d.actor = []
    rotate_left
    ·try rw [decide_eq_false h2]
     refine Aa (A5 @hs @hl @hpe @hn @h2) ?_;exact Ab
    try rw [decide_eq_true h2]
    have h2' : (d.actor == []) = true := by rw [h2]; rfl
    refine Aa (A4 @hs @hl @hpe @h2') ?_;refine cp k2 ?_;cases h3 : AP d.object with
    | false => refine run ?_; exact Ab
    | true =>
     cases sh with
     | false => refine run ?_; exact Ab
     | true => refine run ?_; exact Ab
  rw [if_neg c2];by_cases c3 : d.kind = 8
  focus
   rw [if_pos c3];by_cases h2 : d.actor = []
   rotate_left
   ·try rw [decide_eq_false h2]
    refine Aa (A5 @hs @hl @hpe @hn @h2) ?_;exact Ab
   try rw [decide_eq_true h2]
   have h2' : (d.actor == []) = true := by rw [h2]; rfl
   by_cases h3 : d.object = []
   rotate_left
   ·try rw [decide_eq_false h3]
    refine Aa (A6 @hs @hl @hpe @hn @h2' @h3) ?_;exact Ab
   try rw [decide_eq_true h3]
   have h3' : (d.object == []) = true := by rw [h3]; rfl
   cases sh with
   | false => refine Aa (A5 @hs @hl @hpe @h2' @h3') ?_; exact Ab
   | true =>
    refine Aa (A5 @hs @hl @hpe @h2' @h3') ?_;refine cp k3 ?_;cases h4 : BR d.to with
    | false => refine run ?_; exact Ab
    | true =>
     refine run ?_;refine cp k4 ?_;refine run ?_;exact Ab
  rw [if_neg c3];by_cases c4 : d.kind = 9
  focus
   rw [if_pos c4];by_cases h2 : d.actor = []
   rotate_left
   ·try rw [decide_eq_false h2]
    refine Aa (A5 @hs @hl @hpe @hn @h2) ?_;exact Ab
   try rw [decide_eq_true h2]
   have h2' : (d.actor == []) = true := by rw [h2]; rfl
   by_cases h3 : d.object = []
   rotate_left
   ·try rw [decide_eq_false h3]
    refine Aa (A6 @hs @hl @hpe @hn @h2' @h3) ?_;exact Ab
   try rw [decide_eq_true h3]
   have h3' : (d.object == []) = true := by rw [h3]; rfl
   cases lg with
   | false => refine Aa (A5 @hs @hl @hpe @h2' @h3') ?_; exact Ab
   | true => refine Aa (A5 @hs @hl @hpe @h2' @h3') ?_; exact Ab
  rw [if_neg c4];refine Aa (A3 @hs @hl @hpe) ?_;exact Ab
theorem Zr (d : It.Decision) (h : Dz d) : AC prog 106 [G9 d] [] (.bo (D1 d)) [] := by
 refine Ar [170, 168, 151, 172, 171] [] func106 ?_;unfold D1;refine run ?_;refine cp (O5 d.server) ?_;cases h0 : B4 d.server with
 | false => refine run ?_; exact Ab
 | true =>
  refine run ?_;refine cp (FS d.number 0 1073741824) ?_;cases h1 : wi d.number 0 1073741824 with
  | false => refine run ?_; exact Ab
  | true =>
   refine run ?_;refine cp (Lf d.frm) ?_;cases h2 : isTime d.frm with
   | false => refine run ?_; exact Ab
   | true =>
    refine run ?_;refine cp (Lf d.til) ?_;cases h3 : isTime d.til with
    | false => refine run ?_; exact Ab
    | true =>
     by_cases h4 : d.frm < d.til
     rotate_left
     ·rw [decide_eq_false h4]
      refine run ?_;exact Ab
     rw [decide_eq_true h4];refine run ?_;refine cp (Zq d h) ?_;cases h5 : Ct d with
     | false => refine run ?_; exact Ab
     | true =>
      refine run ?_;refine cp (Ot d.sig) ?_;refine run ?_;exact Ab
structure Iz (i : It.Item) : Prop where
 act : Sz i.act
 claim : i.claim.actor.length ≤ 140737488355328
 ballot : i.ballot.actor.length ≤ 140737488355328
 decision : Dz i.decision
theorem Iz.lz {i : It.Item} (h : Iz i) : Lz i := ⟨h.act.to, h.act.wraps, h.decision.to⟩
theorem MM : Lz CM := ⟨by decide, by decide, by decide⟩
theorem Gi (i : It.Item) (h : Iz i) : AC prog 51 [AN i] [] (.bo (It.right i)) [] := by
 refine Ar [103, 104, 105, 106, 43] [] func51 ?_;have hl := h.lz;unfold It.right Ic rest;have lz : ∀ j : It.Item, (j.act = i.act ∨ j.act = Au) → (j.decision = i.decision ∨ j.decision = Dr) → Lz j := fun j h1 h2 => by
  refine ⟨?_, ?_, ?_⟩
  ·rcases h1 with e | e <;> rw [e]; exact hl.to; exact by decide
  ·rcases h1 with e | e <;> rw [e]; exact hl.wraps; exact by decide
  ·rcases h2 with e | e <;> rw [e]; exact hl.dto; exact by decide
 by_cases h0 : i.kind = 0
 ·rw [if_pos h0, if_pos h0]
  have ks : AC _ _ [AN { i with kind := 0, act := Au }, AN CM] [] _ [] := KD { i with kind := 0, act := Au } CM (lz _ (.inr rfl) (.inl rfl)) MM
  refine run ?_;refine cp (Oq i.act h.act) ?_;cases hr : Ac.right i.act with
  | false => refine run ?_; exact Ab
  | true =>
   refine run ?_;refine cp ks ?_;refine run ?_;exact Ab
 rw [if_neg h0, if_neg h0];by_cases h1 : i.kind = 1
 ·rw [if_pos h1, if_pos h1]
  have ks : AC _ _ [AN { i with kind := 0, claim := C5 }, AN CM] [] _ [] := KD { i with kind := 0, claim := C5 } CM (lz _ (.inl rfl) (.inl rfl)) MM
  refine run ?_;refine cp (Zs i.claim h.claim) ?_;cases hr : D2 i.claim with
  | false => refine run ?_; exact Ab
  | true =>
   refine run ?_;refine cp ks ?_;refine run ?_;exact Ab
 rw [if_neg h1, if_neg h1];by_cases h2 : i.kind = 2
 ·rw [if_pos h2, if_pos h2]
  have ks : AC _ _ [AN { i with kind := 0, ballot := Dv }, AN CM] [] _ [] := KD { i with kind := 0, ballot := Dv } CM (lz _ (.inl rfl) (.inl rfl)) MM
  refine run ?_;refine cp (Zt i.ballot h.ballot) ?_;cases hr : D3 i.ballot with
  | false => refine run ?_; exact Ab
  | true =>
   refine run ?_;refine cp ks ?_;refine run ?_;exact Ab
 rw [if_neg h2, if_neg h2];by_cases h3 : i.kind = 3
 ·rw [if_pos h3, if_pos h3]
  have ks : AC _ _ [AN { i with kind := 0, decision := Dr }, AN CM] [] _ [] := KD { i with kind := 0, decision := Dr } CM (lz _ (.inl rfl) (.inr rfl)) MM
  refine run ?_;refine cp (Zr i.decision h.decision) ?_;cases hr : D1 i.decision with
  | false => refine run ?_; exact Ab
  | true =>
   refine run ?_;refine cp ks ?_;refine run ?_;exact Ab
 ·rw [if_neg h3]
  refine run ?_;exact Ab
theorem Ay.reserveC [Tab] (N0 : Nat) {e : Af} {S : Ae} (l : Nat) {es : List AV} (hS : S[l]? = some (.cells [.sl .full es])) (ty : TypeId) (sz : Nat) : Ay N0 e S e (S.set l (.cells [.sl (.own S.length) es]) ++ [.buf es.length ty sz]) := by
 rintro N w0 g0 a w hn ⟨h1, h2, g, h3, h4, h5⟩
 obtain ⟨g', h6, h7, h8, h9, h10⟩ := h3.reserve es.length ty sz;have hlS := (List.getElem?_eq_some_iff.1 hS).1
 have hn3 := h3.nid;have hn6 := h6.nid;rw [List.length_append, List.length_singleton] at hn6;refine ⟨h1, h2, g', ⟨by rw [List.length_append, List.length_set, List.length_singleton]; exact hn6, fun k o hk => ?_, h6.disj, h6.lt, h6.tab⟩, fun t => (h4 t).le h7.toLe, h5.trans h7⟩
 by_cases hkl : k = l
 ·subst hkl
  rw [List.getElem?_append_left (by rw [List.length_set]; exact hlS), List.getElem?_set_self hlS] at hk
  cases hk
  obtain ⟨k1, k2, k3, arr, T, fr, k4, k5, k6, k7, k8⟩ := h6.obj k (.cells [.sl .full es]) (Ll hS _);refine ⟨k1, k2, k3, arr, T, fr, k4, k5, by simpa using k6, k7, fun j u v hu hv => ?_⟩
  cases j with
  | zero =>
   simp only [List.getElem?_cons_zero, Option.some.injEq] at hu
   subst hu;refine (k8 0 _ v rfl hv).own_full (by omega) ?_ ?_
   ·rw [← hn3]; exact h9
   ·rw [← hn3]; exact h10
  | succ j => simp at hu
 ·refine h6.obj k o ?_
  by_cases hkS : k < S.length
  ·rw [List.getElem?_append_left (by rw [List.length_set]; exact hkS), List.getElem?_set_ne (Ne.symm hkl)] at hk
   rw [List.getElem?_append_left hkS]
   exact hk
  ·rw [List.getElem?_append_right (by rw [List.length_set]; omega), List.length_set] at hk
   rw [List.getElem?_append_right (by omega)]
   exact hk
abbrev BV (ty : TypeId) (acc : By) : Ae := [.cells [.sl (.own 1) (acc.map u8)], .buf acc.length ty 1]
section
variable [Tab] {P : Program} {pf rf : List FuncId} {e : Af} {f : FuncId} {d : Option Nat} {rest : List AO} {K : Af → Ae → Prop}
theorem cb {args gargs : List AV} {T : Ae} {acc acc' : By} {v : AV} {ty : TypeId} (l l' : Nat) (h : AC P f (.ptr 0 0 :: args) (BV ty acc) v (BV ty acc'))
  (h' : Bi P pf rf rest (put e d v) ((T.set l (.cells [.sl (.own l') (acc'.map u8)])).set l' (.buf acc'.length ty 1)) K)
  (ha : args.all (AV.ok 0) = true := by rfl) (hv : v.ok 0 = true := by rfl) (hne : l ≠ l' := by decide) (hT : T[l]? = some (.cells [.sl (.own l') (acc.map u8)]) := by rfl) (hT' : T[l']? = some (.buf acc.length ty 1) := by rfl)
  (hg : gargs.map AV.wk = .ptr l 0 :: args := by rfl) : Du (JN P f gargs T) (FJ P pf rf d rest e K) := by
 refine BZ (show AC P f (gargs.map AV.wk) T v _ from ?_) h'
 rw [hg];have ha1 : ∀ u ∈ args, u.ok 2 = true := fun u hu => E2 (List.all_eq_true.1 ha u hu) (Nat.zero_le 2)
 have := h.frame (T := T) [l, l'] (I4 l l' hne rfl rfl hT hT') (by simp only [List.all_cons, Bool.and_eq_true]; exact ⟨rfl, List.all_eq_true.2 ha1⟩) (E2 hv (Nat.zero_le 2)) (fun i o hi => by
  match i, hi with
  | 0, hi => cases hi; rfl
  | 1, hi => cases hi; rfl)
 rw [List.map_cons, Ou ha, D4 hv (fun i hi => absurd hi (Nat.not_lt_zero _))] at this
 simpa [after, Em, ext, AA, SObj.ren, AV.r1, AV.r0, Mode.ren, AV.ren, AV.r2] using this
theorem IH {args gargs : List AV} {T : Ae} {acc' : By} {v : AV} {ty : TypeId} (l : Nat) (h : AC P f (.ptr 0 0 :: args) [.cells [.sl .full []]] v (BV ty acc'))
  (h' : Bi P pf rf rest (put e d v) (T.set l (.cells [.sl (.own T.length) (acc'.map u8)]) ++ [.buf acc'.length ty 1]) K)
  (ha : args.all (AV.ok 0) = true := by rfl) (hv : v.ok 0 = true := by rfl) (hT : T[l]? = some (.cells [.sl .full []]) := by rfl)
  (hg : gargs.map AV.wk = .ptr l 0 :: args := by rfl) : Du (JN P f gargs T) (FJ P pf rf d rest e K) := by
 refine BZ (show AC P f (gargs.map AV.wk) T v _ from ?_) h'
 rw [hg];have ha1 : ∀ u ∈ args, u.ok 1 = true := fun u hu => E2 (List.all_eq_true.1 ha u hu) (Nat.zero_le 1)
 have := h.frame (T := T) [l] (I5 l rfl hT) (by simp only [List.all_cons, Bool.and_eq_true]; exact ⟨rfl, List.all_eq_true.2 ha1⟩) (E2 hv (Nat.zero_le 2)) (fun i o hi => by
  match i, hi with
  | 0, hi => cases hi; rfl
  | 1, hi => cases hi; rfl)
 rw [List.map_cons, Ou ha, D4 hv (fun i hi => absurd hi (Nat.not_lt_zero _))] at this
 simpa [after, Em, ext, AA, SObj.ren, AV.r1, AV.r0, Mode.ren, AV.ren, AV.r2] using this
theorem IC {rs : List ResultVar} {v : AV} {S : Ae} {o o' : SObj} {vs : List AV} {N0 : Nat} (hn : [0, 1].take N0 = List.range N0) (h : Cg P rs e S = some vs := by rfl) (ho : o.ok 2 = true := by rfl) (ho' : o'.ok 2 = true := by rfl)
  (hS : S[0]? = some (o.ren (AA [0, 1])) := by rfl) (hS' : S[1]? = some (o'.ren (AA [0, 1])) := by rfl) (hk : v.ok 2 = true := by rfl) (hv : Cu vs = v.ren (AA [0, 1]) := by rfl) : CO P rs N0 v [o, o'] .norm e S :=
 ⟨e, S, vs, [0, 1], Ay.refl N0 e S, h, I4 0 1 (by decide) ho ho' hS hS', hn, hk, .inl hv⟩
end
theorem Nt (ty : TypeId) (a b : By) : [SObj.cells [.sl (.own 1) (a.map u8 ++ b.map u8)], .buf (a.length + b.length) ty 1] = BV ty (a ++ b) := by
 show _ = [SObj.cells [.sl (.own 1) ((a ++ b).map u8)], .buf (a ++ b).length ty 1]
 rw [List.map_append, List.length_append]
theorem M5 {α : Type} (g : α → By) {l : List α} {k : Nat} (hk : k < l.length) : ((l.take (k + 1)).map g).flatten = ((l.take k).map g).flatten ++ g l[k] := by
 rw [List.take_succ_eq_append_getElem hk, List.map_append, List.flatten_append];congr 1
 exact List.append_nil _
theorem M6 {α : Type} (g : α → By) (l : List α) (B k : Nat) (h : ∀ x ∈ l, (g x).length ≤ B) : ((l.take k).map g).flatten.length ≤ k * B := by
 induction l generalizing k with
 | nil => simp
 | cons a l ih =>
  cases k with
  | zero => simp
  | succ k =>
   have h1 := h a (by simp)
   have h2 := ih k fun x hx => h x (by simp [hx])
   simp only [List.take_succ_cons, List.map_cons, List.flatten_cons, List.length_append, Nat.succ_mul];omega
theorem FQ (l : List Int) (acc : By) (hl : l.length ≤ 100) (h : ∀ x ∈ l, -9223372036854775808 ≤ x ∧ x ≤ 9223372036854775807) (hac : acc.length ≤ 1000000000) : AC prog 119 [.ptr 0 0, .sl .ro (l.map (AV.it .i64))] (BV 5 acc) (.tup []) (BV 5 (acc ++ (l.map Ag).flatten)) := by
 refine Ar [152] [] func119 ?_;refine run ?_;refine C2 (fun m e S => e 0 = .ptr 0 0 ∧ e 6 = .sl .ro (l.map (AV.it .i64)) ∧ e 7 = .it .i64 (l.length : Int) ∧ ∃ (k : Nat) (cur : By), e 8 = .it .i64 (k : Int) ∧ S = BV 5 cur ∧ cur = acc ++ ((l.take k).map Ag).flatten ∧ k ≤ l.length ∧ m = l.length - k) l.length _ _ (Ay.refl 2 _ _)
  ⟨Ad, Ad, Ad, 0, acc, Ad, rfl, by simp, by omega, rfl⟩ ?_
 rintro m e S ⟨s0, s6, s7, k, cur, s8, rfl, hcur, hk, rfl⟩
 have hb := M6 Ag l 9 k (fun x hx => Aj x (by have := h x hx; omega))
 have hk100 : k * 9 ≤ 100 * 9 := Nat.mul_le_mul_right _ (by omega)
 have hcl : cur.length ≤ 1000000000 + 100 * 9 := by rw [hcur]; rw [List.length_append]; omega
 by_cases hlt : k < l.length
 rotate_left
 ·obtain rfl : k = l.length := by omega
  rw [List.take_length] at hcur;rw [← hcur];refine Aa (A4 @s0 @s6 @s7 @s8) ?_;exact IC rfl
 have hg : l[k]? = some l[k] := List.getElem?_eq_getElem hlt
 have hx := h l[k] (List.getElem_mem hlt);have hst := M5 Ag hlt;have hbx := ((fun x hx => Aj x (by have := h x hx; omega))) l[k] (List.getElem_mem hlt)
 generalize l[k] = x at *;have hsz : Ax 1 (l.map (AV.it .i64)) = true := Bh 1 _ (fun _ => rfl) _
 refine Aa (A6 @s0 @s6 @s7 @s8 @hg @hsz) ?_;refine cp (Cm x (by omega) (by omega)) ?_
 refine Aa (A4 @s0 @s6 @s7 @s8) ?_;exact Ao (l.length - (k + 1)) (by omega) ⟨Ad, Ad, Ad, k + 1, cur ++ Ag x, Ad, Nt _ _ _, by rw [hst, hcur]; rw [List.append_assoc], by omega, rfl⟩
theorem ME (l : List Int) (hl : l.length ≤ 100) (h : ∀ x ∈ l, -9223372036854775808 ≤ x ∧ x ≤ 9223372036854775807) : AC prog 119 [.ptr 0 0, .sl .ro (l.map (AV.it .i64))] [.cells [.sl .full []]] (.tup []) (BV 5 ((l.map Ag).flatten)) := by
 refine Ar [152] [] func119 ?_;refine run ?_;refine C2 (fun m e S => e 0 = .ptr 0 0 ∧ e 6 = .sl .ro (l.map (AV.it .i64)) ∧ e 7 = .it .i64 (l.length : Int) ∧ ∃ (k : Nat) (cur : By), e 8 = .it .i64 (k : Int) ∧ S = BV 5 cur ∧ cur = ((l.take k).map Ag).flatten ∧ k ≤ l.length ∧ m = l.length - k) l.length _ _ (Ay.reserveC 1 0 (es := []) (by rfl) 5 1)
  ⟨Ad, Ad, Ad, 0, [], Ad, rfl, by simp, by omega, rfl⟩ ?_
 rintro m e S ⟨s0, s6, s7, k, cur, s8, rfl, hcur, hk, rfl⟩
 have hb := M6 Ag l 9 k (fun x hx => Aj x (by have := h x hx; omega))
 have hk100 : k * 9 ≤ 100 * 9 := Nat.mul_le_mul_right _ (by omega)
 have hcl : cur.length ≤ 100 * 9 := by rw [hcur]; exact Nat.le_trans hb hk100
 by_cases hlt : k < l.length
 rotate_left
 ·obtain rfl : k = l.length := by omega
  rw [List.take_length] at hcur;rw [← hcur];refine Aa (A4 @s0 @s6 @s7 @s8) ?_;exact IC rfl
 have hg : l[k]? = some l[k] := List.getElem?_eq_getElem hlt
 have hx := h l[k] (List.getElem_mem hlt);have hst := M5 Ag hlt;have hbx := ((fun x hx => Aj x (by have := h x hx; omega))) l[k] (List.getElem_mem hlt)
 generalize l[k] = x at *;have hsz : Ax 1 (l.map (AV.it .i64)) = true := Bh 1 _ (fun _ => rfl) _
 refine Aa (A6 @s0 @s6 @s7 @s8 @hg @hsz) ?_;refine cp (Cm x (by omega) (by omega)) ?_
 refine Aa (A4 @s0 @s6 @s7 @s8) ?_;exact Ao (l.length - (k + 1)) (by omega) ⟨Ad, Ad, Ad, k + 1, cur ++ Ag x, Ad, Nt _ _ _, by rw [hst, hcur], by omega, rfl⟩
theorem Kx (l : List By) (acc : By) (hl : l.length ≤ 100) (h : ∀ x ∈ l, x.length ≤ 1000000) (hac : acc.length ≤ 1000000000) : AC prog 268 [.ptr 0 0, At l] (BV 5 acc) (.tup []) (BV 5 (acc ++ (l.map text).flatten)) := by
 refine Ar [158] [] func268 ?_;refine run ?_;refine C2 (fun m e S => e 0 = .ptr 0 0 ∧ e 6 = At l ∧ e 7 = .it .i64 (l.length : Int) ∧ ∃ (k : Nat) (cur : By), e 8 = .it .i64 (k : Int) ∧ S = BV 5 cur ∧ cur = acc ++ ((l.take k).map text).flatten ∧ k ≤ l.length ∧ m = l.length - k) l.length _ _ (Ay.refl 2 _ _)
  ⟨Ad, Ad, Ad, 0, acc, Ad, rfl, by simp, by omega, rfl⟩ ?_
 rintro m e S ⟨s0, s6, s7, k, cur, s8, rfl, hcur, hk, rfl⟩
 have hb := M6 text l 1000009 k (fun x hx => AG (h x hx))
 have hk100 : k * 1000009 ≤ 100 * 1000009 := Nat.mul_le_mul_right _ (by omega)
 have hcl : cur.length ≤ 1000000000 + 100 * 1000009 := by rw [hcur]; rw [List.length_append]; omega
 by_cases hlt : k < l.length
 rotate_left
 ·obtain rfl : k = l.length := by omega
  rw [List.take_length] at hcur;rw [← hcur];refine Aa (A4 @s0 @s6 @s7 @s8) ?_;exact IC rfl
 have hg : l[k]? = some l[k] := List.getElem?_eq_getElem hlt
 have hx := h l[k] (List.getElem_mem hlt);have hst := M5 text hlt;have hbx := ((fun x hx => AG (h x hx))) l[k] (List.getElem_mem hlt)
 generalize l[k] = x at *;have hsz : Ax 1 (l.map AV.st) = true := Bh 1 _ (fun _ => rfl) _
 refine Aa (A6 @s0 @s6 @s7 @s8 @hg @hsz) ?_;refine cp (Dl x (by omega)) ?_
 refine Aa (A4 @s0 @s6 @s7 @s8) ?_;exact Ao (l.length - (k + 1)) (by omega) ⟨Ad, Ad, Ad, k + 1, cur ++ text x, Ad, Nt _ _ _, by rw [hst, hcur]; rw [List.append_assoc], by omega, rfl⟩
theorem N5 (l : List By) (hl : l.length ≤ 100) (h : ∀ x ∈ l, x.length ≤ 1000000) : AC prog 268 [.ptr 0 0, At l] [.cells [.sl .full []]] (.tup []) (BV 5 ((l.map text).flatten)) := by
 refine Ar [158] [] func268 ?_;refine run ?_;refine C2 (fun m e S => e 0 = .ptr 0 0 ∧ e 6 = At l ∧ e 7 = .it .i64 (l.length : Int) ∧ ∃ (k : Nat) (cur : By), e 8 = .it .i64 (k : Int) ∧ S = BV 5 cur ∧ cur = ((l.take k).map text).flatten ∧ k ≤ l.length ∧ m = l.length - k) l.length _ _ (Ay.reserveC 1 0 (es := []) (by rfl) 5 1)
  ⟨Ad, Ad, Ad, 0, [], Ad, rfl, by simp, by omega, rfl⟩ ?_
 rintro m e S ⟨s0, s6, s7, k, cur, s8, rfl, hcur, hk, rfl⟩
 have hb := M6 text l 1000009 k (fun x hx => AG (h x hx))
 have hk100 : k * 1000009 ≤ 100 * 1000009 := Nat.mul_le_mul_right _ (by omega)
 have hcl : cur.length ≤ 100 * 1000009 := by rw [hcur]; exact Nat.le_trans hb hk100
 by_cases hlt : k < l.length
 rotate_left
 ·obtain rfl : k = l.length := by omega
  rw [List.take_length] at hcur;rw [← hcur];refine Aa (A4 @s0 @s6 @s7 @s8) ?_;exact IC rfl
 have hg : l[k]? = some l[k] := List.getElem?_eq_getElem hlt
 have hx := h l[k] (List.getElem_mem hlt);have hst := M5 text hlt;have hbx := ((fun x hx => AG (h x hx))) l[k] (List.getElem_mem hlt)
 generalize l[k] = x at *;have hsz : Ax 1 (l.map AV.st) = true := Bh 1 _ (fun _ => rfl) _
 refine Aa (A6 @s0 @s6 @s7 @s8 @hg @hsz) ?_;refine cp (Dl x (by omega)) ?_
 refine Aa (A4 @s0 @s6 @s7 @s8) ?_;exact Ao (l.length - (k + 1)) (by omega) ⟨Ad, Ad, Ad, k + 1, cur ++ text x, Ad, Nt _ _ _, by rw [hst, hcur], by omega, rfl⟩
structure Ez (i : It.Item) : Prop where
 c : i.claim.actor.length ≤ 1000000 ∧ i.claim.prev.length ≤ 1000000
 ci : ∀ x ∈ [i.claim.base, i.claim.gen, i.claim.home, i.claim.pub, i.claim.time], -9223372036854775808 ≤ x ∧ x ≤ 9223372036854775807
 b : i.ballot.actor.length ≤ 1000000 ∧ i.ballot.claim.length ≤ 1000000
 bi : ∀ x ∈ [i.ballot.server, i.ballot.gen, i.ballot.time], -9223372036854775808 ≤ x ∧ x ≤ 9223372036854775807
 d : i.decision.actor.length ≤ 1000000 ∧ i.decision.object.length ≤ 1000000 ∧ i.decision.text.length ≤ 1000000
 dt : i.decision.to.length ≤ 1000000 ∧ ∀ s ∈ i.decision.to, s.length ≤ 1000000
 di : ∀ x ∈ [i.decision.server, i.decision.number, i.decision.kind, i.decision.n, i.decision.frm, i.decision.til], -9223372036854775808 ≤ x ∧ x ≤ 9223372036854775807
theorem JA (g : Int → By) (a : Int) : ([a].map g).flatten = g a := by simp
theorem Lp (a : By) : ([a].map text).flatten = text a := by simp
theorem VC (i : It.Item) (acc : By) (h : Ez i) (hac : acc.length ≤ 100000000) : AC prog 196 [.ptr 0 0, AN i] (BV 5 acc) (.tup []) (BV 5 (acc ++ Dd i.claim)) := by
 refine Ar [] [] func196 ?_;have h1 := h.c;have h2 := h.ci;simp only [List.forall_mem_cons] at h2;have l1 := AG h1.1;have l2 := Aj i.claim.base (by omega)
 have l3 := AG h1.2;have k1 := Kx [i.claim.actor] acc (by simp) (by simpa using h1.1) (by omega)
 have k2 := FQ [i.claim.base] (acc ++ text i.claim.actor) (by simp) (by simp; omega) (by simp only [List.length_append]; omega)
 have k3 := Kx [i.claim.prev] (acc ++ text i.claim.actor ++ Ag i.claim.base) (by simp) (by simpa using h1.2) (by simp only [List.length_append]; omega)
 have k4 := FQ [i.claim.gen, i.claim.home, i.claim.pub, i.claim.time] (acc ++ text i.claim.actor ++ Ag i.claim.base ++ text i.claim.prev) (by simp) (by simp; omega) (by simp only [List.length_append]; omega)
 rw [Lp] at k1 k3;rw [JA] at k2;have he : acc ++ Dd i.claim = acc ++ text i.claim.actor ++ Ag i.claim.base ++ text i.claim.prev ++ ([i.claim.gen, i.claim.home, i.claim.pub, i.claim.time].map Ag).flatten := by
  unfold Dd;simp
 rw [he];clear he l1 l2 l3 h1 h2;generalize ([i.claim.gen, i.claim.home, i.claim.pub, i.claim.time].map Ag).flatten = tl at *;generalize acc ++ text i.claim.actor ++ Ag i.claim.base ++ text i.claim.prev ++ tl = a4 at *;generalize acc ++ text i.claim.actor ++ Ag i.claim.base ++ text i.claim.prev = a3 at *;generalize acc ++ text i.claim.actor ++ Ag i.claim.base = a2 at *;generalize acc ++ text i.claim.actor = a1 at *;refine run ?_;refine cb 0 1 k1 ?_
 refine run ?_;refine cb 0 1 k2 ?_
 refine run ?_;refine cb 0 1 k3 ?_
 refine run ?_;refine cb 0 1 k4 ?_
 refine run ?_;exact IC rfl
theorem VD (i : It.Item) (acc : By) (h : Ez i) (hac : acc.length ≤ 100000000) : AC prog 197 [.ptr 0 0, AN i] (BV 5 acc) (.tup []) (BV 5 (acc ++ Df i.ballot)) := by
 refine Ar [] [] func197 ?_;have h1 := h.b;have h2 := h.bi;simp only [List.forall_mem_cons] at h2;have l1 := Aj i.ballot.server (by omega)
 have l2 := AG h1.1;have l3 := Aj i.ballot.gen (by omega)
 have l4 := AG h1.2;have k1 := FQ [i.ballot.server] acc (by simp) (by simp; omega) (by omega)
 have k2 := Kx [i.ballot.actor] (acc ++ Ag i.ballot.server) (by simp) (by simpa using h1.1) (by simp only [List.length_append]; omega)
 have k3 := FQ [i.ballot.gen] (acc ++ Ag i.ballot.server ++ text i.ballot.actor) (by simp) (by simp; omega) (by simp only [List.length_append]; omega)
 have k4 := Kx [i.ballot.claim] (acc ++ Ag i.ballot.server ++ text i.ballot.actor ++ Ag i.ballot.gen) (by simp) (by simpa using h1.2) (by simp only [List.length_append]; omega)
 have k5 := FQ [i.ballot.time] (acc ++ Ag i.ballot.server ++ text i.ballot.actor ++ Ag i.ballot.gen ++ text i.ballot.claim) (by simp) (by simp; omega) (by simp only [List.length_append]; omega)
 rw [Lp] at k2 k4;rw [JA] at k1 k3 k5;have he : acc ++ Df i.ballot = acc ++ Ag i.ballot.server ++ text i.ballot.actor ++ Ag i.ballot.gen ++ text i.ballot.claim ++ Ag i.ballot.time := by
  unfold Df;simp only [List.append_assoc]
 rw [he];clear he l1 l2 l3 l4 h1 h2;generalize acc ++ Ag i.ballot.server ++ text i.ballot.actor ++ Ag i.ballot.gen ++ text i.ballot.claim ++ Ag i.ballot.time = a5 at *;generalize acc ++ Ag i.ballot.server ++ text i.ballot.actor ++ Ag i.ballot.gen ++ text i.ballot.claim = a4 at *;generalize acc ++ Ag i.ballot.server ++ text i.ballot.actor ++ Ag i.ballot.gen = a3 at *;generalize acc ++ Ag i.ballot.server ++ text i.ballot.actor = a2 at *;generalize acc ++ Ag i.ballot.server = a1 at *;refine run ?_;refine cb 0 1 k1 ?_
 refine run ?_;refine cb 0 1 k2 ?_
 refine run ?_;refine cb 0 1 k3 ?_
 refine run ?_;refine cb 0 1 k4 ?_
 refine run ?_;refine cb 0 1 k5 ?_
 refine run ?_;exact IC rfl
theorem VB (i : It.Item) (acc : By) (h : Ez i) (hac : acc.length ≤ 100000000) (hlist : (list i.decision.to).length ≤ 100000000) : AC prog 198 [.ptr 0 0, AN i] (BV 5 acc) (.tup []) (BV 5 (acc ++ Dc i.decision)) := by
 refine Ai [280] [] func198 ?_;have h1 := h.d;have h2 := h.di;have h3 := h.dt;simp only [List.forall_mem_cons] at h2;have hx3 : ([i.decision.server, i.decision.number, i.decision.kind].map Ag).flatten = Ag i.decision.server ++ (Ag i.decision.number ++ Ag i.decision.kind) := by simp
 have hx4 : ([i.decision.actor, i.decision.object, i.decision.text].map text).flatten = text i.decision.actor ++ (text i.decision.object ++ text i.decision.text) := by simp
 have hx5 : ([i.decision.n, i.decision.frm, i.decision.til].map Ag).flatten = Ag i.decision.n ++ (Ag i.decision.frm ++ Ag i.decision.til) := by simp
 have n1 := Aj i.decision.server (by omega)
 have n2 := Aj i.decision.number (by omega)
 have n3 := Aj i.decision.kind (by omega)
 have t1 := AG h1.1;have t2 := AG h1.2.1;have t3 := AG h1.2.2;have k1 := FQ [i.decision.server, i.decision.number, i.decision.kind] acc (by simp) (by simp; omega) (by omega)
 rw [hx3] at k1;have k2 := Kx [i.decision.actor, i.decision.object, i.decision.text] (acc ++ (Ag i.decision.server ++ (Ag i.decision.number ++ Ag i.decision.kind))) (by simp) (by simp; omega) (by simp only [List.length_append]; omega)
 rw [hx4] at k2;have k3 := SN i.decision.to h3.1 h3.2;have he : acc ++ Dc i.decision = acc ++ (Ag i.decision.server ++ (Ag i.decision.number ++ Ag i.decision.kind)) ++ (text i.decision.actor ++ (text i.decision.object ++ text i.decision.text)) ++ list i.decision.to ++ (Ag i.decision.n ++ (Ag i.decision.frm ++ Ag i.decision.til)) := by
  unfold Dc;simp only [List.append_assoc]
 rw [he];have hl1 : (acc ++ (Ag i.decision.server ++ (Ag i.decision.number ++ Ag i.decision.kind)) ++ (text i.decision.actor ++ (text i.decision.object ++ text i.decision.text))).length ≤ 200000000 := by simp only [List.length_append]; omega
 have k4 := FQ [i.decision.n, i.decision.frm, i.decision.til] (acc ++ (Ag i.decision.server ++ (Ag i.decision.number ++ Ag i.decision.kind)) ++ (text i.decision.actor ++ (text i.decision.object ++ text i.decision.text)) ++ list i.decision.to) (by simp) (by simp; omega) (by rw [List.length_append]; omega)
 rw [hx5] at k4;generalize acc ++ (Ag i.decision.server ++ (Ag i.decision.number ++ Ag i.decision.kind)) ++ (text i.decision.actor ++ (text i.decision.object ++ text i.decision.text)) = a2 at *;generalize acc ++ (Ag i.decision.server ++ (Ag i.decision.number ++ Ag i.decision.kind)) = a1 at *;generalize list i.decision.to = li at *;generalize Ag i.decision.n ++ (Ag i.decision.frm ++ Ag i.decision.til) = tl at *;have hmap : a2.map u8 ++ li.map u8 = (a2 ++ li).map u8 := List.map_append.symm;have hlen : a2.length + li.length = (a2 ++ li).length := List.length_append.symm;clear n1 n2 n3 t1 t2 t3 he hx3 hx4 hx5;generalize a2 ++ li = a3 at *;generalize a3 ++ tl = a4 at *;refine run ?_;refine cb 0 1 k1 ?_
 refine run ?_;refine cb 0 1 k2 ?_
 refine run ?_;refine cp k3 ?_;refine Aa (an @hmap @hlen) ?_;refine cb 0 1 k4 ?_
 refine run ?_;exact IC rfl
end Pe
namespace Pe
open Tryz
open Go Go.RowKit Co Sg Ac It
set_option maxRecDepth 100000
set_option maxHeartbeats 4000000
theorem T3 {c : It.Claim} (h : D2 c = true ∨ c = C5) : (c.actor.length ≤ 1000000 ∧ c.prev.length ≤ 1000000) ∧ ∀ x ∈ [c.base, c.gen, c.home, c.pub, c.time], -9223372036854775808 ≤ x ∧ x ≤ 9223372036854775807 := by
 rcases h with h | rfl
 ·have s := PP h
  have h1 := s.actor; have h2 := s.base; have h3 := s.prev; have h4 := s.gen; have h5 := s.home; have h6 := s.pub; have h7 := s.time;simp only [List.forall_mem_cons, List.not_mem_nil, false_implies, implies_true, and_true];omega
 ·decide
theorem T4 {b : It.Ballot} (h : D3 b = true ∨ b = Dv) : (b.actor.length ≤ 1000000 ∧ b.claim.length ≤ 1000000) ∧ ∀ x ∈ [b.server, b.gen, b.time], -9223372036854775808 ≤ x ∧ x ≤ 9223372036854775807 := by
 rcases h with h | rfl
 ·have s := Nw h
  have h1 := s.actor; have h2 := s.server; have h3 := s.claim; have h4 := s.gen; have h5 := s.time;simp only [List.forall_mem_cons, List.not_mem_nil, false_implies, implies_true, and_true];omega
 ·decide
theorem PD {d : It.Decision} (h : D1 d = true ∨ d = Dr) : (d.actor.length ≤ 1000000 ∧ d.object.length ≤ 1000000 ∧ d.text.length ≤ 1000000) ∧ (d.to.length ≤ 64 ∧ ∀ s ∈ d.to, s.length ≤ 16) ∧ ∀ x ∈ [d.server, d.number, d.kind, d.n, d.frm, d.til], -9223372036854775808 ≤ x ∧ x ≤ 9223372036854775807 := by
 rcases h with h | rfl
 ·have s := Nf h
  have h1 := s.actor; have h2 := s.server; have h3 := s.number; have h4 := s.kind; have h5 := s.object; have h6 := s.text; have h7 := s.to; have h8 := s.n; have h9 := s.frm; have h10 := s.til;simp only [List.forall_mem_cons, List.not_mem_nil, false_implies, implies_true, and_true];refine ⟨by omega, ⟨h7.1, fun s hs => Nat.le_of_eq (h7.2 s hs)⟩, by omega⟩
 ·decide
theorem Oo {i : It.Item} (h : It.right i = true) : (Ac.right i.act = true ∨ i.act = Au) ∧ (D2 i.claim = true ∨ i.claim = C5) ∧ (D3 i.ballot = true ∨ i.ballot = Dv) ∧ (D1 i.decision = true ∨ i.decision = Dr) := by
 rcases right_kind h with e | e | e | e
 ·obtain ⟨q1, q2, q3, q4⟩ := (right_act e).1 h
  exact ⟨.inl q1, .inr q2, .inr q3, .inr q4⟩
 ·obtain ⟨q1, q2, q3, q4⟩ := (right_claim e).1 h
  exact ⟨.inr q2, .inl q1, .inr q3, .inr q4⟩
 ·obtain ⟨q1, q2, q3, q4⟩ := (right_ballot e).1 h
  exact ⟨.inr q2, .inr q3, .inl q1, .inr q4⟩
 ·obtain ⟨q1, q2, q3, q4⟩ := (right_decision e).1 h
  exact ⟨.inr q2, .inr q3, .inr q4, .inl q1⟩
theorem Zcs {i : It.Item} (hc : D2 i.claim = true ∨ i.claim = C5) (hb : D3 i.ballot = true ∨ i.ballot = Dv) (hd : D1 i.decision = true ∨ i.decision = Dr) : Ez i := by
 have c := T3 hc;have b := T4 hb;have d := PD hd;exact ⟨c.1, c.2, b.1, b.2, d.1, ⟨by have := d.2.1.1; omega, fun s hs => by have := d.2.1.2 s hs; omega⟩, d.2.2⟩
theorem Zcr {i : It.Item} (h : It.right i = true) : Ez i := have p := Oo h; Zcs p.2.1 p.2.2.1 p.2.2.2
theorem Gd {i : It.Item} (h : It.right i = true) (h0 : i.kind ≠ 0) : AI (Bp i) = true := by
 unfold Bp;rcases right_kind h with e | e | e | e
 ·exact absurd e h0
 ·rw [if_pos e]; exact (PP ((right_claim e).1 h).1).sig
 ·rw [if_neg (by omega), if_pos e]; exact (Nw ((right_ballot e).1 h).1).sig
 ·rw [if_neg (by omega), if_neg (by omega)]; exact (Nf ((right_decision e).1 h).1).sig
theorem SM {l : List By} (h : l.length ≤ 64 ∧ ∀ s ∈ l, s.length ≤ 16) : (list l).length ≤ 2000 := by
 have h1 := DM (n := l.length) (by have := h.1; omega)
 have h2 : ∀ l : List By, (∀ s ∈ l, s.length ≤ 16) → (l.map text).flatten.length ≤ l.length * 25 := fun l => by
  induction l with
  | nil => intro _; simp
  | cons s l ih =>
   intro h;have e0 := h s (by simp)
   have e1 : (text s).length ≤ 25 := by
    have := DM (n := s.length) (by omega)
    unfold text;rw [List.length_append];omega
   have e2 := ih fun x hx => h x (by simp [hx])
   rw [List.map_cons, List.flatten_cons, List.length_append, List.length_cons, Nat.succ_mul];omega
 have h3 := h2 l h.2;have h4 : l.length * 25 ≤ 64 * 25 := Nat.mul_le_mul_right _ h.1;unfold list;rw [List.length_append];omega
structure Sh (i : It.Item) : Prop where
 ez : Ez i
 to : (list i.decision.to).length ≤ 50000000
theorem Je {i : It.Item} (h : It.right i = true) : Sh i := ⟨Zcr h, by have := SM (PD (Oo h).2.2.2).2.1; omega⟩
theorem Nn {i : It.Item} (h : Ez i) : (Dd i.claim).length ≤ 10000000 := by
 have h1 := h.c;have h2 := h.ci;simp only [List.forall_mem_cons] at h2;have l1 := AG h1.1;have l2 := AG h1.2;have n1 := Aj i.claim.base (by omega)
 have n2 := Aj i.claim.gen (by omega)
 have n3 := Aj i.claim.home (by omega)
 have n4 := Aj i.claim.pub (by omega)
 have n5 := Aj i.claim.time (by omega)
 unfold Dd;simp only [List.length_append];omega
theorem Nx {i : It.Item} (h : Ez i) : (Df i.ballot).length ≤ 10000000 := by
 have h1 := h.b;have h2 := h.bi;simp only [List.forall_mem_cons] at h2;have l1 := AG h1.1;have l2 := AG h1.2;have n1 := Aj i.ballot.server (by omega)
 have n2 := Aj i.ballot.gen (by omega)
 have n3 := Aj i.ballot.time (by omega)
 unfold Df;simp only [List.length_append];omega
theorem Ng {i : It.Item} (h : Sh i) : (Dc i.decision).length ≤ 60000000 := by
 have h1 := h.ez.d;have h2 := h.ez.di;have h3 := h.to;simp only [List.forall_mem_cons] at h2;have l1 := AG h1.1;have l2 := AG h1.2.1;have l3 := AG h1.2.2;have n1 := Aj i.decision.server (by omega)
 have n2 := Aj i.decision.number (by omega)
 have n3 := Aj i.decision.kind (by omega)
 have n4 := Aj i.decision.n (by omega)
 have n5 := Aj i.decision.frm (by omega)
 have n6 := Aj i.decision.til (by omega)
 unfold Dc;simp only [List.length_append];omega
theorem UU {i : It.Item} (h : Sh i) : (Ec i).length ≤ 60000000 := by
 have h1 := Nn h.ez;have h2 := Nx h.ez;have h3 := Ng h;unfold Ec;split
 ·omega
 split <;> omega
abbrev Po (F : FuncId) (n : By) (s : Sig) : AV := .agg [.st n, .fn (.func F) [] [], .it .i64 s.e, .it .i64 s.s]
theorem Pr (i : It.Item) (hk : i.kind = 1) : AC prog 121 [AN i] [] (Po 196 HZ i.claim.sig) [] := by
 refine Ar [] [] func121 ?_;refine Aa @hk ?_;exact Am
theorem Pq (i : It.Item) (hk : i.kind = 2) : AC prog 121 [AN i] [] (Po 197 H2 i.ballot.sig) [] := by
 refine Ar [] [] func121 ?_;refine Aa @hk ?_;exact Am
theorem Pp (i : It.Item) (hk : i.kind ≠ 1 ∧ i.kind ≠ 2) : AC prog 121 [AN i] [] (Po 198 HY i.decision.sig) [] := by
 refine Ar [] [] func121 ?_;obtain ⟨h1, h2⟩ := hk;refine run ?_;exact Am
theorem ZaP (i : It.Item) (hk : i.kind = 1) (h : Sh i) : AC prog 173 [AN i] [] (.st (D6 i)) [] := by
 refine Ar [121] [] func173 ?_;have hm : D6 i = text HZ ++ Dd i.claim := by unfold D6 Jn Ec; simp [hk]
 rw [hm];have k1 := N5 [HZ] (by simp) (by decide)
 rw [Lp] at k1;have k2 := VC i (text HZ) h.ez (by decide)
 have hl : (text HZ).length ≤ 100 := by decide
 have hl2 : (Dd i.claim).length ≤ 60000000 := by have := Nn h.ez; omega
 generalize text HZ = tw at *;refine run ?_;refine cp (Pr i hk) ?_;refine run ?_;refine IH 2 k1 ?_
 refine run ?_;refine cb 2 3 k2 ?_
 generalize Dd i.claim = cb' at *;refine run ?_;exact Ab
theorem ZaO (i : It.Item) (hk : i.kind = 2) (h : Sh i) : AC prog 173 [AN i] [] (.st (D6 i)) [] := by
 refine Ar [121] [] func173 ?_;have hm : D6 i = text H2 ++ Df i.ballot := by unfold D6 Jn Ec; simp [hk]
 rw [hm];have k1 := N5 [H2] (by simp) (by decide)
 rw [Lp] at k1;have k2 := VD i (text H2) h.ez (by decide)
 have hl : (text H2).length ≤ 100 := by decide
 have hl2 : (Df i.ballot).length ≤ 60000000 := by have := Nx h.ez; omega
 generalize text H2 = tw at *;refine run ?_;refine cp (Pq i hk) ?_;refine run ?_;refine IH 2 k1 ?_
 refine run ?_;refine cb 2 3 k2 ?_
 generalize Df i.ballot = cb' at *;refine run ?_;exact Ab
theorem ZaN (i : It.Item) (hk : i.kind ≠ 1 ∧ i.kind ≠ 2) (h : Sh i) : AC prog 173 [AN i] [] (.st (D6 i)) [] := by
 refine Ar [121] [] func173 ?_;have hm : D6 i = text HY ++ Dc i.decision := by unfold D6 Jn Ec; simp [hk]
 rw [hm];have k1 := N5 [HY] (by simp) (by decide)
 rw [Lp] at k1;have k2 := VB i (text HY) h.ez (by decide) (by have := h.to; omega)
 have hl : (text HY).length ≤ 100 := by decide
 have hl2 : (Dc i.decision).length ≤ 60000000 := by have := Ng h; omega
 generalize text HY = tw at *;refine run ?_;refine cp (Pp i hk) ?_;refine run ?_;refine IH 2 k1 ?_
 refine run ?_;refine cb 2 3 k2 ?_
 generalize Dc i.decision = cb' at *;refine run ?_;exact Ab
theorem SD {i : It.Item} (h : Sh i) : (D6 i).length ≤ 100000000 := by
 have h1 := UU h;have h2 : (text (Jn i)).length ≤ 100 := by
  unfold Jn;split
  ·decide
  split <;> decide
 unfold D6;rw [List.length_append];omega
theorem SV (i : It.Item) : i.kind = 1 ∨ i.kind = 2 ∨ (i.kind ≠ 1 ∧ i.kind ≠ 2) := by omega
theorem ZaM (i : It.Item) (h : Sh i) : AC prog 173 [AN i] [] (.st (D6 i)) [] := by
 rcases SV i with e | e | e
 ·exact ZaP i e h
 ·exact ZaO i e h
 ·exact ZaN i e h
theorem Q8 (p : Int) (i : It.Item) (h : Sh i) (hp : -9223372036854775808 ≤ p ∧ p ≤ 9223372036854775807) (hs : -9223372036854775808 ≤ (Bp i).e ∧ (Bp i).e ≤ 9223372036854775807) (hl : (D6 i).length ≤ 100000000) : AC prog 107 [.it .i64 p, AN i] [] (.bo (Ob p i)) [] := by
 refine Ar [173, 121, 92] [] func107 ?_;unfold Ob;have k1 := ZaM i h;generalize D6 i = ms at *;rcases SV i with e | e | e
 ·have hsg : Bp i = i.claim.sig := by unfold Bp; simp [e]
  rw [hsg] at hs ⊢;refine run ?_;refine cp k1 ?_;refine run ?_;refine cp (Pr i e) ?_;refine run ?_;refine cp (JX p ms i.claim.sig hl hp hs) ?_;refine run ?_;exact Ab
 ·have hsg : Bp i = i.ballot.sig := by unfold Bp; simp [e]
  rw [hsg] at hs ⊢;refine run ?_;refine cp k1 ?_;refine run ?_;refine cp (Pq i e) ?_;refine run ?_;refine cp (JX p ms i.ballot.sig hl hp hs) ?_;refine run ?_;exact Ab
 ·have hsg : Bp i = i.decision.sig := by unfold Bp; simp [e]
  rw [hsg] at hs ⊢;refine run ?_;refine cp k1 ?_;refine run ?_;refine cp (Pp i e) ?_;refine run ?_;refine cp (JX p ms i.decision.sig hl hp hs) ?_;refine run ?_;exact Ab
theorem Pw (g : Int → By) (a b : Int) : ([a, b].map g).flatten = g a ++ g b := by simp
theorem Va {i : It.Item} (h : It.right i = true) (h0 : i.kind = 0) : It.bytes i = Ag i.kind ++ Ac.bytes i.act := by
 rw [bytes_right h];unfold FA;rw [if_pos h0]
theorem Zd7 (i : It.Item) (h : Iz i) (h0 : i.kind = 0) (hr : It.right i = true) : AC prog 60 [AN i] [] (.st (It.bytes i)) [] := by
 refine Ai [51, 120, 121] [] func60 ?_;have kr := Gi i h;rw [hr] at kr;rw [Va hr h0];have k1 := ME [i.kind] (by simp) (by simp [h0])
 rw [JA] at k1;have hq : (i.kind == 0) = true := by rw [h0]; rfl
 have k2 := Zd2 i.act h.act;have hl := Nq (a := i.act);have hl0 := Aj i.kind (by omega)
 generalize Ac.bytes i.act = z at *;generalize Ag i.kind = n0 at *;refine run ?_;refine cp kr ?_;refine Aa @hq ?_;refine IH 1 k1 ?_
 refine Aa @hq ?_;refine cp k2 ?_;have hmap : n0.map u8 ++ z.map u8 = (n0 ++ z).map u8 := List.map_append.symm;have hlen : n0.length + z.length = (n0 ++ z).length := List.length_append.symm;generalize n0 ++ z = c1 at *;refine Aa (A3 @hq @hmap @hlen) ?_;exact Ab
theorem Zd6 (i : It.Item) (h : Iz i) (hk : i.kind = 1) (hr : It.right i = true) : AC prog 60 [AN i] [] (.st (It.bytes i)) [] := by
 refine Ai [51, 120, 121] [] func60 ?_;have kr := Gi i h;rw [hr] at kr;have h3 := Je hr;have hs := Gd hr (by omega)
 have hb : It.bytes i = Ag i.kind ++ Dd i.claim ++ (Ag i.claim.sig.e ++ Ag i.claim.sig.s) := by
  rw [bytes_right hr];unfold FA Ec Bp;have e0 : i.kind ≠ 0 := by omega
  simp [hk]
 have hsg : Bp i = i.claim.sig := by unfold Bp; simp [hk]
 rw [hsg] at hs;simp only [AI, Bool.and_eq_true, Bb] at hs;rw [hb];have k1 := ME [i.kind] (by simp) (by simp [hk])
 rw [JA] at k1;have hl0 := Aj i.kind (by omega)
 have hq : (i.kind == 0) = false := FB (by omega)
 have k2 := VC i (Ag i.kind) h3.ez (by omega)
 have hl : (Dd i.claim).length ≤ 60000000 := by have := Nn h3.ez; omega
 have k3 := FQ [i.claim.sig.e, i.claim.sig.s] (Ag i.kind ++ Dd i.claim) (by simp) (by simp; omega) (by rw [List.length_append]; omega)
 rw [Pw] at k3;have n1 := Aj i.claim.sig.e (by omega)
 have n2 := Aj i.claim.sig.s (by omega)
 have kf := Pr i hk;generalize Ag i.claim.sig.e ++ Ag i.claim.sig.s = tl at *;generalize Ag i.kind = n0 at *;generalize Dd i.claim = AM at *;generalize n0 ++ AM ++ tl = c2 at *;generalize n0 ++ AM = c1 at *;refine run ?_;refine cp kr ?_;refine Aa @hq ?_;refine IH 1 k1 ?_
 refine Aa @hq ?_;refine cp kf ?_;refine Aa @hq ?_;refine cb 1 2 k2 ?_
 refine Aa @hq ?_;refine cb 1 2 k3 ?_
 refine run ?_;exact Ab
theorem Zd5 (i : It.Item) (h : Iz i) (hk : i.kind = 2) (hr : It.right i = true) : AC prog 60 [AN i] [] (.st (It.bytes i)) [] := by
 refine Ai [51, 120, 121] [] func60 ?_;have kr := Gi i h;rw [hr] at kr;have h3 := Je hr;have hs := Gd hr (by omega)
 have hb : It.bytes i = Ag i.kind ++ Df i.ballot ++ (Ag i.ballot.sig.e ++ Ag i.ballot.sig.s) := by
  rw [bytes_right hr];unfold FA Ec Bp;have e0 : i.kind ≠ 0 := by omega
  simp [hk]
 have hsg : Bp i = i.ballot.sig := by unfold Bp; simp [hk]
 rw [hsg] at hs;simp only [AI, Bool.and_eq_true, Bb] at hs;rw [hb];have k1 := ME [i.kind] (by simp) (by simp [hk])
 rw [JA] at k1;have hl0 := Aj i.kind (by omega)
 have hq : (i.kind == 0) = false := FB (by omega)
 have k2 := VD i (Ag i.kind) h3.ez (by omega)
 have hl : (Df i.ballot).length ≤ 60000000 := by have := Nx h3.ez; omega
 have k3 := FQ [i.ballot.sig.e, i.ballot.sig.s] (Ag i.kind ++ Df i.ballot) (by simp) (by simp; omega) (by rw [List.length_append]; omega)
 rw [Pw] at k3;have n1 := Aj i.ballot.sig.e (by omega)
 have n2 := Aj i.ballot.sig.s (by omega)
 have kf := Pq i hk;generalize Ag i.ballot.sig.e ++ Ag i.ballot.sig.s = tl at *;generalize Ag i.kind = n0 at *;generalize Df i.ballot = AM at *;generalize n0 ++ AM ++ tl = c2 at *;generalize n0 ++ AM = c1 at *;refine run ?_;refine cp kr ?_;refine Aa @hq ?_;refine IH 1 k1 ?_
 refine Aa @hq ?_;refine cp kf ?_;refine Aa @hq ?_;refine cb 1 2 k2 ?_
 refine Aa @hq ?_;refine cb 1 2 k3 ?_
 refine run ?_;exact Ab
theorem Zd4 (i : It.Item) (h : Iz i) (hk : i.kind = 3) (hr : It.right i = true) : AC prog 60 [AN i] [] (.st (It.bytes i)) [] := by
 refine Ai [51, 120, 121] [] func60 ?_;have kr := Gi i h;rw [hr] at kr;have h3 := Je hr;have hs := Gd hr (by omega)
 have hb : It.bytes i = Ag i.kind ++ Dc i.decision ++ (Ag i.decision.sig.e ++ Ag i.decision.sig.s) := by
  rw [bytes_right hr];unfold FA Ec Bp;have e0 : i.kind ≠ 0 := by omega
  simp [hk]
 have hsg : Bp i = i.decision.sig := by unfold Bp; simp [hk]
 rw [hsg] at hs;simp only [AI, Bool.and_eq_true, Bb] at hs;rw [hb];have k1 := ME [i.kind] (by simp) (by simp [hk])
 rw [JA] at k1;have hl0 := Aj i.kind (by omega)
 have hq : (i.kind == 0) = false := FB (by omega)
 have k2 := VB i (Ag i.kind) h3.ez (by omega) (by have := h3.to; omega)
 have hl : (Dc i.decision).length ≤ 60000000 := by have := Ng h3; omega
 have k3 := FQ [i.decision.sig.e, i.decision.sig.s] (Ag i.kind ++ Dc i.decision) (by simp) (by simp; omega) (by rw [List.length_append]; omega)
 rw [Pw] at k3;have n1 := Aj i.decision.sig.e (by omega)
 have n2 := Aj i.decision.sig.s (by omega)
 have kf := Pp i (by omega)
 generalize Ag i.decision.sig.e ++ Ag i.decision.sig.s = tl at *;generalize Ag i.kind = n0 at *;generalize Dc i.decision = AM at *;generalize n0 ++ AM ++ tl = c2 at *;generalize n0 ++ AM = c1 at *;refine run ?_;refine cp kr ?_;refine Aa @hq ?_;refine IH 1 k1 ?_
 refine Aa @hq ?_;refine cp kf ?_;refine Aa @hq ?_;refine cb 1 2 k2 ?_
 refine Aa @hq ?_;refine cb 1 2 k3 ?_
 refine run ?_;exact Ab
theorem Vc (i : It.Item) (h : Iz i) : AC prog 60 [AN i] [] (.st (It.bytes i)) [] := by
 cases hr : It.right i with
 | true =>
  rcases right_kind hr with e | e | e | e
  ·exact Zd7 i h e hr
  ·exact Zd6 i h e hr
  ·exact Zd5 i h e hr
  ·exact Zd4 i h e hr
 | false =>
  refine Ai [51, 120, 121] [] func60 ?_;have kr := Gi i h;rw [hr] at kr;rw [It.bytes_wrong hr];refine run ?_;refine cp kr ?_;refine run ?_;exact Ab
theorem X4 {a : Ac.Act} (h : Sm a) : Sz a := ⟨by have := h.author; omega, by have := h.target; omega, by have := h.group; omega, by have := h.text; omega, fun s hs => by have := h.to.2 s hs; omega, by have := h.to.1; omega, by have := h.wraps.1; omega⟩
theorem X5 : Sz Au := ⟨by decide, by decide, by decide, by decide, by decide, by decide, by decide⟩
theorem Ij (s t : By) (h : s ≠ t) : (s == t) = false := by simpa using h
theorem DE {i : It.Item} (h : It.right i = true) : Iz i := by
 have p := Oo h;have c := (T3 p.2.1).1.1;have b := (T4 p.2.2.1).1.1;have d := PD p.2.2.2;refine ⟨?_, by omega, by omega, ⟨by have := d.1.1; omega, by have := d.2.1.1; omega, fun s hs => by have := d.2.1.2 s hs; omega⟩⟩
 rcases p.1 with e | e
 ·exact X4 (C0 e)
 ·rw [e]; exact X5
theorem Nr (i : It.Item) : (It.bytes i).length ≤ 70000000 := by
 cases hr : It.right i with
 | false => rw [It.bytes_wrong hr]; decide
 | true =>
  have hk := right_kind hr;have n0 := Aj i.kind (by omega)
  rw [bytes_right hr];unfold FA;rw [List.length_append];by_cases h0 : i.kind = 0
  ·rw [if_pos h0]
   have := Nq (a := i.act);omega
  ·rw [if_neg h0]
   have hs := Gd hr h0;simp only [AI, Bool.and_eq_true, Bb] at hs;have n1 := Aj (Bp i).e (by omega)
   have n2 := Aj (Bp i).s (by omega)
   have hc := UU (Je hr);simp only [List.length_append];omega
theorem Nd (i : It.Item) (h : Iz i) : AC prog 23 [AN i] [] (.st (It.digest i)) [] := by
 refine Ar [60, 61] [] func23 ?_;unfold It.digest;have hb := Vc i h;have hl := Nr i;generalize It.bytes i = bs at *;by_cases he : bs = []
 ·rw [if_pos he]
  have hq : (bs == []) = true := by rw [he]; rfl
  refine run ?_;refine cp hb ?_;refine Aa @hq ?_;exact Ab
 ·rw [if_neg he]
  have hq := Ij bs [] he;refine run ?_;refine cp hb ?_;refine Aa @hq ?_;refine cp (Jc bs (by omega)) ?_
  refine run ?_;exact Ab
theorem R8 (a : Ac.Act) (h : a.to.length ≤ 1000000) (hw : a.wraps.length ≤ 1000000) : AC prog 20 [As a] [] (AN (Av a)) [] := by
 refine Ar [54, 55] [] func20 ?_;refine run ?_;refine cp (ZdF a.to h) ?_;refine run ?_;refine cp (ZdE a.wraps hw) ?_;refine run ?_;exact Am
theorem YG {i : It.Item} (h : It.right i = true) (hk : i.kind = 2 ∨ i.kind = 3) : 0 ≤ Ge i ∧ Ge i ≤ 19 := by
 unfold Ge;rcases hk with e | e
 ·rw [if_pos e]; exact (Nw ((right_ballot e).1 h).1).server
 ·rw [if_neg (by omega)]; exact (Nf ((right_decision e).1 h).1).server
theorem Q7 (ps : List Int) (i : It.Item) (h : Iz i) (hps : ∀ p ∈ ps, -9223372036854775808 ≤ p ∧ p ≤ 9223372036854775807) : AC prog 52 [.sl .ro (ps.map (AV.it .i64)), AN i] [] (.bo (It.signed ps i)) [] := by
 refine Ar [51, 107] [] func52 ?_;have kr := Gi i h;unfold It.signed;cases hr : It.right i with
 | false =>
  rw [hr] at kr;refine run ?_;refine cp kr ?_;refine run ?_;exact Ab
 | true =>
  rw [hr] at kr;rw [if_pos rfl];by_cases hk : i.kind = 2 ∨ i.kind = 3
  rotate_left
  ·rw [if_neg hk]
   have q2 : (i.kind == 2) = false := FB (by omega)
   have q3 : (i.kind == 3) = false := FB (by omega)
   refine run ?_;refine cp kr ?_;refine Aa (an @q2 @q3) ?_;exact Ab
  rw [if_pos hk];have hsv := YG hr hk;have hsg := Gd hr (by omega)
  simp only [AI, Bool.and_eq_true, Bb] at hsg;have hsh := Je hr;have hsz : Ax 1 (ps.map (AV.it .i64)) = true := Bh 1 _ (fun _ => rfl) _
  rcases hk with e | e
  ·have hv : Ge i = i.ballot.server := by unfold Ge; simp [e]
   rw [hv] at hsv ⊢;have q2 : (i.kind == 2) = true := by rw [e]; rfl
   obtain ⟨n, hn⟩ : ∃ n : Nat, i.ballot.server = (n : Int) := ⟨i.ballot.server.toNat, by omega⟩
   have hpos : decide (0 ≤ i.ballot.server) = true := decide_eq_true hsv.1;by_cases hlt : n < ps.length
   ·have hg : ps[i.ballot.server.toNat]? = some (ps.getD n 0) := by
     rw [hn, Int.toNat_natCast, List.getD_eq_getElem?_getD, List.getElem?_eq_getElem hlt]
     rfl
    have hgd : ps.getD i.ballot.server.toNat 0 = ps.getD n 0 := by rw [hn]; rfl
    have hp := hps (ps.getD n 0) (by rw [List.getD_eq_getElem?_getD, List.getElem?_eq_getElem hlt]; exact List.getElem_mem hlt)
    have k1 := Q8 (ps.getD n 0) i hsh hp (by omega) (SD hsh)
    have hl : i.ballot.server < (ps.length : Int) := by omega
    have h0 : 0 ≤ i.ballot.server := hsv.1;rw [hgd, decide_eq_true hl];generalize ps.getD n 0 = p at *;refine run ?_;refine cp kr ?_;refine Aa (A5 @q2 @hl @h0 @hg @hsz) ?_;refine cp k1 ?_;refine run ?_;exact Ab
   ·have hl : ¬ i.ballot.server < (ps.length : Int) := by omega
    rw [decide_eq_false hl];refine run ?_;refine cp kr ?_;refine Aa (an @q2 @hl) ?_;exact Ab
  ·have hv : Ge i = i.decision.server := by unfold Ge; simp [e]
   rw [hv] at hsv ⊢;have q2 : (i.kind == 2) = false := FB (by omega)
   have q3 : (i.kind == 3) = true := by rw [e]; rfl
   obtain ⟨n, hn⟩ : ∃ n : Nat, i.decision.server = (n : Int) := ⟨i.decision.server.toNat, by omega⟩
   have hpos : decide (0 ≤ i.decision.server) = true := decide_eq_true hsv.1;by_cases hlt : n < ps.length
   ·have hg : ps[i.decision.server.toNat]? = some (ps.getD n 0) := by
     rw [hn, Int.toNat_natCast, List.getD_eq_getElem?_getD, List.getElem?_eq_getElem hlt]
     rfl
    have hgd : ps.getD i.decision.server.toNat 0 = ps.getD n 0 := by rw [hn]; rfl
    have hp := hps (ps.getD n 0) (by rw [List.getD_eq_getElem?_getD, List.getElem?_eq_getElem hlt]; exact List.getElem_mem hlt)
    have k1 := Q8 (ps.getD n 0) i hsh hp (by omega) (SD hsh)
    have hl : i.decision.server < (ps.length : Int) := by omega
    have h0 : 0 ≤ i.decision.server := hsv.1;rw [hgd, decide_eq_true hl];generalize ps.getD n 0 = p at *;refine run ?_;refine cp kr ?_;refine Aa (A6 @q2 @q3 @hl @h0 @hg @hsz) ?_;refine cp k1 ?_;refine run ?_;exact Ab
   ·have hl : ¬ i.decision.server < (ps.length : Int) := by omega
    rw [decide_eq_false hl];refine run ?_;refine cp kr ?_;refine Aa (A3 @q2 @q3 @hl) ?_;exact Ab
abbrev Eu (e : It.Entry) : AV := .agg (.it .i64 e.time :: FT e.item)
theorem Ui (e : It.Entry) (h : Iz e.item) : AC prog 86 [Eu e] [] (.st (Da e)) [] := by
 refine Ar [151, 51, 152, 60] [] func86 ?_;unfold Da;have kt := Lf e.time;have kr := Gi e.item h;have kb := Vc e.item h;have hbl := Nr e.item;cases ht : It.isTime e.time with
 | false =>
  rw [ht] at kt;refine run ?_;refine cp kt ?_;refine run ?_;exact Ab
 | true =>
  rw [ht] at kt;have hti : 0 ≤ e.time ∧ e.time ≤ 1099511627776 := Bb.1 ht;have kn := Cm e.time (by omega) (by omega)
  have hnl := Aj e.time (by omega)
  generalize It.bytes e.item = bs at *;generalize Ag e.time = nt at *;cases hr : It.right e.item with
  | false =>
   rw [hr] at kr;refine run ?_;refine cp kt ?_;refine run ?_;refine cp kr ?_;refine run ?_;exact Ab
  | true =>
   rw [hr] at kr;refine run ?_;refine cp kt ?_;refine run ?_;refine cp kr ?_;refine run ?_;refine cp kn ?_;refine run ?_;refine cp kb ?_;refine run ?_;exact Ab
end Pe
end
section
namespace Pe
open Tryz
open Go Go.RowKit Co Sg Ac
set_option maxRecDepth 100000
set_option maxHeartbeats 4000000
theorem X3 {a : Ac.Act} (h : Sm a) : Sz a := ⟨by have := h.author; omega, by have := h.target; omega, by have := h.group; omega, by have := h.text; omega, fun s hs => by have := h.to.2 s hs; omega, by have := h.to.1; omega, by have := h.wraps.1; omega⟩
theorem QS {a : Ac.Act} (h : right a = true) : Sz a := X3 (C0 h)
structure In (a : Ac.Act) : Prop where
 sz : Sz a
 prev : a.prev.length ≤ 140737488355328
 object : a.object.length ≤ 140737488355328
 body : a.body.nonce.length ≤ 140737488355328 ∧ a.body.data.length ≤ 140737488355328 ∧ a.body.tag.length ≤ 140737488355328
 ws : ∀ w ∈ a.wraps, w.box.nonce.length ≤ 140737488355328 ∧ w.box.data.length ≤ 140737488355328 ∧ w.box.tag.length ≤ 140737488355328
 ints : (-9223372036854775808 ≤ a.epoch ∧ a.epoch ≤ 9223372036854775807) ∧ (-9223372036854775808 ≤ a.m ∧ a.m ≤ 9223372036854775807)
end Pe
end
section
namespace Pe
open Tryz
open Go Go.RowKit Co Sg Ac It
set_option maxRecDepth 100000
set_option maxHeartbeats 4000000
abbrev UI (d : It.Decision) : List AV := [.it .i64 d.server, .it .i64 d.number, .it .i64 d.kind, .st d.actor, .st d.object, .st d.text, At d.to, .it .i64 d.n, .it .i64 d.frm, .it .i64 d.til, .it .i64 d.sig.e, .it .i64 d.sig.s]
structure InI (i : It.Item) : Prop where
 act : In i.act
 iz : Iz i
 ci : ∀ x ∈ [i.claim.base, i.claim.gen, i.claim.home, i.claim.pub, i.claim.time], -9223372036854775808 ≤ x ∧ x ≤ 9223372036854775807
 bi : ∀ x ∈ [i.ballot.server, i.ballot.gen, i.ballot.time], -9223372036854775808 ≤ x ∧ x ≤ 9223372036854775807
 di : ∀ x ∈ [i.decision.server, i.decision.number, i.decision.kind, i.decision.n, i.decision.frm, i.decision.til], -9223372036854775808 ≤ x ∧ x ≤ 9223372036854775807
 si : ∀ x ∈ [i.claim.sig.e, i.claim.sig.s, i.ballot.sig.e, i.ballot.sig.s, i.decision.sig.e, i.decision.sig.s], -9223372036854775808 ≤ x ∧ x ≤ 9223372036854775807
theorem H7 {s : By} {n : Nat} (h : s.length ≤ n) (hn : n ≤ 1000000) : (text s).length ≤ n + 9 := by
 have := DM (n := s.length) (by omega)
 unfold text;rw [List.length_append];omega
theorem Zdt {i : It.Item} (h : It.right i = true) (h0 : i.kind ≠ 0) : (Ec i).length ≤ 20000 := by
 unfold Ec;rcases right_kind h with e | e | e | e
 ·exact absurd e h0
 ·rw [if_pos e]
  have s := PP ((right_claim e).1 h).1;have h1 := s.actor; have h2 := s.base; have h3 := s.prev; have h4 := s.gen; have h5 := s.home; have h6 := s.pub; have h7 := s.time;have l1 := H7 (n := 16) (s := i.claim.actor) (by omega) (by omega)
  have l2 := H7 (n := 32) (s := i.claim.prev) (by omega) (by omega)
  have n1 := Aj i.claim.base (by omega)
  have n2 := Aj i.claim.gen (by omega)
  have n3 := Aj i.claim.home (by omega)
  have n4 := Aj i.claim.pub (by omega)
  have n5 := Aj i.claim.time (by omega)
  unfold Dd;simp only [List.length_append];omega
 ·rw [if_neg (by omega), if_pos e]
  have s := Nw ((right_ballot e).1 h).1;have h1 := s.actor; have h2 := s.server; have h3 := s.claim; have h4 := s.gen; have h5 := s.time;have l1 := H7 (n := 16) (s := i.ballot.actor) (by omega) (by omega)
  have l2 := H7 (n := 32) (s := i.ballot.claim) (by omega) (by omega)
  have n1 := Aj i.ballot.server (by omega)
  have n2 := Aj i.ballot.gen (by omega)
  have n3 := Aj i.ballot.time (by omega)
  unfold Df;simp only [List.length_append];omega
 ·rw [if_neg (by omega), if_neg (by omega)]
  have s := Nf ((right_decision e).1 h).1;have h1 := s.actor; have h2 := s.server; have h3 := s.number; have h4 := s.kind; have h5 := s.object; have h6 := s.text; have h7 := s.to; have h8 := s.n; have h9 := s.frm; have h10 := s.til;have l1 := H7 (n := 16) (s := i.decision.actor) (by omega) (by omega)
  have l2 := H7 (n := 32) (s := i.decision.object) (by omega) (by omega)
  have l3 := H7 (n := 4096) (s := i.decision.text) (by omega) (by omega)
  have l4 := SM ⟨h7.1, fun s hs => Nat.le_of_eq (h7.2 s hs)⟩
  have n1 := Aj i.decision.server (by omega)
  have n2 := Aj i.decision.number (by omega)
  have n3 := Aj i.decision.kind (by omega)
  have n4 := Aj i.decision.n (by omega)
  have n5 := Aj i.decision.frm (by omega)
  have n6 := Aj i.decision.til (by omega)
  unfold Dc;simp only [List.length_append];omega
theorem Zd3 (i : It.Item) : (It.bytes i).length ≤ 200000 := by
 cases hr : It.right i with
 | false => rw [It.bytes_wrong hr]; decide
 | true =>
  have hk := right_kind hr;have n0 := Aj i.kind (by omega)
  rw [bytes_right hr];unfold FA;rw [List.length_append];by_cases h0 : i.kind = 0
  ·rw [if_pos h0]
   have := Nq (a := i.act);omega
  ·rw [if_neg h0]
   have hs := Gd hr h0;simp only [AI, Bool.and_eq_true, Bb] at hs;have n1 := Aj (Bp i).e (by omega)
   have n2 := Aj (Bp i).s (by omega)
   have hc := Zdt hr h0;simp only [List.length_append];omega
end Pe
end
end Go.Proofs.YtiidnoejnphocaaGreatDoor
