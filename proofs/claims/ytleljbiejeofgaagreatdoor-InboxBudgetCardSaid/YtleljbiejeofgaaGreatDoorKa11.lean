/- Several texts in one, without what this claim does not use (tools/shake.py). -/
import Derived.Test.YtleljbiejeofgaaGreatDoorKa10
set_option linter.unusedSectionVars false
set_option linter.unusedVariables false
set_option linter.unusedSimpArgs false
section
namespace Go.Proofs.YtleljbiejeofgaaGreatDoor.Pe
open Go Go.RowKit Co Sg Ac It
set_option maxRecDepth 100000
set_option maxHeartbeats 4000000
abbrev claimV (c : It.Claim) : AV := .agg [.st c.actor, .it .i64 c.base, .st c.prev, .it .i64 c.gen, .it .i64 c.home, .it .i64 c.pub, .it .i64 c.time, .it .i64 c.sig.e, .it .i64 c.sig.s]
abbrev ballotV (b : It.Ballot) : AV := .agg [.it .i64 b.server, .st b.actor, .it .i64 b.gen, .st b.claim, .it .i64 b.time, .it .i64 b.sig.e, .it .i64 b.sig.s]
abbrev decisionV (d : It.Decision) : AV := .agg [.it .i64 d.server, .it .i64 d.number, .it .i64 d.kind, .st d.actor, .st d.object, .st d.text, sls d.to, .it .i64 d.n, .it .i64 d.frm, .it .i64 d.til, .it .i64 d.sig.e, .it .i64 d.sig.s]
abbrev itemL (i : It.Item) : List AV := [.it .i64 i.kind, .st i.act.author, .it .i64 i.act.seq, .st i.act.prev, .it .i64 i.act.kind, .it .i64 i.act.time, .st i.act.object, .st i.act.target, .it .i64 i.act.scope, .st i.act.group, sls i.act.to, .st i.act.text, .st i.act.body.nonce, .st i.act.body.data, .st i.act.body.tag, .it .i64 i.act.epoch, .sl .ro (i.act.wraps.map wrapV), .it .i64 i.act.n, .it .i64 i.act.m, .it .i64 i.act.sig.e, .it .i64 i.act.sig.s, .st i.claim.actor, .it .i64 i.claim.base, .st i.claim.prev, .it .i64 i.claim.gen, .it .i64 i.claim.home, .it .i64 i.claim.pub, .it .i64 i.claim.time, .it .i64 i.claim.sig.e, .it .i64 i.claim.sig.s, .it .i64 i.ballot.server, .st i.ballot.actor, .it .i64 i.ballot.gen, .st i.ballot.claim, .it .i64 i.ballot.time, .it .i64 i.ballot.sig.e, .it .i64 i.ballot.sig.s, .it .i64 i.decision.server, .it .i64 i.decision.number, .it .i64 i.decision.kind, .st i.decision.actor, .st i.decision.object, .st i.decision.text, sls i.decision.to, .it .i64 i.decision.n, .it .i64 i.decision.frm, .it .i64 i.decision.til, .it .i64 i.decision.sig.e, .it .i64 i.decision.sig.s]
abbrev itemV (i : It.Item) : AV := .agg [.it .i64 i.kind, .st i.act.author, .it .i64 i.act.seq, .st i.act.prev, .it .i64 i.act.kind, .it .i64 i.act.time, .st i.act.object, .st i.act.target, .it .i64 i.act.scope, .st i.act.group, sls i.act.to, .st i.act.text, .st i.act.body.nonce, .st i.act.body.data, .st i.act.body.tag, .it .i64 i.act.epoch, .sl .ro (i.act.wraps.map wrapV), .it .i64 i.act.n, .it .i64 i.act.m, .it .i64 i.act.sig.e, .it .i64 i.act.sig.s, .st i.claim.actor, .it .i64 i.claim.base, .st i.claim.prev, .it .i64 i.claim.gen, .it .i64 i.claim.home, .it .i64 i.claim.pub, .it .i64 i.claim.time, .it .i64 i.claim.sig.e, .it .i64 i.claim.sig.s, .it .i64 i.ballot.server, .st i.ballot.actor, .it .i64 i.ballot.gen, .st i.ballot.claim, .it .i64 i.ballot.time, .it .i64 i.ballot.sig.e, .it .i64 i.ballot.sig.s, .it .i64 i.decision.server, .it .i64 i.decision.number, .it .i64 i.decision.kind, .st i.decision.actor, .st i.decision.object, .st i.decision.text, sls i.decision.to, .it .i64 i.decision.n, .it .i64 i.decision.frm, .it .i64 i.decision.til, .it .i64 i.decision.sig.e, .it .i64 i.decision.sig.s]
theorem claim_eq (x y : It.Claim) : ((x.actor == y.actor) && ((x.base == y.base) && ((x.prev == y.prev) && ((x.gen == y.gen) && ((x.home == y.home) && ((x.pub == y.pub) && ((x.time == y.time) && ((x.sig.e == y.sig.e) && (x.sig.s == y.sig.s))))))))) = decide (x = y) := by
 obtain ⟨x1, x2, x3, x4, x5, x6, x7, ⟨x8, x9⟩⟩ := x
 obtain ⟨y1, y2, y3, y4, y5, y6, y7, ⟨y8, y9⟩⟩ := y
 rw [Bool.eq_iff_iff]
 simp
theorem ballot_eq (x y : It.Ballot) : ((x.server == y.server) && ((x.actor == y.actor) && ((x.gen == y.gen) && ((x.claim == y.claim) && ((x.time == y.time) && ((x.sig.e == y.sig.e) && (x.sig.s == y.sig.s))))))) = decide (x = y) := by
 obtain ⟨x1, x2, x3, x4, x5, ⟨x8, x9⟩⟩ := x
 obtain ⟨y1, y2, y3, y4, y5, ⟨y8, y9⟩⟩ := y
 rw [Bool.eq_iff_iff]
 simp
theorem sameDecision_c (a b : It.Decision) (ha : a.to.length ≤ 140737488355328) (hb : b.to.length ≤ 140737488355328) : AC Tryz.prog 157 [decisionV a, decisionV b] [] (.bo (decide (a = b))) [] := by
 refine AC.enter [200] [] Tryz.func157 rfl (by decide) (by decide) (Nat.le_of_ble_eq_true rfl) (by kernel_rfl) ?_; refine zev ?_
 obtain ⟨q, hq⟩ : ∃ q, decide (a = b) = q := ⟨_, rfl⟩
 rw [hq]
 obtain ⟨a_server, a_number, a_kind, a_actor, a_object, a_text, a_to, a_n, a_frm, a_til, ⟨a_se, a_ss⟩⟩ := a
 obtain ⟨b_server, b_number, b_kind, b_actor, b_object, b_text, b_to, b_n, b_frm, b_til, ⟨b_se, b_ss⟩⟩ := b
 by_cases h_server : a_server = b_server
 rotate_left
 ·obtain rfl : q = false := by rw [← hq]; exact decide_eq_false (fun e => h_server (by cases e; rfl))
  refine run ?_
  exact er0
 subst h_server
 by_cases h_number : a_number = b_number
 rotate_left
 ·obtain rfl : q = false := by rw [← hq]; exact decide_eq_false (fun e => h_number (by cases e; rfl))
  refine run ?_
  exact er0
 subst h_number
 by_cases h_kind : a_kind = b_kind
 rotate_left
 ·obtain rfl : q = false := by rw [← hq]; exact decide_eq_false (fun e => h_kind (by cases e; rfl))
  refine run ?_
  exact er0
 subst h_kind
 by_cases h_actor : a_actor = b_actor
 rotate_left
 ·obtain rfl : q = false := by rw [← hq]; exact decide_eq_false (fun e => h_actor (by cases e; rfl))
  have e_actor : (a_actor == b_actor) = false := by simpa using h_actor
  refine runf @e_actor ?_
  exact er0
 subst h_actor
 by_cases h_object : a_object = b_object
 rotate_left
 ·obtain rfl : q = false := by rw [← hq]; exact decide_eq_false (fun e => h_object (by cases e; rfl))
  have e_object : (a_object == b_object) = false := by simpa using h_object
  refine runf @e_object ?_
  exact er0
 subst h_object
 by_cases h_text : a_text = b_text
 rotate_left
 ·obtain rfl : q = false := by rw [← hq]; exact decide_eq_false (fun e => h_text (by cases e; rfl))
  have e_text : (a_text == b_text) = false := by simpa using h_text
  refine runf @e_text ?_
  exact er0
 subst h_text
 refine run ?_
 refine cp (eqS_c a_to b_to ha hb) ?_
 by_cases h_to : a_to = b_to
 rotate_left
 ·obtain rfl : q = false := by rw [← hq]; exact decide_eq_false (fun e => h_to (by cases e; rfl))
  rw [decide_eq_false h_to]
  refine run ?_
  exact er0
 subst h_to
 rw [decide_eq_true (p := a_to = a_to) rfl]
 by_cases h_n : a_n = b_n
 rotate_left
 ·obtain rfl : q = false := by rw [← hq]; exact decide_eq_false (fun e => h_n (by cases e; rfl))
  refine run ?_
  exact er0
 subst h_n
 by_cases h_frm : a_frm = b_frm
 rotate_left
 ·obtain rfl : q = false := by rw [← hq]; exact decide_eq_false (fun e => h_frm (by cases e; rfl))
  refine run ?_
  exact er0
 subst h_frm
 by_cases h_til : a_til = b_til
 rotate_left
 ·obtain rfl : q = false := by rw [← hq]; exact decide_eq_false (fun e => h_til (by cases e; rfl))
  refine run ?_
  exact er0
 subst h_til
 by_cases h_se : a_se = b_se
 rotate_left
 ·obtain rfl : q = false := by rw [← hq]; exact decide_eq_false (fun e => h_se (by cases e; rfl))
  refine run ?_
  exact er0
 subst h_se
 by_cases h_ss : a_ss = b_ss
 rotate_left
 ·obtain rfl : q = false := by rw [← hq]; exact decide_eq_false (fun e => h_ss (by cases e; rfl))
  refine run ?_
  exact er0
 subst h_ss
 obtain rfl : q = true := by rw [← hq]; exact decide_eq_true rfl
 refine run ?_
 exact er0
structure Lz (i : It.Item) : Prop where
 to : i.act.to.length ≤ 140737488355328
 wraps : i.act.wraps.length ≤ 140737488355328
 dto : i.decision.to.length ≤ 140737488355328
theorem sameI_c (a b : It.Item) (ha : Lz a) (hb : Lz b) : AC Tryz.prog 112 [itemV a, itemV b] [] (.bo (decide (a = b))) [] := by
 refine AC.enter [156, 157] [] Tryz.func112 rfl (by decide) (by decide) (Nat.le_of_ble_eq_true rfl) (by kernel_rfl) ?_; refine zev ?_
 obtain ⟨q, hq⟩ : ∃ q, decide (a = b) = q := ⟨_, rfl⟩
 rw [hq]
 obtain ⟨a_kind, a_act, a_claim, a_ballot, a_dec⟩ := a
 obtain ⟨b_kind, b_act, b_claim, b_ballot, b_dec⟩ := b
 by_cases h_kind : a_kind = b_kind
 rotate_left
 ·obtain rfl : q = false := by rw [← hq]; exact decide_eq_false (fun e => h_kind (by cases e; rfl))
  refine run ?_
  exact er0
 subst h_kind
 refine run ?_
 refine cp (same_c a_act b_act ⟨ha.to, ha.wraps⟩ ⟨hb.to, hb.wraps⟩) ?_
 by_cases h_act : a_act = b_act
 rotate_left
 ·obtain rfl : q = false := by rw [← hq]; exact decide_eq_false (fun e => h_act (by cases e; rfl))
  rw [decide_eq_false h_act]
  refine run ?_
  exact er0
 subst h_act
 rw [decide_eq_true (p := a_act = a_act) rfl]
 by_cases h_claim : a_claim = b_claim
 rotate_left
 ·obtain rfl : q = false := by rw [← hq]; exact decide_eq_false (fun e => h_claim (by cases e; rfl))
  have e_claim := claim_eq a_claim b_claim
  rw [decide_eq_false h_claim] at e_claim
  refine runf @e_claim ?_
  exact er0
 subst h_claim
 by_cases h_ballot : a_ballot = b_ballot
 rotate_left
 ·obtain rfl : q = false := by rw [← hq]; exact decide_eq_false (fun e => h_ballot (by cases e; rfl))
  have e_ballot := ballot_eq a_ballot b_ballot
  rw [decide_eq_false h_ballot] at e_ballot
  refine runf @e_ballot ?_
  exact er0
 subst h_ballot
 refine run ?_
 refine cp (sameDecision_c a_dec b_dec ha.dto hb.dto) ?_
 by_cases h_dec : a_dec = b_dec
 rotate_left
 ·obtain rfl : q = false := by rw [← hq]; exact decide_eq_false (fun e => h_dec (by cases e; rfl))
  rw [decide_eq_false h_dec]
  refine run ?_
  exact er0
 subst h_dec
 rw [decide_eq_true (p := a_dec = a_dec) rfl]
 obtain rfl : q = true := by rw [← hq]; exact decide_eq_true rfl
 refine run ?_
 exact er0
theorem iwithin_c (n lo hi : Int) : AC Tryz.prog 170 [.it .i64 n, .it .i64 lo, .it .i64 hi] [] (.bo (wi n lo hi)) [] := by
 refine AC.enter [] [] Tryz.func170 rfl (by decide) (by decide) (Nat.le_of_ble_eq_true rfl) (by kernel_rfl) ?_; refine zev ?_
 unfold wi
 by_cases h : lo ≤ n
 ·rw [decide_eq_true h]
  refine run ?_
  exact er0
 ·rw [decide_eq_false h]
  refine run ?_
  exact er0
theorem isServer_c (n : Int) : AC Tryz.prog 212 [.it .i64 n] [] (.bo (isServer n)) [] := by
 refine AC.enter [170] [] Tryz.func212 rfl (by decide) (by decide) (Nat.le_of_ble_eq_true rfl) (by kernel_rfl) ?_; refine zev ?_
 refine run ?_
 refine cp (iwithin_c n 0 19) ?_
 refine run ?_
 exact er0
theorem isTime_c (n : Int) : AC Tryz.prog 130 [.it .i64 n] [] (.bo (isTime n)) [] := by
 refine AC.enter [170] [] Tryz.func130 rfl (by decide) (by decide) (Nat.le_of_ble_eq_true rfl) (by kernel_rfl) ?_; refine zev ?_
 refine run ?_
 refine cp (iwithin_c n 0 1099511627776) ?_
 refine run ?_
 exact er0
theorem iisDigest_c (s : By) : AC Tryz.prog 211 [.st s] [] (.bo (dig s)) [] := by
 refine AC.enter [] [] Tryz.func211 rfl (by decide) (by decide) (Nat.le_of_ble_eq_true rfl) (by kernel_rfl) ?_; refine zev ?_
 rw [dig_eq]
 refine run ?_
 exact er0
theorem rightSig_c (s : Sig) : AC Tryz.prog 213 [sigV s] [] (.bo (sigR s)) [] := by
 refine AC.enter [170] [] Tryz.func213 rfl (by decide) (by decide) (Nat.le_of_ble_eq_true rfl) (by kernel_rfl) ?_; refine zev ?_
 unfold sigR
 refine run ?_
 refine cp (iwithin_c s.e 0 2305843009213693949) ?_
 cases h1 : wi s.e 0 2305843009213693949 with
 | false => refine run ?_; exact er0
 | true =>
  refine run ?_
  refine cp (iwithin_c s.s 0 2305843009213693949) ?_
  refine run ?_
  exact er0
theorem rightClaim_c (c : It.Claim) (ha : c.actor.length ≤ 140737488355328) : AC Tryz.prog 172 [claimV c] [] (.bo (rightClaim c)) [] := by
 refine AC.enter [206, 170, 211, 212, 130, 213] [] Tryz.func172 rfl (by decide) (by decide) (Nat.le_of_ble_eq_true rfl) (by kernel_rfl) ?_; refine zev ?_
 unfold rightClaim
 refine run ?_
 refine cp (idright_c c.actor ha) ?_
 cases h0 : idR c.actor with
 | false => refine run ?_; exact er0
 | true =>
  refine run ?_
  refine cp (iwithin_c c.base 1 1073741824) ?_
  cases h1 : wi c.base 1 1073741824 with
  | false => refine run ?_; exact er0
  | true =>
   refine run ?_
   refine cp (iisDigest_c c.prev) ?_
   cases h2 : dig c.prev with
   | false => refine run ?_; exact er0
   | true =>
    refine run ?_
    refine cp (iwithin_c c.gen 0 1073741824) ?_
    cases h3 : wi c.gen 0 1073741824 with
    | false => refine run ?_; exact er0
    | true =>
     refine run ?_
     refine cp (isServer_c c.home) ?_
     cases h4 : isServer c.home with
     | false => refine run ?_; exact er0
     | true =>
      refine run ?_
      refine cp (iwithin_c c.pub 1 2305843009213693950) ?_
      cases h5 : wi c.pub 1 2305843009213693950 with
      | false => refine run ?_; exact er0
      | true =>
       refine run ?_
       refine cp (isTime_c c.time) ?_
       cases h6 : isTime c.time with
       | false => refine run ?_; exact er0
       | true =>
        refine run ?_
        refine cp (rightSig_c c.sig) ?_
        refine run ?_
        exact er0
theorem rightBallot_c (b : It.Ballot) (ha : b.actor.length ≤ 140737488355328) : AC Tryz.prog 173 [ballotV b] [] (.bo (rightBallot b)) [] := by
 refine AC.enter [206, 170, 211, 212, 130, 213] [] Tryz.func173 rfl (by decide) (by decide) (Nat.le_of_ble_eq_true rfl) (by kernel_rfl) ?_; refine zev ?_
 unfold rightBallot
 refine run ?_
 refine cp (isServer_c b.server) ?_
 cases h0 : isServer b.server with
 | false => refine run ?_; exact er0
 | true =>
  refine run ?_
  refine cp (idright_c b.actor ha) ?_
  cases h1 : idR b.actor with
  | false => refine run ?_; exact er0
  | true =>
   refine run ?_
   refine cp (iwithin_c b.gen 0 1073741824) ?_
   cases h2 : wi b.gen 0 1073741824 with
   | false => refine run ?_; exact er0
   | true =>
    refine run ?_
    refine cp (iisDigest_c b.claim) ?_
    cases h3 : dig b.claim with
    | false => refine run ?_; exact er0
    | true =>
     refine run ?_
     refine cp (isTime_c b.time) ?_
     cases h4 : isTime b.time with
     | false => refine run ?_; exact er0
     | true =>
      refine run ?_
      refine cp (rightSig_c b.sig) ?_
      refine run ?_
      exact er0
structure Dz (d : It.Decision) : Prop where
 actor : d.actor.length ≤ 140737488355328
 to : d.to.length ≤ 140737488355328
 tos : ∀ s ∈ d.to, s.length ≤ 140737488355328
theorem plain_eq (d : It.Decision) : plainD d = (if (d.to.length : Int) = 0 then (d.n == 0) else false) := by
 unfold plainD
 by_cases h : d.to = []
 ·rw [decide_eq_true h, if_pos (by rw [h]; rfl)]
  rfl
 ·rw [decide_eq_false h, if_neg (by have := List.length_pos_iff.2 h; omega)]
  rfl
set_option maxHeartbeats 8000000 in
theorem rightTerms_c (d : It.Decision) (h : Dz d) : AC Tryz.prog 214 [decisionV d] [] (.bo (rightTerms d)) [] := by
 refine AC.enter [206, 211, 243, 170] [] Tryz.func214 rfl (by decide) (by decide) (Nat.le_of_ble_eq_true rfl) (by kernel_rfl) ?_; refine zev ?_
 have hn := nilD
 have hs : decide ((d.text.length : Int) ≤ 500) = short d.text := (short_eq d.text).symm
 have hl : decide ((d.text.length : Int) ≤ 4096) = decide (d.text.length ≤ 4096) := by
  rw [Bool.eq_iff_iff]
  simp only [decide_eq_true_eq]
  omega
 obtain ⟨p, hp⟩ : ∃ p, plainD d = p := ⟨_, rfl⟩
 have hpe := plain_eq d
 rw [hp] at hpe
 unfold rightTerms
 rw [hp]
 have k1 := idright_c d.actor h.actor
 have k2 := iisDigest_c d.object
 have k3 := ids_c d.to h.tos h.to
 have k4 := iwithin_c d.n 1 d.to.length
 generalize short d.text = sh at *
 generalize decide (d.text.length ≤ 4096) = lg at *
 by_cases hto : (d.to.length : Int) = 0
 focus
  rw [if_pos hto] at hpe
  have hpe := hpe.symm
 rotate_left
 focus
  rw [if_neg hto] at hpe
  subst hpe
  have hpe : d.n = d.n := rfl
 all_goals
  by_cases c1 : d.kind = 0 ∨ d.kind = 1 ∨ d.kind = 4 ∨ d.kind = 6 ∨ d.kind = 7
  focus
   rw [if_pos c1]
   rcases c1 with c | c | c | c | c
   all_goals
    refine runf (an @hs (an @hl @hpe)) ?_
    refine cp k1 ?_
    cases h1 : idR d.actor with
    | false => refine run ?_; exact er0
    | true =>
     by_cases h2 : d.object = []
     ·try rw [decide_eq_true h2]
      refine runf (an @hn @h2) ?_
      cases sh with
      | false => refine run ?_; exact er0
      | true => refine run ?_; exact er0
     ·try rw [decide_eq_false h2]
      refine runf (an @hn @h2) ?_
      exact er0
  rw [if_neg c1]
  by_cases c2 : d.kind = 2 ∨ d.kind = 3 ∨ d.kind = 5
  focus
   rw [if_pos c2]
   rcases c2 with c | c | c
   all_goals
    by_cases h2 : d.actor = []
    rotate_left
    ·try rw [decide_eq_false h2]
     refine runf (an @hs (an @hl (an @hpe (an @hn @h2)))) ?_
     exact er0
    try rw [decide_eq_true h2]
    have h2' : (d.actor == []) = true := by rw [h2]; rfl
    refine runf (an @hs (an @hl (an @hpe @h2'))) ?_
    refine cp k2 ?_
    cases h3 : dig d.object with
    | false => refine run ?_; exact er0
    | true =>
     cases sh with
     | false => refine run ?_; exact er0
     | true => refine run ?_; exact er0
  rw [if_neg c2]
  by_cases c3 : d.kind = 8
  focus
   rw [if_pos c3]
   by_cases h2 : d.actor = []
   rotate_left
   ·try rw [decide_eq_false h2]
    refine runf (an @hs (an @hl (an @hpe (an @hn @h2)))) ?_
    exact er0
   try rw [decide_eq_true h2]
   have h2' : (d.actor == []) = true := by rw [h2]; rfl
   by_cases h3 : d.object = []
   rotate_left
   ·try rw [decide_eq_false h3]
    refine runf (an @hs (an @hl (an @hpe (an @hn (an @h2' @h3))))) ?_
    exact er0
   try rw [decide_eq_true h3]
   have h3' : (d.object == []) = true := by rw [h3]; rfl
   cases sh with
   | false => refine runf (an @hs (an @hl (an @hpe (an @h2' @h3')))) ?_; exact er0
   | true =>
    refine runf (an @hs (an @hl (an @hpe (an @h2' @h3')))) ?_
    refine cp k3 ?_
    cases h4 : idsR d.to with
    | false => refine run ?_; exact er0
    | true =>
     refine run ?_
     refine cp k4 ?_
     refine run ?_
     exact er0
  rw [if_neg c3]
  by_cases c4 : d.kind = 9
  focus
   rw [if_pos c4]
   by_cases h2 : d.actor = []
   rotate_left
   ·try rw [decide_eq_false h2]
    refine runf (an @hs (an @hl (an @hpe (an @hn @h2)))) ?_
    exact er0
   try rw [decide_eq_true h2]
   have h2' : (d.actor == []) = true := by rw [h2]; rfl
   by_cases h3 : d.object = []
   rotate_left
   ·try rw [decide_eq_false h3]
    refine runf (an @hs (an @hl (an @hpe (an @hn (an @h2' @h3))))) ?_
    exact er0
   try rw [decide_eq_true h3]
   have h3' : (d.object == []) = true := by rw [h3]; rfl
   cases lg with
   | false => refine runf (an @hs (an @hl (an @hpe (an @h2' @h3')))) ?_; exact er0
   | true => refine runf (an @hs (an @hl (an @hpe (an @h2' @h3')))) ?_; exact er0
  rw [if_neg c4]
  refine runf (an @hs (an @hl @hpe)) ?_
  exact er0
theorem rightDecision_c (d : It.Decision) (h : Dz d) : AC Tryz.prog 174 [decisionV d] [] (.bo (rightDecision d)) [] := by
 refine AC.enter [212, 170, 130, 214, 213] [] Tryz.func174 rfl (by decide) (by decide) (Nat.le_of_ble_eq_true rfl) (by kernel_rfl) ?_; refine zev ?_
 unfold rightDecision
 refine run ?_
 refine cp (isServer_c d.server) ?_
 cases h0 : isServer d.server with
 | false => refine run ?_; exact er0
 | true =>
  refine run ?_
  refine cp (iwithin_c d.number 0 1073741824) ?_
  cases h1 : wi d.number 0 1073741824 with
  | false => refine run ?_; exact er0
  | true =>
   refine run ?_
   refine cp (isTime_c d.frm) ?_
   cases h2 : isTime d.frm with
   | false => refine run ?_; exact er0
   | true =>
    refine run ?_
    refine cp (isTime_c d.til) ?_
    cases h3 : isTime d.til with
    | false => refine run ?_; exact er0
    | true =>
     by_cases h4 : d.frm < d.til
     rotate_left
     ·rw [decide_eq_false h4]
      refine run ?_
      exact er0
     rw [decide_eq_true h4]
     refine run ?_
     refine cp (rightTerms_c d h) ?_
     cases h5 : rightTerms d with
     | false => refine run ?_; exact er0
     | true =>
      refine run ?_
      refine cp (rightSig_c d.sig) ?_
      refine run ?_
      exact er0
structure Iz (i : It.Item) : Prop where
 act : Sz i.act
 claim : i.claim.actor.length ≤ 140737488355328
 ballot : i.ballot.actor.length ≤ 140737488355328
 decision : Dz i.decision
theorem Iz.lz {i : It.Item} (h : Iz i) : Lz i := ⟨h.act.to, h.act.wraps, h.decision.to⟩
theorem lz0 : Lz item0 := ⟨by decide, by decide, by decide⟩
theorem rightI_c (i : It.Item) (h : Iz i) : AC Tryz.prog 131 [itemV i] [] (.bo (It.right i)) [] := by
 refine AC.enter [171, 172, 173, 174, 112] [] Tryz.func131 rfl (by decide) (by decide) (Nat.le_of_ble_eq_true rfl) (by kernel_rfl) ?_; refine zev ?_
 have hl := h.lz
 unfold It.right rightField rest
 have lz : ∀ j : It.Item, (j.act = i.act ∨ j.act = act0) → (j.decision = i.decision ∨ j.decision = decision0) → Lz j := fun j h1 h2 => by
  refine ⟨?_, ?_, ?_⟩
  ·rcases h1 with e | e <;> rw [e]; exact hl.to; exact by decide
  ·rcases h1 with e | e <;> rw [e]; exact hl.wraps; exact by decide
  ·rcases h2 with e | e <;> rw [e]; exact hl.dto; exact by decide
 by_cases h0 : i.kind = 0
 ·rw [if_pos h0, if_pos h0]
  have ks : AC _ _ [itemV { i with kind := 0, act := act0 }, itemV item0] [] _ [] := sameI_c { i with kind := 0, act := act0 } item0 (lz _ (.inr rfl) (.inl rfl)) lz0
  refine run ?_
  refine cp (right_c i.act h.act) ?_
  cases hr : Ac.right i.act with
  | false => refine run ?_; exact er0
  | true =>
   refine run ?_
   refine cp ks ?_
   refine run ?_
   exact er0
 rw [if_neg h0, if_neg h0]
 by_cases h1 : i.kind = 1
 ·rw [if_pos h1, if_pos h1]
  have ks : AC _ _ [itemV { i with kind := 0, claim := claim0 }, itemV item0] [] _ [] := sameI_c { i with kind := 0, claim := claim0 } item0 (lz _ (.inl rfl) (.inl rfl)) lz0
  refine run ?_
  refine cp (rightClaim_c i.claim h.claim) ?_
  cases hr : rightClaim i.claim with
  | false => refine run ?_; exact er0
  | true =>
   refine run ?_
   refine cp ks ?_
   refine run ?_
   exact er0
 rw [if_neg h1, if_neg h1]
 by_cases h2 : i.kind = 2
 ·rw [if_pos h2, if_pos h2]
  have ks : AC _ _ [itemV { i with kind := 0, ballot := ballot0 }, itemV item0] [] _ [] := sameI_c { i with kind := 0, ballot := ballot0 } item0 (lz _ (.inl rfl) (.inl rfl)) lz0
  refine run ?_
  refine cp (rightBallot_c i.ballot h.ballot) ?_
  cases hr : rightBallot i.ballot with
  | false => refine run ?_; exact er0
  | true =>
   refine run ?_
   refine cp ks ?_
   refine run ?_
   exact er0
 rw [if_neg h2, if_neg h2]
 by_cases h3 : i.kind = 3
 ·rw [if_pos h3, if_pos h3]
  have ks : AC _ _ [itemV { i with kind := 0, decision := decision0 }, itemV item0] [] _ [] := sameI_c { i with kind := 0, decision := decision0 } item0 (lz _ (.inl rfl) (.inr rfl)) lz0
  refine run ?_
  refine cp (rightDecision_c i.decision h.decision) ?_
  cases hr : rightDecision i.decision with
  | false => refine run ?_; exact er0
  | true =>
   refine run ?_
   refine cp ks ?_
   refine run ?_
   exact er0
 ·rw [if_neg h3]
  refine run ?_
  exact er0
theorem Weak.reserveC [Tab] (N0 : Nat) {e : Env} {S : Store} (l : Nat) {es : List AV} (hS : S[l]? = some (.cells [.sl .full es])) (ty : TypeId) (sz : Nat) : Weak N0 e S e (S.set l (.cells [.sl (.own S.length) es]) ++ [.buf es.length ty sz]) := by
 rintro N w0 g0 a w hn ⟨h1, h2, g, h3, h4, h5⟩
 obtain ⟨g', h6, h7, h8, h9, h10⟩ := h3.reserve es.length ty sz
 have hlS := (List.getElem?_eq_some_iff.1 hS).1
 have hn3 := h3.nid
 have hn6 := h6.nid
 rw [List.length_append, List.length_singleton] at hn6
 refine ⟨h1, h2, g', ⟨by rw [List.length_append, List.length_set, List.length_singleton]; exact hn6, fun k o hk => ?_, h6.disj, h6.lt, h6.tab⟩, fun t => (h4 t).le h7.toLe, h5.trans h7⟩
 by_cases hkl : k = l
 ·subst hkl
  rw [List.getElem?_append_left (by rw [List.length_set]; exact hlS), List.getElem?_set_self hlS] at hk
  cases hk
  obtain ⟨k1, k2, k3, arr, T, fr, k4, k5, k6, k7, k8⟩ := h6.obj k (.cells [.sl .full es]) (get_app hS _)
  refine ⟨k1, k2, k3, arr, T, fr, k4, k5, by simpa using k6, k7, fun j u v hu hv => ?_⟩
  cases j with
  | zero =>
   simp only [List.getElem?_cons_zero, Option.some.injEq] at hu
   subst hu
   refine (k8 0 _ v rfl hv).own_full (by omega) ?_ ?_
   ·rw [← hn3]; exact h9
   ·rw [← hn3]; exact h10
  | succ j => simp at hu
 ·refine h6.obj k o ?_
  by_cases hkS : k < S.length
  ·rw [List.getElem?_append_left (by rw [List.length_set]; exact hkS), List.getElem?_set_ne (Ne.symm hkl)] at hk
   rw [List.getElem?_append_left hkS]
   exact hk
  ·rw [List.getElem?_append_right (by rw [List.length_set]; omega), List.length_set] at hk
   rw [List.getElem?_append_right (by omega)]
   exact hk
abbrev BV (ty : TypeId) (acc : By) : Store := [.cells [.sl (.own 1) (acc.map u8)], .buf acc.length ty 1]
section
variable [Tab] {P : Program} {pf rf : List FuncId} {e : Env} {f : FuncId} {d : Option Nat} {rest : List AO} {K : Env → Store → Prop}
theorem cb {args gargs : List AV} {T : Store} {acc acc' : By} {v : AV} {ty : TypeId} (l l' : Nat) (h : AC P f (.ptr 0 0 :: args) (BV ty acc) v (BV ty acc'))
  (h' : ARg P pf rf rest (put e d v) ((T.set l (.cells [.sl (.own l') (acc'.map u8)])).set l' (.buf acc'.length ty 1)) K)
  (ha : args.all (AV.ok 0) = true := by rfl) (hv : v.ok 0 = true := by rfl) (hne : l ≠ l' := by decide) (hT : T[l]? = some (.cells [.sl (.own l') (acc.map u8)]) := by rfl) (hT' : T[l']? = some (.buf acc.length ty 1) := by rfl)
  (hg : gargs.map AV.wk = .ptr l 0 :: args := by rfl) : callP (AnyC P f gargs T) (ARgk P pf rf d rest e K) := by
 refine call_mk (show AC P f (gargs.map AV.wk) T v _ from ?_) h'
 rw [hg]
 have ha1 : ∀ u ∈ args, u.ok 2 = true := fun u hu => ok_mono (List.all_eq_true.1 ha u hu) (Nat.zero_le 2)
 have := h.frame (T := T) [l, l'] (subOk_two l l' hne rfl rfl hT hT') (by simp only [List.all_cons, Bool.and_eq_true]; exact ⟨rfl, List.all_eq_true.2 ha1⟩) (ok_mono hv (Nat.zero_le 2)) (fun i o hi => by
  match i, hi with
  | 0, hi => cases hi; rfl
  | 1, hi => cases hi; rfl)
 rw [List.map_cons, ren_all ha, ren_id hv (fun i hi => absurd hi (Nat.not_lt_zero _))] at this
 simpa [after, setAll, ext, idx, SObj.ren, AV.r1, AV.r0, Mode.ren, AV.ren, AV.r2] using this
theorem cb0 {args gargs : List AV} {T : Store} {acc' : By} {v : AV} {ty : TypeId} (l : Nat) (h : AC P f (.ptr 0 0 :: args) [.cells [.sl .full []]] v (BV ty acc'))
  (h' : ARg P pf rf rest (put e d v) (T.set l (.cells [.sl (.own T.length) (acc'.map u8)]) ++ [.buf acc'.length ty 1]) K)
  (ha : args.all (AV.ok 0) = true := by rfl) (hv : v.ok 0 = true := by rfl) (hT : T[l]? = some (.cells [.sl .full []]) := by rfl)
  (hg : gargs.map AV.wk = .ptr l 0 :: args := by rfl) : callP (AnyC P f gargs T) (ARgk P pf rf d rest e K) := by
 refine call_mk (show AC P f (gargs.map AV.wk) T v _ from ?_) h'
 rw [hg]
 have ha1 : ∀ u ∈ args, u.ok 1 = true := fun u hu => ok_mono (List.all_eq_true.1 ha u hu) (Nat.zero_le 1)
 have := h.frame (T := T) [l] (subOk_one l rfl hT) (by simp only [List.all_cons, Bool.and_eq_true]; exact ⟨rfl, List.all_eq_true.2 ha1⟩) (ok_mono hv (Nat.zero_le 2)) (fun i o hi => by
  match i, hi with
  | 0, hi => cases hi; rfl
  | 1, hi => cases hi; rfl)
 rw [List.map_cons, ren_all ha, ren_id hv (fun i hi => absurd hi (Nat.not_lt_zero _))] at this
 simpa [after, setAll, ext, idx, SObj.ren, AV.r1, AV.r0, Mode.ren, AV.ren, AV.r2] using this
theorem en2 {rs : List ResultVar} {v : AV} {S : Store} {o o' : SObj} {vs : List AV} {N0 : Nat} (hn : [0, 1].take N0 = List.range N0) (h : aRes P rs e S = some vs := by rfl) (ho : o.ok 2 = true := by rfl) (ho' : o'.ok 2 = true := by rfl)
  (hS : S[0]? = some (o.ren (idx [0, 1])) := by rfl) (hS' : S[1]? = some (o'.ren (idx [0, 1])) := by rfl) (hk : v.ok 2 = true := by rfl) (hv : resV vs = v.ren (idx [0, 1]) := by rfl) : finQ P rs N0 v [o, o'] .norm e S :=
 ⟨e, S, vs, [0, 1], Weak.refl N0 e S, h, subOk_two 0 1 (by decide) ho ho' hS hS', hn, hk, .inl hv⟩
end
theorem bv_app (ty : TypeId) (a b : By) : [SObj.cells [.sl (.own 1) (a.map u8 ++ b.map u8)], .buf (a.length + b.length) ty 1] = BV ty (a ++ b) := by
 show _ = [SObj.cells [.sl (.own 1) ((a ++ b).map u8)], .buf (a ++ b).length ty 1]
 rw [List.map_append, List.length_append]
theorem flat_step {α : Type} (g : α → By) {l : List α} {k : Nat} (hk : k < l.length) : ((l.take (k + 1)).map g).flatten = ((l.take k).map g).flatten ++ g l[k] := by
 rw [List.take_succ_eq_append_getElem hk, List.map_append, List.flatten_append]
 congr 1
 exact List.append_nil _
theorem flat_bound {α : Type} (g : α → By) (l : List α) (B k : Nat) (h : ∀ x ∈ l, (g x).length ≤ B) : ((l.take k).map g).flatten.length ≤ k * B := by
 induction l generalizing k with
 | nil => simp
 | cons a l ih =>
  cases k with
  | zero => simp
  | succ k =>
   have h1 := h a (by simp)
   have h2 := ih k fun x hx => h x (by simp [hx])
   simp only [List.take_succ_cons, List.map_cons, List.flatten_cons, List.length_append, Nat.succ_mul]
   omega
theorem nums_c (l : List Int) (acc : By) (hl : l.length ≤ 100) (h : ∀ x ∈ l, -9223372036854775808 ≤ x ∧ x ≤ 9223372036854775807) (hac : acc.length ≤ 1000000000) : AC Tryz.prog 175 [.ptr 0 0, .sl .ro (l.map (AV.it .i64))] (BV 5 acc) (.tup []) (BV 5 (acc ++ (l.map numI).flatten)) := by
 refine AC.enter [75] [] Tryz.func175 rfl (by decide) (by decide) (Nat.le_of_ble_eq_true rfl) (by kernel_rfl) ?_; refine zev ?_
 refine run ?_
 refine loop_mk' (fun m e S => e 0 = .ptr 0 0 ∧ e 6 = .sl .ro (l.map (AV.it .i64)) ∧ e 7 = .it .i64 (l.length : Int) ∧ ∃ (k : Nat) (cur : By), e 8 = .it .i64 (k : Int) ∧ S = BV 5 cur ∧ cur = acc ++ ((l.take k).map numI).flatten ∧ k ≤ l.length ∧ m = l.length - k) l.length _ _ (Weak.refl 2 _ _)
  ⟨zsl, zsl, zsl, 0, acc, zsl, rfl, by simp, by omega, rfl⟩ ?_
 rintro m e S ⟨s0, s6, s7, k, cur, s8, rfl, hcur, hk, rfl⟩
 have hb := flat_bound numI l 9 k (fun x hx => numI_le x (by have := h x hx; omega))
 have hk100 : k * 9 ≤ 100 * 9 := Nat.mul_le_mul_right _ (by omega)
 have hcl : cur.length ≤ 1000000000 + 100 * 9 := by rw [hcur]; rw [List.length_append]; omega
 by_cases hlt : k < l.length
 rotate_left
 ·obtain rfl : k = l.length := by omega
  rw [List.take_length] at hcur
  rw [← hcur]
  refine runf (an @s0 (an @s6 (an @s7 @s8))) ?_
  exact en2 rfl
 have hg : l[k]? = some l[k] := List.getElem?_eq_getElem hlt
 have hx := h l[k] (List.getElem_mem hlt)
 have hst := flat_step numI hlt
 have hbx := ((fun x hx => numI_le x (by have := h x hx; omega))) l[k] (List.getElem_mem hlt)
 generalize l[k] = x at *
 have hsz : allSz 1 (l.map (AV.it .i64)) = true := allSz_map 1 _ (fun _ => rfl) _
 refine runf (an @s0 (an @s6 (an @s7 (an @s8 (an @hg @hsz))))) ?_
 refine cp (num_c x (by omega) (by omega)) ?_
 refine runf (an @s0 (an @s6 (an @s7 @s8))) ?_
 exact round_mk (l.length - (k + 1)) (by omega) ⟨zsl, zsl, zsl, k + 1, cur ++ numI x, zsl, bv_app _ _ _, by rw [hst, hcur]; rw [List.append_assoc], by omega, rfl⟩
theorem nums0_c (l : List Int) (hl : l.length ≤ 100) (h : ∀ x ∈ l, -9223372036854775808 ≤ x ∧ x ≤ 9223372036854775807) : AC Tryz.prog 175 [.ptr 0 0, .sl .ro (l.map (AV.it .i64))] [.cells [.sl .full []]] (.tup []) (BV 5 ((l.map numI).flatten)) := by
 refine AC.enter [75] [] Tryz.func175 rfl (by decide) (by decide) (Nat.le_of_ble_eq_true rfl) (by kernel_rfl) ?_; refine zev ?_
 refine run ?_
 refine loop_mk' (fun m e S => e 0 = .ptr 0 0 ∧ e 6 = .sl .ro (l.map (AV.it .i64)) ∧ e 7 = .it .i64 (l.length : Int) ∧ ∃ (k : Nat) (cur : By), e 8 = .it .i64 (k : Int) ∧ S = BV 5 cur ∧ cur = ((l.take k).map numI).flatten ∧ k ≤ l.length ∧ m = l.length - k) l.length _ _ (Weak.reserveC 1 0 (es := []) (by rfl) 5 1)
  ⟨zsl, zsl, zsl, 0, [], zsl, rfl, by simp, by omega, rfl⟩ ?_
 rintro m e S ⟨s0, s6, s7, k, cur, s8, rfl, hcur, hk, rfl⟩
 have hb := flat_bound numI l 9 k (fun x hx => numI_le x (by have := h x hx; omega))
 have hk100 : k * 9 ≤ 100 * 9 := Nat.mul_le_mul_right _ (by omega)
 have hcl : cur.length ≤ 100 * 9 := by rw [hcur]; exact Nat.le_trans hb hk100
 by_cases hlt : k < l.length
 rotate_left
 ·obtain rfl : k = l.length := by omega
  rw [List.take_length] at hcur
  rw [← hcur]
  refine runf (an @s0 (an @s6 (an @s7 @s8))) ?_
  exact en2 rfl
 have hg : l[k]? = some l[k] := List.getElem?_eq_getElem hlt
 have hx := h l[k] (List.getElem_mem hlt)
 have hst := flat_step numI hlt
 have hbx := ((fun x hx => numI_le x (by have := h x hx; omega))) l[k] (List.getElem_mem hlt)
 generalize l[k] = x at *
 have hsz : allSz 1 (l.map (AV.it .i64)) = true := allSz_map 1 _ (fun _ => rfl) _
 refine runf (an @s0 (an @s6 (an @s7 (an @s8 (an @hg @hsz))))) ?_
 refine cp (num_c x (by omega) (by omega)) ?_
 refine runf (an @s0 (an @s6 (an @s7 @s8))) ?_
 exact round_mk (l.length - (k + 1)) (by omega) ⟨zsl, zsl, zsl, k + 1, cur ++ numI x, zsl, bv_app _ _ _, by rw [hst, hcur], by omega, rfl⟩
theorem texts_c (l : List By) (acc : By) (hl : l.length ≤ 100) (h : ∀ x ∈ l, x.length ≤ 1000000) (hac : acc.length ≤ 1000000000) : AC Tryz.prog 155 [.ptr 0 0, sls l] (BV 5 acc) (.tup []) (BV 5 (acc ++ (l.map text).flatten)) := by
 refine AC.enter [74] [] Tryz.func155 rfl (by decide) (by decide) (Nat.le_of_ble_eq_true rfl) (by kernel_rfl) ?_; refine zev ?_
 refine run ?_
 refine loop_mk' (fun m e S => e 0 = .ptr 0 0 ∧ e 6 = sls l ∧ e 7 = .it .i64 (l.length : Int) ∧ ∃ (k : Nat) (cur : By), e 8 = .it .i64 (k : Int) ∧ S = BV 5 cur ∧ cur = acc ++ ((l.take k).map text).flatten ∧ k ≤ l.length ∧ m = l.length - k) l.length _ _ (Weak.refl 2 _ _)
  ⟨zsl, zsl, zsl, 0, acc, zsl, rfl, by simp, by omega, rfl⟩ ?_
 rintro m e S ⟨s0, s6, s7, k, cur, s8, rfl, hcur, hk, rfl⟩
 have hb := flat_bound text l 1000009 k (fun x hx => text_len (h x hx))
 have hk100 : k * 1000009 ≤ 100 * 1000009 := Nat.mul_le_mul_right _ (by omega)
 have hcl : cur.length ≤ 1000000000 + 100 * 1000009 := by rw [hcur]; rw [List.length_append]; omega
 by_cases hlt : k < l.length
 rotate_left
 ·obtain rfl : k = l.length := by omega
  rw [List.take_length] at hcur
  rw [← hcur]
  refine runf (an @s0 (an @s6 (an @s7 @s8))) ?_
  exact en2 rfl
 have hg : l[k]? = some l[k] := List.getElem?_eq_getElem hlt
 have hx := h l[k] (List.getElem_mem hlt)
 have hst := flat_step text hlt
 have hbx := ((fun x hx => text_len (h x hx))) l[k] (List.getElem_mem hlt)
 generalize l[k] = x at *
 have hsz : allSz 1 (l.map AV.st) = true := allSz_map 1 _ (fun _ => rfl) _
 refine runf (an @s0 (an @s6 (an @s7 (an @s8 (an @hg @hsz))))) ?_
 refine cp (text_c x (by omega)) ?_
 refine runf (an @s0 (an @s6 (an @s7 @s8))) ?_
 exact round_mk (l.length - (k + 1)) (by omega) ⟨zsl, zsl, zsl, k + 1, cur ++ text x, zsl, bv_app _ _ _, by rw [hst, hcur]; rw [List.append_assoc], by omega, rfl⟩
theorem texts0_c (l : List By) (hl : l.length ≤ 100) (h : ∀ x ∈ l, x.length ≤ 1000000) : AC Tryz.prog 155 [.ptr 0 0, sls l] [.cells [.sl .full []]] (.tup []) (BV 5 ((l.map text).flatten)) := by
 refine AC.enter [74] [] Tryz.func155 rfl (by decide) (by decide) (Nat.le_of_ble_eq_true rfl) (by kernel_rfl) ?_; refine zev ?_
 refine run ?_
 refine loop_mk' (fun m e S => e 0 = .ptr 0 0 ∧ e 6 = sls l ∧ e 7 = .it .i64 (l.length : Int) ∧ ∃ (k : Nat) (cur : By), e 8 = .it .i64 (k : Int) ∧ S = BV 5 cur ∧ cur = ((l.take k).map text).flatten ∧ k ≤ l.length ∧ m = l.length - k) l.length _ _ (Weak.reserveC 1 0 (es := []) (by rfl) 5 1)
  ⟨zsl, zsl, zsl, 0, [], zsl, rfl, by simp, by omega, rfl⟩ ?_
 rintro m e S ⟨s0, s6, s7, k, cur, s8, rfl, hcur, hk, rfl⟩
 have hb := flat_bound text l 1000009 k (fun x hx => text_len (h x hx))
 have hk100 : k * 1000009 ≤ 100 * 1000009 := Nat.mul_le_mul_right _ (by omega)
 have hcl : cur.length ≤ 100 * 1000009 := by rw [hcur]; exact Nat.le_trans hb hk100
 by_cases hlt : k < l.length
 rotate_left
 ·obtain rfl : k = l.length := by omega
  rw [List.take_length] at hcur
  rw [← hcur]
  refine runf (an @s0 (an @s6 (an @s7 @s8))) ?_
  exact en2 rfl
 have hg : l[k]? = some l[k] := List.getElem?_eq_getElem hlt
 have hx := h l[k] (List.getElem_mem hlt)
 have hst := flat_step text hlt
 have hbx := ((fun x hx => text_len (h x hx))) l[k] (List.getElem_mem hlt)
 generalize l[k] = x at *
 have hsz : allSz 1 (l.map AV.st) = true := allSz_map 1 _ (fun _ => rfl) _
 refine runf (an @s0 (an @s6 (an @s7 (an @s8 (an @hg @hsz))))) ?_
 refine cp (text_c x (by omega)) ?_
 refine runf (an @s0 (an @s6 (an @s7 @s8))) ?_
 exact round_mk (l.length - (k + 1)) (by omega) ⟨zsl, zsl, zsl, k + 1, cur ++ text x, zsl, bv_app _ _ _, by rw [hst, hcur], by omega, rfl⟩
structure Ez (i : It.Item) : Prop where
 c : i.claim.actor.length ≤ 1000000 ∧ i.claim.prev.length ≤ 1000000
 ci : ∀ x ∈ [i.claim.base, i.claim.gen, i.claim.home, i.claim.pub, i.claim.time], -9223372036854775808 ≤ x ∧ x ≤ 9223372036854775807
 b : i.ballot.actor.length ≤ 1000000 ∧ i.ballot.claim.length ≤ 1000000
 bi : ∀ x ∈ [i.ballot.server, i.ballot.gen, i.ballot.time], -9223372036854775808 ≤ x ∧ x ≤ 9223372036854775807
 d : i.decision.actor.length ≤ 1000000 ∧ i.decision.object.length ≤ 1000000 ∧ i.decision.text.length ≤ 1000000
 dt : i.decision.to.length ≤ 1000000 ∧ ∀ s ∈ i.decision.to, s.length ≤ 1000000
 di : ∀ x ∈ [i.decision.server, i.decision.number, i.decision.kind, i.decision.n, i.decision.frm, i.decision.til], -9223372036854775808 ≤ x ∧ x ≤ 9223372036854775807
theorem flat1 (g : Int → By) (a : Int) : ([a].map g).flatten = g a := by simp
theorem flat1t (a : By) : ([a].map text).flatten = text a := by simp
theorem bclaim_c (i : It.Item) (acc : By) (h : Ez i) (hac : acc.length ≤ 100000000) : AC Tryz.prog 197 [.ptr 0 0, itemV i] (BV 5 acc) (.tup []) (BV 5 (acc ++ claimB i.claim)) := by
 refine AC.enter [] [] Tryz.func197 rfl (by decide) (by decide) (Nat.le_of_ble_eq_true rfl) (by kernel_rfl) ?_; refine zev ?_
 have h1 := h.c
 have h2 := h.ci
 simp only [List.forall_mem_cons] at h2
 have l1 := text_len h1.1
 have l2 := numI_le i.claim.base (by omega)
 have l3 := text_len h1.2
 have k1 := texts_c [i.claim.actor] acc (by simp) (by simpa using h1.1) (by omega)
 have k2 := nums_c [i.claim.base] (acc ++ text i.claim.actor) (by simp) (by simp; omega) (by simp only [List.length_append]; omega)
 have k3 := texts_c [i.claim.prev] (acc ++ text i.claim.actor ++ numI i.claim.base) (by simp) (by simpa using h1.2) (by simp only [List.length_append]; omega)
 have k4 := nums_c [i.claim.gen, i.claim.home, i.claim.pub, i.claim.time] (acc ++ text i.claim.actor ++ numI i.claim.base ++ text i.claim.prev) (by simp) (by simp; omega) (by simp only [List.length_append]; omega)
 rw [flat1t] at k1 k3
 rw [flat1] at k2
 have he : acc ++ claimB i.claim = acc ++ text i.claim.actor ++ numI i.claim.base ++ text i.claim.prev ++ ([i.claim.gen, i.claim.home, i.claim.pub, i.claim.time].map numI).flatten := by
  unfold claimB
  simp
 rw [he]
 clear he l1 l2 l3 h1 h2
 generalize ([i.claim.gen, i.claim.home, i.claim.pub, i.claim.time].map numI).flatten = tl at *
 generalize acc ++ text i.claim.actor ++ numI i.claim.base ++ text i.claim.prev ++ tl = a4 at *
 generalize acc ++ text i.claim.actor ++ numI i.claim.base ++ text i.claim.prev = a3 at *
 generalize acc ++ text i.claim.actor ++ numI i.claim.base = a2 at *
 generalize acc ++ text i.claim.actor = a1 at *
 refine run ?_
 refine cb 0 1 k1 ?_
 refine run ?_
 refine cb 0 1 k2 ?_
 refine run ?_
 refine cb 0 1 k3 ?_
 refine run ?_
 refine cb 0 1 k4 ?_
 refine run ?_
 exact en2 rfl
theorem bballot_c (i : It.Item) (acc : By) (h : Ez i) (hac : acc.length ≤ 100000000) : AC Tryz.prog 198 [.ptr 0 0, itemV i] (BV 5 acc) (.tup []) (BV 5 (acc ++ ballotB i.ballot)) := by
 refine AC.enter [] [] Tryz.func198 rfl (by decide) (by decide) (Nat.le_of_ble_eq_true rfl) (by kernel_rfl) ?_; refine zev ?_
 have h1 := h.b
 have h2 := h.bi
 simp only [List.forall_mem_cons] at h2
 have l1 := numI_le i.ballot.server (by omega)
 have l2 := text_len h1.1
 have l3 := numI_le i.ballot.gen (by omega)
 have l4 := text_len h1.2
 have k1 := nums_c [i.ballot.server] acc (by simp) (by simp; omega) (by omega)
 have k2 := texts_c [i.ballot.actor] (acc ++ numI i.ballot.server) (by simp) (by simpa using h1.1) (by simp only [List.length_append]; omega)
 have k3 := nums_c [i.ballot.gen] (acc ++ numI i.ballot.server ++ text i.ballot.actor) (by simp) (by simp; omega) (by simp only [List.length_append]; omega)
 have k4 := texts_c [i.ballot.claim] (acc ++ numI i.ballot.server ++ text i.ballot.actor ++ numI i.ballot.gen) (by simp) (by simpa using h1.2) (by simp only [List.length_append]; omega)
 have k5 := nums_c [i.ballot.time] (acc ++ numI i.ballot.server ++ text i.ballot.actor ++ numI i.ballot.gen ++ text i.ballot.claim) (by simp) (by simp; omega) (by simp only [List.length_append]; omega)
 rw [flat1t] at k2 k4
 rw [flat1] at k1 k3 k5
 have he : acc ++ ballotB i.ballot = acc ++ numI i.ballot.server ++ text i.ballot.actor ++ numI i.ballot.gen ++ text i.ballot.claim ++ numI i.ballot.time := by
  unfold ballotB
  simp only [List.append_assoc]
 rw [he]
 clear he l1 l2 l3 l4 h1 h2
 generalize acc ++ numI i.ballot.server ++ text i.ballot.actor ++ numI i.ballot.gen ++ text i.ballot.claim ++ numI i.ballot.time = a5 at *
 generalize acc ++ numI i.ballot.server ++ text i.ballot.actor ++ numI i.ballot.gen ++ text i.ballot.claim = a4 at *
 generalize acc ++ numI i.ballot.server ++ text i.ballot.actor ++ numI i.ballot.gen = a3 at *
 generalize acc ++ numI i.ballot.server ++ text i.ballot.actor = a2 at *
 generalize acc ++ numI i.ballot.server = a1 at *
 refine run ?_
 refine cb 0 1 k1 ?_
 refine run ?_
 refine cb 0 1 k2 ?_
 refine run ?_
 refine cb 0 1 k3 ?_
 refine run ?_
 refine cb 0 1 k4 ?_
 refine run ?_
 refine cb 0 1 k5 ?_
 refine run ?_
 exact en2 rfl
theorem bdecision_c (i : It.Item) (acc : By) (h : Ez i) (hac : acc.length ≤ 100000000) (hlist : (list i.decision.to).length ≤ 100000000) : AC Tryz.prog 199 [.ptr 0 0, itemV i] (BV 5 acc) (.tup []) (BV 5 (acc ++ decisionB i.decision)) := by
 refine AC.enter2 [202] [] Tryz.func199 rfl (by decide) (by decide) (Nat.le_of_ble_eq_true rfl) (by kernel_rfl) ?_; refine zev ?_
 have h1 := h.d
 have h2 := h.di
 have h3 := h.dt
 simp only [List.forall_mem_cons] at h2
 have hx3 : ([i.decision.server, i.decision.number, i.decision.kind].map numI).flatten = numI i.decision.server ++ (numI i.decision.number ++ numI i.decision.kind) := by simp
 have hx4 : ([i.decision.actor, i.decision.object, i.decision.text].map text).flatten = text i.decision.actor ++ (text i.decision.object ++ text i.decision.text) := by simp
 have hx5 : ([i.decision.n, i.decision.frm, i.decision.til].map numI).flatten = numI i.decision.n ++ (numI i.decision.frm ++ numI i.decision.til) := by simp
 have n1 := numI_le i.decision.server (by omega)
 have n2 := numI_le i.decision.number (by omega)
 have n3 := numI_le i.decision.kind (by omega)
 have t1 := text_len h1.1
 have t2 := text_len h1.2.1
 have t3 := text_len h1.2.2
 have k1 := nums_c [i.decision.server, i.decision.number, i.decision.kind] acc (by simp) (by simp; omega) (by omega)
 rw [hx3] at k1
 have k2 := texts_c [i.decision.actor, i.decision.object, i.decision.text] (acc ++ (numI i.decision.server ++ (numI i.decision.number ++ numI i.decision.kind))) (by simp) (by simp; omega) (by simp only [List.length_append]; omega)
 rw [hx4] at k2
 have k3 := list_c i.decision.to h3.1 h3.2
 have he : acc ++ decisionB i.decision = acc ++ (numI i.decision.server ++ (numI i.decision.number ++ numI i.decision.kind)) ++ (text i.decision.actor ++ (text i.decision.object ++ text i.decision.text)) ++ list i.decision.to ++ (numI i.decision.n ++ (numI i.decision.frm ++ numI i.decision.til)) := by
  unfold decisionB
  simp only [List.append_assoc]
 rw [he]
 have hl1 : (acc ++ (numI i.decision.server ++ (numI i.decision.number ++ numI i.decision.kind)) ++ (text i.decision.actor ++ (text i.decision.object ++ text i.decision.text))).length ≤ 200000000 := by simp only [List.length_append]; omega
 have k4 := nums_c [i.decision.n, i.decision.frm, i.decision.til] (acc ++ (numI i.decision.server ++ (numI i.decision.number ++ numI i.decision.kind)) ++ (text i.decision.actor ++ (text i.decision.object ++ text i.decision.text)) ++ list i.decision.to) (by simp) (by simp; omega) (by rw [List.length_append]; omega)
 rw [hx5] at k4
 generalize acc ++ (numI i.decision.server ++ (numI i.decision.number ++ numI i.decision.kind)) ++ (text i.decision.actor ++ (text i.decision.object ++ text i.decision.text)) = a2 at *
 generalize acc ++ (numI i.decision.server ++ (numI i.decision.number ++ numI i.decision.kind)) = a1 at *
 generalize list i.decision.to = li at *
 generalize numI i.decision.n ++ (numI i.decision.frm ++ numI i.decision.til) = tl at *
 have hmap : a2.map u8 ++ li.map u8 = (a2 ++ li).map u8 := List.map_append.symm
 have hlen : a2.length + li.length = (a2 ++ li).length := List.length_append.symm
 clear n1 n2 n3 t1 t2 t3 he hx3 hx4 hx5
 generalize a2 ++ li = a3 at *
 generalize a3 ++ tl = a4 at *
 refine run ?_
 refine cb 0 1 k1 ?_
 refine run ?_
 refine cb 0 1 k2 ?_
 refine run ?_
 refine cp k3 ?_
 refine runf (an @hmap @hlen) ?_
 refine cb 0 1 k4 ?_
 refine run ?_
 exact en2 rfl
end Go.Proofs.YtleljbiejeofgaaGreatDoor.Pe
namespace Go.Proofs.YtleljbiejeofgaaGreatDoor.Pe
open Go Go.RowKit Co Sg Ac It
set_option maxRecDepth 100000
set_option maxHeartbeats 4000000
theorem ezc {c : It.Claim} (h : rightClaim c = true ∨ c = claim0) : (c.actor.length ≤ 1000000 ∧ c.prev.length ≤ 1000000) ∧ ∀ x ∈ [c.base, c.gen, c.home, c.pub, c.time], -9223372036854775808 ≤ x ∧ x ≤ 9223372036854775807 := by
 rcases h with h | rfl
 ·have s := claim_sm h
  have h1 := s.actor; have h2 := s.base; have h3 := s.prev; have h4 := s.gen; have h5 := s.home; have h6 := s.pub; have h7 := s.time
  simp only [List.forall_mem_cons, List.not_mem_nil, false_implies, implies_true, and_true]
  omega
 ·decide
theorem ezb {b : It.Ballot} (h : rightBallot b = true ∨ b = ballot0) : (b.actor.length ≤ 1000000 ∧ b.claim.length ≤ 1000000) ∧ ∀ x ∈ [b.server, b.gen, b.time], -9223372036854775808 ≤ x ∧ x ≤ 9223372036854775807 := by
 rcases h with h | rfl
 ·have s := ballot_sm h
  have h1 := s.actor; have h2 := s.server; have h3 := s.claim; have h4 := s.gen; have h5 := s.time
  simp only [List.forall_mem_cons, List.not_mem_nil, false_implies, implies_true, and_true]
  omega
 ·decide
theorem ezd {d : It.Decision} (h : rightDecision d = true ∨ d = decision0) : (d.actor.length ≤ 1000000 ∧ d.object.length ≤ 1000000 ∧ d.text.length ≤ 1000000) ∧ (d.to.length ≤ 64 ∧ ∀ s ∈ d.to, s.length ≤ 16) ∧ ∀ x ∈ [d.server, d.number, d.kind, d.n, d.frm, d.til], -9223372036854775808 ≤ x ∧ x ≤ 9223372036854775807 := by
 rcases h with h | rfl
 ·have s := decision_sm h
  have h1 := s.actor; have h2 := s.server; have h3 := s.number; have h4 := s.kind; have h5 := s.object; have h6 := s.text; have h7 := s.to; have h8 := s.n; have h9 := s.frm; have h10 := s.til
  simp only [List.forall_mem_cons, List.not_mem_nil, false_implies, implies_true, and_true]
  refine ⟨by omega, ⟨h7.1, fun s hs => Nat.le_of_eq (h7.2 s hs)⟩, by omega⟩
 ·decide
theorem right_parts {i : It.Item} (h : It.right i = true) : (Ac.right i.act = true ∨ i.act = act0) ∧ (rightClaim i.claim = true ∨ i.claim = claim0) ∧ (rightBallot i.ballot = true ∨ i.ballot = ballot0) ∧ (rightDecision i.decision = true ∨ i.decision = decision0) := by
 rcases right_kind h with e | e | e | e
 ·obtain ⟨q1, q2, q3, q4⟩ := (right_act e).1 h
  exact ⟨.inl q1, .inr q2, .inr q3, .inr q4⟩
 ·obtain ⟨q1, q2, q3, q4⟩ := (right_claim e).1 h
  exact ⟨.inr q2, .inl q1, .inr q3, .inr q4⟩
 ·obtain ⟨q1, q2, q3, q4⟩ := (right_ballot e).1 h
  exact ⟨.inr q2, .inr q3, .inl q1, .inr q4⟩
 ·obtain ⟨q1, q2, q3, q4⟩ := (right_decision e).1 h
  exact ⟨.inr q2, .inr q3, .inr q4, .inl q1⟩
theorem ez_of {i : It.Item} (hc : rightClaim i.claim = true ∨ i.claim = claim0) (hb : rightBallot i.ballot = true ∨ i.ballot = ballot0) (hd : rightDecision i.decision = true ∨ i.decision = decision0) : Ez i := by
 have c := ezc hc
 have b := ezb hb
 have d := ezd hd
 exact ⟨c.1, c.2, b.1, b.2, d.1, ⟨by have := d.2.1.1; omega, fun s hs => by have := d.2.1.2 s hs; omega⟩, d.2.2⟩
theorem ez_right {i : It.Item} (h : It.right i = true) : Ez i := have p := right_parts h; ez_of p.2.1 p.2.2.1 p.2.2.2
theorem sig_right {i : It.Item} (h : It.right i = true) (h0 : i.kind ≠ 0) : sigR (sigOf i) = true := by
 unfold sigOf
 rcases right_kind h with e | e | e | e
 ·exact absurd e h0
 ·rw [if_pos e]; exact (claim_sm ((right_claim e).1 h).1).sig
 ·rw [if_neg (by omega), if_pos e]; exact (ballot_sm ((right_ballot e).1 h).1).sig
 ·rw [if_neg (by omega), if_neg (by omega)]; exact (decision_sm ((right_decision e).1 h).1).sig
theorem list_len16 {l : List By} (h : l.length ≤ 64 ∧ ∀ s ∈ l, s.length ≤ 16) : (list l).length ≤ 2000 := by
 have h1 := num_len9 (n := l.length) (by have := h.1; omega)
 have h2 : ∀ l : List By, (∀ s ∈ l, s.length ≤ 16) → (l.map text).flatten.length ≤ l.length * 25 := fun l => by
  induction l with
  | nil => intro _; simp
  | cons s l ih =>
   intro h
   have e0 := h s (by simp)
   have e1 : (text s).length ≤ 25 := by
    have := num_len9 (n := s.length) (by omega)
    unfold text
    rw [List.length_append]
    omega
   have e2 := ih fun x hx => h x (by simp [hx])
   rw [List.map_cons, List.flatten_cons, List.length_append, List.length_cons, Nat.succ_mul]
   omega
 have h3 := h2 l h.2
 have h4 : l.length * 25 ≤ 64 * 25 := Nat.mul_le_mul_right _ h.1
 unfold list
 rw [List.length_append]
 omega
structure Sh (i : It.Item) : Prop where
 ez : Ez i
 to : (list i.decision.to).length ≤ 50000000
theorem sh_right {i : It.Item} (h : It.right i = true) : Sh i := ⟨ez_right h, by have := list_len16 (ezd (right_parts h).2.2.2).2.1; omega⟩
theorem claimB_len {i : It.Item} (h : Ez i) : (claimB i.claim).length ≤ 10000000 := by
 have h1 := h.c
 have h2 := h.ci
 simp only [List.forall_mem_cons] at h2
 have l1 := text_len h1.1
 have l2 := text_len h1.2
 have n1 := numI_le i.claim.base (by omega)
 have n2 := numI_le i.claim.gen (by omega)
 have n3 := numI_le i.claim.home (by omega)
 have n4 := numI_le i.claim.pub (by omega)
 have n5 := numI_le i.claim.time (by omega)
 unfold claimB
 simp only [List.length_append]
 omega
theorem ballotB_len {i : It.Item} (h : Ez i) : (ballotB i.ballot).length ≤ 10000000 := by
 have h1 := h.b
 have h2 := h.bi
 simp only [List.forall_mem_cons] at h2
 have l1 := text_len h1.1
 have l2 := text_len h1.2
 have n1 := numI_le i.ballot.server (by omega)
 have n2 := numI_le i.ballot.gen (by omega)
 have n3 := numI_le i.ballot.time (by omega)
 unfold ballotB
 simp only [List.length_append]
 omega
theorem decisionB_len {i : It.Item} (h : Sh i) : (decisionB i.decision).length ≤ 60000000 := by
 have h1 := h.ez.d
 have h2 := h.ez.di
 have h3 := h.to
 simp only [List.forall_mem_cons] at h2
 have l1 := text_len h1.1
 have l2 := text_len h1.2.1
 have l3 := text_len h1.2.2
 have n1 := numI_le i.decision.server (by omega)
 have n2 := numI_le i.decision.number (by omega)
 have n3 := numI_le i.decision.kind (by omega)
 have n4 := numI_le i.decision.n (by omega)
 have n5 := numI_le i.decision.frm (by omega)
 have n6 := numI_le i.decision.til (by omega)
 unfold decisionB
 simp only [List.length_append]
 omega
theorem coreOf_len {i : It.Item} (h : Sh i) : (coreOf i).length ≤ 60000000 := by
 have h1 := claimB_len h.ez
 have h2 := ballotB_len h.ez
 have h3 := decisionB_len h
 unfold coreOf
 split
 ·omega
 split <;> omega
abbrev formV (F : FuncId) (n : By) (s : Sig) : AV := .agg [.st n, .fn (.func F) [] [], .it .i64 s.e, .it .i64 s.s]
theorem formOf1 (i : It.Item) (hk : i.kind = 1) : AC Tryz.prog 154 [itemV i] [] (formV 197 wClaim i.claim.sig) [] := by
 refine AC.enter [] [] Tryz.func154 rfl (by decide) (by decide) (Nat.le_of_ble_eq_true rfl) (by kernel_rfl) ?_; refine zev ?_
 refine runf @hk ?_
 exact er0w
theorem formOf2 (i : It.Item) (hk : i.kind = 2) : AC Tryz.prog 154 [itemV i] [] (formV 198 wBallot i.ballot.sig) [] := by
 refine AC.enter [] [] Tryz.func154 rfl (by decide) (by decide) (Nat.le_of_ble_eq_true rfl) (by kernel_rfl) ?_; refine zev ?_
 refine runf @hk ?_
 exact er0w
theorem formOf3 (i : It.Item) (hk : i.kind ≠ 1 ∧ i.kind ≠ 2) : AC Tryz.prog 154 [itemV i] [] (formV 199 wDecision i.decision.sig) [] := by
 refine AC.enter [] [] Tryz.func154 rfl (by decide) (by decide) (Nat.le_of_ble_eq_true rfl) (by kernel_rfl) ?_; refine zev ?_
 obtain ⟨h1, h2⟩ := hk
 refine run ?_
 exact er0w
theorem message1 (i : It.Item) (hk : i.kind = 1) (h : Sh i) : AC Tryz.prog 110 [itemV i] [] (.st (message i)) [] := by
 refine AC.enter [154] [] Tryz.func110 rfl (by decide) (by decide) (Nat.le_of_ble_eq_true rfl) (by kernel_rfl) ?_; refine zev ?_
 have hm : message i = text wClaim ++ claimB i.claim := by unfold message nameOf coreOf; simp [hk]
 rw [hm]
 have k1 := texts0_c [wClaim] (by simp) (by decide)
 rw [flat1t] at k1
 have k2 := bclaim_c i (text wClaim) h.ez (by decide)
 have hl : (text wClaim).length ≤ 100 := by decide
 have hl2 : (claimB i.claim).length ≤ 60000000 := by have := claimB_len h.ez; omega
 generalize text wClaim = tw at *
 refine run ?_
 refine cp (formOf1 i hk) ?_
 refine run ?_
 refine cb0 2 k1 ?_
 refine run ?_
 refine cb 2 3 k2 ?_
 generalize claimB i.claim = cb' at *
 refine run ?_
 exact er0
theorem message2 (i : It.Item) (hk : i.kind = 2) (h : Sh i) : AC Tryz.prog 110 [itemV i] [] (.st (message i)) [] := by
 refine AC.enter [154] [] Tryz.func110 rfl (by decide) (by decide) (Nat.le_of_ble_eq_true rfl) (by kernel_rfl) ?_; refine zev ?_
 have hm : message i = text wBallot ++ ballotB i.ballot := by unfold message nameOf coreOf; simp [hk]
 rw [hm]
 have k1 := texts0_c [wBallot] (by simp) (by decide)
 rw [flat1t] at k1
 have k2 := bballot_c i (text wBallot) h.ez (by decide)
 have hl : (text wBallot).length ≤ 100 := by decide
 have hl2 : (ballotB i.ballot).length ≤ 60000000 := by have := ballotB_len h.ez; omega
 generalize text wBallot = tw at *
 refine run ?_
 refine cp (formOf2 i hk) ?_
 refine run ?_
 refine cb0 2 k1 ?_
 refine run ?_
 refine cb 2 3 k2 ?_
 generalize ballotB i.ballot = cb' at *
 refine run ?_
 exact er0
theorem message3 (i : It.Item) (hk : i.kind ≠ 1 ∧ i.kind ≠ 2) (h : Sh i) : AC Tryz.prog 110 [itemV i] [] (.st (message i)) [] := by
 refine AC.enter [154] [] Tryz.func110 rfl (by decide) (by decide) (Nat.le_of_ble_eq_true rfl) (by kernel_rfl) ?_; refine zev ?_
 have hm : message i = text wDecision ++ decisionB i.decision := by unfold message nameOf coreOf; simp [hk]
 rw [hm]
 have k1 := texts0_c [wDecision] (by simp) (by decide)
 rw [flat1t] at k1
 have k2 := bdecision_c i (text wDecision) h.ez (by decide) (by have := h.to; omega)
 have hl : (text wDecision).length ≤ 100 := by decide
 have hl2 : (decisionB i.decision).length ≤ 60000000 := by have := decisionB_len h; omega
 generalize text wDecision = tw at *
 refine run ?_
 refine cp (formOf3 i hk) ?_
 refine run ?_
 refine cb0 2 k1 ?_
 refine run ?_
 refine cb 2 3 k2 ?_
 generalize decisionB i.decision = cb' at *
 refine run ?_
 exact er0
theorem message_len {i : It.Item} (h : Sh i) : (message i).length ≤ 100000000 := by
 have h1 := coreOf_len h
 have h2 : (text (nameOf i)).length ≤ 100 := by
  unfold nameOf
  split
  ·decide
  split <;> decide
 unfold message
 rw [List.length_append]
 omega
theorem kinds3 (i : It.Item) : i.kind = 1 ∨ i.kind = 2 ∨ (i.kind ≠ 1 ∧ i.kind ≠ 2) := by omega
theorem message_c (i : It.Item) (h : Sh i) : AC Tryz.prog 110 [itemV i] [] (.st (message i)) [] := by
 rcases kinds3 i with e | e | e
 ·exact message1 i e h
 ·exact message2 i e h
 ·exact message3 i e h
theorem signedBy_c (p : Int) (i : It.Item) (h : Sh i) (hp : -9223372036854775808 ≤ p ∧ p ≤ 9223372036854775807) (hs : -9223372036854775808 ≤ (sigOf i).e ∧ (sigOf i).e ≤ 9223372036854775807) (hl : (message i).length ≤ 100000000) : AC Tryz.prog 137 [.it .i64 p, itemV i] [] (.bo (signedBy p i)) [] := by
 refine AC.enter [110, 154, 92] [] Tryz.func137 rfl (by decide) (by decide) (Nat.le_of_ble_eq_true rfl) (by kernel_rfl) ?_; refine zev ?_
 unfold signedBy
 have k1 := message_c i h
 generalize message i = ms at *
 rcases kinds3 i with e | e | e
 ·have hsg : sigOf i = i.claim.sig := by unfold sigOf; simp [e]
  rw [hsg] at hs ⊢
  refine run ?_
  refine cp k1 ?_
  refine run ?_
  refine cp (formOf1 i e) ?_
  refine run ?_
  refine cp (verify_c p ms i.claim.sig hl hp hs) ?_
  refine run ?_
  exact er0
 ·have hsg : sigOf i = i.ballot.sig := by unfold sigOf; simp [e]
  rw [hsg] at hs ⊢
  refine run ?_
  refine cp k1 ?_
  refine run ?_
  refine cp (formOf2 i e) ?_
  refine run ?_
  refine cp (verify_c p ms i.ballot.sig hl hp hs) ?_
  refine run ?_
  exact er0
 ·have hsg : sigOf i = i.decision.sig := by unfold sigOf; simp [e]
  rw [hsg] at hs ⊢
  refine run ?_
  refine cp k1 ?_
  refine run ?_
  refine cp (formOf3 i e) ?_
  refine run ?_
  refine cp (verify_c p ms i.decision.sig hl hp hs) ?_
  refine run ?_
  exact er0
theorem flat2 (g : Int → By) (a b : Int) : ([a, b].map g).flatten = g a ++ g b := by simp
theorem bytes_act {i : It.Item} (h : It.right i = true) (h0 : i.kind = 0) : It.bytes i = numI i.kind ++ Ac.bytes i.act := by
 rw [bytes_right h]
 unfold bodyB
 rw [if_pos h0]
theorem bytesI0 (i : It.Item) (h : Iz i) (h0 : i.kind = 0) (hr : It.right i = true) : AC Tryz.prog 132 [itemV i] [] (.st (It.bytes i)) [] := by
 refine AC.enter2 [131, 176, 154] [] Tryz.func132 rfl (by decide) (by decide) (Nat.le_of_ble_eq_true rfl) (by kernel_rfl) ?_; refine zev ?_
 have kr := rightI_c i h
 rw [hr] at kr
 rw [bytes_act hr h0]
 have k1 := nums0_c [i.kind] (by simp) (by simp [h0])
 rw [flat1] at k1
 have hq : (i.kind == 0) = true := by rw [h0]; rfl
 have k2 := bytes_c i.act h.act
 have hl := bytes_len (a := i.act)
 have hl0 := numI_le i.kind (by omega)
 generalize Ac.bytes i.act = z at *
 generalize numI i.kind = n0 at *
 refine run ?_
 refine cp kr ?_
 refine runf @hq ?_
 refine cb0 1 k1 ?_
 refine runf @hq ?_
 refine cp k2 ?_
 have hmap : n0.map u8 ++ z.map u8 = (n0 ++ z).map u8 := List.map_append.symm
 have hlen : n0.length + z.length = (n0 ++ z).length := List.length_append.symm
 generalize n0 ++ z = c1 at *
 refine runf (an @hq (an @hmap @hlen)) ?_
 exact er0
theorem bytesI1 (i : It.Item) (h : Iz i) (hk : i.kind = 1) (hr : It.right i = true) : AC Tryz.prog 132 [itemV i] [] (.st (It.bytes i)) [] := by
 refine AC.enter2 [131, 176, 154] [] Tryz.func132 rfl (by decide) (by decide) (Nat.le_of_ble_eq_true rfl) (by kernel_rfl) ?_; refine zev ?_
 have kr := rightI_c i h
 rw [hr] at kr
 have h3 := sh_right hr
 have hs := sig_right hr (by omega)
 have hb : It.bytes i = numI i.kind ++ claimB i.claim ++ (numI i.claim.sig.e ++ numI i.claim.sig.s) := by
  rw [bytes_right hr]
  unfold bodyB coreOf sigOf
  have e0 : i.kind ≠ 0 := by omega
  simp [hk]
 have hsg : sigOf i = i.claim.sig := by unfold sigOf; simp [hk]
 rw [hsg] at hs
 simp only [sigR, Bool.and_eq_true, wi_iff] at hs
 rw [hb]
 have k1 := nums0_c [i.kind] (by simp) (by simp [hk])
 rw [flat1] at k1
 have hl0 := numI_le i.kind (by omega)
 have hq : (i.kind == 0) = false := beqF (by omega)
 have k2 := bclaim_c i (numI i.kind) h3.ez (by omega)
 have hl : (claimB i.claim).length ≤ 60000000 := by have := claimB_len h3.ez; omega
 have k3 := nums_c [i.claim.sig.e, i.claim.sig.s] (numI i.kind ++ claimB i.claim) (by simp) (by simp; omega) (by rw [List.length_append]; omega)
 rw [flat2] at k3
 have n1 := numI_le i.claim.sig.e (by omega)
 have n2 := numI_le i.claim.sig.s (by omega)
 have kf := formOf1 i hk
 generalize numI i.claim.sig.e ++ numI i.claim.sig.s = tl at *
 generalize numI i.kind = n0 at *
 generalize claimB i.claim = core at *
 generalize n0 ++ core ++ tl = c2 at *
 generalize n0 ++ core = c1 at *
 refine run ?_
 refine cp kr ?_
 refine runf @hq ?_
 refine cb0 1 k1 ?_
 refine runf @hq ?_
 refine cp kf ?_
 refine runf @hq ?_
 refine cb 1 2 k2 ?_
 refine runf @hq ?_
 refine cb 1 2 k3 ?_
 refine run ?_
 exact er0
theorem bytesI2 (i : It.Item) (h : Iz i) (hk : i.kind = 2) (hr : It.right i = true) : AC Tryz.prog 132 [itemV i] [] (.st (It.bytes i)) [] := by
 refine AC.enter2 [131, 176, 154] [] Tryz.func132 rfl (by decide) (by decide) (Nat.le_of_ble_eq_true rfl) (by kernel_rfl) ?_; refine zev ?_
 have kr := rightI_c i h
 rw [hr] at kr
 have h3 := sh_right hr
 have hs := sig_right hr (by omega)
 have hb : It.bytes i = numI i.kind ++ ballotB i.ballot ++ (numI i.ballot.sig.e ++ numI i.ballot.sig.s) := by
  rw [bytes_right hr]
  unfold bodyB coreOf sigOf
  have e0 : i.kind ≠ 0 := by omega
  simp [hk]
 have hsg : sigOf i = i.ballot.sig := by unfold sigOf; simp [hk]
 rw [hsg] at hs
 simp only [sigR, Bool.and_eq_true, wi_iff] at hs
 rw [hb]
 have k1 := nums0_c [i.kind] (by simp) (by simp [hk])
 rw [flat1] at k1
 have hl0 := numI_le i.kind (by omega)
 have hq : (i.kind == 0) = false := beqF (by omega)
 have k2 := bballot_c i (numI i.kind) h3.ez (by omega)
 have hl : (ballotB i.ballot).length ≤ 60000000 := by have := ballotB_len h3.ez; omega
 have k3 := nums_c [i.ballot.sig.e, i.ballot.sig.s] (numI i.kind ++ ballotB i.ballot) (by simp) (by simp; omega) (by rw [List.length_append]; omega)
 rw [flat2] at k3
 have n1 := numI_le i.ballot.sig.e (by omega)
 have n2 := numI_le i.ballot.sig.s (by omega)
 have kf := formOf2 i hk
 generalize numI i.ballot.sig.e ++ numI i.ballot.sig.s = tl at *
 generalize numI i.kind = n0 at *
 generalize ballotB i.ballot = core at *
 generalize n0 ++ core ++ tl = c2 at *
 generalize n0 ++ core = c1 at *
 refine run ?_
 refine cp kr ?_
 refine runf @hq ?_
 refine cb0 1 k1 ?_
 refine runf @hq ?_
 refine cp kf ?_
 refine runf @hq ?_
 refine cb 1 2 k2 ?_
 refine runf @hq ?_
 refine cb 1 2 k3 ?_
 refine run ?_
 exact er0
theorem bytesI3 (i : It.Item) (h : Iz i) (hk : i.kind = 3) (hr : It.right i = true) : AC Tryz.prog 132 [itemV i] [] (.st (It.bytes i)) [] := by
 refine AC.enter2 [131, 176, 154] [] Tryz.func132 rfl (by decide) (by decide) (Nat.le_of_ble_eq_true rfl) (by kernel_rfl) ?_; refine zev ?_
 have kr := rightI_c i h
 rw [hr] at kr
 have h3 := sh_right hr
 have hs := sig_right hr (by omega)
 have hb : It.bytes i = numI i.kind ++ decisionB i.decision ++ (numI i.decision.sig.e ++ numI i.decision.sig.s) := by
  rw [bytes_right hr]
  unfold bodyB coreOf sigOf
  have e0 : i.kind ≠ 0 := by omega
  simp [hk]
 have hsg : sigOf i = i.decision.sig := by unfold sigOf; simp [hk]
 rw [hsg] at hs
 simp only [sigR, Bool.and_eq_true, wi_iff] at hs
 rw [hb]
 have k1 := nums0_c [i.kind] (by simp) (by simp [hk])
 rw [flat1] at k1
 have hl0 := numI_le i.kind (by omega)
 have hq : (i.kind == 0) = false := beqF (by omega)
 have k2 := bdecision_c i (numI i.kind) h3.ez (by omega) (by have := h3.to; omega)
 have hl : (decisionB i.decision).length ≤ 60000000 := by have := decisionB_len h3; omega
 have k3 := nums_c [i.decision.sig.e, i.decision.sig.s] (numI i.kind ++ decisionB i.decision) (by simp) (by simp; omega) (by rw [List.length_append]; omega)
 rw [flat2] at k3
 have n1 := numI_le i.decision.sig.e (by omega)
 have n2 := numI_le i.decision.sig.s (by omega)
 have kf := formOf3 i (by omega)
 generalize numI i.decision.sig.e ++ numI i.decision.sig.s = tl at *
 generalize numI i.kind = n0 at *
 generalize decisionB i.decision = core at *
 generalize n0 ++ core ++ tl = c2 at *
 generalize n0 ++ core = c1 at *
 refine run ?_
 refine cp kr ?_
 refine runf @hq ?_
 refine cb0 1 k1 ?_
 refine runf @hq ?_
 refine cp kf ?_
 refine runf @hq ?_
 refine cb 1 2 k2 ?_
 refine runf @hq ?_
 refine cb 1 2 k3 ?_
 refine run ?_
 exact er0
theorem bytesI_c (i : It.Item) (h : Iz i) : AC Tryz.prog 132 [itemV i] [] (.st (It.bytes i)) [] := by
 cases hr : It.right i with
 | true =>
  rcases right_kind hr with e | e | e | e
  ·exact bytesI0 i h e hr
  ·exact bytesI1 i h e hr
  ·exact bytesI2 i h e hr
  ·exact bytesI3 i h e hr
 | false =>
  refine AC.enter2 [131, 176, 154] [] Tryz.func132 rfl (by decide) (by decide) (Nat.le_of_ble_eq_true rfl) (by kernel_rfl) ?_; refine zev ?_
  have kr := rightI_c i h
  rw [hr] at kr
  rw [It.bytes_wrong hr]
  refine run ?_
  refine cp kr ?_
  refine run ?_
  exact er0
theorem szI_of {a : Ac.Act} (h : Sm a) : Sz a := ⟨by have := h.author; omega, by have := h.target; omega, by have := h.group; omega, by have := h.text; omega, fun s hs => by have := h.to.2 s hs; omega, by have := h.to.1; omega, by have := h.wraps.1; omega⟩
theorem szI0 : Sz act0 := ⟨by decide, by decide, by decide, by decide, by decide, by decide, by decide⟩
theorem nilI (s t : By) (h : s ≠ t) : (s == t) = false := by simpa using h
theorem iz_right {i : It.Item} (h : It.right i = true) : Iz i := by
 have p := right_parts h
 have c := (ezc p.2.1).1.1
 have b := (ezb p.2.2.1).1.1
 have d := ezd p.2.2.2
 refine ⟨?_, by omega, by omega, ⟨by have := d.1.1; omega, by have := d.2.1.1; omega, fun s hs => by have := d.2.1.2 s hs; omega⟩⟩
 rcases p.1 with e | e
 ·exact szI_of (right_sm e)
 ·rw [e]; exact szI0
theorem bytesIt_len (i : It.Item) : (It.bytes i).length ≤ 70000000 := by
 cases hr : It.right i with
 | false => rw [It.bytes_wrong hr]; decide
 | true =>
  have hk := right_kind hr
  have n0 := numI_le i.kind (by omega)
  rw [bytes_right hr]
  unfold bodyB
  rw [List.length_append]
  by_cases h0 : i.kind = 0
  ·rw [if_pos h0]
   have := bytes_len (a := i.act)
   omega
  ·rw [if_neg h0]
   have hs := sig_right hr h0
   simp only [sigR, Bool.and_eq_true, wi_iff] at hs
   have n1 := numI_le (sigOf i).e (by omega)
   have n2 := numI_le (sigOf i).s (by omega)
   have hc := coreOf_len (sh_right hr)
   simp only [List.length_append]
   omega
theorem ofClaim_c (c : It.Claim) : AC Tryz.prog 55 [claimV c] [] (itemV (ofClaim c)) [] := by
 refine AC.enter [] [] Tryz.func55 rfl (by decide) (by decide) (Nat.le_of_ble_eq_true rfl) (by kernel_rfl) ?_; refine zev ?_
 refine run ?_
 exact er0w
theorem signClaim_c (k : Key) (c : It.Claim) (h : Sh (ofClaim c)) (hk : -9223372036854775808 ≤ k.secret ∧ k.secret ≤ 9223372036854775807) : AC Tryz.prog 56 [keyV k, claimV c] [] (claimV (signClaim k c)) [] := by
 refine AC.enter [55, 110, 35] [] Tryz.func56 rfl (by decide) (by decide) (Nat.le_of_ble_eq_true rfl) (by kernel_rfl) ?_; refine zev ?_
 unfold signClaim
 have hm := message_c (ofClaim c) h
 have hl := message_len h
 generalize message (ofClaim c) = ms at *
 have hsg := sign_c k ms hl hk
 generalize sign k ms = sg at *
 refine run ?_
 refine cp (ofClaim_c c) ?_
 refine run ?_
 refine cp hm ?_
 refine run ?_
 refine cp hsg ?_
 refine run ?_
 exact er0w
theorem serverOf_right {i : It.Item} (h : It.right i = true) (hk : i.kind = 2 ∨ i.kind = 3) : 0 ≤ serverOf i ∧ serverOf i ≤ 19 := by
 unfold serverOf
 rcases hk with e | e
 ·rw [if_pos e]; exact (ballot_sm ((right_ballot e).1 h).1).server
 ·rw [if_neg (by omega)]; exact (decision_sm ((right_decision e).1 h).1).server
theorem signed_c (ps : List Int) (i : It.Item) (h : Iz i) (hps : ∀ p ∈ ps, -9223372036854775808 ≤ p ∧ p ≤ 9223372036854775807) : AC Tryz.prog 91 [.sl .ro (ps.map (AV.it .i64)), itemV i] [] (.bo (It.signed ps i)) [] := by
 refine AC.enter [131, 137] [] Tryz.func91 rfl (by decide) (by decide) (Nat.le_of_ble_eq_true rfl) (by kernel_rfl) ?_; refine zev ?_
 have kr := rightI_c i h
 unfold It.signed
 cases hr : It.right i with
 | false =>
  rw [hr] at kr
  refine run ?_
  refine cp kr ?_
  refine run ?_
  exact er0
 | true =>
  rw [hr] at kr
  rw [if_pos rfl]
  by_cases hk : i.kind = 2 ∨ i.kind = 3
  rotate_left
  ·rw [if_neg hk]
   have q2 : (i.kind == 2) = false := beqF (by omega)
   have q3 : (i.kind == 3) = false := beqF (by omega)
   refine run ?_
   refine cp kr ?_
   refine runf (an @q2 @q3) ?_
   exact er0
  rw [if_pos hk]
  have hsv := serverOf_right hr hk
  have hsg := sig_right hr (by omega)
  simp only [sigR, Bool.and_eq_true, wi_iff] at hsg
  have hsh := sh_right hr
  have hsz : allSz 1 (ps.map (AV.it .i64)) = true := allSz_map 1 _ (fun _ => rfl) _
  rcases hk with e | e
  ·have hv : serverOf i = i.ballot.server := by unfold serverOf; simp [e]
   rw [hv] at hsv ⊢
   have q2 : (i.kind == 2) = true := by rw [e]; rfl
   obtain ⟨n, hn⟩ : ∃ n : Nat, i.ballot.server = (n : Int) := ⟨i.ballot.server.toNat, by omega⟩
   have hpos : decide (0 ≤ i.ballot.server) = true := decide_eq_true hsv.1
   by_cases hlt : n < ps.length
   ·have hg : ps[i.ballot.server.toNat]? = some (ps.getD n 0) := by
     rw [hn, Int.toNat_natCast, List.getD_eq_getElem?_getD, List.getElem?_eq_getElem hlt]
     rfl
    have hgd : ps.getD i.ballot.server.toNat 0 = ps.getD n 0 := by rw [hn]; rfl
    have hp := hps (ps.getD n 0) (by rw [List.getD_eq_getElem?_getD, List.getElem?_eq_getElem hlt]; exact List.getElem_mem hlt)
    have k1 := signedBy_c (ps.getD n 0) i hsh hp (by omega) (message_len hsh)
    have hl : i.ballot.server < (ps.length : Int) := by omega
    have h0 : 0 ≤ i.ballot.server := hsv.1
    rw [hgd, decide_eq_true hl]
    generalize ps.getD n 0 = p at *
    refine run ?_
    refine cp kr ?_
    refine runf (an @q2 (an @hl (an @h0 (an @hg @hsz)))) ?_
    refine cp k1 ?_
    refine run ?_
    exact er0
   ·have hl : ¬ i.ballot.server < (ps.length : Int) := by omega
    rw [decide_eq_false hl]
    refine run ?_
    refine cp kr ?_
    refine runf (an @q2 @hl) ?_
    exact er0
  ·have hv : serverOf i = i.decision.server := by unfold serverOf; simp [e]
   rw [hv] at hsv ⊢
   have q2 : (i.kind == 2) = false := beqF (by omega)
   have q3 : (i.kind == 3) = true := by rw [e]; rfl
   obtain ⟨n, hn⟩ : ∃ n : Nat, i.decision.server = (n : Int) := ⟨i.decision.server.toNat, by omega⟩
   have hpos : decide (0 ≤ i.decision.server) = true := decide_eq_true hsv.1
   by_cases hlt : n < ps.length
   ·have hg : ps[i.decision.server.toNat]? = some (ps.getD n 0) := by
     rw [hn, Int.toNat_natCast, List.getD_eq_getElem?_getD, List.getElem?_eq_getElem hlt]
     rfl
    have hgd : ps.getD i.decision.server.toNat 0 = ps.getD n 0 := by rw [hn]; rfl
    have hp := hps (ps.getD n 0) (by rw [List.getD_eq_getElem?_getD, List.getElem?_eq_getElem hlt]; exact List.getElem_mem hlt)
    have k1 := signedBy_c (ps.getD n 0) i hsh hp (by omega) (message_len hsh)
    have hl : i.decision.server < (ps.length : Int) := by omega
    have h0 : 0 ≤ i.decision.server := hsv.1
    rw [hgd, decide_eq_true hl]
    generalize ps.getD n 0 = p at *
    refine run ?_
    refine cp kr ?_
    refine runf (an @q2 (an @q3 (an @hl (an @h0 (an @hg @hsz))))) ?_
    refine cp k1 ?_
    refine run ?_
    exact er0
   ·have hl : ¬ i.decision.server < (ps.length : Int) := by omega
    rw [decide_eq_false hl]
    refine run ?_
    refine cp kr ?_
    refine runf (an @q2 (an @q3 @hl)) ?_
    exact er0
abbrev entryV (e : It.Entry) : AV := .agg (.it .i64 e.time :: itemL e.item)
theorem entryBytes_c (e : It.Entry) (h : Iz e.item) : AC Tryz.prog 81 [entryV e] [] (.st (entryB e)) [] := by
 refine AC.enter [130, 131, 75, 132] [] Tryz.func81 rfl (by decide) (by decide) (Nat.le_of_ble_eq_true rfl) (by kernel_rfl) ?_; refine zev ?_
 unfold entryB
 have kt := isTime_c e.time
 have kr := rightI_c e.item h
 have kb := bytesI_c e.item h
 have hbl := bytesIt_len e.item
 cases ht : It.isTime e.time with
 | false =>
  rw [ht] at kt
  refine run ?_
  refine cp kt ?_
  refine run ?_
  exact er0
 | true =>
  rw [ht] at kt
  have hti : 0 ≤ e.time ∧ e.time ≤ 1099511627776 := wi_iff.1 ht
  have kn := num_c e.time (by omega) (by omega)
  have hnl := numI_le e.time (by omega)
  generalize It.bytes e.item = bs at *
  generalize numI e.time = nt at *
  cases hr : It.right e.item with
  | false =>
   rw [hr] at kr
   refine run ?_
   refine cp kt ?_
   refine run ?_
   refine cp kr ?_
   refine run ?_
   exact er0
  | true =>
   rw [hr] at kr
   refine run ?_
   refine cp kt ?_
   refine run ?_
   refine cp kr ?_
   refine run ?_
   refine cp kn ?_
   refine run ?_
   refine cp kb ?_
   refine run ?_
   exact er0
end Go.Proofs.YtleljbiejeofgaaGreatDoor.Pe
end
section
namespace Go.Proofs.YtleljbiejeofgaaGreatDoor.Pe
open Go Go.RowKit Co Sg Ac
set_option maxRecDepth 100000
set_option maxHeartbeats 4000000
structure In (a : Ac.Act) : Prop where
 sz : Sz a
 prev : a.prev.length ≤ 140737488355328
 object : a.object.length ≤ 140737488355328
 body : a.body.nonce.length ≤ 140737488355328 ∧ a.body.data.length ≤ 140737488355328 ∧ a.body.tag.length ≤ 140737488355328
 ws : ∀ w ∈ a.wraps, w.box.nonce.length ≤ 140737488355328 ∧ w.box.data.length ≤ 140737488355328 ∧ w.box.tag.length ≤ 140737488355328
 ints : (-9223372036854775808 ≤ a.epoch ∧ a.epoch ≤ 9223372036854775807) ∧ (-9223372036854775808 ≤ a.m ∧ a.m ≤ 9223372036854775807)
end Go.Proofs.YtleljbiejeofgaaGreatDoor.Pe
end
section
namespace Go.Proofs.YtleljbiejeofgaaGreatDoor.Pe
open Go Go.RowKit Co Sg Ac It
set_option maxRecDepth 100000
set_option maxHeartbeats 4000000
abbrev decL (d : It.Decision) : List AV := [.it .i64 d.server, .it .i64 d.number, .it .i64 d.kind, .st d.actor, .st d.object, .st d.text, sls d.to, .it .i64 d.n, .it .i64 d.frm, .it .i64 d.til, .it .i64 d.sig.e, .it .i64 d.sig.s]
structure InI (i : It.Item) : Prop where
 act : In i.act
 iz : Iz i
 ci : ∀ x ∈ [i.claim.base, i.claim.gen, i.claim.home, i.claim.pub, i.claim.time], -9223372036854775808 ≤ x ∧ x ≤ 9223372036854775807
 bi : ∀ x ∈ [i.ballot.server, i.ballot.gen, i.ballot.time], -9223372036854775808 ≤ x ∧ x ≤ 9223372036854775807
 di : ∀ x ∈ [i.decision.server, i.decision.number, i.decision.kind, i.decision.n, i.decision.frm, i.decision.til], -9223372036854775808 ≤ x ∧ x ≤ 9223372036854775807
 si : ∀ x ∈ [i.claim.sig.e, i.claim.sig.s, i.ballot.sig.e, i.ballot.sig.s, i.decision.sig.e, i.decision.sig.s], -9223372036854775808 ≤ x ∧ x ≤ 9223372036854775807
theorem textT {s : By} {n : Nat} (h : s.length ≤ n) (hn : n ≤ 1000000) : (text s).length ≤ n + 9 := by
 have := num_len9 (n := s.length) (by omega)
 unfold text
 rw [List.length_append]
 omega
theorem coreR_len {i : It.Item} (h : It.right i = true) (h0 : i.kind ≠ 0) : (coreOf i).length ≤ 20000 := by
 unfold coreOf
 rcases right_kind h with e | e | e | e
 ·exact absurd e h0
 ·rw [if_pos e]
  have s := claim_sm ((right_claim e).1 h).1
  have h1 := s.actor; have h2 := s.base; have h3 := s.prev; have h4 := s.gen; have h5 := s.home; have h6 := s.pub; have h7 := s.time
  have l1 := textT (n := 16) (s := i.claim.actor) (by omega) (by omega)
  have l2 := textT (n := 32) (s := i.claim.prev) (by omega) (by omega)
  have n1 := numI_le i.claim.base (by omega)
  have n2 := numI_le i.claim.gen (by omega)
  have n3 := numI_le i.claim.home (by omega)
  have n4 := numI_le i.claim.pub (by omega)
  have n5 := numI_le i.claim.time (by omega)
  unfold claimB
  simp only [List.length_append]
  omega
 ·rw [if_neg (by omega), if_pos e]
  have s := ballot_sm ((right_ballot e).1 h).1
  have h1 := s.actor; have h2 := s.server; have h3 := s.claim; have h4 := s.gen; have h5 := s.time
  have l1 := textT (n := 16) (s := i.ballot.actor) (by omega) (by omega)
  have l2 := textT (n := 32) (s := i.ballot.claim) (by omega) (by omega)
  have n1 := numI_le i.ballot.server (by omega)
  have n2 := numI_le i.ballot.gen (by omega)
  have n3 := numI_le i.ballot.time (by omega)
  unfold ballotB
  simp only [List.length_append]
  omega
 ·rw [if_neg (by omega), if_neg (by omega)]
  have s := decision_sm ((right_decision e).1 h).1
  have h1 := s.actor; have h2 := s.server; have h3 := s.number; have h4 := s.kind; have h5 := s.object; have h6 := s.text; have h7 := s.to; have h8 := s.n; have h9 := s.frm; have h10 := s.til
  have l1 := textT (n := 16) (s := i.decision.actor) (by omega) (by omega)
  have l2 := textT (n := 32) (s := i.decision.object) (by omega) (by omega)
  have l3 := textT (n := 4096) (s := i.decision.text) (by omega) (by omega)
  have l4 := list_len16 ⟨h7.1, fun s hs => Nat.le_of_eq (h7.2 s hs)⟩
  have n1 := numI_le i.decision.server (by omega)
  have n2 := numI_le i.decision.number (by omega)
  have n3 := numI_le i.decision.kind (by omega)
  have n4 := numI_le i.decision.n (by omega)
  have n5 := numI_le i.decision.frm (by omega)
  have n6 := numI_le i.decision.til (by omega)
  unfold decisionB
  simp only [List.length_append]
  omega
theorem bytesIt_len6 (i : It.Item) : (It.bytes i).length ≤ 200000 := by
 cases hr : It.right i with
 | false => rw [It.bytes_wrong hr]; decide
 | true =>
  have hk := right_kind hr
  have n0 := numI_le i.kind (by omega)
  rw [bytes_right hr]
  unfold bodyB
  rw [List.length_append]
  by_cases h0 : i.kind = 0
  ·rw [if_pos h0]
   have := bytes_len (a := i.act)
   omega
  ·rw [if_neg h0]
   have hs := sig_right hr h0
   simp only [sigR, Bool.and_eq_true, wi_iff] at hs
   have n1 := numI_le (sigOf i).e (by omega)
   have n2 := numI_le (sigOf i).s (by omega)
   have hc := coreR_len hr h0
   simp only [List.length_append]
   omega
end Go.Proofs.YtleljbiejeofgaaGreatDoor.Pe
end
section
namespace Go.Proofs.YtleljbiejeofgaaGreatDoor.Wl
open Go Co
theorem rdN_inv3 : ∀ (l : By) (i n m : Nat) (r : By), rdN l i n = some (m, r) → ∃ k, m = n + k * 2 ^ (7 * i) ∧ l = num k ++ r ∧ (0 < i → 0 < k)
 | [], i, n, m, r, h => by simp [rdN] at h
 | d :: l, i, n, m, r, h => by
  rw [rdN_cons] at h
  have hd := d.toNat_lt
  split at h
  ·cases h
  split at h
  ·rename_i h9 h1
   obtain ⟨k, h2, h3, h4⟩ := rdN_inv3 l (i + 1) _ m r h
   have hk := h4 (Nat.succ_pos _)
   refine ⟨(d.toNat - 128) + k * 128, ?_, ?_, fun _ => by omega⟩
   ·rw [h2, Nat.add_mul, Nat.mul_assoc, show (128 : Nat) = 2 ^ 7 from rfl, ← Nat.pow_add, show 7 + 7 * i = 7 * (i + 1) by omega]
    omega
   ·rw [num_big (by omega), show (d.toNat - 128 + k * 128) / 128 = k by omega, show 128 + (d.toNat - 128 + k * 128) % 128 = d.toNat by omega, UInt8.ofNat_toNat, h3, List.cons_append]
  ·rename_i h9 h1
   split at h
   ·cases h
   ·rename_i h2
    simp only [Option.some.injEq, Prod.mk.injEq] at h
    refine ⟨d.toNat, h.1.symm, ?_, fun h0 => by omega⟩
    rw [num_small (by omega), UInt8.ofNat_toNat, h.2]
    rfl
theorem num_inv {b : By} {n : Nat} {x : R} (h : R.num ⟨b, false⟩ = (n, x)) (hx : x.bad = false) : b = num n ++ x.rest := by
 unfold R.num at h
 split at h
 ·rename_i m r hr
  simp only [Prod.mk.injEq] at h
  obtain ⟨k, h1, h2, _⟩ := rdN_inv3 _ _ _ _ _ hr
  obtain ⟨rfl, rfl⟩ := h
  simp only [Nat.mul_zero, Nat.pow_zero, Nat.mul_one, Nat.zero_add] at h1
  subst h1
  exact h2
 ·simp only [Prod.mk.injEq] at h
  rw [← h.2] at hx
  cases hx
def ck (s : By) : By := [UInt8.ofNat ((Sm.crc s).toNat % 256), UInt8.ofNat ((Sm.crc s).toNat / 256 % 256), UInt8.ofNat ((Sm.crc s).toNat / 65536 % 256), UInt8.ofNat ((Sm.crc s).toNat / 16777216 % 256)]
theorem ck_len (s : By) : (ck s).length = 4 := rfl
def rec1 (s : By) : By := num s.length ++ ck s ++ s
def recs (l : List By) : By := (l.map rec1).flatten
theorem recs_cons (s : By) (l : List By) : recs (s :: l) = rec1 s ++ recs l := rfl
theorem recs_append (l m : List By) : recs (l ++ m) = recs l ++ recs m := by simp [recs]
theorem recs_nil : recs [] = [] := rfl
theorem recs_snoc (l : List By) (s : By) : recs (l ++ [s]) = recs l ++ rec1 s := by simp [recs]
theorem rec1_pos (s : By) : 0 < (rec1 s).length := by
 have := num_len s.length
 simp only [rec1, List.length_append]
 omega
def step (x : R) : Option (By × R) :=
 if (x.num.2.take 4).1.length ≠ 4 ∨ 1048576 < x.num.1 then none else
 if ((x.num.2.take 4).2.take x.num.1).1.length ≠ x.num.1 ∨ ck ((x.num.2.take 4).2.take x.num.1).1 ≠ (x.num.2.take 4).1 then none else
 some ((x.num.2.take 4).2.take x.num.1)
def okL (l : List By) : Prop := ∀ s ∈ l, s.length ≤ 1048576
theorem step_back (s t : By) (h : s.length ≤ 1048576) : step ⟨rec1 s ++ t, false⟩ = some (s, ⟨t, false⟩) := by
 have h1 : R.num ⟨rec1 s ++ t, false⟩ = (s.length, ⟨ck s ++ (s ++ t), false⟩) := by
  rw [rec1, List.append_assoc, List.append_assoc]
  exact num_back _ _ _ (by omega)
 have h2 : R.take ⟨ck s ++ (s ++ t), false⟩ 4 = (ck s, ⟨s ++ t, false⟩) := take_back (ck s) (s ++ t)
 unfold step
 rw [h1]
 simp only
 rw [h2]
 simp only
 rw [take_back s t]
 have c1 : ¬ ((ck s).length ≠ 4 ∨ 1048576 < s.length) := by rw [ck_len]; omega
 have c2 : ¬ (s.length ≠ s.length ∨ ck s ≠ ck s) := by simp
 rw [if_neg c1, if_neg c2]
theorem take_inv {x y : R} {n : Nat} {s : By} (h : x.take n = (s, y)) (hs : s.length = n) (hn : 0 < n ∨ x.bad = false) : x.bad = false ∧ x.rest = s ++ y.rest ∧ y.bad = false := by
 unfold R.take at h
 split at h
 ·rename_i hc
  simp only [Prod.mk.injEq] at h
  obtain ⟨rfl, rfl⟩ := h
  simp only [List.length_nil] at hs
  rcases hc with hc | hc
  ·rcases hn with hn | hn
   ·omega
   ·rw [hc] at hn; cases hn
  ·omega
 ·rename_i hc
  simp only [Prod.mk.injEq] at h
  obtain ⟨rfl, rfl⟩ := h
  have hb : x.bad = false := by cases hx : x.bad <;> simp_all
  exact ⟨hb, (List.take_append_drop n x.rest).symm, hb⟩
theorem step_inv {b s : By} {x : R} (h : step ⟨b, false⟩ = some (s, x)) : b = rec1 s ++ x.rest ∧ s.length ≤ 1048576 ∧ x.bad = false := by
 unfold step at h
 split at h
 ·cases h
 rename_i h1
 split at h
 ·cases h
 rename_i h2
 simp only [Option.some.injEq] at h
 rw [h] at h2
 simp only [not_or, ne_eq, Decidable.not_not] at h1 h2
 have e1 : R.num ⟨b, false⟩ = ((R.num ⟨b, false⟩).1, (R.num ⟨b, false⟩).2) := rfl
 generalize (R.num ⟨b, false⟩).1 = n at *
 generalize (R.num ⟨b, false⟩).2 = y at *
 have e2 : y.take 4 = ((y.take 4).1, (y.take 4).2) := rfl
 generalize (y.take 4).1 = c at *
 generalize (y.take 4).2 = z at *
 obtain ⟨a1, a2, a3⟩ := take_inv e2 h1.1 (.inl (by omega))
 obtain ⟨b1, b2, b3⟩ := take_inv h h2.1 (.inr a3)
 have := num_inv e1 a1
 refine ⟨?_, by omega, b3⟩
 rw [this, a2, b2, rec1, h2.1, h2.2]
 simp
def scan : Nat → By → List By × By
 | 0, b => ([], b)
 | f + 1, b => match step ⟨b, false⟩ with
  | none => ([], b)
  | some (s, x) => (s :: (scan f x.rest).1, (scan f x.rest).2)
def rowsOf (b : By) : List By := (scan b.length b).1
def tailOf (b : By) : By := (scan b.length b).2
def stuck (b : By) : Prop := step ⟨b, false⟩ = none
theorem stuck_nil : stuck [] := by
 have : R.num ⟨[], false⟩ = (0, fail) := rfl
 unfold stuck step
 rw [this]
 simp only
 rfl
theorem scan_spec : ∀ (f : Nat) (b : By), b.length ≤ f → b = recs (scan f b).1 ++ (scan f b).2 ∧ okL (scan f b).1 ∧ stuck (scan f b).2
 | 0, b, h => by
  have : b = [] := List.eq_nil_of_length_eq_zero (by omega)
  subst this
  exact ⟨rfl, fun s hs => (by cases hs), stuck_nil⟩
 | f + 1, b, h => by
  unfold scan
  split
  ·rename_i hs
   exact ⟨rfl, fun s hs => (by cases hs), hs⟩
  ·rename_i s x hs
   obtain ⟨h1, h2, h3⟩ := step_inv hs
   have hp := rec1_pos s
   have hl : x.rest.length ≤ f := by
    have := congrArg List.length h1
    rw [List.length_append] at this
    omega
   obtain ⟨h4, h5, h6⟩ := scan_spec f x.rest hl
   refine ⟨?_, fun t ht => ?_, h6⟩
   ·simp only [recs_cons, List.append_assoc]
    rw [← h4]
    exact h1
   ·rcases List.mem_cons.1 ht with rfl | ht
    ·exact h2
    ·exact h5 t ht
theorem scan_back : ∀ (l : List By) (t : By) (f : Nat), okL l → stuck t → (recs l ++ t).length ≤ f → scan f (recs l ++ t) = (l, t)
 | [], t, f, _, ht, _ => by
  rw [recs_nil, List.nil_append]
  cases f with
  | zero => rfl
  | succ f => unfold scan; rw [show step ⟨t, false⟩ = none from ht]
 | s :: l, t, f, hl, ht, hf => by
  have hp := rec1_pos s
  cases f with
  | zero => simp only [recs_cons, List.length_append] at hf; omega
  | succ f =>
   unfold scan
   rw [recs_cons, List.append_assoc, step_back s _ (hl s (by simp))]
   simp only
   rw [scan_back l t f (fun x hx => hl x (by simp [hx])) ht (by simp only [recs_cons, List.length_append] at hf ⊢; omega)]
theorem rows_back {l : List By} {t : By} (hl : okL l) (ht : stuck t) : rowsOf (recs l ++ t) = l ∧ tailOf (recs l ++ t) = t := by
 unfold rowsOf tailOf
 rw [scan_back l t _ hl ht (Nat.le_refl _)]
 exact ⟨rfl, rfl⟩
theorem rows_spec (b : By) : b = recs (rowsOf b) ++ tailOf b ∧ okL (rowsOf b) ∧ stuck (tailOf b) := scan_spec b.length b (Nat.le_refl _)
theorem okL_append {l m : List By} (h : okL l) (h' : okL m) : okL (l ++ m) := fun s hs => (List.mem_append.1 hs).elim (h s) (h' s)
theorem rows_append {l : List By} (hl : okL l) (b : By) : rowsOf (recs l ++ b) = l ++ rowsOf b ∧ tailOf (recs l ++ b) = tailOf b := by
 obtain ⟨h1, h2, h3⟩ := rows_spec b
 have := rows_back (okL_append hl h2) h3
 rw [recs_append, List.append_assoc, ← h1] at this
 exact this
theorem stuck_part {s p q : By} (h : rec1 s = p ++ q) (hs : s.length ≤ 1048576) (hq : q ≠ []) : stuck p := by
 unfold stuck
 cases hst : step ⟨p, false⟩ with
 | none => rfl
 | some r =>
  obtain ⟨s', x⟩ := r
  obtain ⟨h1, h2, h3⟩ := step_inv hst
  have e1 := step_back s [] hs
  rw [List.append_nil, h, h1, List.append_assoc, step_back s' _ h2] at e1
  simp only [Option.some.injEq, Prod.mk.injEq, R.mk.injEq, and_true] at e1
  exact absurd (List.append_eq_nil_iff.1 e1.2).2 hq
theorem cut_recs : ∀ (l : List By) (n : Nat), okL l → n ≤ (recs l).length → ∃ k p, k ≤ l.length ∧ (recs l).take n = recs (l.take k) ++ p ∧ stuck p ∧ (recs (l.take k)).length ≤ n
 | [], n, _, h => ⟨0, [], Nat.le_refl _, by simp [recs], stuck_nil, Nat.zero_le _⟩
 | s :: l, n, hl, h => by
  by_cases hn : n < (rec1 s).length
  ·refine ⟨0, (rec1 s).take n, Nat.zero_le _, ?_, ?_, by simp [recs]⟩
   ·rw [recs_cons, List.take_append_of_le_length (by omega)]; rfl
   ·refine stuck_part (s := s) (q := (rec1 s).drop n) (List.take_append_drop n _).symm (hl s (by simp)) fun e => ?_
    have := congrArg List.length e
    simp only [List.length_drop, List.length_nil] at this
    omega
  ·obtain ⟨k, p, h1, h2, h3, h4⟩ := cut_recs l (n - (rec1 s).length) (fun x hx => hl x (by simp [hx])) (by rw [recs_cons, List.length_append] at h; omega)
   refine ⟨k + 1, p, by simpa using h1, ?_, h3, ?_⟩
   ·rw [recs_cons, List.take_append, List.take_of_length_le (by omega), h2, List.take_succ_cons, recs_cons, List.append_assoc]
   ·rw [List.take_succ_cons, recs_cons, List.length_append]; omega
end Go.Proofs.YtleljbiejeofgaaGreatDoor.Wl
end
section
namespace Go.Proofs.YtleljbiejeofgaaGreatDoor.Dm
open Go
structure Fl where
  data : List UInt8
  dur : Nat
structure Dk where
  fs : Nat → Fl
  down : Bool
  lost : Nat
  armed : Nat
  keep : List Int
def Fl.none : Fl := ⟨[], 0⟩
def dk0 : Dk := ⟨fun _ => Fl.none, false, 0, 0, []⟩
def upd (fs : Nat → Fl) (i : Nat) (f : Fl) : Nat → Fl := fun j => if j = i then f else fs j
theorem upd_same (fs : Nat → Fl) (i : Nat) (f : Fl) : upd fs i f i = f := if_pos rfl
theorem upd_ne (fs : Nat → Fl) {i j : Nat} (h : j ≠ i) (f : Fl) : upd fs i f j = fs j := if_neg h
def kn (f : Int) : Bool := decide (0 ≤ f) && decide (f < 8)
def Fl.stay (f : Fl) (k : Int) : Nat := f.dur + min (f.data.length - f.dur) k.toNat
def Fl.crash (f : Fl) (k : Int) : Fl := ⟨f.data.take (f.stay k), f.stay k⟩
def Fl.trunc (f : Fl) (n : Nat) : Fl := ⟨f.data.take n, min f.dur n⟩
def crash (d : Dk) (keep : List Int) : Dk := if d.down then d else ⟨fun i => (d.fs i).crash (keep.getD i 0), true, d.lost, 0, []⟩
def strikes (d : Dk) : Bool × Dk := if d.armed = 0 then (false, d) else (decide (d.armed = 1), { d with armed := d.armed - 1 })
def struck (d : Dk) (e : Int) : Int × Dk := if (strikes d).1 then (8, crash (strikes d).2 (strikes d).2.keep) else (e, (strikes d).2)
def appendD (d : Dk) (f : Int) (s : List UInt8) : Int × Dk :=
  if d.down then (8, d) else
  if !kn f then struck d 1 else
  if 16777216 < (d.fs f.toNat).data.length + s.length then struck d 7 else
  struck { d with fs := upd d.fs f.toNat ⟨(d.fs f.toNat).data ++ s, (d.fs f.toNat).dur⟩ } 0
def beginD (d : Dk) (l : List Int) : Int × Dk := if d.down then (8, d) else struck d (if l.all kn then 0 else 1)
def flushD (d : Dk) (f : Int) : Int × Dk :=
  let b := beginD d [f]
  if b.1 ≠ 0 then b else
  if 0 < b.2.lost then (18, { b.2 with lost := b.2.lost - 1 }) else
  (0, { b.2 with fs := upd b.2.fs f.toNat ⟨(b.2.fs f.toNat).data, (b.2.fs f.toNat).data.length⟩ })
def size (d : Dk) (f : Int) : Nat := if kn f then (d.fs f.toNat).data.length else 0
def cutD (d : Dk) (f n : Int) : Int × Dk :=
  let b := beginD d [f]
  if b.1 ≠ 0 then b else
  if n < 0 ∨ (size b.2 f : Int) < n then (1, b.2) else
  (0, { b.2 with fs := upd b.2.fs f.toNat ((b.2.fs f.toNat).trunc n.toNat) })
def peek (d : Dk) (f : Int) : List UInt8 × Int := if d.down then ([], 8) else if kn f then ((d.fs f.toNat).data, 0) else ([], 1)
structure Fl.Ok (f : Fl) : Prop where
  dur : f.dur ≤ f.data.length
  len : f.data.length ≤ 16777216
structure Ok (d : Dk) : Prop where
  fs : ∀ i, (d.fs i).Ok
  lost : d.lost < 9223372036854775808
  armed : d.armed < 9223372036854775808
theorem Fl.none_ok : Fl.none.Ok := ⟨Nat.le_refl _, Nat.zero_le _⟩
theorem dk0_ok : Ok dk0 := ⟨fun _ => Fl.none_ok, by decide, by decide⟩
theorem Fl.stay_le {f : Fl} (h : f.Ok) (k : Int) : f.stay k ≤ f.data.length := by have := h.dur; unfold Fl.stay; omega
theorem Fl.crash_ok {f : Fl} (h : f.Ok) (k : Int) : (f.crash k).Ok := by
  have h1 := Fl.stay_le h k
  have h2 := h.len
  exact ⟨by unfold Fl.crash; simp only [List.length_take]; omega, by unfold Fl.crash; simp only [List.length_take]; omega⟩
theorem Fl.trunc_ok {f : Fl} (h : f.Ok) (n : Nat) : (f.trunc n).Ok := by
  have h1 := h.dur
  have h2 := h.len
  exact ⟨by unfold Fl.trunc; simp only [List.length_take]; omega, by unfold Fl.trunc; simp only [List.length_take]; omega⟩
theorem upd_ok {fs : Nat → Fl} (h : ∀ i, (fs i).Ok) (i : Nat) {f : Fl} (hf : f.Ok) : ∀ j, (upd fs i f j).Ok := by
  intro j
  unfold upd
  split
  · exact hf
  · exact h j
theorem crash_ok {d : Dk} (h : Ok d) (keep : List Int) : Ok (crash d keep) := by
  unfold crash
  split
  · exact h
  · exact ⟨fun i => Fl.crash_ok (h.fs i) _, h.lost, by show (0 : Nat) < _; omega⟩
theorem strikes_ok {d : Dk} (h : Ok d) : Ok (strikes d).2 := by
  unfold strikes
  split
  · exact h
  · exact ⟨h.fs, h.lost, by have := h.armed; show d.armed - 1 < _; omega⟩
theorem struck_ok {d : Dk} (h : Ok d) (e : Int) : Ok (struck d e).2 := by
  unfold struck
  split
  · exact crash_ok (strikes_ok h) _
  · exact strikes_ok h
theorem append_ok {d : Dk} (h : Ok d) (f : Int) (s : List UInt8) : Ok (appendD d f s).2 := by
  unfold appendD
  split
  · exact h
  split
  · exact struck_ok h _
  split
  · exact struck_ok h _
  · refine struck_ok (d := { d with fs := upd d.fs f.toNat ⟨(d.fs f.toNat).data ++ s, (d.fs f.toNat).dur⟩ }) ⟨upd_ok h.fs _ ⟨?_, ?_⟩, h.lost, h.armed⟩ _
    · have := (h.fs f.toNat).dur; simp only [List.length_append]; omega
    · simp only [List.length_append]; omega
theorem begin_ok {d : Dk} (h : Ok d) (l : List Int) : Ok (beginD d l).2 := by
  unfold beginD
  split
  · exact h
  · exact struck_ok h _
theorem flush_ok {d : Dk} (h : Ok d) (f : Int) : Ok (flushD d f).2 := by
  have hb := begin_ok h [f]
  unfold flushD
  simp only
  split
  · exact hb
  split
  · exact ⟨hb.fs, by have := hb.lost; show _ - 1 < _; omega, hb.armed⟩
  · exact ⟨upd_ok hb.fs _ ⟨Nat.le_refl _, (hb.fs _).len⟩, hb.lost, hb.armed⟩
theorem cut_ok {d : Dk} (h : Ok d) (f n : Int) : Ok (cutD d f n).2 := by
  have hb := begin_ok h [f]
  unfold cutD
  simp only
  split
  · exact hb
  split
  · exact hb
  · exact ⟨upd_ok hb.fs _ (Fl.trunc_ok (hb.fs _) _), hb.lost, hb.armed⟩
end Go.Proofs.YtleljbiejeofgaaGreatDoor.Dm
end
section
namespace Go.Proofs.YtleljbiejeofgaaGreatDoor.Wl
open Go Co Dm
def clearD (d : Dk) (f : Int) : Int × Dk := if size d (f + 1) = 0 then (0, d) else cutD d (f + 1) 0
def trimD (d : Dk) (f : Int) : Int × Dk := if (recs (rowsOf (peek d f).1)).length < (peek d f).1.length then cutD d f ((recs (rowsOf (peek d f).1)).length : Int) else (0, d)
def openD (d : Dk) (f : Int) : Int × Dk :=
 if (peek d f).2 ≠ 0 then ((peek d f).2, d) else
 if (trimD d f).1 ≠ 0 then trimD d f else
 if (clearD (trimD d f).2 f).1 ≠ 0 then clearD (trimD d f).2 f else
 flushD (clearD (trimD d f).2 f).2 f
def addD (d : Dk) (f : Int) (s : By) : Int × Dk := if 1048576 < s.length then (7, d) else appendD d f (rec1 s)
end Go.Proofs.YtleljbiejeofgaaGreatDoor.Wl
end
section
namespace Go.Proofs.YtleljbiejeofgaaGreatDoor.Wl
open Go Co
theorem torn_some {l : List By} (hl : okL l) (n : Nat) (hn : n ≤ (recs l).length) : (∃ r, l = rowsOf ((recs l).take n) ++ r) ∧ (recs (rowsOf ((recs l).take n))).length ≤ n := by
 obtain ⟨k, p, h1, h2, h3, h4⟩ := cut_recs l n hl hn
 have hk : okL (l.take k) := fun s hs => hl s (List.mem_of_mem_take hs)
 rw [h2, (rows_back hk h3).1]
 exact ⟨⟨l.drop k, (List.take_append_drop k l).symm⟩, h4⟩
end Go.Proofs.YtleljbiejeofgaaGreatDoor.Wl
end
