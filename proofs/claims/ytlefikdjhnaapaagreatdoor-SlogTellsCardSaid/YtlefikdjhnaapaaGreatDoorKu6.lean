/- Several texts of this claim in one. -/
import Derived.Test.YtlefikdjhnaapaaGreatDoorKu5
import Derived.Deep.OwnRows
import Derived.Lib.AppendStr
import Derived.Test.YtlefikdjhnaapaaGreatDoorChecked
import Derived.WalkKit
import Derived.ProofKit
import Derived.WalkSpells
import Derived.Lib.Hide
import Derived.WalkLawsBesides
import Derived.BigQuiet
import Derived.StillTailTactics
import Derived.Deep.RegionLaw
set_option linter.unusedSectionVars false
set_option linter.unusedVariables false
set_option linter.unusedSimpArgs false
section
namespace Go.Proofs.YtlefikdjhnaapaaGreatDoor.Pe
open Go Go.RowKit Co Sg Ac It
set_option maxRecDepth 100000
set_option maxHeartbeats 4000000
abbrev claimV (c : It.Claim) : AV := .agg [.st c.actor, .it .i64 c.base, .st c.prev, .it .i64 c.gen, .it .i64 c.home, .it .i64 c.pub, .it .i64 c.time, .it .i64 c.sig.e, .it .i64 c.sig.s]
abbrev ballotV (b : It.Ballot) : AV := .agg [.it .i64 b.server, .st b.actor, .it .i64 b.gen, .st b.claim, .it .i64 b.time, .it .i64 b.sig.e, .it .i64 b.sig.s]
abbrev decisionV (d : It.Decision) : AV := .agg [.it .i64 d.server, .it .i64 d.number, .it .i64 d.kind, .st d.actor, .st d.object, .st d.text, sls d.to, .it .i64 d.n, .it .i64 d.frm, .it .i64 d.til, .it .i64 d.sig.e, .it .i64 d.sig.s]
abbrev itemL (i : It.Item) : List AV := [.it .i64 i.kind, .st i.act.author, .it .i64 i.act.seq, .st i.act.prev, .it .i64 i.act.kind, .it .i64 i.act.time, .st i.act.object, .st i.act.target, .it .i64 i.act.scope, .st i.act.group, sls i.act.to, .st i.act.text, .st i.act.body.nonce, .st i.act.body.data, .st i.act.body.tag, .it .i64 i.act.epoch, .sl .ro (i.act.wraps.map wrapV), .it .i64 i.act.n, .it .i64 i.act.m, .it .i64 i.act.sig.e, .it .i64 i.act.sig.s, .st i.claim.actor, .it .i64 i.claim.base, .st i.claim.prev, .it .i64 i.claim.gen, .it .i64 i.claim.home, .it .i64 i.claim.pub, .it .i64 i.claim.time, .it .i64 i.claim.sig.e, .it .i64 i.claim.sig.s, .it .i64 i.ballot.server, .st i.ballot.actor, .it .i64 i.ballot.gen, .st i.ballot.claim, .it .i64 i.ballot.time, .it .i64 i.ballot.sig.e, .it .i64 i.ballot.sig.s, .it .i64 i.decision.server, .it .i64 i.decision.number, .it .i64 i.decision.kind, .st i.decision.actor, .st i.decision.object, .st i.decision.text, sls i.decision.to, .it .i64 i.decision.n, .it .i64 i.decision.frm, .it .i64 i.decision.til, .it .i64 i.decision.sig.e, .it .i64 i.decision.sig.s]
abbrev itemV (i : It.Item) : AV := .agg [.it .i64 i.kind, .st i.act.author, .it .i64 i.act.seq, .st i.act.prev, .it .i64 i.act.kind, .it .i64 i.act.time, .st i.act.object, .st i.act.target, .it .i64 i.act.scope, .st i.act.group, sls i.act.to, .st i.act.text, .st i.act.body.nonce, .st i.act.body.data, .st i.act.body.tag, .it .i64 i.act.epoch, .sl .ro (i.act.wraps.map wrapV), .it .i64 i.act.n, .it .i64 i.act.m, .it .i64 i.act.sig.e, .it .i64 i.act.sig.s, .st i.claim.actor, .it .i64 i.claim.base, .st i.claim.prev, .it .i64 i.claim.gen, .it .i64 i.claim.home, .it .i64 i.claim.pub, .it .i64 i.claim.time, .it .i64 i.claim.sig.e, .it .i64 i.claim.sig.s, .it .i64 i.ballot.server, .st i.ballot.actor, .it .i64 i.ballot.gen, .st i.ballot.claim, .it .i64 i.ballot.time, .it .i64 i.ballot.sig.e, .it .i64 i.ballot.sig.s, .it .i64 i.decision.server, .it .i64 i.decision.number, .it .i64 i.decision.kind, .st i.decision.actor, .st i.decision.object, .st i.decision.text, sls i.decision.to, .it .i64 i.decision.n, .it .i64 i.decision.frm, .it .i64 i.decision.til, .it .i64 i.decision.sig.e, .it .i64 i.decision.sig.s]
theorem claim_eq (x y : It.Claim) : ((x.actor == y.actor) && ((x.base == y.base) && ((x.prev == y.prev) && ((x.gen == y.gen) && ((x.home == y.home) && ((x.pub == y.pub) && ((x.time == y.time) && ((x.sig.e == y.sig.e) && (x.sig.s == y.sig.s))))))))) = decide (x = y) := by
 obtain ⟨x1, x2, x3, x4, x5, x6, x7, ⟨x8, x9⟩⟩ := x
 obtain ⟨y1, y2, y3, y4, y5, y6, y7, ⟨y8, y9⟩⟩ := y
 rw [Bool.eq_iff_iff]
 simp
theorem ballot_eq (x y : It.Ballot) : ((x.server == y.server) && ((x.actor == y.actor) && ((x.gen == y.gen) && ((x.claim == y.claim) && ((x.time == y.time) && ((x.sig.e == y.sig.e) && (x.sig.s == y.sig.s))))))) = decide (x = y) := by
 obtain ⟨x1, x2, x3, x4, x5, ⟨x8, x9⟩⟩ := x
 obtain ⟨y1, y2, y3, y4, y5, ⟨y8, y9⟩⟩ := y
 rw [Bool.eq_iff_iff]
 simp
theorem sameDecision_c (a b : It.Decision) (ha : a.to.length ≤ 140737488355328) (hb : b.to.length ≤ 140737488355328) : AC Tryz.prog 93 [decisionV a, decisionV b] [] (.bo (decide (a = b))) [] := by
 refine AC.enter [173] [] Tryz.func93 rfl (by decide) (by decide) znl (by kernel_rfl) ?_; refine zev ?_
 obtain ⟨q, hq⟩ : ∃ q, decide (a = b) = q := ⟨_, rfl⟩
 rw [hq]
 obtain ⟨a_server, a_number, a_kind, a_actor, a_object, a_text, a_to, a_n, a_frm, a_til, ⟨a_se, a_ss⟩⟩ := a
 obtain ⟨b_server, b_number, b_kind, b_actor, b_object, b_text, b_to, b_n, b_frm, b_til, ⟨b_se, b_ss⟩⟩ := b
 by_cases h_server : a_server = b_server
 rotate_left
 ·obtain rfl : q = false := by rw [← hq]; exact decide_eq_false (fun e => h_server (by cases e; rfl))
  refine run ?_
  exact er0
 subst h_server
 by_cases h_number : a_number = b_number
 rotate_left
 ·obtain rfl : q = false := by rw [← hq]; exact decide_eq_false (fun e => h_number (by cases e; rfl))
  refine run ?_
  exact er0
 subst h_number
 by_cases h_kind : a_kind = b_kind
 rotate_left
 ·obtain rfl : q = false := by rw [← hq]; exact decide_eq_false (fun e => h_kind (by cases e; rfl))
  refine run ?_
  exact er0
 subst h_kind
 by_cases h_actor : a_actor = b_actor
 rotate_left
 ·obtain rfl : q = false := by rw [← hq]; exact decide_eq_false (fun e => h_actor (by cases e; rfl))
  have e_actor : (a_actor == b_actor) = false := by simpa using h_actor
  refine runf @e_actor ?_
  exact er0
 subst h_actor
 by_cases h_object : a_object = b_object
 rotate_left
 ·obtain rfl : q = false := by rw [← hq]; exact decide_eq_false (fun e => h_object (by cases e; rfl))
  have e_object : (a_object == b_object) = false := by simpa using h_object
  refine runf @e_object ?_
  exact er0
 subst h_object
 by_cases h_text : a_text = b_text
 rotate_left
 ·obtain rfl : q = false := by rw [← hq]; exact decide_eq_false (fun e => h_text (by cases e; rfl))
  have e_text : (a_text == b_text) = false := by simpa using h_text
  refine runf @e_text ?_
  exact er0
 subst h_text
 refine run ?_
 refine cp (eqS_c a_to b_to ha hb) ?_
 by_cases h_to : a_to = b_to
 rotate_left
 ·obtain rfl : q = false := by rw [← hq]; exact decide_eq_false (fun e => h_to (by cases e; rfl))
  rw [decide_eq_false h_to]
  refine run ?_
  exact er0
 subst h_to
 rw [decide_eq_true (p := a_to = a_to) rfl]
 by_cases h_n : a_n = b_n
 rotate_left
 ·obtain rfl : q = false := by rw [← hq]; exact decide_eq_false (fun e => h_n (by cases e; rfl))
  refine run ?_
  exact er0
 subst h_n
 by_cases h_frm : a_frm = b_frm
 rotate_left
 ·obtain rfl : q = false := by rw [← hq]; exact decide_eq_false (fun e => h_frm (by cases e; rfl))
  refine run ?_
  exact er0
 subst h_frm
 by_cases h_til : a_til = b_til
 rotate_left
 ·obtain rfl : q = false := by rw [← hq]; exact decide_eq_false (fun e => h_til (by cases e; rfl))
  refine run ?_
  exact er0
 subst h_til
 by_cases h_se : a_se = b_se
 rotate_left
 ·obtain rfl : q = false := by rw [← hq]; exact decide_eq_false (fun e => h_se (by cases e; rfl))
  refine run ?_
  exact er0
 subst h_se
 by_cases h_ss : a_ss = b_ss
 rotate_left
 ·obtain rfl : q = false := by rw [← hq]; exact decide_eq_false (fun e => h_ss (by cases e; rfl))
  refine run ?_
  exact er0
 subst h_ss
 obtain rfl : q = true := by rw [← hq]; exact decide_eq_true rfl
 refine run ?_
 exact er0
structure Lz (i : It.Item) : Prop where
 to : i.act.to.length ≤ 140737488355328
 wraps : i.act.wraps.length ≤ 140737488355328
 dto : i.decision.to.length ≤ 140737488355328
theorem sameI_c (a b : It.Item) (ha : Lz a) (hb : Lz b) : AC Tryz.prog 37 [itemV a, itemV b] [] (.bo (decide (a = b))) [] := by
 refine AC.enter [92, 93] [] Tryz.func37 rfl (by decide) (by decide) znl (by kernel_rfl) ?_; refine zev ?_
 obtain ⟨q, hq⟩ : ∃ q, decide (a = b) = q := ⟨_, rfl⟩
 rw [hq]
 obtain ⟨a_kind, a_act, a_claim, a_ballot, a_dec⟩ := a
 obtain ⟨b_kind, b_act, b_claim, b_ballot, b_dec⟩ := b
 by_cases h_kind : a_kind = b_kind
 rotate_left
 ·obtain rfl : q = false := by rw [← hq]; exact decide_eq_false (fun e => h_kind (by cases e; rfl))
  refine run ?_
  exact er0
 subst h_kind
 refine run ?_
 refine cp (same_c a_act b_act ⟨ha.to, ha.wraps⟩ ⟨hb.to, hb.wraps⟩) ?_
 by_cases h_act : a_act = b_act
 rotate_left
 ·obtain rfl : q = false := by rw [← hq]; exact decide_eq_false (fun e => h_act (by cases e; rfl))
  rw [decide_eq_false h_act]
  refine run ?_
  exact er0
 subst h_act
 rw [decide_eq_true (p := a_act = a_act) rfl]
 by_cases h_claim : a_claim = b_claim
 rotate_left
 ·obtain rfl : q = false := by rw [← hq]; exact decide_eq_false (fun e => h_claim (by cases e; rfl))
  have e_claim := claim_eq a_claim b_claim
  rw [decide_eq_false h_claim] at e_claim
  refine runf @e_claim ?_
  exact er0
 subst h_claim
 by_cases h_ballot : a_ballot = b_ballot
 rotate_left
 ·obtain rfl : q = false := by rw [← hq]; exact decide_eq_false (fun e => h_ballot (by cases e; rfl))
  have e_ballot := ballot_eq a_ballot b_ballot
  rw [decide_eq_false h_ballot] at e_ballot
  refine runf @e_ballot ?_
  exact er0
 subst h_ballot
 refine run ?_
 refine cp (sameDecision_c a_dec b_dec ha.dto hb.dto) ?_
 by_cases h_dec : a_dec = b_dec
 rotate_left
 ·obtain rfl : q = false := by rw [← hq]; exact decide_eq_false (fun e => h_dec (by cases e; rfl))
  rw [decide_eq_false h_dec]
  refine run ?_
  exact er0
 subst h_dec
 rw [decide_eq_true (p := a_dec = a_dec) rfl]
 obtain rfl : q = true := by rw [← hq]; exact decide_eq_true rfl
 refine run ?_
 exact er0
theorem iwithin_c (n lo hi : Int) : AC Tryz.prog 163 [.it .i64 n, .it .i64 lo, .it .i64 hi] [] (.bo (wi n lo hi)) [] := by
 refine AC.enter [] [] Tryz.func163 rfl (by decide) (by decide) znl (by kernel_rfl) ?_; refine zev ?_
 unfold wi
 by_cases h : lo ≤ n
 ·rw [decide_eq_true h]
  refine run ?_
  exact er0
 ·rw [decide_eq_false h]
  refine run ?_
  exact er0
theorem isServer_c (n : Int) : AC Tryz.prog 165 [.it .i64 n] [] (.bo (isServer n)) [] := by
 refine AC.enter [163] [] Tryz.func165 rfl (by decide) (by decide) znl (by kernel_rfl) ?_; refine zev ?_
 refine run ?_
 refine cp (iwithin_c n 0 19) ?_
 refine run ?_
 exact er0
theorem isTime_c (n : Int) : AC Tryz.prog 89 [.it .i64 n] [] (.bo (isTime n)) [] := by
 refine AC.enter [163] [] Tryz.func89 rfl (by decide) (by decide) znl (by kernel_rfl) ?_; refine zev ?_
 refine run ?_
 refine cp (iwithin_c n 0 1099511627776) ?_
 refine run ?_
 exact er0
theorem iisDigest_c (s : By) : AC Tryz.prog 164 [.st s] [] (.bo (dig s)) [] := by
 refine AC.enter [] [] Tryz.func164 rfl (by decide) (by decide) znl (by kernel_rfl) ?_; refine zev ?_
 rw [dig_eq]
 refine run ?_
 exact er0
theorem rightSig_c (s : Sig) : AC Tryz.prog 166 [sigV s] [] (.bo (sigR s)) [] := by
 refine AC.enter [163] [] Tryz.func166 rfl (by decide) (by decide) znl (by kernel_rfl) ?_; refine zev ?_
 unfold sigR
 refine run ?_
 refine cp (iwithin_c s.e 0 2305843009213693949) ?_
 cases h1 : wi s.e 0 2305843009213693949 with
 | false => refine run ?_; exact er0
 | true =>
  refine run ?_
  refine cp (iwithin_c s.s 0 2305843009213693949) ?_
  refine run ?_
  exact er0
theorem rightClaim_c (c : It.Claim) (ha : c.actor.length ≤ 140737488355328) : AC Tryz.prog 86 [claimV c] [] (.bo (rightClaim c)) [] := by
 refine AC.enter [158, 163, 164, 165, 89, 166] [] Tryz.func86 rfl (by decide) (by decide) znl (by kernel_rfl) ?_; refine zev ?_
 unfold rightClaim
 refine run ?_
 refine cp (idright_c c.actor ha) ?_
 cases h0 : idR c.actor with
 | false => refine run ?_; exact er0
 | true =>
  refine run ?_
  refine cp (iwithin_c c.base 1 1073741824) ?_
  cases h1 : wi c.base 1 1073741824 with
  | false => refine run ?_; exact er0
  | true =>
   refine run ?_
   refine cp (iisDigest_c c.prev) ?_
   cases h2 : dig c.prev with
   | false => refine run ?_; exact er0
   | true =>
    refine run ?_
    refine cp (iwithin_c c.gen 0 1073741824) ?_
    cases h3 : wi c.gen 0 1073741824 with
    | false => refine run ?_; exact er0
    | true =>
     refine run ?_
     refine cp (isServer_c c.home) ?_
     cases h4 : isServer c.home with
     | false => refine run ?_; exact er0
     | true =>
      refine run ?_
      refine cp (iwithin_c c.pub 1 2305843009213693950) ?_
      cases h5 : wi c.pub 1 2305843009213693950 with
      | false => refine run ?_; exact er0
      | true =>
       refine run ?_
       refine cp (isTime_c c.time) ?_
       cases h6 : isTime c.time with
       | false => refine run ?_; exact er0
       | true =>
        refine run ?_
        refine cp (rightSig_c c.sig) ?_
        refine run ?_
        exact er0
theorem rightBallot_c (b : It.Ballot) (ha : b.actor.length ≤ 140737488355328) : AC Tryz.prog 87 [ballotV b] [] (.bo (rightBallot b)) [] := by
 refine AC.enter [158, 163, 164, 165, 89, 166] [] Tryz.func87 rfl (by decide) (by decide) znl (by kernel_rfl) ?_; refine zev ?_
 unfold rightBallot
 refine run ?_
 refine cp (isServer_c b.server) ?_
 cases h0 : isServer b.server with
 | false => refine run ?_; exact er0
 | true =>
  refine run ?_
  refine cp (idright_c b.actor ha) ?_
  cases h1 : idR b.actor with
  | false => refine run ?_; exact er0
  | true =>
   refine run ?_
   refine cp (iwithin_c b.gen 0 1073741824) ?_
   cases h2 : wi b.gen 0 1073741824 with
   | false => refine run ?_; exact er0
   | true =>
    refine run ?_
    refine cp (iisDigest_c b.claim) ?_
    cases h3 : dig b.claim with
    | false => refine run ?_; exact er0
    | true =>
     refine run ?_
     refine cp (isTime_c b.time) ?_
     cases h4 : isTime b.time with
     | false => refine run ?_; exact er0
     | true =>
      refine run ?_
      refine cp (rightSig_c b.sig) ?_
      refine run ?_
      exact er0
structure Dz (d : It.Decision) : Prop where
 actor : d.actor.length ≤ 140737488355328
 to : d.to.length ≤ 140737488355328
 tos : ∀ s ∈ d.to, s.length ≤ 140737488355328
theorem plain_eq (d : It.Decision) : plainD d = (if (d.to.length : Int) = 0 then (d.n == 0) else false) := by
 unfold plainD
 by_cases h : d.to = []
 ·rw [decide_eq_true h, if_pos (by rw [h]; rfl)]
  rfl
 ·rw [decide_eq_false h, if_neg (by have := List.length_pos_iff.2 h; omega)]
  rfl
set_option maxHeartbeats 8000000 in
theorem rightTerms_c (d : It.Decision) (h : Dz d) : AC Tryz.prog 167 [decisionV d] [] (.bo (rightTerms d)) [] := by
 refine AC.enter [158, 164, 237, 163] [] Tryz.func167 rfl (by decide) (by decide) znl (by kernel_rfl) ?_; refine zev ?_
 have hn := nilD
 have hs : decide ((d.text.length : Int) ≤ 500) = short d.text := (short_eq d.text).symm
 have hl : decide ((d.text.length : Int) ≤ 4096) = decide (d.text.length ≤ 4096) := by
  rw [Bool.eq_iff_iff]
  simp only [decide_eq_true_eq]
  omega
 obtain ⟨p, hp⟩ : ∃ p, plainD d = p := ⟨_, rfl⟩
 have hpe := plain_eq d
 rw [hp] at hpe
 unfold rightTerms
 rw [hp]
 have k1 := idright_c d.actor h.actor
 have k2 := iisDigest_c d.object
 have k3 := ids_c d.to h.tos h.to
 have k4 := iwithin_c d.n 1 d.to.length
 generalize short d.text = sh at *
 generalize decide (d.text.length ≤ 4096) = lg at *
 by_cases hto : (d.to.length : Int) = 0
 focus
  rw [if_pos hto] at hpe
  have hpe := hpe.symm
 rotate_left
 focus
  rw [if_neg hto] at hpe
  subst hpe
  have hpe : d.n = d.n := rfl
 all_goals
  by_cases c1 : d.kind = 0 ∨ d.kind = 1 ∨ d.kind = 4 ∨ d.kind = 6 ∨ d.kind = 7
  focus
   rw [if_pos c1]
   rcases c1 with c | c | c | c | c
   all_goals
    refine runf (an @hs (an @hl @hpe)) ?_
    refine cp k1 ?_
    cases h1 : idR d.actor with
    | false => refine run ?_; exact er0
    | true =>
     by_cases h2 : d.object = []
     ·try rw [decide_eq_true h2]
      refine runf (an @hn @h2) ?_
      cases sh with
      | false => refine run ?_; exact er0
      | true => refine run ?_; exact er0
     ·try rw [decide_eq_false h2]
      refine runf (an @hn @h2) ?_
      exact er0
  rw [if_neg c1]
  by_cases c2 : d.kind = 2 ∨ d.kind = 3 ∨ d.kind = 5
  focus
   rw [if_pos c2]
   rcases c2 with c | c | c
   all_goals
    by_cases h2 : d.actor = []
    rotate_left
    ·try rw [decide_eq_false h2]
     refine runf (an @hs (an @hl (an @hpe (an @hn @h2)))) ?_
     exact er0
    try rw [decide_eq_true h2]
    have h2' : (d.actor == []) = true := by rw [h2]; rfl
    refine runf (an @hs (an @hl (an @hpe @h2'))) ?_
    refine cp k2 ?_
    cases h3 : dig d.object with
    | false => refine run ?_; exact er0
    | true =>
     cases sh with
     | false => refine run ?_; exact er0
     | true => refine run ?_; exact er0
  rw [if_neg c2]
  by_cases c3 : d.kind = 8
  focus
   rw [if_pos c3]
   by_cases h2 : d.actor = []
   rotate_left
   ·try rw [decide_eq_false h2]
    refine runf (an @hs (an @hl (an @hpe (an @hn @h2)))) ?_
    exact er0
   try rw [decide_eq_true h2]
   have h2' : (d.actor == []) = true := by rw [h2]; rfl
   by_cases h3 : d.object = []
   rotate_left
   ·try rw [decide_eq_false h3]
    refine runf (an @hs (an @hl (an @hpe (an @hn (an @h2' @h3))))) ?_
    exact er0
   try rw [decide_eq_true h3]
   have h3' : (d.object == []) = true := by rw [h3]; rfl
   cases sh with
   | false => refine runf (an @hs (an @hl (an @hpe (an @h2' @h3')))) ?_; exact er0
   | true =>
    refine runf (an @hs (an @hl (an @hpe (an @h2' @h3')))) ?_
    refine cp k3 ?_
    cases h4 : idsR d.to with
    | false => refine run ?_; exact er0
    | true =>
     refine run ?_
     refine cp k4 ?_
     refine run ?_
     exact er0
  rw [if_neg c3]
  by_cases c4 : d.kind = 9
  focus
   rw [if_pos c4]
   by_cases h2 : d.actor = []
   rotate_left
   ·try rw [decide_eq_false h2]
    refine runf (an @hs (an @hl (an @hpe (an @hn @h2)))) ?_
    exact er0
   try rw [decide_eq_true h2]
   have h2' : (d.actor == []) = true := by rw [h2]; rfl
   by_cases h3 : d.object = []
   rotate_left
   ·try rw [decide_eq_false h3]
    refine runf (an @hs (an @hl (an @hpe (an @hn (an @h2' @h3))))) ?_
    exact er0
   try rw [decide_eq_true h3]
   have h3' : (d.object == []) = true := by rw [h3]; rfl
   cases lg with
   | false => refine runf (an @hs (an @hl (an @hpe (an @h2' @h3')))) ?_; exact er0
   | true => refine runf (an @hs (an @hl (an @hpe (an @h2' @h3')))) ?_; exact er0
  rw [if_neg c4]
  refine runf (an @hs (an @hl @hpe)) ?_
  exact er0
theorem rightDecision_c (d : It.Decision) (h : Dz d) : AC Tryz.prog 88 [decisionV d] [] (.bo (rightDecision d)) [] := by
 refine AC.enter [165, 163, 89, 167, 166] [] Tryz.func88 rfl (by decide) (by decide) znl (by kernel_rfl) ?_; refine zev ?_
 unfold rightDecision
 refine run ?_
 refine cp (isServer_c d.server) ?_
 cases h0 : isServer d.server with
 | false => refine run ?_; exact er0
 | true =>
  refine run ?_
  refine cp (iwithin_c d.number 0 1073741824) ?_
  cases h1 : wi d.number 0 1073741824 with
  | false => refine run ?_; exact er0
  | true =>
   refine run ?_
   refine cp (isTime_c d.frm) ?_
   cases h2 : isTime d.frm with
   | false => refine run ?_; exact er0
   | true =>
    refine run ?_
    refine cp (isTime_c d.til) ?_
    cases h3 : isTime d.til with
    | false => refine run ?_; exact er0
    | true =>
     by_cases h4 : d.frm < d.til
     rotate_left
     ·rw [decide_eq_false h4]
      refine run ?_
      exact er0
     rw [decide_eq_true h4]
     refine run ?_
     refine cp (rightTerms_c d h) ?_
     cases h5 : rightTerms d with
     | false => refine run ?_; exact er0
     | true =>
      refine run ?_
      refine cp (rightSig_c d.sig) ?_
      refine run ?_
      exact er0
structure Iz (i : It.Item) : Prop where
 act : Sz i.act
 claim : i.claim.actor.length ≤ 140737488355328
 ballot : i.ballot.actor.length ≤ 140737488355328
 decision : Dz i.decision
theorem Iz.lz {i : It.Item} (h : Iz i) : Lz i := ⟨h.act.to, h.act.wraps, h.decision.to⟩
theorem lz0 : Lz item0 := ⟨by decide, by decide, by decide⟩
theorem rightI_c (i : It.Item) (h : Iz i) : AC Tryz.prog 34 [itemV i] [] (.bo (It.right i)) [] := by
 refine AC.enter [85, 86, 87, 88, 37] [] Tryz.func34 rfl (by decide) (by decide) znl (by kernel_rfl) ?_; refine zev ?_
 have hl := h.lz
 unfold It.right rightField rest
 have lz : ∀ j : It.Item, (j.act = i.act ∨ j.act = act0) → (j.decision = i.decision ∨ j.decision = decision0) → Lz j := fun j h1 h2 => by
  refine ⟨?_, ?_, ?_⟩
  ·rcases h1 with e | e <;> rw [e]; exact hl.to; exact by decide
  ·rcases h1 with e | e <;> rw [e]; exact hl.wraps; exact by decide
  ·rcases h2 with e | e <;> rw [e]; exact hl.dto; exact by decide
 by_cases h0 : i.kind = 0
 ·rw [if_pos h0, if_pos h0]
  have ks : AC _ _ [itemV { i with kind := 0, act := act0 }, itemV item0] [] _ [] := sameI_c { i with kind := 0, act := act0 } item0 (lz _ (.inr rfl) (.inl rfl)) lz0
  refine run ?_
  refine cp (right_c i.act h.act) ?_
  cases hr : Ac.right i.act with
  | false => refine run ?_; exact er0
  | true =>
   refine run ?_
   refine cp ks ?_
   refine run ?_
   exact er0
 rw [if_neg h0, if_neg h0]
 by_cases h1 : i.kind = 1
 ·rw [if_pos h1, if_pos h1]
  have ks : AC _ _ [itemV { i with kind := 0, claim := claim0 }, itemV item0] [] _ [] := sameI_c { i with kind := 0, claim := claim0 } item0 (lz _ (.inl rfl) (.inl rfl)) lz0
  refine run ?_
  refine cp (rightClaim_c i.claim h.claim) ?_
  cases hr : rightClaim i.claim with
  | false => refine run ?_; exact er0
  | true =>
   refine run ?_
   refine cp ks ?_
   refine run ?_
   exact er0
 rw [if_neg h1, if_neg h1]
 by_cases h2 : i.kind = 2
 ·rw [if_pos h2, if_pos h2]
  have ks : AC _ _ [itemV { i with kind := 0, ballot := ballot0 }, itemV item0] [] _ [] := sameI_c { i with kind := 0, ballot := ballot0 } item0 (lz _ (.inl rfl) (.inl rfl)) lz0
  refine run ?_
  refine cp (rightBallot_c i.ballot h.ballot) ?_
  cases hr : rightBallot i.ballot with
  | false => refine run ?_; exact er0
  | true =>
   refine run ?_
   refine cp ks ?_
   refine run ?_
   exact er0
 rw [if_neg h2, if_neg h2]
 by_cases h3 : i.kind = 3
 ·rw [if_pos h3, if_pos h3]
  have ks : AC _ _ [itemV { i with kind := 0, decision := decision0 }, itemV item0] [] _ [] := sameI_c { i with kind := 0, decision := decision0 } item0 (lz _ (.inl rfl) (.inr rfl)) lz0
  refine run ?_
  refine cp (rightDecision_c i.decision h.decision) ?_
  cases hr : rightDecision i.decision with
  | false => refine run ?_; exact er0
  | true =>
   refine run ?_
   refine cp ks ?_
   refine run ?_
   exact er0
 ·rw [if_neg h3]
  refine run ?_
  exact er0
theorem Weak.reserveC [Tab] (N0 : Nat) {e : Env} {S : Store} (l : Nat) {es : List AV} (hS : S[l]? = some (.cells [.sl .full es])) (ty : TypeId) (sz : Nat) : Weak N0 e S e (S.set l (.cells [.sl (.own S.length) es]) ++ [.buf es.length ty sz]) := by
 rintro N w0 g0 a w hn ⟨h1, h2, g, h3, h4, h5⟩
 obtain ⟨g', h6, h7, h8, h9, h10⟩ := h3.reserve es.length ty sz
 have hlS := (List.getElem?_eq_some_iff.1 hS).1
 have hn3 := h3.nid
 have hn6 := h6.nid
 rw [List.length_append, List.length_singleton] at hn6
 refine ⟨h1, h2, g', ⟨by rw [List.length_append, List.length_set, List.length_singleton]; exact hn6, fun k o hk => ?_, h6.disj, h6.lt, h6.tab⟩, fun t => (h4 t).le h7.toLe, h5.trans h7⟩
 by_cases hkl : k = l
 ·subst hkl
  rw [List.getElem?_append_left (by rw [List.length_set]; exact hlS), List.getElem?_set_self hlS] at hk
  cases hk
  obtain ⟨k1, k2, k3, arr, T, fr, k4, k5, k6, k7, k8⟩ := h6.obj k (.cells [.sl .full es]) (get_app hS _)
  refine ⟨k1, k2, k3, arr, T, fr, k4, k5, by simpa using k6, k7, fun j u v hu hv => ?_⟩
  cases j with
  | zero =>
   simp only [List.getElem?_cons_zero, Option.some.injEq] at hu
   subst hu
   refine (k8 0 _ v rfl hv).own_full (by omega) ?_ ?_
   ·rw [← hn3]; exact h9
   ·rw [← hn3]; exact h10
  | succ j => simp at hu
 ·refine h6.obj k o ?_
  by_cases hkS : k < S.length
  ·rw [List.getElem?_append_left (by rw [List.length_set]; exact hkS), List.getElem?_set_ne (Ne.symm hkl)] at hk
   rw [List.getElem?_append_left hkS]
   exact hk
  ·rw [List.getElem?_append_right (by rw [List.length_set]; omega), List.length_set] at hk
   rw [List.getElem?_append_right (by omega)]
   exact hk
abbrev BV (ty : TypeId) (acc : By) : Store := [.cells [.sl (.own 1) (acc.map u8)], .buf acc.length ty 1]
section
variable [Tab] {P : Program} {pf rf : List FuncId} {e : Env} {f : FuncId} {d : Option Nat} {rest : List AO} {K : Env → Store → Prop}
theorem cb {args gargs : List AV} {T : Store} {acc acc' : By} {v : AV} {ty : TypeId} (l l' : Nat) (h : AC P f (.ptr 0 0 :: args) (BV ty acc) v (BV ty acc'))
  (h' : ARg P pf rf rest (put e d v) ((T.set l (.cells [.sl (.own l') (acc'.map u8)])).set l' (.buf acc'.length ty 1)) K)
  (ha : args.all (AV.ok 0) = true := by rfl) (hv : v.ok 0 = true := by rfl) (hne : l ≠ l' := by decide) (hT : T[l]? = some (.cells [.sl (.own l') (acc.map u8)]) := by rfl) (hT' : T[l']? = some (.buf acc.length ty 1) := by rfl)
  (hg : gargs.map AV.wk = .ptr l 0 :: args := by rfl) : callP (AnyC P f gargs T) (ARgk P pf rf d rest e K) := by
 refine call_mk (show AC P f (gargs.map AV.wk) T v _ from ?_) h'
 rw [hg]
 have ha1 : ∀ u ∈ args, u.ok 2 = true := fun u hu => ok_mono (List.all_eq_true.1 ha u hu) (Nat.zero_le 2)
 have := h.frame (T := T) [l, l'] (subOk_two l l' hne rfl rfl hT hT') (by simp only [List.all_cons, Bool.and_eq_true]; exact ⟨rfl, List.all_eq_true.2 ha1⟩) (ok_mono hv (Nat.zero_le 2)) (fun i o hi => by
  match i, hi with
  | 0, hi => cases hi; rfl
  | 1, hi => cases hi; rfl)
 rw [List.map_cons, ren_all ha, ren_id hv (fun i hi => absurd hi (Nat.not_lt_zero _))] at this
 simpa [after, setAll, ext, idx, SObj.ren, AV.r1, AV.r0, Mode.ren, AV.ren, AV.r2] using this
theorem cb0 {args gargs : List AV} {T : Store} {acc' : By} {v : AV} {ty : TypeId} (l : Nat) (h : AC P f (.ptr 0 0 :: args) [.cells [.sl .full []]] v (BV ty acc'))
  (h' : ARg P pf rf rest (put e d v) (T.set l (.cells [.sl (.own T.length) (acc'.map u8)]) ++ [.buf acc'.length ty 1]) K)
  (ha : args.all (AV.ok 0) = true := by rfl) (hv : v.ok 0 = true := by rfl) (hT : T[l]? = some (.cells [.sl .full []]) := by rfl)
  (hg : gargs.map AV.wk = .ptr l 0 :: args := by rfl) : callP (AnyC P f gargs T) (ARgk P pf rf d rest e K) := by
 refine call_mk (show AC P f (gargs.map AV.wk) T v _ from ?_) h'
 rw [hg]
 have ha1 : ∀ u ∈ args, u.ok 1 = true := fun u hu => ok_mono (List.all_eq_true.1 ha u hu) (Nat.zero_le 1)
 have := h.frame (T := T) [l] (subOk_one l rfl hT) (by simp only [List.all_cons, Bool.and_eq_true]; exact ⟨rfl, List.all_eq_true.2 ha1⟩) (ok_mono hv (Nat.zero_le 2)) (fun i o hi => by
  match i, hi with
  | 0, hi => cases hi; rfl
  | 1, hi => cases hi; rfl)
 rw [List.map_cons, ren_all ha, ren_id hv (fun i hi => absurd hi (Nat.not_lt_zero _))] at this
 simpa [after, setAll, ext, idx, SObj.ren, AV.r1, AV.r0, Mode.ren, AV.ren, AV.r2] using this
theorem en2 {rs : List ResultVar} {v : AV} {S : Store} {o o' : SObj} {vs : List AV} {N0 : Nat} (hn : [0, 1].take N0 = List.range N0) (h : aRes P rs e S = some vs := by rfl) (ho : o.ok 2 = true := by rfl) (ho' : o'.ok 2 = true := by rfl)
  (hS : S[0]? = some (o.ren (idx [0, 1])) := by rfl) (hS' : S[1]? = some (o'.ren (idx [0, 1])) := by rfl) (hk : v.ok 2 = true := by rfl) (hv : resV vs = v.ren (idx [0, 1]) := by rfl) : finQ P rs N0 v [o, o'] .norm e S :=
 ⟨e, S, vs, [0, 1], Weak.refl N0 e S, h, subOk_two 0 1 (by decide) ho ho' hS hS', hn, hk, .inl hv⟩
end
theorem bv_app (ty : TypeId) (a b : By) : [SObj.cells [.sl (.own 1) (a.map u8 ++ b.map u8)], .buf (a.length + b.length) ty 1] = BV ty (a ++ b) := by
 show _ = [SObj.cells [.sl (.own 1) ((a ++ b).map u8)], .buf (a ++ b).length ty 1]
 rw [List.map_append, List.length_append]
theorem flat_step {α : Type} (g : α → By) {l : List α} {k : Nat} (hk : k < l.length) : ((l.take (k + 1)).map g).flatten = ((l.take k).map g).flatten ++ g l[k] := by
 rw [List.take_succ_eq_append_getElem hk, List.map_append, List.flatten_append]
 congr 1
 exact List.append_nil _
theorem flat_bound {α : Type} (g : α → By) (l : List α) (B k : Nat) (h : ∀ x ∈ l, (g x).length ≤ B) : ((l.take k).map g).flatten.length ≤ k * B := by
 induction l generalizing k with
 | nil => simp
 | cons a l ih =>
  cases k with
  | zero => simp
  | succ k =>
   have h1 := h a (by simp)
   have h2 := ih k fun x hx => h x (by simp [hx])
   simp only [List.take_succ_cons, List.map_cons, List.flatten_cons, List.length_append, Nat.succ_mul]
   omega
theorem nums_c (l : List Int) (acc : By) (hl : l.length ≤ 100) (h : ∀ x ∈ l, -9223372036854775808 ≤ x ∧ x ≤ 9223372036854775807) (hac : acc.length ≤ 1000000000) : AC Tryz.prog 168 [.ptr 0 0, .sl .ro (l.map (AV.it .i64))] (BV 5 acc) (.tup []) (BV 5 (acc ++ (l.map numI).flatten)) := by
 refine AC.enter [57] [] Tryz.func168 rfl (by decide) (by decide) znl (by kernel_rfl) ?_; refine zev ?_
 refine run ?_
 refine loop_mk' (fun m e S => e 0 = .ptr 0 0 ∧ e 6 = .sl .ro (l.map (AV.it .i64)) ∧ e 7 = .it .i64 (l.length : Int) ∧ ∃ (k : Nat) (cur : By), e 8 = .it .i64 (k : Int) ∧ S = BV 5 cur ∧ cur = acc ++ ((l.take k).map numI).flatten ∧ k ≤ l.length ∧ m = l.length - k) l.length _ _ (Weak.refl 2 _ _)
  ⟨zsl, zsl, zsl, 0, acc, zsl, rfl, by simp, by omega, rfl⟩ ?_
 rintro m e S ⟨s0, s6, s7, k, cur, s8, rfl, hcur, hk, rfl⟩
 have hb := flat_bound numI l 9 k (fun x hx => numI_le x (by have := h x hx; omega))
 have hk100 : k * 9 ≤ 100 * 9 := Nat.mul_le_mul_right _ (by omega)
 have hcl : cur.length ≤ 1000000000 + 100 * 9 := by rw [hcur]; rw [List.length_append]; omega
 by_cases hlt : k < l.length
 rotate_left
 ·obtain rfl : k = l.length := by omega
  rw [List.take_length] at hcur
  rw [← hcur]
  refine runf (an @s0 (an @s6 (an @s7 @s8))) ?_
  exact en2 rfl
 have hg : l[k]? = some l[k] := List.getElem?_eq_getElem hlt
 have hx := h l[k] (List.getElem_mem hlt)
 have hst := flat_step numI hlt
 have hbx := ((fun x hx => numI_le x (by have := h x hx; omega))) l[k] (List.getElem_mem hlt)
 generalize l[k] = x at *
 have hsz : allSz 1 (l.map (AV.it .i64)) = true := allSz_map 1 _ (fun _ => rfl) _
 refine runf (an @s0 (an @s6 (an @s7 (an @s8 (an @hg @hsz))))) ?_
 refine cp (num_c x (by omega) (by omega)) ?_
 refine runf (an @s0 (an @s6 (an @s7 @s8))) ?_
 exact round_mk (l.length - (k + 1)) (by omega) ⟨zsl, zsl, zsl, k + 1, cur ++ numI x, zsl, bv_app _ _ _, by rw [hst, hcur]; rw [List.append_assoc], by omega, rfl⟩
theorem nums0_c (l : List Int) (hl : l.length ≤ 100) (h : ∀ x ∈ l, -9223372036854775808 ≤ x ∧ x ≤ 9223372036854775807) : AC Tryz.prog 168 [.ptr 0 0, .sl .ro (l.map (AV.it .i64))] [.cells [.sl .full []]] (.tup []) (BV 5 ((l.map numI).flatten)) := by
 refine AC.enter [57] [] Tryz.func168 rfl (by decide) (by decide) znl (by kernel_rfl) ?_; refine zev ?_
 refine run ?_
 refine loop_mk' (fun m e S => e 0 = .ptr 0 0 ∧ e 6 = .sl .ro (l.map (AV.it .i64)) ∧ e 7 = .it .i64 (l.length : Int) ∧ ∃ (k : Nat) (cur : By), e 8 = .it .i64 (k : Int) ∧ S = BV 5 cur ∧ cur = ((l.take k).map numI).flatten ∧ k ≤ l.length ∧ m = l.length - k) l.length _ _ (Weak.reserveC 1 0 (es := []) (by rfl) 5 1)
  ⟨zsl, zsl, zsl, 0, [], zsl, rfl, by simp, by omega, rfl⟩ ?_
 rintro m e S ⟨s0, s6, s7, k, cur, s8, rfl, hcur, hk, rfl⟩
 have hb := flat_bound numI l 9 k (fun x hx => numI_le x (by have := h x hx; omega))
 have hk100 : k * 9 ≤ 100 * 9 := Nat.mul_le_mul_right _ (by omega)
 have hcl : cur.length ≤ 100 * 9 := by rw [hcur]; exact Nat.le_trans hb hk100
 by_cases hlt : k < l.length
 rotate_left
 ·obtain rfl : k = l.length := by omega
  rw [List.take_length] at hcur
  rw [← hcur]
  refine runf (an @s0 (an @s6 (an @s7 @s8))) ?_
  exact en2 rfl
 have hg : l[k]? = some l[k] := List.getElem?_eq_getElem hlt
 have hx := h l[k] (List.getElem_mem hlt)
 have hst := flat_step numI hlt
 have hbx := ((fun x hx => numI_le x (by have := h x hx; omega))) l[k] (List.getElem_mem hlt)
 generalize l[k] = x at *
 have hsz : allSz 1 (l.map (AV.it .i64)) = true := allSz_map 1 _ (fun _ => rfl) _
 refine runf (an @s0 (an @s6 (an @s7 (an @s8 (an @hg @hsz))))) ?_
 refine cp (num_c x (by omega) (by omega)) ?_
 refine runf (an @s0 (an @s6 (an @s7 @s8))) ?_
 exact round_mk (l.length - (k + 1)) (by omega) ⟨zsl, zsl, zsl, k + 1, cur ++ numI x, zsl, bv_app _ _ _, by rw [hst, hcur], by omega, rfl⟩
theorem texts_c (l : List By) (acc : By) (hl : l.length ≤ 100) (h : ∀ x ∈ l, x.length ≤ 1000000) (hac : acc.length ≤ 1000000000) : AC Tryz.prog 286 [.ptr 0 0, sls l] (BV 5 acc) (.tup []) (BV 5 (acc ++ (l.map text).flatten)) := by
 refine AC.enter [56] [] Tryz.func286 rfl (by decide) (by decide) znl (by kernel_rfl) ?_; refine zev ?_
 refine run ?_
 refine loop_mk' (fun m e S => e 0 = .ptr 0 0 ∧ e 6 = sls l ∧ e 7 = .it .i64 (l.length : Int) ∧ ∃ (k : Nat) (cur : By), e 8 = .it .i64 (k : Int) ∧ S = BV 5 cur ∧ cur = acc ++ ((l.take k).map text).flatten ∧ k ≤ l.length ∧ m = l.length - k) l.length _ _ (Weak.refl 2 _ _)
  ⟨zsl, zsl, zsl, 0, acc, zsl, rfl, by simp, by omega, rfl⟩ ?_
 rintro m e S ⟨s0, s6, s7, k, cur, s8, rfl, hcur, hk, rfl⟩
 have hb := flat_bound text l 1000009 k (fun x hx => text_len (h x hx))
 have hk100 : k * 1000009 ≤ 100 * 1000009 := Nat.mul_le_mul_right _ (by omega)
 have hcl : cur.length ≤ 1000000000 + 100 * 1000009 := by rw [hcur]; rw [List.length_append]; omega
 by_cases hlt : k < l.length
 rotate_left
 ·obtain rfl : k = l.length := by omega
  rw [List.take_length] at hcur
  rw [← hcur]
  refine runf (an @s0 (an @s6 (an @s7 @s8))) ?_
  exact en2 rfl
 have hg : l[k]? = some l[k] := List.getElem?_eq_getElem hlt
 have hx := h l[k] (List.getElem_mem hlt)
 have hst := flat_step text hlt
 have hbx := ((fun x hx => text_len (h x hx))) l[k] (List.getElem_mem hlt)
 generalize l[k] = x at *
 have hsz : allSz 1 (l.map AV.st) = true := allSz_map 1 _ (fun _ => rfl) _
 refine runf (an @s0 (an @s6 (an @s7 (an @s8 (an @hg @hsz))))) ?_
 refine cp (text_c x (by omega)) ?_
 refine runf (an @s0 (an @s6 (an @s7 @s8))) ?_
 exact round_mk (l.length - (k + 1)) (by omega) ⟨zsl, zsl, zsl, k + 1, cur ++ text x, zsl, bv_app _ _ _, by rw [hst, hcur]; rw [List.append_assoc], by omega, rfl⟩
structure Ez (i : It.Item) : Prop where
 c : i.claim.actor.length ≤ 1000000 ∧ i.claim.prev.length ≤ 1000000
 ci : ∀ x ∈ [i.claim.base, i.claim.gen, i.claim.home, i.claim.pub, i.claim.time], -9223372036854775808 ≤ x ∧ x ≤ 9223372036854775807
 b : i.ballot.actor.length ≤ 1000000 ∧ i.ballot.claim.length ≤ 1000000
 bi : ∀ x ∈ [i.ballot.server, i.ballot.gen, i.ballot.time], -9223372036854775808 ≤ x ∧ x ≤ 9223372036854775807
 d : i.decision.actor.length ≤ 1000000 ∧ i.decision.object.length ≤ 1000000 ∧ i.decision.text.length ≤ 1000000
 dt : i.decision.to.length ≤ 1000000 ∧ ∀ s ∈ i.decision.to, s.length ≤ 1000000
 di : ∀ x ∈ [i.decision.server, i.decision.number, i.decision.kind, i.decision.n, i.decision.frm, i.decision.til], -9223372036854775808 ≤ x ∧ x ≤ 9223372036854775807
theorem flat1 (g : Int → By) (a : Int) : ([a].map g).flatten = g a := by simp
theorem flat1t (a : By) : ([a].map text).flatten = text a := by simp
theorem bclaim_c (i : It.Item) (acc : By) (h : Ez i) (hac : acc.length ≤ 100000000) : AC Tryz.prog 245 [.ptr 0 0, itemV i] (BV 5 acc) (.tup []) (BV 5 (acc ++ claimB i.claim)) := by
 refine AC.enter [] [] Tryz.func245 rfl (by decide) (by decide) znl (by kernel_rfl) ?_; refine zev ?_
 have h1 := h.c
 have h2 := h.ci
 simp only [List.forall_mem_cons] at h2
 have l1 := text_len h1.1
 have l2 := numI_le i.claim.base (by omega)
 have l3 := text_len h1.2
 have k1 := texts_c [i.claim.actor] acc (by simp) (by simpa using h1.1) (by omega)
 have k2 := nums_c [i.claim.base] (acc ++ text i.claim.actor) (by simp) (by simp; omega) (by simp only [List.length_append]; omega)
 have k3 := texts_c [i.claim.prev] (acc ++ text i.claim.actor ++ numI i.claim.base) (by simp) (by simpa using h1.2) (by simp only [List.length_append]; omega)
 have k4 := nums_c [i.claim.gen, i.claim.home, i.claim.pub, i.claim.time] (acc ++ text i.claim.actor ++ numI i.claim.base ++ text i.claim.prev) (by simp) (by simp; omega) (by simp only [List.length_append]; omega)
 rw [flat1t] at k1 k3
 rw [flat1] at k2
 have he : acc ++ claimB i.claim = acc ++ text i.claim.actor ++ numI i.claim.base ++ text i.claim.prev ++ ([i.claim.gen, i.claim.home, i.claim.pub, i.claim.time].map numI).flatten := by
  unfold claimB
  simp
 rw [he]
 clear he l1 l2 l3 h1 h2
 generalize ([i.claim.gen, i.claim.home, i.claim.pub, i.claim.time].map numI).flatten = tl at *
 generalize acc ++ text i.claim.actor ++ numI i.claim.base ++ text i.claim.prev ++ tl = a4 at *
 generalize acc ++ text i.claim.actor ++ numI i.claim.base ++ text i.claim.prev = a3 at *
 generalize acc ++ text i.claim.actor ++ numI i.claim.base = a2 at *
 generalize acc ++ text i.claim.actor = a1 at *
 refine run ?_
 refine cb 0 1 k1 ?_
 refine run ?_
 refine cb 0 1 k2 ?_
 refine run ?_
 refine cb 0 1 k3 ?_
 refine run ?_
 refine cb 0 1 k4 ?_
 refine run ?_
 exact en2 rfl
theorem bballot_c (i : It.Item) (acc : By) (h : Ez i) (hac : acc.length ≤ 100000000) : AC Tryz.prog 246 [.ptr 0 0, itemV i] (BV 5 acc) (.tup []) (BV 5 (acc ++ ballotB i.ballot)) := by
 refine AC.enter [] [] Tryz.func246 rfl (by decide) (by decide) znl (by kernel_rfl) ?_; refine zev ?_
 have h1 := h.b
 have h2 := h.bi
 simp only [List.forall_mem_cons] at h2
 have l1 := numI_le i.ballot.server (by omega)
 have l2 := text_len h1.1
 have l3 := numI_le i.ballot.gen (by omega)
 have l4 := text_len h1.2
 have k1 := nums_c [i.ballot.server] acc (by simp) (by simp; omega) (by omega)
 have k2 := texts_c [i.ballot.actor] (acc ++ numI i.ballot.server) (by simp) (by simpa using h1.1) (by simp only [List.length_append]; omega)
 have k3 := nums_c [i.ballot.gen] (acc ++ numI i.ballot.server ++ text i.ballot.actor) (by simp) (by simp; omega) (by simp only [List.length_append]; omega)
 have k4 := texts_c [i.ballot.claim] (acc ++ numI i.ballot.server ++ text i.ballot.actor ++ numI i.ballot.gen) (by simp) (by simpa using h1.2) (by simp only [List.length_append]; omega)
 have k5 := nums_c [i.ballot.time] (acc ++ numI i.ballot.server ++ text i.ballot.actor ++ numI i.ballot.gen ++ text i.ballot.claim) (by simp) (by simp; omega) (by simp only [List.length_append]; omega)
 rw [flat1t] at k2 k4
 rw [flat1] at k1 k3 k5
 have he : acc ++ ballotB i.ballot = acc ++ numI i.ballot.server ++ text i.ballot.actor ++ numI i.ballot.gen ++ text i.ballot.claim ++ numI i.ballot.time := by
  unfold ballotB
  simp only [List.append_assoc]
 rw [he]
 clear he l1 l2 l3 l4 h1 h2
 generalize acc ++ numI i.ballot.server ++ text i.ballot.actor ++ numI i.ballot.gen ++ text i.ballot.claim ++ numI i.ballot.time = a5 at *
 generalize acc ++ numI i.ballot.server ++ text i.ballot.actor ++ numI i.ballot.gen ++ text i.ballot.claim = a4 at *
 generalize acc ++ numI i.ballot.server ++ text i.ballot.actor ++ numI i.ballot.gen = a3 at *
 generalize acc ++ numI i.ballot.server ++ text i.ballot.actor = a2 at *
 generalize acc ++ numI i.ballot.server = a1 at *
 refine run ?_
 refine cb 0 1 k1 ?_
 refine run ?_
 refine cb 0 1 k2 ?_
 refine run ?_
 refine cb 0 1 k3 ?_
 refine run ?_
 refine cb 0 1 k4 ?_
 refine run ?_
 refine cb 0 1 k5 ?_
 refine run ?_
 exact en2 rfl
theorem bdecision_c (i : It.Item) (acc : By) (h : Ez i) (hac : acc.length ≤ 100000000) (hlist : (list i.decision.to).length ≤ 100000000) : AC Tryz.prog 247 [.ptr 0 0, itemV i] (BV 5 acc) (.tup []) (BV 5 (acc ++ decisionB i.decision)) := by
 refine AC.enter2 [284] [] Tryz.func247 rfl (by decide) (by decide) znl (by kernel_rfl) ?_; refine zev ?_
 have h1 := h.d
 have h2 := h.di
 have h3 := h.dt
 simp only [List.forall_mem_cons] at h2
 have hx3 : ([i.decision.server, i.decision.number, i.decision.kind].map numI).flatten = numI i.decision.server ++ (numI i.decision.number ++ numI i.decision.kind) := by simp
 have hx4 : ([i.decision.actor, i.decision.object, i.decision.text].map text).flatten = text i.decision.actor ++ (text i.decision.object ++ text i.decision.text) := by simp
 have hx5 : ([i.decision.n, i.decision.frm, i.decision.til].map numI).flatten = numI i.decision.n ++ (numI i.decision.frm ++ numI i.decision.til) := by simp
 have n1 := numI_le i.decision.server (by omega)
 have n2 := numI_le i.decision.number (by omega)
 have n3 := numI_le i.decision.kind (by omega)
 have t1 := text_len h1.1
 have t2 := text_len h1.2.1
 have t3 := text_len h1.2.2
 have k1 := nums_c [i.decision.server, i.decision.number, i.decision.kind] acc (by simp) (by simp; omega) (by omega)
 rw [hx3] at k1
 have k2 := texts_c [i.decision.actor, i.decision.object, i.decision.text] (acc ++ (numI i.decision.server ++ (numI i.decision.number ++ numI i.decision.kind))) (by simp) (by simp; omega) (by simp only [List.length_append]; omega)
 rw [hx4] at k2
 have k3 := list_c i.decision.to h3.1 h3.2
 have he : acc ++ decisionB i.decision = acc ++ (numI i.decision.server ++ (numI i.decision.number ++ numI i.decision.kind)) ++ (text i.decision.actor ++ (text i.decision.object ++ text i.decision.text)) ++ list i.decision.to ++ (numI i.decision.n ++ (numI i.decision.frm ++ numI i.decision.til)) := by
  unfold decisionB
  simp only [List.append_assoc]
 rw [he]
 have hl1 : (acc ++ (numI i.decision.server ++ (numI i.decision.number ++ numI i.decision.kind)) ++ (text i.decision.actor ++ (text i.decision.object ++ text i.decision.text))).length ≤ 200000000 := by simp only [List.length_append]; omega
 have k4 := nums_c [i.decision.n, i.decision.frm, i.decision.til] (acc ++ (numI i.decision.server ++ (numI i.decision.number ++ numI i.decision.kind)) ++ (text i.decision.actor ++ (text i.decision.object ++ text i.decision.text)) ++ list i.decision.to) (by simp) (by simp; omega) (by rw [List.length_append]; omega)
 rw [hx5] at k4
 generalize acc ++ (numI i.decision.server ++ (numI i.decision.number ++ numI i.decision.kind)) ++ (text i.decision.actor ++ (text i.decision.object ++ text i.decision.text)) = a2 at *
 generalize acc ++ (numI i.decision.server ++ (numI i.decision.number ++ numI i.decision.kind)) = a1 at *
 generalize list i.decision.to = li at *
 generalize numI i.decision.n ++ (numI i.decision.frm ++ numI i.decision.til) = tl at *
 have hmap : a2.map u8 ++ li.map u8 = (a2 ++ li).map u8 := List.map_append.symm
 have hlen : a2.length + li.length = (a2 ++ li).length := List.length_append.symm
 clear n1 n2 n3 t1 t2 t3 he hx3 hx4 hx5
 generalize a2 ++ li = a3 at *
 generalize a3 ++ tl = a4 at *
 refine run ?_
 refine cb 0 1 k1 ?_
 refine run ?_
 refine cb 0 1 k2 ?_
 refine run ?_
 refine cp k3 ?_
 refine runf (an @hmap @hlen) ?_
 refine cb 0 1 k4 ?_
 refine run ?_
 exact en2 rfl
end Go.Proofs.YtlefikdjhnaapaaGreatDoor.Pe
namespace Go.Proofs.YtlefikdjhnaapaaGreatDoor.Pe
open Go Go.RowKit Co Sg Ac It
set_option maxRecDepth 100000
set_option maxHeartbeats 4000000
theorem ezc {c : It.Claim} (h : rightClaim c = true ∨ c = claim0) : (c.actor.length ≤ 1000000 ∧ c.prev.length ≤ 1000000) ∧ ∀ x ∈ [c.base, c.gen, c.home, c.pub, c.time], -9223372036854775808 ≤ x ∧ x ≤ 9223372036854775807 := by
 rcases h with h | rfl
 ·have s := claim_sm h
  have h1 := s.actor; have h2 := s.base; have h3 := s.prev; have h4 := s.gen; have h5 := s.home; have h6 := s.pub; have h7 := s.time
  simp only [List.forall_mem_cons, List.not_mem_nil, false_implies, implies_true, and_true]
  omega
 ·decide
theorem ezb {b : It.Ballot} (h : rightBallot b = true ∨ b = ballot0) : (b.actor.length ≤ 1000000 ∧ b.claim.length ≤ 1000000) ∧ ∀ x ∈ [b.server, b.gen, b.time], -9223372036854775808 ≤ x ∧ x ≤ 9223372036854775807 := by
 rcases h with h | rfl
 ·have s := ballot_sm h
  have h1 := s.actor; have h2 := s.server; have h3 := s.claim; have h4 := s.gen; have h5 := s.time
  simp only [List.forall_mem_cons, List.not_mem_nil, false_implies, implies_true, and_true]
  omega
 ·decide
theorem ezd {d : It.Decision} (h : rightDecision d = true ∨ d = decision0) : (d.actor.length ≤ 1000000 ∧ d.object.length ≤ 1000000 ∧ d.text.length ≤ 1000000) ∧ (d.to.length ≤ 64 ∧ ∀ s ∈ d.to, s.length ≤ 16) ∧ ∀ x ∈ [d.server, d.number, d.kind, d.n, d.frm, d.til], -9223372036854775808 ≤ x ∧ x ≤ 9223372036854775807 := by
 rcases h with h | rfl
 ·have s := decision_sm h
  have h1 := s.actor; have h2 := s.server; have h3 := s.number; have h4 := s.kind; have h5 := s.object; have h6 := s.text; have h7 := s.to; have h8 := s.n; have h9 := s.frm; have h10 := s.til
  simp only [List.forall_mem_cons, List.not_mem_nil, false_implies, implies_true, and_true]
  refine ⟨by omega, ⟨h7.1, fun s hs => Nat.le_of_eq (h7.2 s hs)⟩, by omega⟩
 ·decide
theorem right_parts {i : It.Item} (h : It.right i = true) : (Ac.right i.act = true ∨ i.act = act0) ∧ (rightClaim i.claim = true ∨ i.claim = claim0) ∧ (rightBallot i.ballot = true ∨ i.ballot = ballot0) ∧ (rightDecision i.decision = true ∨ i.decision = decision0) := by
 rcases right_kind h with e | e | e | e
 ·obtain ⟨q1, q2, q3, q4⟩ := (right_act e).1 h
  exact ⟨.inl q1, .inr q2, .inr q3, .inr q4⟩
 ·obtain ⟨q1, q2, q3, q4⟩ := (right_claim e).1 h
  exact ⟨.inr q2, .inl q1, .inr q3, .inr q4⟩
 ·obtain ⟨q1, q2, q3, q4⟩ := (right_ballot e).1 h
  exact ⟨.inr q2, .inr q3, .inl q1, .inr q4⟩
 ·obtain ⟨q1, q2, q3, q4⟩ := (right_decision e).1 h
  exact ⟨.inr q2, .inr q3, .inr q4, .inl q1⟩
theorem ez_of {i : It.Item} (hc : rightClaim i.claim = true ∨ i.claim = claim0) (hb : rightBallot i.ballot = true ∨ i.ballot = ballot0) (hd : rightDecision i.decision = true ∨ i.decision = decision0) : Ez i := by
 have c := ezc hc
 have b := ezb hb
 have d := ezd hd
 exact ⟨c.1, c.2, b.1, b.2, d.1, ⟨by have := d.2.1.1; omega, fun s hs => by have := d.2.1.2 s hs; omega⟩, d.2.2⟩
theorem ez_right {i : It.Item} (h : It.right i = true) : Ez i := have p := right_parts h; ez_of p.2.1 p.2.2.1 p.2.2.2
theorem sig_right {i : It.Item} (h : It.right i = true) (h0 : i.kind ≠ 0) : sigR (sigOf i) = true := by
 unfold sigOf
 rcases right_kind h with e | e | e | e
 ·exact absurd e h0
 ·rw [if_pos e]; exact (claim_sm ((right_claim e).1 h).1).sig
 ·rw [if_neg (by omega), if_pos e]; exact (ballot_sm ((right_ballot e).1 h).1).sig
 ·rw [if_neg (by omega), if_neg (by omega)]; exact (decision_sm ((right_decision e).1 h).1).sig
theorem list_len16 {l : List By} (h : l.length ≤ 64 ∧ ∀ s ∈ l, s.length ≤ 16) : (list l).length ≤ 2000 := by
 have h1 := num_len9 (n := l.length) (by have := h.1; omega)
 have h2 : ∀ l : List By, (∀ s ∈ l, s.length ≤ 16) → (l.map text).flatten.length ≤ l.length * 25 := fun l => by
  induction l with
  | nil => intro _; simp
  | cons s l ih =>
   intro h
   have e0 := h s (by simp)
   have e1 : (text s).length ≤ 25 := by
    have := num_len9 (n := s.length) (by omega)
    unfold text
    rw [List.length_append]
    omega
   have e2 := ih fun x hx => h x (by simp [hx])
   rw [List.map_cons, List.flatten_cons, List.length_append, List.length_cons, Nat.succ_mul]
   omega
 have h3 := h2 l h.2
 have h4 : l.length * 25 ≤ 64 * 25 := Nat.mul_le_mul_right _ h.1
 unfold list
 rw [List.length_append]
 omega
structure Sh (i : It.Item) : Prop where
 ez : Ez i
 to : (list i.decision.to).length ≤ 50000000
theorem sh_right {i : It.Item} (h : It.right i = true) : Sh i := ⟨ez_right h, by have := list_len16 (ezd (right_parts h).2.2.2).2.1; omega⟩
theorem claimB_len {i : It.Item} (h : Ez i) : (claimB i.claim).length ≤ 10000000 := by
 have h1 := h.c
 have h2 := h.ci
 simp only [List.forall_mem_cons] at h2
 have l1 := text_len h1.1
 have l2 := text_len h1.2
 have n1 := numI_le i.claim.base (by omega)
 have n2 := numI_le i.claim.gen (by omega)
 have n3 := numI_le i.claim.home (by omega)
 have n4 := numI_le i.claim.pub (by omega)
 have n5 := numI_le i.claim.time (by omega)
 unfold claimB
 simp only [List.length_append]
 omega
theorem ballotB_len {i : It.Item} (h : Ez i) : (ballotB i.ballot).length ≤ 10000000 := by
 have h1 := h.b
 have h2 := h.bi
 simp only [List.forall_mem_cons] at h2
 have l1 := text_len h1.1
 have l2 := text_len h1.2
 have n1 := numI_le i.ballot.server (by omega)
 have n2 := numI_le i.ballot.gen (by omega)
 have n3 := numI_le i.ballot.time (by omega)
 unfold ballotB
 simp only [List.length_append]
 omega
theorem decisionB_len {i : It.Item} (h : Sh i) : (decisionB i.decision).length ≤ 60000000 := by
 have h1 := h.ez.d
 have h2 := h.ez.di
 have h3 := h.to
 simp only [List.forall_mem_cons] at h2
 have l1 := text_len h1.1
 have l2 := text_len h1.2.1
 have l3 := text_len h1.2.2
 have n1 := numI_le i.decision.server (by omega)
 have n2 := numI_le i.decision.number (by omega)
 have n3 := numI_le i.decision.kind (by omega)
 have n4 := numI_le i.decision.n (by omega)
 have n5 := numI_le i.decision.frm (by omega)
 have n6 := numI_le i.decision.til (by omega)
 unfold decisionB
 simp only [List.length_append]
 omega
theorem coreOf_len {i : It.Item} (h : Sh i) : (coreOf i).length ≤ 60000000 := by
 have h1 := claimB_len h.ez
 have h2 := ballotB_len h.ez
 have h3 := decisionB_len h
 unfold coreOf
 split
 ·omega
 split <;> omega
abbrev formV (F : FuncId) (n : By) (s : Sig) : AV := .agg [.st n, .fn (.func F) [] [], .it .i64 s.e, .it .i64 s.s]
theorem formOf1 (i : It.Item) (hk : i.kind = 1) : AC Tryz.prog 170 [itemV i] [] (formV 245 wClaim i.claim.sig) [] := by
 refine AC.enter [] [] Tryz.func170 rfl (by decide) (by decide) znl (by kernel_rfl) ?_; refine zev ?_
 refine runf @hk ?_
 exact er0w
theorem formOf2 (i : It.Item) (hk : i.kind = 2) : AC Tryz.prog 170 [itemV i] [] (formV 246 wBallot i.ballot.sig) [] := by
 refine AC.enter [] [] Tryz.func170 rfl (by decide) (by decide) znl (by kernel_rfl) ?_; refine zev ?_
 refine runf @hk ?_
 exact er0w
theorem formOf3 (i : It.Item) (hk : i.kind ≠ 1 ∧ i.kind ≠ 2) : AC Tryz.prog 170 [itemV i] [] (formV 247 wDecision i.decision.sig) [] := by
 refine AC.enter [] [] Tryz.func170 rfl (by decide) (by decide) znl (by kernel_rfl) ?_; refine zev ?_
 obtain ⟨h1, h2⟩ := hk
 refine run ?_
 exact er0w
theorem flat2 (g : Int → By) (a b : Int) : ([a, b].map g).flatten = g a ++ g b := by simp
theorem bytes_act {i : It.Item} (h : It.right i = true) (h0 : i.kind = 0) : It.bytes i = numI i.kind ++ Ac.bytes i.act := by
 rw [bytes_right h]
 unfold bodyB
 rw [if_pos h0]
theorem bytesI0 (i : It.Item) (h : Iz i) (h0 : i.kind = 0) (hr : It.right i = true) : AC Tryz.prog 90 [itemV i] [] (.st (It.bytes i)) [] := by
 refine AC.enter2 [34, 169, 170] [] Tryz.func90 rfl (by decide) (by decide) znl (by kernel_rfl) ?_; refine zev ?_
 have kr := rightI_c i h
 rw [hr] at kr
 rw [bytes_act hr h0]
 have k1 := nums0_c [i.kind] (by simp) (by simp [h0])
 rw [flat1] at k1
 have hq : (i.kind == 0) = true := by rw [h0]; rfl
 have k2 := bytes_c i.act h.act
 have hl := bytes_len (a := i.act)
 have hl0 := numI_le i.kind (by omega)
 generalize Ac.bytes i.act = z at *
 generalize numI i.kind = n0 at *
 refine run ?_
 refine cp kr ?_
 refine runf @hq ?_
 refine cb0 1 k1 ?_
 refine runf @hq ?_
 refine cp k2 ?_
 have hmap : n0.map u8 ++ z.map u8 = (n0 ++ z).map u8 := List.map_append.symm
 have hlen : n0.length + z.length = (n0 ++ z).length := List.length_append.symm
 generalize n0 ++ z = c1 at *
 refine runf (an @hq (an @hmap @hlen)) ?_
 exact er0
theorem bytesI1 (i : It.Item) (h : Iz i) (hk : i.kind = 1) (hr : It.right i = true) : AC Tryz.prog 90 [itemV i] [] (.st (It.bytes i)) [] := by
 refine AC.enter2 [34, 169, 170] [] Tryz.func90 rfl (by decide) (by decide) znl (by kernel_rfl) ?_; refine zev ?_
 have kr := rightI_c i h
 rw [hr] at kr
 have h3 := sh_right hr
 have hs := sig_right hr (by omega)
 have hb : It.bytes i = numI i.kind ++ claimB i.claim ++ (numI i.claim.sig.e ++ numI i.claim.sig.s) := by
  rw [bytes_right hr]
  unfold bodyB coreOf sigOf
  have e0 : i.kind ≠ 0 := by omega
  simp [hk]
 have hsg : sigOf i = i.claim.sig := by unfold sigOf; simp [hk]
 rw [hsg] at hs
 simp only [sigR, Bool.and_eq_true, wi_iff] at hs
 rw [hb]
 have k1 := nums0_c [i.kind] (by simp) (by simp [hk])
 rw [flat1] at k1
 have hl0 := numI_le i.kind (by omega)
 have hq : (i.kind == 0) = false := beqF (by omega)
 have k2 := bclaim_c i (numI i.kind) h3.ez (by omega)
 have hl : (claimB i.claim).length ≤ 60000000 := by have := claimB_len h3.ez; omega
 have k3 := nums_c [i.claim.sig.e, i.claim.sig.s] (numI i.kind ++ claimB i.claim) (by simp) (by simp; omega) (by rw [List.length_append]; omega)
 rw [flat2] at k3
 have n1 := numI_le i.claim.sig.e (by omega)
 have n2 := numI_le i.claim.sig.s (by omega)
 have kf := formOf1 i hk
 generalize numI i.claim.sig.e ++ numI i.claim.sig.s = tl at *
 generalize numI i.kind = n0 at *
 generalize claimB i.claim = core at *
 generalize n0 ++ core ++ tl = c2 at *
 generalize n0 ++ core = c1 at *
 refine run ?_
 refine cp kr ?_
 refine runf @hq ?_
 refine cb0 1 k1 ?_
 refine runf @hq ?_
 refine cp kf ?_
 refine runf @hq ?_
 refine cb 1 2 k2 ?_
 refine runf @hq ?_
 refine cb 1 2 k3 ?_
 refine run ?_
 exact er0
theorem bytesI2 (i : It.Item) (h : Iz i) (hk : i.kind = 2) (hr : It.right i = true) : AC Tryz.prog 90 [itemV i] [] (.st (It.bytes i)) [] := by
 refine AC.enter2 [34, 169, 170] [] Tryz.func90 rfl (by decide) (by decide) znl (by kernel_rfl) ?_; refine zev ?_
 have kr := rightI_c i h
 rw [hr] at kr
 have h3 := sh_right hr
 have hs := sig_right hr (by omega)
 have hb : It.bytes i = numI i.kind ++ ballotB i.ballot ++ (numI i.ballot.sig.e ++ numI i.ballot.sig.s) := by
  rw [bytes_right hr]
  unfold bodyB coreOf sigOf
  have e0 : i.kind ≠ 0 := by omega
  simp [hk]
 have hsg : sigOf i = i.ballot.sig := by unfold sigOf; simp [hk]
 rw [hsg] at hs
 simp only [sigR, Bool.and_eq_true, wi_iff] at hs
 rw [hb]
 have k1 := nums0_c [i.kind] (by simp) (by simp [hk])
 rw [flat1] at k1
 have hl0 := numI_le i.kind (by omega)
 have hq : (i.kind == 0) = false := beqF (by omega)
 have k2 := bballot_c i (numI i.kind) h3.ez (by omega)
 have hl : (ballotB i.ballot).length ≤ 60000000 := by have := ballotB_len h3.ez; omega
 have k3 := nums_c [i.ballot.sig.e, i.ballot.sig.s] (numI i.kind ++ ballotB i.ballot) (by simp) (by simp; omega) (by rw [List.length_append]; omega)
 rw [flat2] at k3
 have n1 := numI_le i.ballot.sig.e (by omega)
 have n2 := numI_le i.ballot.sig.s (by omega)
 have kf := formOf2 i hk
 generalize numI i.ballot.sig.e ++ numI i.ballot.sig.s = tl at *
 generalize numI i.kind = n0 at *
 generalize ballotB i.ballot = core at *
 generalize n0 ++ core ++ tl = c2 at *
 generalize n0 ++ core = c1 at *
 refine run ?_
 refine cp kr ?_
 refine runf @hq ?_
 refine cb0 1 k1 ?_
 refine runf @hq ?_
 refine cp kf ?_
 refine runf @hq ?_
 refine cb 1 2 k2 ?_
 refine runf @hq ?_
 refine cb 1 2 k3 ?_
 refine run ?_
 exact er0
theorem bytesI3 (i : It.Item) (h : Iz i) (hk : i.kind = 3) (hr : It.right i = true) : AC Tryz.prog 90 [itemV i] [] (.st (It.bytes i)) [] := by
 refine AC.enter2 [34, 169, 170] [] Tryz.func90 rfl (by decide) (by decide) znl (by kernel_rfl) ?_; refine zev ?_
 have kr := rightI_c i h
 rw [hr] at kr
 have h3 := sh_right hr
 have hs := sig_right hr (by omega)
 have hb : It.bytes i = numI i.kind ++ decisionB i.decision ++ (numI i.decision.sig.e ++ numI i.decision.sig.s) := by
  rw [bytes_right hr]
  unfold bodyB coreOf sigOf
  have e0 : i.kind ≠ 0 := by omega
  simp [hk]
 have hsg : sigOf i = i.decision.sig := by unfold sigOf; simp [hk]
 rw [hsg] at hs
 simp only [sigR, Bool.and_eq_true, wi_iff] at hs
 rw [hb]
 have k1 := nums0_c [i.kind] (by simp) (by simp [hk])
 rw [flat1] at k1
 have hl0 := numI_le i.kind (by omega)
 have hq : (i.kind == 0) = false := beqF (by omega)
 have k2 := bdecision_c i (numI i.kind) h3.ez (by omega) (by have := h3.to; omega)
 have hl : (decisionB i.decision).length ≤ 60000000 := by have := decisionB_len h3; omega
 have k3 := nums_c [i.decision.sig.e, i.decision.sig.s] (numI i.kind ++ decisionB i.decision) (by simp) (by simp; omega) (by rw [List.length_append]; omega)
 rw [flat2] at k3
 have n1 := numI_le i.decision.sig.e (by omega)
 have n2 := numI_le i.decision.sig.s (by omega)
 have kf := formOf3 i (by omega)
 generalize numI i.decision.sig.e ++ numI i.decision.sig.s = tl at *
 generalize numI i.kind = n0 at *
 generalize decisionB i.decision = core at *
 generalize n0 ++ core ++ tl = c2 at *
 generalize n0 ++ core = c1 at *
 refine run ?_
 refine cp kr ?_
 refine runf @hq ?_
 refine cb0 1 k1 ?_
 refine runf @hq ?_
 refine cp kf ?_
 refine runf @hq ?_
 refine cb 1 2 k2 ?_
 refine runf @hq ?_
 refine cb 1 2 k3 ?_
 refine run ?_
 exact er0
theorem bytesI_c (i : It.Item) (h : Iz i) : AC Tryz.prog 90 [itemV i] [] (.st (It.bytes i)) [] := by
 cases hr : It.right i with
 | true =>
  rcases right_kind hr with e | e | e | e
  ·exact bytesI0 i h e hr
  ·exact bytesI1 i h e hr
  ·exact bytesI2 i h e hr
  ·exact bytesI3 i h e hr
 | false =>
  refine AC.enter2 [34, 169, 170] [] Tryz.func90 rfl (by decide) (by decide) znl (by kernel_rfl) ?_; refine zev ?_
  have kr := rightI_c i h
  rw [hr] at kr
  rw [It.bytes_wrong hr]
  refine run ?_
  refine cp kr ?_
  refine run ?_
  exact er0
theorem szI_of {a : Ac.Act} (h : Sm a) : Sz a := ⟨by have := h.author; omega, by have := h.target; omega, by have := h.group; omega, by have := h.text; omega, fun s hs => by have := h.to.2 s hs; omega, by have := h.to.1; omega, by have := h.wraps.1; omega⟩
theorem szI0 : Sz act0 := ⟨by decide, by decide, by decide, by decide, by decide, by decide, by decide⟩
theorem dz0 : Dz decision0 := ⟨by decide, by decide, by decide⟩
theorem nilI (s t : By) (h : s ≠ t) : (s == t) = false := by simpa using h
theorem iz_right {i : It.Item} (h : It.right i = true) : Iz i := by
 have p := right_parts h
 have c := (ezc p.2.1).1.1
 have b := (ezb p.2.2.1).1.1
 have d := ezd p.2.2.2
 refine ⟨?_, by omega, by omega, ⟨by have := d.1.1; omega, by have := d.2.1.1; omega, fun s hs => by have := d.2.1.2 s hs; omega⟩⟩
 rcases p.1 with e | e
 ·exact szI_of (right_sm e)
 ·rw [e]; exact szI0
theorem bytesIt_len (i : It.Item) : (It.bytes i).length ≤ 70000000 := by
 cases hr : It.right i with
 | false => rw [It.bytes_wrong hr]; decide
 | true =>
  have hk := right_kind hr
  have n0 := numI_le i.kind (by omega)
  rw [bytes_right hr]
  unfold bodyB
  rw [List.length_append]
  by_cases h0 : i.kind = 0
  ·rw [if_pos h0]
   have := bytes_len (a := i.act)
   omega
  ·rw [if_neg h0]
   have hs := sig_right hr h0
   simp only [sigR, Bool.and_eq_true, wi_iff] at hs
   have n1 := numI_le (sigOf i).e (by omega)
   have n2 := numI_le (sigOf i).s (by omega)
   have hc := coreOf_len (sh_right hr)
   simp only [List.length_append]
   omega
theorem digest_c (i : It.Item) (h : Iz i) : AC Tryz.prog 36 [itemV i] [] (.st (It.digest i)) [] := by
 refine AC.enter [90, 91] [] Tryz.func36 rfl (by decide) (by decide) znl (by kernel_rfl) ?_; refine zev ?_
 unfold It.digest
 have hb := bytesI_c i h
 have hl := bytesIt_len i
 generalize It.bytes i = bs at *
 by_cases he : bs = []
 ·rw [if_pos he]
  have hq : (bs == []) = true := by rw [he]; rfl
  refine run ?_
  refine cp hb ?_
  refine runf @hq ?_
  exact er0
 ·rw [if_neg he]
  have hq := nilI bs [] he
  refine run ?_
  refine cp hb ?_
  refine runf @hq ?_
  refine cp (sha_c bs (by omega)) ?_
  refine run ?_
  exact er0
theorem ofAct_c (a : Ac.Act) (h : a.to.length ≤ 1000000) (hw : a.wraps.length ≤ 1000000) : AC Tryz.prog 124 [actV a] [] (itemV (ofAct a)) [] := by
 refine AC.enter [132, 146] [] Tryz.func124 rfl (by decide) (by decide) znl (by kernel_rfl) ?_; refine zev ?_
 refine run ?_
 refine cp (cloneS_c a.to h) ?_
 refine run ?_
 refine cp (cloneW_c a.wraps hw) ?_
 refine run ?_
 exact er0w
abbrev entryV (e : It.Entry) : AV := .agg (.it .i64 e.time :: itemL e.item)
theorem entryBytes_c (e : It.Entry) (h : Iz e.item) : AC Tryz.prog 35 [entryV e] [] (.st (entryB e)) [] := by
 refine AC.enter [89, 34, 57, 90] [] Tryz.func35 rfl (by decide) (by decide) znl (by kernel_rfl) ?_; refine zev ?_
 unfold entryB
 have kt := isTime_c e.time
 have kr := rightI_c e.item h
 have kb := bytesI_c e.item h
 have hbl := bytesIt_len e.item
 cases ht : It.isTime e.time with
 | false =>
  rw [ht] at kt
  refine run ?_
  refine cp kt ?_
  refine run ?_
  exact er0
 | true =>
  rw [ht] at kt
  have hti : 0 ≤ e.time ∧ e.time ≤ 1099511627776 := wi_iff.1 ht
  have kn := num_c e.time (by omega) (by omega)
  have hnl := numI_le e.time (by omega)
  generalize It.bytes e.item = bs at *
  generalize numI e.time = nt at *
  cases hr : It.right e.item with
  | false =>
   rw [hr] at kr
   refine run ?_
   refine cp kt ?_
   refine run ?_
   refine cp kr ?_
   refine run ?_
   exact er0
  | true =>
   rw [hr] at kr
   refine run ?_
   refine cp kt ?_
   refine run ?_
   refine cp kr ?_
   refine run ?_
   refine cp kn ?_
   refine run ?_
   refine cp kb ?_
   refine run ?_
   exact er0
end Go.Proofs.YtlefikdjhnaapaaGreatDoor.Pe
end
section
namespace Go.Proofs.YtlefikdjhnaapaaGreatDoor.Pe
open Go Go.RowKit Co Sg Ac
set_option maxRecDepth 100000
set_option maxHeartbeats 4000000
theorem sz0 : Sz act0 := ⟨by decide, by decide, by decide, by decide, by decide, by decide, by decide⟩
structure In (a : Ac.Act) : Prop where
 sz : Sz a
 prev : a.prev.length ≤ 140737488355328
 object : a.object.length ≤ 140737488355328
 body : a.body.nonce.length ≤ 140737488355328 ∧ a.body.data.length ≤ 140737488355328 ∧ a.body.tag.length ≤ 140737488355328
 ws : ∀ w ∈ a.wraps, w.box.nonce.length ≤ 140737488355328 ∧ w.box.data.length ≤ 140737488355328 ∧ w.box.tag.length ≤ 140737488355328
 ints : (-9223372036854775808 ≤ a.epoch ∧ a.epoch ≤ 9223372036854775807) ∧ (-9223372036854775808 ≤ a.m ∧ a.m ≤ 9223372036854775807)
theorem shp_strs {n us} (h : shp Tryz.prog 140737488351232 (n + 2) 45 us) : ∃ l : List By, us = [sls l] ∧ l.length ≤ 140737488351232 ∧ ∀ s ∈ l, s.length ≤ 140737488351232 := by
 obtain ⟨l, h1, h2, h3⟩ := shp_slice AV.st (fun s : By => s.length ≤ 140737488351232) Tryz.underlying45 h (fun x hx => by
  obtain ⟨s, rfl, hs⟩ := shp_str Tryz.underlying9 hx
  exact ⟨s, by rw [show aggT Tryz.prog 9 = false from by kernel_rfl]; rfl, hs⟩)
 exact ⟨l, h1, h2, h3⟩
theorem shp_box {n us} (h : shp Tryz.prog 140737488351232 (n + 2) 47 us) : ∃ b : Box, us = [.st b.nonce, .st b.data, .st b.tag] ∧ b.nonce.length ≤ 140737488351232 ∧ b.data.length ≤ 140737488351232 ∧ b.tag.length ≤ 140737488351232 := by
 have h := shp_struct Tryz.underlying47 h
 obtain ⟨a0, b0, rfl, h0, h⟩ := h
 obtain ⟨a1, b1, rfl, h1, h⟩ := h
 obtain ⟨a2, b2, rfl, h2, rfl⟩ := h
 obtain ⟨s0, rfl, w0⟩ := shp_str Tryz.underlying9 h0
 obtain ⟨s1, rfl, w1⟩ := shp_str Tryz.underlying9 h1
 obtain ⟨s2, rfl, w2⟩ := shp_str Tryz.underlying9 h2
 exact ⟨⟨s0, s1, s2⟩, rfl, w0, w1, w2⟩
theorem shp_sig {n us} (h : shp Tryz.prog 140737488351232 (n + 2) 50 us) : ∃ s : Sig, us = [.it .i64 s.e, .it .i64 s.s] := by
 have h := shp_struct Tryz.underlying50 h
 obtain ⟨a0, b0, rfl, h0, h⟩ := h
 obtain ⟨a1, b1, rfl, h1, rfl⟩ := h
 obtain ⟨i0, rfl, w0⟩ := shp_i64 Tryz.underlying3 h0
 obtain ⟨i1, rfl, w1⟩ := shp_i64 Tryz.underlying3 h1
 exact ⟨⟨i0, i1⟩, rfl⟩
theorem shp_key {n us} (h : shp Tryz.prog 140737488351232 (n + 2) 29 us) : ∃ k : Key, us = (keyV k).cells ∧ (-9223372036854775808 ≤ k.secret ∧ k.secret ≤ 9223372036854775807) ∧ (-9223372036854775808 ≤ k.pub ∧ k.pub ≤ 9223372036854775807) := by
 have h := shp_struct Tryz.underlying29 h
 obtain ⟨a0, b0, rfl, h0, h⟩ := h
 obtain ⟨a1, b1, rfl, h1, rfl⟩ := h
 obtain ⟨i0, rfl, w0⟩ := shp_i64 Tryz.underlying3 h0
 obtain ⟨i1, rfl, w1⟩ := shp_i64 Tryz.underlying3 h1
 exact ⟨⟨i0, i1⟩, rfl, w0, w1⟩
theorem shp_wrap {n us} (h : shp Tryz.prog 140737488351232 (n + 3) 187 us) : ∃ w : Wrap, us = (wrapV w).cells ∧ w.box.nonce.length ≤ 140737488351232 ∧ w.box.data.length ≤ 140737488351232 ∧ w.box.tag.length ≤ 140737488351232 := by
 have h := shp_struct Tryz.underlying187 h
 obtain ⟨a0, b0, rfl, h0, h⟩ := h
 obtain ⟨a1, b1, rfl, h1, h⟩ := h
 obtain ⟨a2, b2, rfl, h2, rfl⟩ := h
 obtain ⟨i0, rfl, w0⟩ := shp_i64 Tryz.underlying3 h0
 obtain ⟨i1, rfl, w1⟩ := shp_i64 Tryz.underlying3 h1
 obtain ⟨b, rfl, w2⟩ := shp_box h2
 exact ⟨⟨i0, i1, b⟩, rfl, w2⟩
theorem shp_wraps {n us} (h : shp Tryz.prog 140737488351232 (n + 4) 48 us) : ∃ l : List Wrap, us = [.sl .ro (l.map wrapV)] ∧ l.length ≤ 140737488351232 ∧ ∀ w ∈ l, w.box.nonce.length ≤ 140737488351232 ∧ w.box.data.length ≤ 140737488351232 ∧ w.box.tag.length ≤ 140737488351232 :=
 shp_slice wrapV (fun w : Wrap => w.box.nonce.length ≤ 140737488351232 ∧ w.box.data.length ≤ 140737488351232 ∧ w.box.tag.length ≤ 140737488351232) Tryz.underlying48 h fun x hx => by
  obtain ⟨w, rfl, hw⟩ := shp_wrap hx
  exact ⟨w, by rw [show aggT Tryz.prog 187 = true from by kernel_rfl]; rfl, hw⟩
theorem shp_actA {n us} (h : shp Tryz.prog 140737488351232 (n + 5) 52 us) : ∃ a : Ac.Act, us = (actV a).cells ∧ In a := by
 have h := shp_struct Tryz.underlying52 h
 obtain ⟨a0, b0, rfl, h0, h⟩ := h
 obtain ⟨a1, b1, rfl, h1, h⟩ := h
 obtain ⟨a2, b2, rfl, h2, h⟩ := h
 obtain ⟨a3, b3, rfl, h3, h⟩ := h
 obtain ⟨a4, b4, rfl, h4, h⟩ := h
 obtain ⟨a5, b5, rfl, h5, h⟩ := h
 obtain ⟨a6, b6, rfl, h6, h⟩ := h
 obtain ⟨a7, b7, rfl, h7, h⟩ := h
 obtain ⟨a8, b8, rfl, h8, h⟩ := h
 obtain ⟨a9, b9, rfl, h9, h⟩ := h
 obtain ⟨a10, b10, rfl, h10, h⟩ := h
 obtain ⟨a11, b11, rfl, h11, h⟩ := h
 obtain ⟨a12, b12, rfl, h12, h⟩ := h
 obtain ⟨a13, b13, rfl, h13, h⟩ := h
 obtain ⟨a14, b14, rfl, h14, h⟩ := h
 obtain ⟨a15, b15, rfl, h15, h⟩ := h
 obtain ⟨a16, b16, rfl, h16, rfl⟩ := h
 obtain ⟨author, rfl, w0⟩ := shp_str Tryz.underlying9 h0
 obtain ⟨seq, rfl, w1⟩ := shp_i64 Tryz.underlying3 h1
 obtain ⟨prev, rfl, w2⟩ := shp_str Tryz.underlying9 h2
 obtain ⟨kind, rfl, w3⟩ := shp_i64 Tryz.underlying3 h3
 obtain ⟨time, rfl, w4⟩ := shp_i64 Tryz.underlying3 h4
 obtain ⟨object, rfl, w5⟩ := shp_str Tryz.underlying9 h5
 obtain ⟨target, rfl, w6⟩ := shp_str Tryz.underlying9 h6
 obtain ⟨scope, rfl, w7⟩ := shp_i64 Tryz.underlying3 h7
 obtain ⟨group, rfl, w8⟩ := shp_str Tryz.underlying9 h8
 obtain ⟨to, rfl, w9, w9'⟩ := shp_strs h9
 obtain ⟨text, rfl, w10⟩ := shp_str Tryz.underlying9 h10
 obtain ⟨body, rfl, w11⟩ := shp_box h11
 obtain ⟨epoch, rfl, w12⟩ := shp_i64 Tryz.underlying3 h12
 obtain ⟨wr, rfl, w13, w13'⟩ := shp_wraps h13
 obtain ⟨n, rfl, w14⟩ := shp_i64 Tryz.underlying3 h14
 obtain ⟨m, rfl, w15⟩ := shp_i64 Tryz.underlying3 h15
 obtain ⟨sig, rfl⟩ := shp_sig h16
 refine ⟨⟨author, seq, prev, kind, time, object, target, scope, group, to, text, body, epoch, wr, n, m, sig⟩, rfl, ⟨?_, ?_, ?_, ?_, fun s hs => ?_, ?_, ?_⟩, ?_, ?_, ?_, fun w hw => ?_, w12, w15⟩
 ·show author.length ≤ _; omega
 ·show target.length ≤ _; omega
 ·show group.length ≤ _; omega
 ·show text.length ≤ _; omega
 ·have := w9' s hs; omega
 ·show to.length ≤ _; omega
 ·show wr.length ≤ _; omega
 ·show prev.length ≤ _; omega
 ·show object.length ≤ _; omega
 ·show body.nonce.length ≤ _ ∧ body.data.length ≤ _ ∧ body.tag.length ≤ _; omega
 ·have := w13' w hw; omega
end Go.Proofs.YtlefikdjhnaapaaGreatDoor.Pe
end
section
namespace Go.Proofs.YtlefikdjhnaapaaGreatDoor.Pe
open Go Go.RowKit Co Sg Ac It
set_option maxRecDepth 100000
set_option maxHeartbeats 4000000
theorem item0_wrong : It.right item0 = false := by decide +kernel
abbrev decL (d : It.Decision) : List AV := [.it .i64 d.server, .it .i64 d.number, .it .i64 d.kind, .st d.actor, .st d.object, .st d.text, sls d.to, .it .i64 d.n, .it .i64 d.frm, .it .i64 d.til, .it .i64 d.sig.e, .it .i64 d.sig.s]
structure InI (i : It.Item) : Prop where
 act : In i.act
 iz : Iz i
 ci : ∀ x ∈ [i.claim.base, i.claim.gen, i.claim.home, i.claim.pub, i.claim.time], -9223372036854775808 ≤ x ∧ x ≤ 9223372036854775807
 bi : ∀ x ∈ [i.ballot.server, i.ballot.gen, i.ballot.time], -9223372036854775808 ≤ x ∧ x ≤ 9223372036854775807
 di : ∀ x ∈ [i.decision.server, i.decision.number, i.decision.kind, i.decision.n, i.decision.frm, i.decision.til], -9223372036854775808 ≤ x ∧ x ≤ 9223372036854775807
 si : ∀ x ∈ [i.claim.sig.e, i.claim.sig.s, i.ballot.sig.e, i.ballot.sig.s, i.decision.sig.e, i.decision.sig.s], -9223372036854775808 ≤ x ∧ x ≤ 9223372036854775807
theorem shp_sigI {n us} (h : shp Tryz.prog 140737488351232 (n + 2) 50 us) : ∃ s : Sig, us = [.it .i64 s.e, .it .i64 s.s] ∧ (-9223372036854775808 ≤ s.e ∧ s.e ≤ 9223372036854775807) ∧ (-9223372036854775808 ≤ s.s ∧ s.s ≤ 9223372036854775807) := by
 have h := shp_struct Tryz.underlying50 h
 obtain ⟨a0, b0, rfl, h0, h⟩ := h
 obtain ⟨a1, b1, rfl, h1, rfl⟩ := h
 obtain ⟨i0, rfl, w0⟩ := shp_i64 Tryz.underlying3 h0
 obtain ⟨i1, rfl, w1⟩ := shp_i64 Tryz.underlying3 h1
 exact ⟨⟨i0, i1⟩, rfl, w0, w1⟩
theorem shp_claimI {n us} (h : shp Tryz.prog 140737488351232 (n + 3) 54 us) : ∃ c : It.Claim, us = (claimV c).cells ∧ c.actor.length ≤ 140737488355328 ∧ (∀ x ∈ [c.base, c.gen, c.home, c.pub, c.time], -9223372036854775808 ≤ x ∧ x ≤ 9223372036854775807) ∧ (∀ x ∈ [c.sig.e, c.sig.s], -9223372036854775808 ≤ x ∧ x ≤ 9223372036854775807) := by
 have h := shp_struct Tryz.underlying54 h
 obtain ⟨a0, b0, rfl, h0, h⟩ := h
 obtain ⟨a1, b1, rfl, h1, h⟩ := h
 obtain ⟨a2, b2, rfl, h2, h⟩ := h
 obtain ⟨a3, b3, rfl, h3, h⟩ := h
 obtain ⟨a4, b4, rfl, h4, h⟩ := h
 obtain ⟨a5, b5, rfl, h5, h⟩ := h
 obtain ⟨a6, b6, rfl, h6, h⟩ := h
 obtain ⟨a7, b7, rfl, h7, rfl⟩ := h
 obtain ⟨actor, rfl, w0⟩ := shp_str Tryz.underlying9 h0
 obtain ⟨base, rfl, w1⟩ := shp_i64 Tryz.underlying3 h1
 obtain ⟨prev, rfl, w2⟩ := shp_str Tryz.underlying9 h2
 obtain ⟨gen, rfl, w3⟩ := shp_i64 Tryz.underlying3 h3
 obtain ⟨home, rfl, w4⟩ := shp_i64 Tryz.underlying3 h4
 obtain ⟨pub, rfl, w5⟩ := shp_i64 Tryz.underlying3 h5
 obtain ⟨time, rfl, w6⟩ := shp_i64 Tryz.underlying3 h6
 obtain ⟨sg, rfl, w7, w7q⟩ := shp_sigI h7
 refine ⟨⟨actor, base, prev, gen, home, pub, time, sg⟩, rfl, Nat.le_trans w0 (by decide), by simp only [List.forall_mem_cons, List.not_mem_nil, false_implies, implies_true, and_true]; omega, by simp only [List.forall_mem_cons, List.not_mem_nil, false_implies, implies_true, and_true]; omega⟩
theorem shp_ballotI {n us} (h : shp Tryz.prog 140737488351232 (n + 3) 56 us) : ∃ c : It.Ballot, us = (ballotV c).cells ∧ c.actor.length ≤ 140737488355328 ∧ (∀ x ∈ [c.server, c.gen, c.time], -9223372036854775808 ≤ x ∧ x ≤ 9223372036854775807) ∧ (∀ x ∈ [c.sig.e, c.sig.s], -9223372036854775808 ≤ x ∧ x ≤ 9223372036854775807) := by
 have h := shp_struct Tryz.underlying56 h
 obtain ⟨a0, b0, rfl, h0, h⟩ := h
 obtain ⟨a1, b1, rfl, h1, h⟩ := h
 obtain ⟨a2, b2, rfl, h2, h⟩ := h
 obtain ⟨a3, b3, rfl, h3, h⟩ := h
 obtain ⟨a4, b4, rfl, h4, h⟩ := h
 obtain ⟨a5, b5, rfl, h5, rfl⟩ := h
 obtain ⟨server, rfl, w0⟩ := shp_i64 Tryz.underlying3 h0
 obtain ⟨actor, rfl, w1⟩ := shp_str Tryz.underlying9 h1
 obtain ⟨gen, rfl, w2⟩ := shp_i64 Tryz.underlying3 h2
 obtain ⟨claim, rfl, w3⟩ := shp_str Tryz.underlying9 h3
 obtain ⟨time, rfl, w4⟩ := shp_i64 Tryz.underlying3 h4
 obtain ⟨sg, rfl, w5, w5q⟩ := shp_sigI h5
 refine ⟨⟨server, actor, gen, claim, time, sg⟩, rfl, Nat.le_trans w1 (by decide), by simp only [List.forall_mem_cons, List.not_mem_nil, false_implies, implies_true, and_true]; omega, by simp only [List.forall_mem_cons, List.not_mem_nil, false_implies, implies_true, and_true]; omega⟩
theorem shp_decisionI {n us} (h : shp Tryz.prog 140737488351232 (n + 3) 58 us) : ∃ c : It.Decision, us = (decisionV c).cells ∧ Dz c ∧ (∀ x ∈ [c.server, c.number, c.kind, c.n, c.frm, c.til], -9223372036854775808 ≤ x ∧ x ≤ 9223372036854775807) ∧ (∀ x ∈ [c.sig.e, c.sig.s], -9223372036854775808 ≤ x ∧ x ≤ 9223372036854775807) := by
 have h := shp_struct Tryz.underlying58 h
 obtain ⟨a0, b0, rfl, h0, h⟩ := h
 obtain ⟨a1, b1, rfl, h1, h⟩ := h
 obtain ⟨a2, b2, rfl, h2, h⟩ := h
 obtain ⟨a3, b3, rfl, h3, h⟩ := h
 obtain ⟨a4, b4, rfl, h4, h⟩ := h
 obtain ⟨a5, b5, rfl, h5, h⟩ := h
 obtain ⟨a6, b6, rfl, h6, h⟩ := h
 obtain ⟨a7, b7, rfl, h7, h⟩ := h
 obtain ⟨a8, b8, rfl, h8, h⟩ := h
 obtain ⟨a9, b9, rfl, h9, h⟩ := h
 obtain ⟨a10, b10, rfl, h10, rfl⟩ := h
 obtain ⟨server, rfl, w0⟩ := shp_i64 Tryz.underlying3 h0
 obtain ⟨number, rfl, w1⟩ := shp_i64 Tryz.underlying3 h1
 obtain ⟨kind, rfl, w2⟩ := shp_i64 Tryz.underlying3 h2
 obtain ⟨actor, rfl, w3⟩ := shp_str Tryz.underlying9 h3
 obtain ⟨object, rfl, w4⟩ := shp_str Tryz.underlying9 h4
 obtain ⟨txt, rfl, w5⟩ := shp_str Tryz.underlying9 h5
 obtain ⟨to, rfl, w6, w6q⟩ := shp_strs h6
 obtain ⟨n1, rfl, w7⟩ := shp_i64 Tryz.underlying3 h7
 obtain ⟨frm, rfl, w8⟩ := shp_i64 Tryz.underlying3 h8
 obtain ⟨til, rfl, w9⟩ := shp_i64 Tryz.underlying3 h9
 obtain ⟨sg, rfl, w10, w10q⟩ := shp_sigI h10
 refine ⟨⟨server, number, kind, actor, object, txt, to, n1, frm, til, sg⟩, rfl, ⟨Nat.le_trans w3 (by decide), Nat.le_trans w6 (by decide), fun s hs => Nat.le_trans (w6q s hs) (by decide)⟩, by simp only [List.forall_mem_cons, List.not_mem_nil, false_implies, implies_true, and_true]; omega, by simp only [List.forall_mem_cons, List.not_mem_nil, false_implies, implies_true, and_true]; omega⟩
theorem shp_itemI {n us} (h : shp Tryz.prog 140737488351232 (n + 6) 60 us) : ∃ i : It.Item, us = (itemV i).cells ∧ InI i := by
 have h := shp_struct Tryz.underlying60 h
 obtain ⟨a0, b0, rfl, h0, h⟩ := h
 obtain ⟨a1, b1, rfl, h1, h⟩ := h
 obtain ⟨a2, b2, rfl, h2, h⟩ := h
 obtain ⟨a3, b3, rfl, h3, h⟩ := h
 obtain ⟨a4, b4, rfl, h4, rfl⟩ := h
 obtain ⟨kind, rfl, w0⟩ := shp_i64 Tryz.underlying3 h0
 obtain ⟨a, rfl, w1⟩ := shp_actA h1
 obtain ⟨c, rfl, w2, w2c, w2s⟩ := shp_claimI h2
 obtain ⟨b, rfl, w3, w3c, w3s⟩ := shp_ballotI h3
 obtain ⟨d, rfl, w4, w4c, w4s⟩ := shp_decisionI h4
 refine ⟨⟨kind, a, c, b, d⟩, rfl, w1, ⟨w1.sz, w2, w3, w4⟩, w2c, w3c, w4c, ?_⟩
 simp only [List.forall_mem_cons, List.not_mem_nil, false_implies, implies_true, and_true] at w2s w3s w4s ⊢
 exact ⟨w2s.1, w2s.2, w3s.1, w3s.2, w4s.1, w4s.2⟩
theorem textT {s : By} {n : Nat} (h : s.length ≤ n) (hn : n ≤ 1000000) : (text s).length ≤ n + 9 := by
 have := num_len9 (n := s.length) (by omega)
 unfold text
 rw [List.length_append]
 omega
theorem coreR_len {i : It.Item} (h : It.right i = true) (h0 : i.kind ≠ 0) : (coreOf i).length ≤ 20000 := by
 unfold coreOf
 rcases right_kind h with e | e | e | e
 ·exact absurd e h0
 ·rw [if_pos e]
  have s := claim_sm ((right_claim e).1 h).1
  have h1 := s.actor; have h2 := s.base; have h3 := s.prev; have h4 := s.gen; have h5 := s.home; have h6 := s.pub; have h7 := s.time
  have l1 := textT (n := 16) (s := i.claim.actor) (by omega) (by omega)
  have l2 := textT (n := 32) (s := i.claim.prev) (by omega) (by omega)
  have n1 := numI_le i.claim.base (by omega)
  have n2 := numI_le i.claim.gen (by omega)
  have n3 := numI_le i.claim.home (by omega)
  have n4 := numI_le i.claim.pub (by omega)
  have n5 := numI_le i.claim.time (by omega)
  unfold claimB
  simp only [List.length_append]
  omega
 ·rw [if_neg (by omega), if_pos e]
  have s := ballot_sm ((right_ballot e).1 h).1
  have h1 := s.actor; have h2 := s.server; have h3 := s.claim; have h4 := s.gen; have h5 := s.time
  have l1 := textT (n := 16) (s := i.ballot.actor) (by omega) (by omega)
  have l2 := textT (n := 32) (s := i.ballot.claim) (by omega) (by omega)
  have n1 := numI_le i.ballot.server (by omega)
  have n2 := numI_le i.ballot.gen (by omega)
  have n3 := numI_le i.ballot.time (by omega)
  unfold ballotB
  simp only [List.length_append]
  omega
 ·rw [if_neg (by omega), if_neg (by omega)]
  have s := decision_sm ((right_decision e).1 h).1
  have h1 := s.actor; have h2 := s.server; have h3 := s.number; have h4 := s.kind; have h5 := s.object; have h6 := s.text; have h7 := s.to; have h8 := s.n; have h9 := s.frm; have h10 := s.til
  have l1 := textT (n := 16) (s := i.decision.actor) (by omega) (by omega)
  have l2 := textT (n := 32) (s := i.decision.object) (by omega) (by omega)
  have l3 := textT (n := 4096) (s := i.decision.text) (by omega) (by omega)
  have l4 := list_len16 ⟨h7.1, fun s hs => Nat.le_of_eq (h7.2 s hs)⟩
  have n1 := numI_le i.decision.server (by omega)
  have n2 := numI_le i.decision.number (by omega)
  have n3 := numI_le i.decision.kind (by omega)
  have n4 := numI_le i.decision.n (by omega)
  have n5 := numI_le i.decision.frm (by omega)
  have n6 := numI_le i.decision.til (by omega)
  unfold decisionB
  simp only [List.length_append]
  omega
theorem bytesIt_len6 (i : It.Item) : (It.bytes i).length ≤ 200000 := by
 cases hr : It.right i with
 | false => rw [It.bytes_wrong hr]; decide
 | true =>
  have hk := right_kind hr
  have n0 := numI_le i.kind (by omega)
  rw [bytes_right hr]
  unfold bodyB
  rw [List.length_append]
  by_cases h0 : i.kind = 0
  ·rw [if_pos h0]
   have := bytes_len (a := i.act)
   omega
  ·rw [if_neg h0]
   have hs := sig_right hr h0
   simp only [sigR, Bool.and_eq_true, wi_iff] at hs
   have n1 := numI_le (sigOf i).e (by omega)
   have n2 := numI_le (sigOf i).s (by omega)
   have hc := coreR_len hr h0
   simp only [List.length_append]
   omega
end Go.Proofs.YtlefikdjhnaapaaGreatDoor.Pe
end
section
namespace Go.Proofs.YtlefikdjhnaapaaGreatDoor.Wl
open Go Co
theorem rdN_inv3 : ∀ (l : By) (i n m : Nat) (r : By), rdN l i n = some (m, r) → ∃ k, m = n + k * 2 ^ (7 * i) ∧ l = num k ++ r ∧ (0 < i → 0 < k)
 | [], i, n, m, r, h => by simp [rdN] at h
 | d :: l, i, n, m, r, h => by
  rw [rdN_cons] at h
  have hd := d.toNat_lt
  split at h
  ·cases h
  split at h
  ·rename_i h9 h1
   obtain ⟨k, h2, h3, h4⟩ := rdN_inv3 l (i + 1) _ m r h
   have hk := h4 (Nat.succ_pos _)
   refine ⟨(d.toNat - 128) + k * 128, ?_, ?_, fun _ => by omega⟩
   ·rw [h2, Nat.add_mul, Nat.mul_assoc, show (128 : Nat) = 2 ^ 7 from rfl, ← Nat.pow_add, show 7 + 7 * i = 7 * (i + 1) by omega]
    omega
   ·rw [num_big (by omega), show (d.toNat - 128 + k * 128) / 128 = k by omega, show 128 + (d.toNat - 128 + k * 128) % 128 = d.toNat by omega, UInt8.ofNat_toNat, h3, List.cons_append]
  ·rename_i h9 h1
   split at h
   ·cases h
   ·rename_i h2
    simp only [Option.some.injEq, Prod.mk.injEq] at h
    refine ⟨d.toNat, h.1.symm, ?_, fun h0 => by omega⟩
    rw [num_small (by omega), UInt8.ofNat_toNat, h.2]
    rfl
theorem num_inv {b : By} {n : Nat} {x : R} (h : R.num ⟨b, false⟩ = (n, x)) (hx : x.bad = false) : b = num n ++ x.rest := by
 unfold R.num at h
 split at h
 ·rename_i m r hr
  simp only [Prod.mk.injEq] at h
  obtain ⟨k, h1, h2, _⟩ := rdN_inv3 _ _ _ _ _ hr
  obtain ⟨rfl, rfl⟩ := h
  simp only [Nat.mul_zero, Nat.pow_zero, Nat.mul_one, Nat.zero_add] at h1
  subst h1
  exact h2
 ·simp only [Prod.mk.injEq] at h
  rw [← h.2] at hx
  cases hx
def ck (s : By) : By := [UInt8.ofNat ((Sm.crc s).toNat % 256), UInt8.ofNat ((Sm.crc s).toNat / 256 % 256), UInt8.ofNat ((Sm.crc s).toNat / 65536 % 256), UInt8.ofNat ((Sm.crc s).toNat / 16777216 % 256)]
theorem ck_len (s : By) : (ck s).length = 4 := rfl
def rec1 (s : By) : By := num s.length ++ ck s ++ s
def recs (l : List By) : By := (l.map rec1).flatten
theorem recs_cons (s : By) (l : List By) : recs (s :: l) = rec1 s ++ recs l := rfl
theorem recs_nil : recs [] = [] := rfl
theorem recs_snoc (l : List By) (s : By) : recs (l ++ [s]) = recs l ++ rec1 s := by simp [recs]
theorem rec1_pos (s : By) : 0 < (rec1 s).length := by
 have := num_len s.length
 simp only [rec1, List.length_append]
 omega
def step (x : R) : Option (By × R) :=
 if (x.num.2.take 4).1.length ≠ 4 ∨ 1048576 < x.num.1 then none else
 if ((x.num.2.take 4).2.take x.num.1).1.length ≠ x.num.1 ∨ ck ((x.num.2.take 4).2.take x.num.1).1 ≠ (x.num.2.take 4).1 then none else
 some ((x.num.2.take 4).2.take x.num.1)
def okL (l : List By) : Prop := ∀ s ∈ l, s.length ≤ 1048576
theorem step_back (s t : By) (h : s.length ≤ 1048576) : step ⟨rec1 s ++ t, false⟩ = some (s, ⟨t, false⟩) := by
 have h1 : R.num ⟨rec1 s ++ t, false⟩ = (s.length, ⟨ck s ++ (s ++ t), false⟩) := by
  rw [rec1, List.append_assoc, List.append_assoc]
  exact num_back _ _ _ (by omega)
 have h2 : R.take ⟨ck s ++ (s ++ t), false⟩ 4 = (ck s, ⟨s ++ t, false⟩) := take_back (ck s) (s ++ t)
 unfold step
 rw [h1]
 simp only
 rw [h2]
 simp only
 rw [take_back s t]
 have c1 : ¬ ((ck s).length ≠ 4 ∨ 1048576 < s.length) := by rw [ck_len]; omega
 have c2 : ¬ (s.length ≠ s.length ∨ ck s ≠ ck s) := by simp
 rw [if_neg c1, if_neg c2]
theorem take_inv {x y : R} {n : Nat} {s : By} (h : x.take n = (s, y)) (hs : s.length = n) (hn : 0 < n ∨ x.bad = false) : x.bad = false ∧ x.rest = s ++ y.rest ∧ y.bad = false := by
 unfold R.take at h
 split at h
 ·rename_i hc
  simp only [Prod.mk.injEq] at h
  obtain ⟨rfl, rfl⟩ := h
  simp only [List.length_nil] at hs
  rcases hc with hc | hc
  ·rcases hn with hn | hn
   ·omega
   ·rw [hc] at hn; cases hn
  ·omega
 ·rename_i hc
  simp only [Prod.mk.injEq] at h
  obtain ⟨rfl, rfl⟩ := h
  have hb : x.bad = false := by cases hx : x.bad <;> simp_all
  exact ⟨hb, (List.take_append_drop n x.rest).symm, hb⟩
theorem step_inv {b s : By} {x : R} (h : step ⟨b, false⟩ = some (s, x)) : b = rec1 s ++ x.rest ∧ s.length ≤ 1048576 ∧ x.bad = false := by
 unfold step at h
 split at h
 ·cases h
 rename_i h1
 split at h
 ·cases h
 rename_i h2
 simp only [Option.some.injEq] at h
 rw [h] at h2
 simp only [not_or, ne_eq, Decidable.not_not] at h1 h2
 have e1 : R.num ⟨b, false⟩ = ((R.num ⟨b, false⟩).1, (R.num ⟨b, false⟩).2) := rfl
 generalize (R.num ⟨b, false⟩).1 = n at *
 generalize (R.num ⟨b, false⟩).2 = y at *
 have e2 : y.take 4 = ((y.take 4).1, (y.take 4).2) := rfl
 generalize (y.take 4).1 = c at *
 generalize (y.take 4).2 = z at *
 obtain ⟨a1, a2, a3⟩ := take_inv e2 h1.1 (.inl (by omega))
 obtain ⟨b1, b2, b3⟩ := take_inv h h2.1 (.inr a3)
 have := num_inv e1 a1
 refine ⟨?_, by omega, b3⟩
 rw [this, a2, b2, rec1, h2.1, h2.2]
 simp
def scan : Nat → By → List By × By
 | 0, b => ([], b)
 | f + 1, b => match step ⟨b, false⟩ with
  | none => ([], b)
  | some (s, x) => (s :: (scan f x.rest).1, (scan f x.rest).2)
def rowsOf (b : By) : List By := (scan b.length b).1
def tailOf (b : By) : By := (scan b.length b).2
def stuck (b : By) : Prop := step ⟨b, false⟩ = none
theorem stuck_nil : stuck [] := by
 have : R.num ⟨[], false⟩ = (0, fail) := rfl
 unfold stuck step
 rw [this]
 simp only
 rfl
theorem scan_spec : ∀ (f : Nat) (b : By), b.length ≤ f → b = recs (scan f b).1 ++ (scan f b).2 ∧ okL (scan f b).1 ∧ stuck (scan f b).2
 | 0, b, h => by
  have : b = [] := List.eq_nil_of_length_eq_zero (by omega)
  subst this
  exact ⟨rfl, fun s hs => (by cases hs), stuck_nil⟩
 | f + 1, b, h => by
  unfold scan
  split
  ·rename_i hs
   exact ⟨rfl, fun s hs => (by cases hs), hs⟩
  ·rename_i s x hs
   obtain ⟨h1, h2, h3⟩ := step_inv hs
   have hp := rec1_pos s
   have hl : x.rest.length ≤ f := by
    have := congrArg List.length h1
    rw [List.length_append] at this
    omega
   obtain ⟨h4, h5, h6⟩ := scan_spec f x.rest hl
   refine ⟨?_, fun t ht => ?_, h6⟩
   ·simp only [recs_cons, List.append_assoc]
    rw [← h4]
    exact h1
   ·rcases List.mem_cons.1 ht with rfl | ht
    ·exact h2
    ·exact h5 t ht
theorem scan_back : ∀ (l : List By) (t : By) (f : Nat), okL l → stuck t → (recs l ++ t).length ≤ f → scan f (recs l ++ t) = (l, t)
 | [], t, f, _, ht, _ => by
  rw [recs_nil, List.nil_append]
  cases f with
  | zero => rfl
  | succ f => unfold scan; rw [show step ⟨t, false⟩ = none from ht]
 | s :: l, t, f, hl, ht, hf => by
  have hp := rec1_pos s
  cases f with
  | zero => simp only [recs_cons, List.length_append] at hf; omega
  | succ f =>
   unfold scan
   rw [recs_cons, List.append_assoc, step_back s _ (hl s (by simp))]
   simp only
   rw [scan_back l t f (fun x hx => hl x (by simp [hx])) ht (by simp only [recs_cons, List.length_append] at hf ⊢; omega)]
theorem rows_back {l : List By} {t : By} (hl : okL l) (ht : stuck t) : rowsOf (recs l ++ t) = l ∧ tailOf (recs l ++ t) = t := by
 unfold rowsOf tailOf
 rw [scan_back l t _ hl ht (Nat.le_refl _)]
 exact ⟨rfl, rfl⟩
theorem rows_spec (b : By) : b = recs (rowsOf b) ++ tailOf b ∧ okL (rowsOf b) ∧ stuck (tailOf b) := scan_spec b.length b (Nat.le_refl _)
theorem okL_append {l m : List By} (h : okL l) (h' : okL m) : okL (l ++ m) := fun s hs => (List.mem_append.1 hs).elim (h s) (h' s)
end Go.Proofs.YtlefikdjhnaapaaGreatDoor.Wl
end
section
namespace Go.Proofs.YtlefikdjhnaapaaGreatDoor.Dm
open Go
structure Fl where
  data : List UInt8
  dur : Nat
structure Dk where
  fs : Nat → Fl
  down : Bool
  lost : Nat
  armed : Nat
  keep : List Int
def Fl.none : Fl := ⟨[], 0⟩
def dk0 : Dk := ⟨fun _ => Fl.none, false, 0, 0, []⟩
def upd (fs : Nat → Fl) (i : Nat) (f : Fl) : Nat → Fl := fun j => if j = i then f else fs j
theorem upd_same (fs : Nat → Fl) (i : Nat) (f : Fl) : upd fs i f i = f := if_pos rfl
theorem upd_ne (fs : Nat → Fl) {i j : Nat} (h : j ≠ i) (f : Fl) : upd fs i f j = fs j := if_neg h
def kn (f : Int) : Bool := decide (0 ≤ f) && decide (f < 8)
def Fl.stay (f : Fl) (k : Int) : Nat := f.dur + min (f.data.length - f.dur) k.toNat
def Fl.crash (f : Fl) (k : Int) : Fl := ⟨f.data.take (f.stay k), f.stay k⟩
def Fl.trunc (f : Fl) (n : Nat) : Fl := ⟨f.data.take n, min f.dur n⟩
def crash (d : Dk) (keep : List Int) : Dk := if d.down then d else ⟨fun i => (d.fs i).crash (keep.getD i 0), true, d.lost, 0, []⟩
def strikes (d : Dk) : Bool × Dk := if d.armed = 0 then (false, d) else (decide (d.armed = 1), { d with armed := d.armed - 1 })
def struck (d : Dk) (e : Int) : Int × Dk := if (strikes d).1 then (8, crash (strikes d).2 (strikes d).2.keep) else (e, (strikes d).2)
def appendD (d : Dk) (f : Int) (s : List UInt8) : Int × Dk :=
  if d.down then (8, d) else
  if !kn f then struck d 1 else
  if 16777216 < (d.fs f.toNat).data.length + s.length then struck d 7 else
  struck { d with fs := upd d.fs f.toNat ⟨(d.fs f.toNat).data ++ s, (d.fs f.toNat).dur⟩ } 0
def beginD (d : Dk) (l : List Int) : Int × Dk := if d.down then (8, d) else struck d (if l.all kn then 0 else 1)
def flushD (d : Dk) (f : Int) : Int × Dk :=
  let b := beginD d [f]
  if b.1 ≠ 0 then b else
  if 0 < b.2.lost then (18, { b.2 with lost := b.2.lost - 1 }) else
  (0, { b.2 with fs := upd b.2.fs f.toNat ⟨(b.2.fs f.toNat).data, (b.2.fs f.toNat).data.length⟩ })
def size (d : Dk) (f : Int) : Nat := if kn f then (d.fs f.toNat).data.length else 0
def cutD (d : Dk) (f n : Int) : Int × Dk :=
  let b := beginD d [f]
  if b.1 ≠ 0 then b else
  if n < 0 ∨ (size b.2 f : Int) < n then (1, b.2) else
  (0, { b.2 with fs := upd b.2.fs f.toNat ((b.2.fs f.toNat).trunc n.toNat) })
def peek (d : Dk) (f : Int) : List UInt8 × Int := if d.down then ([], 8) else if kn f then ((d.fs f.toNat).data, 0) else ([], 1)
structure Fl.Ok (f : Fl) : Prop where
  dur : f.dur ≤ f.data.length
  len : f.data.length ≤ 16777216
structure Ok (d : Dk) : Prop where
  fs : ∀ i, (d.fs i).Ok
  lost : d.lost < 9223372036854775808
  armed : d.armed < 9223372036854775808
theorem Fl.none_ok : Fl.none.Ok := ⟨Nat.le_refl _, Nat.zero_le _⟩
theorem dk0_ok : Ok dk0 := ⟨fun _ => Fl.none_ok, by decide, by decide⟩
theorem Fl.stay_le {f : Fl} (h : f.Ok) (k : Int) : f.stay k ≤ f.data.length := by have := h.dur; unfold Fl.stay; omega
theorem Fl.crash_ok {f : Fl} (h : f.Ok) (k : Int) : (f.crash k).Ok := by
  have h1 := Fl.stay_le h k
  have h2 := h.len
  exact ⟨by unfold Fl.crash; simp only [List.length_take]; omega, by unfold Fl.crash; simp only [List.length_take]; omega⟩
theorem Fl.trunc_ok {f : Fl} (h : f.Ok) (n : Nat) : (f.trunc n).Ok := by
  have h1 := h.dur
  have h2 := h.len
  exact ⟨by unfold Fl.trunc; simp only [List.length_take]; omega, by unfold Fl.trunc; simp only [List.length_take]; omega⟩
theorem upd_ok {fs : Nat → Fl} (h : ∀ i, (fs i).Ok) (i : Nat) {f : Fl} (hf : f.Ok) : ∀ j, (upd fs i f j).Ok := by
  intro j
  unfold upd
  split
  · exact hf
  · exact h j
theorem crash_ok {d : Dk} (h : Ok d) (keep : List Int) : Ok (crash d keep) := by
  unfold crash
  split
  · exact h
  · exact ⟨fun i => Fl.crash_ok (h.fs i) _, h.lost, by show (0 : Nat) < _; omega⟩
theorem strikes_ok {d : Dk} (h : Ok d) : Ok (strikes d).2 := by
  unfold strikes
  split
  · exact h
  · exact ⟨h.fs, h.lost, by have := h.armed; show d.armed - 1 < _; omega⟩
theorem struck_ok {d : Dk} (h : Ok d) (e : Int) : Ok (struck d e).2 := by
  unfold struck
  split
  · exact crash_ok (strikes_ok h) _
  · exact strikes_ok h
theorem append_ok {d : Dk} (h : Ok d) (f : Int) (s : List UInt8) : Ok (appendD d f s).2 := by
  unfold appendD
  split
  · exact h
  split
  · exact struck_ok h _
  split
  · exact struck_ok h _
  · refine struck_ok (d := { d with fs := upd d.fs f.toNat ⟨(d.fs f.toNat).data ++ s, (d.fs f.toNat).dur⟩ }) ⟨upd_ok h.fs _ ⟨?_, ?_⟩, h.lost, h.armed⟩ _
    · have := (h.fs f.toNat).dur; simp only [List.length_append]; omega
    · simp only [List.length_append]; omega
theorem begin_ok {d : Dk} (h : Ok d) (l : List Int) : Ok (beginD d l).2 := by
  unfold beginD
  split
  · exact h
  · exact struck_ok h _
theorem flush_ok {d : Dk} (h : Ok d) (f : Int) : Ok (flushD d f).2 := by
  have hb := begin_ok h [f]
  unfold flushD
  simp only
  split
  · exact hb
  split
  · exact ⟨hb.fs, by have := hb.lost; show _ - 1 < _; omega, hb.armed⟩
  · exact ⟨upd_ok hb.fs _ ⟨Nat.le_refl _, (hb.fs _).len⟩, hb.lost, hb.armed⟩
theorem cut_ok {d : Dk} (h : Ok d) (f n : Int) : Ok (cutD d f n).2 := by
  have hb := begin_ok h [f]
  unfold cutD
  simp only
  split
  · exact hb
  split
  · exact hb
  · exact ⟨upd_ok hb.fs _ (Fl.trunc_ok (hb.fs _) _), hb.lost, hb.armed⟩
end Go.Proofs.YtlefikdjhnaapaaGreatDoor.Dm
end
section
namespace Go.Proofs.YtlefikdjhnaapaaGreatDoor.Wl
open Go Co Dm
def clearD (d : Dk) (f : Int) : Int × Dk := if size d (f + 1) = 0 then (0, d) else cutD d (f + 1) 0
def trimD (d : Dk) (f : Int) : Int × Dk := if (recs (rowsOf (peek d f).1)).length < (peek d f).1.length then cutD d f ((recs (rowsOf (peek d f).1)).length : Int) else (0, d)
def openD (d : Dk) (f : Int) : Int × Dk :=
 if (peek d f).2 ≠ 0 then ((peek d f).2, d) else
 if (trimD d f).1 ≠ 0 then trimD d f else
 if (clearD (trimD d f).2 f).1 ≠ 0 then clearD (trimD d f).2 f else
 flushD (clearD (trimD d f).2 f).2 f
def addD (d : Dk) (f : Int) (s : By) : Int × Dk := if 1048576 < s.length then (7, d) else appendD d f (rec1 s)
end Go.Proofs.YtlefikdjhnaapaaGreatDoor.Wl
end
section
namespace Go.Proofs.YtlefikdjhnaapaaGreatDoor.Wl
open Go Co Dm
structure Calm (d : Dk) : Prop where
 down : d.down = false
 armed : d.armed = 0
 lost : d.lost = 0
theorem dk0_calm : Calm dk0 := ⟨rfl, rfl, rfl⟩
section
variable {d : Dk} {n : Nat}
theorem kn_nat (hn : n < 8) : kn (n : Int) = true := by simp [kn]; omega
theorem calm_strikes (h : Calm d) : strikes d = (false, d) := by unfold strikes; rw [if_pos h.armed]
theorem calm_struck (h : Calm d) (e : Int) : struck d e = (e, d) := by unfold struck; rw [calm_strikes h]; rfl
theorem calm_begin (h : Calm d) {l : List Int} (hl : l.all kn = true) : beginD d l = (0, d) := by
 unfold beginD; rw [h.down, calm_struck h, hl]; rfl
theorem calm_set (h : Calm d) (fs : Nat → Fl) : Calm { d with fs := fs } := ⟨h.down, h.armed, h.lost⟩
theorem calm_append (h : Calm d) (hn : n < 8) {s : By} (hs : (d.fs n).data.length + s.length ≤ 16777216) : appendD d (n : Int) s = (0, { d with fs := upd d.fs n ⟨(d.fs n).data ++ s, (d.fs n).dur⟩ }) := by
 unfold appendD
 rw [if_neg (by rw [h.down]; decide), if_neg (by rw [kn_nat hn]; decide)]
 simp only [Int.toNat_natCast]
 rw [if_neg (by omega)]
 exact calm_struck (calm_set h _) _
theorem calm_flush (h : Calm d) (hn : n < 8) : flushD d (n : Int) = (0, { d with fs := upd d.fs n ⟨(d.fs n).data, (d.fs n).data.length⟩ }) := by
 unfold flushD
 rw [calm_begin h (by simp [kn_nat hn])]
 simp [h.lost]
theorem calm_cut (h : Calm d) (hn : n < 8) {k : Nat} (hk : k ≤ (d.fs n).data.length) : cutD d (n : Int) (k : Int) = (0, { d with fs := upd d.fs n ((d.fs n).trunc k) }) := by
 unfold cutD
 rw [calm_begin h (by simp [kn_nat hn])]
 have hsz : size d (n : Int) = (d.fs n).data.length := by unfold size; rw [if_pos (kn_nat hn)]; simp
 simp only [ne_eq, not_true_eq_false, if_false, hsz, Int.toNat_natCast]
 rw [if_neg (by omega)]
theorem calm_size (hn : n < 8) : size d (n : Int) = (d.fs n).data.length := by unfold size; rw [if_pos (kn_nat hn)]; simp
theorem calm_peek (h : Calm d) (hn : n < 8) : peek d (n : Int) = ((d.fs n).data, 0) := by
 unfold peek; rw [h.down, kn_nat hn]; simp
theorem calm_clear (h : Calm d) (hn : n + 1 < 8) : ∃ d', clearD d (n : Int) = (0, d') ∧ Calm d' ∧ (d'.fs (n + 1)).data = [] ∧ (Ok d → (d'.fs (n + 1)).dur = 0) ∧ (∀ i, i ≠ n + 1 → d'.fs i = d.fs i) := by
 have e : ((n : Int) + 1) = ((n + 1 : Nat) : Int) := by omega
 unfold clearD
 rw [e, calm_size hn]
 by_cases h0 : (d.fs (n + 1)).data.length = 0
 ·rw [if_pos h0]
  exact ⟨d, rfl, h, List.eq_nil_of_length_eq_zero h0, fun ho => by have := (ho.fs (n + 1)).dur; omega, fun _ _ => rfl⟩
 ·rw [if_neg h0]
  have := calm_cut h hn (k := 0) (Nat.zero_le _)
  refine ⟨_, this, calm_set h _, ?_, fun _ => ?_, fun i hi => upd_ne _ hi _⟩
  ·show (upd _ _ _ _).data = []
   rw [upd_same]; simp [Fl.trunc]
  ·show (upd _ _ _ _).dur = 0
   rw [upd_same]; simp [Fl.trunc]
theorem calm_open (h : Calm d) (hn : n + 1 < 8) : ∃ d', openD d (n : Int) = (0, d') ∧ Calm d' ∧ d'.fs n = ⟨recs (rowsOf (d.fs n).data), (recs (rowsOf (d.fs n).data)).length⟩ ∧ (d'.fs (n + 1)).data = [] ∧ (∀ i, i ≠ n → i ≠ n + 1 → d'.fs i = d.fs i) := by
 unfold openD
 have hsp := (rows_spec (d.fs n).data).1
 have ht : ∃ d1, trimD d (n : Int) = (0, d1) ∧ Calm d1 ∧ (d1.fs n).data = recs (rowsOf (d.fs n).data) ∧ (∀ i, i ≠ n → d1.fs i = d.fs i) := by
  unfold trimD
  rw [calm_peek h (by omega)]
  simp only
  have hl := congrArg List.length hsp
  rw [List.length_append] at hl
  split
  ·rename_i hlt
   refine ⟨_, calm_cut h (by omega) (by omega), calm_set h _, ?_, fun i hi => upd_ne _ hi _⟩
   show (upd _ _ _ _).data = _
   rw [upd_same]
   show (d.fs n).data.take _ = _
   have := List.take_left' (l₁ := recs (rowsOf (d.fs n).data)) (l₂ := tailOf (d.fs n).data) (i := (recs (rowsOf (d.fs n).data)).length) rfl
   rwa [← hsp] at this
  ·rename_i hlt
   refine ⟨d, rfl, h, ?_, fun _ _ => rfl⟩
   have : tailOf (d.fs n).data = [] := List.eq_nil_of_length_eq_zero (by omega)
   rw [this, List.append_nil] at hsp
   exact hsp
 obtain ⟨d1, e1, h1, h2, h3⟩ := ht
 obtain ⟨d2, e2, h4, h5, _, h6⟩ := calm_clear h1 hn
 rw [calm_peek h (by omega), e1]
 simp only [ne_eq, not_true_eq_false, if_false]
 rw [e2]
 simp only [not_true_eq_false, if_false]
 refine ⟨_, calm_flush h4 (by omega), calm_set h4 _, ?_, ?_, fun i hi hi' => ?_⟩
 ·show upd _ _ _ _ = _
  rw [upd_same, h6 n (by omega), h2]
 ·show (upd _ _ _ _).data = _
  rw [upd_ne _ (by omega), h5]
 ·show upd _ _ _ _ = _
  rw [upd_ne _ hi, h6 i hi', h3 i hi]
theorem calm_add (h : Calm d) (hn : n < 8) {s : By} (hs : s.length ≤ 1048576) (hb : (d.fs n).data.length + (rec1 s).length ≤ 16777216) : addD d (n : Int) s = (0, { d with fs := upd d.fs n ⟨(d.fs n).data ++ rec1 s, (d.fs n).dur⟩ }) := by
 unfold addD
 rw [if_neg (by omega), calm_append h hn hb]
theorem calm_add' (h : Calm d) (hn : n < 8) {s : By} (hs : s.length ≤ 1048576) (hb : (d.fs n).data.length + (rec1 s).length ≤ 16777216) : ∃ d', addD d (n : Int) s = (0, d') ∧ Calm d' ∧ d'.fs n = ⟨(d.fs n).data ++ rec1 s, (d.fs n).dur⟩ ∧ ∀ i, i ≠ n → d'.fs i = d.fs i :=
 ⟨_, calm_add h hn hs hb, calm_set h _, upd_same _ _ _, fun _ hi => upd_ne _ hi _⟩
theorem calm_flush' (h : Calm d) (hn : n < 8) : ∃ d', flushD d (n : Int) = (0, d') ∧ Calm d' ∧ d'.fs n = ⟨(d.fs n).data, (d.fs n).data.length⟩ ∧ ∀ i, i ≠ n → d'.fs i = d.fs i :=
 ⟨_, calm_flush h hn, calm_set h _, upd_same _ _ _, fun _ hi => upd_ne _ hi _⟩
end
end Go.Proofs.YtlefikdjhnaapaaGreatDoor.Wl
end
section
namespace Go.Proofs.YtlefikdjhnaapaaGreatDoor.Ql
open Go Co Sg Ac It Sl Wl
abbrev dg (e : It.Entry) : By := It.digest e.item
abbrev rowsB (E : List It.Entry) : List By := E.map entryB
def nextT (E : List It.Entry) (now : Int) : Int := match E.getLast? with
 | none => now
 | some e => max now e.time
def saddD (d : Dm.Dk) (f : Int) (E : List It.Entry) (it : It.Item) (now : Int) : (Int × Int) × Dm.Dk × List It.Entry :=
 if It.right it = true ∧ 0 ≤ now ∧ now ≤ 1099511627776 then
  if It.digest it ∈ E.map dg then ((0, 13), d, E)
  else if (addD d f (entryB ⟨nextT E now, it⟩)).1 = 0 then ((E.length, 0), (addD d f (entryB ⟨nextT E now, it⟩)).2, E ++ [⟨nextT E now, it⟩])
  else ((0, (addD d f (entryB ⟨nextT E now, it⟩)).1), (addD d f (entryB ⟨nextT E now, it⟩)).2, E)
 else ((0, 1), d, E)
def windowE (E : List It.Entry) (fl : Nat) (frm n : Int) : List It.Entry := if n ≤ 0 then [] else ((E.take fl).drop frm.toNat).take n.toNat
def lastT (E : List It.Entry) : Int := match E.getLast? with
 | none => 0
 | some e => e.time
def headE (k : Key) (server : Int) (E : List It.Entry) (fl : Nat) : Head := mkHead k server (E.take fl) (lastT (E.take fl))
end Go.Proofs.YtlefikdjhnaapaaGreatDoor.Ql
end
section
namespace Go.Proofs.YtlefikdjhnaapaaGreatDoor.Pe
open Go Sm Mk
set_option maxRecDepth 100000
abbrev slf (l : List By) : AV := .sl .full (l.map .st)
theorem leaf_c (l : List UInt8) (h : l.length ≤ 1000000) : AC Tryz.prog 55 [.st l] [] (.st (leaf l)) [] := by
 refine AC.enter [91] [] Tryz.func55 rfl (by decide) (by decide) znl (by kernel_rfl) ?_; refine zev ?_
 refine run ?_
 refine call_pure (sha_c (0 :: l) (by simp; omega)) (by rfl) (by rfl) (by rfl) ?_
 refine run ?_
 exact ends_ret0 (by rfl) (by rfl) (by rfl)
theorem node_c (l r : List UInt8) (h : l.length ≤ 1000000) (h' : r.length ≤ 1000000) : AC Tryz.prog 113 [.st l, .st r] [] (.st (node l r)) [] := by
 refine AC.enter [91] [] Tryz.func113 rfl (by decide) (by decide) znl (by kernel_rfl) ?_; refine zev ?_
 refine run ?_
 refine call_pure (sha_c (1 :: (l ++ r)) (by simp; omega)) (by rfl) (by rfl) (by rfl) ?_
 refine run ?_
 exact ends_ret0 (by rfl) (by rfl) (by rfl)
theorem sp_pow {n : Nat} (h : 2 ≤ n) : 2 ^ (blen (n - 1) - 1) = sp n := by
 unfold blen sp
 rw [if_neg (by omega)]
 rfl
theorem split_c (n : Nat) (h : 2 ≤ n) (h' : n < 9223372036854775808) : AC Tryz.prog 192 [.it .i64 n] [] (.it .i64 (sp n)) [] := by
 refine AC.enter [195] [] Tryz.func192 rfl (by decide) (by decide) znl (by kernel_rfl) ?_; refine zev ?_
 have hu : IntKind.u64.wrap ((n : Int) - 1) = ((n - 1 : Nat) : Int) := by
  rw [show (n : Int) - 1 = ((n - 1 : Nat) : Int) from by omega, wrap64n]
  simp; omega
 refine runf @hu ?_
 refine call_pure (len64_c (n - 1) (by omega)) (by rfl) (by rfl) (by rfl) ?_
 have hb := blen_le (n - 1)
 have hs : aShl .i64 1 ((blen (n - 1) : Int) - 1) = some (.it .i64 (sp n : Int)) := by
  have h1 := sp_lt h
  have h2 := sp_pow h
  have h3 : 0 < blen (n - 1) := by unfold blen; rw [if_neg (by omega)]; omega
  have h4 : blen (n - 1) ≤ 63 := by
   unfold blen
   rw [if_neg (by omega)]
   have := (Nat.log2_lt (n := n - 1) (k := 63) (by omega)).2 (by omega)
   omega
  unfold aShl
  rw [if_pos (by omega)]
  congr 2
  rw [show ((blen (n - 1) : Int) - 1).toNat = blen (n - 1) - 1 from by omega, show min (blen (n - 1) - 1) IntKind.i64.bits = blen (n - 1) - 1 from Nat.min_eq_left (by show _ ≤ 64; omega)]
  rw [show (1 : Int) * 2 ^ (blen (n - 1) - 1) = ((2 ^ (blen (n - 1) - 1) : Nat) : Int) from by push_cast; omega, h2]
  exact wrap64 (by omega) (by omega)
 refine runf @hs ?_
 exact ends_ret0 (by rfl) (by rfl) (by rfl)
theorem halves_c (l : List By) (h : 2 ≤ l.length) (h' : l.length ≤ 1000000) : AC Tryz.prog 112 [sls l] [] (.tup [slf (l.take (sp l.length)), slf (l.drop (sp l.length))]) [] := by
 refine AC.enter [192] [] Tryz.func112 rfl (by decide) (by decide) znl (by kernel_rfl) ?_; refine zev ?_
 refine run ?_
 refine call_pure (split_c l.length h (by omega)) (by rfl) (by rfl) (by rfl) ?_
 have h1 := sp_lt h
 have h2 := sp_pos l.length
 refine run ?_
 refine ends_ret0 (by rfl) (by rfl) ?_
 simp only [resV, aRes, ↓upd_apply, ↓put_some, ↓reduceIte, Nat.reduceEqDiff, ↓argEnv_zero, ↓argEnv_succ, Option.map_some, List.take_length, List.drop_zero, AV.wk, AV.wk2, AV.wk1, List.map_cons, List.map_nil]
theorem sha_len (l : List UInt8) : (sha l).length = 32 := by
 simp [sha, S8.list, be4]
def box (f : FuncId) : SObj := .cells [.fn (.func f) [] [.ptr 0 0]]
theorem boxR {P : Program} {f g : FuncId} {l : List By} {s : By} (h : AC P f [sls l, .ptr 0 0] [box g] (.st s) [box g]) (R : Store) : AC P f [sls l, .ptr 0 0] ([box g] ++ R) (.st s) ([box g] ++ R) := AC.at1 (T := [box g] ++ R) h 0 rfl rfl rfl rfl rfl
theorem rt_len {l : List By} (h : ∀ x ∈ l, x.length ≤ 1000000) : (rt l).length ≤ 1000000 := by
 by_cases h2 : 2 ≤ l.length
 ·rw [rt_two h2, node, sha_len]; omega
 ·rw [rt_one (by omega)]
  cases l with
  | nil => simp
  | cons a l => exact h a (by simp)
theorem root1_c (k : Nat) : ∀ (l : List By), l.length ≤ k → 1 ≤ l.length → l.length ≤ 1000000 → (∀ x ∈ l, x.length ≤ 1000000) →
  AC Tryz.prog 111 [sls l, .ptr 0 0] [box 111] (.st (rt l)) [box 111] := by
 induction k with
 | zero => intro l h1 h2; omega
 | succ k ih =>
  intro l hk h1 hl hx
  refine AC.enter [112, 113] [1000017, 1000020] Tryz.func111 rfl (by decide) (by decide) znl (by kernel_rfl) ?_; refine zev ?_
  refine run ?_
  refine iteP_mk (fun hc => ?_) (fun hc => ?_)
  ·have hc : l.length = 1 := by simp at hc; omega
   obtain ⟨a, rfl⟩ := List.length_eq_one_iff.1 hc
   refine run ?_
   exact ends_ret (κ := [0]) (by rfl) (subOk_one 0 (by rfl) (by rfl)) (by rfl) (by rfl) (by rfl)
  ·have hc : l.length ≠ 1 := by simp at hc; omega
   have h2 : 2 ≤ l.length := by omega
   have h3 := sp_lt h2
   have h4 := sp_pos l.length
   refine run ?_
   refine call_pure (halves_c l h2 hl) (by rfl) (by rfl) (by rfl) ?_
   refine runf @box.eq_1 ?_
   refine call_mk ⟨boxR (ih (l.take (sp l.length)) (by simp; omega) (by simp; omega) (by simp; omega) (fun x hx' => hx x (List.mem_of_mem_take hx'))), rfl⟩ ?_
   refine runf @box.eq_1 ?_
   refine call_mk ⟨boxR (ih (l.drop (sp l.length)) (by simp; omega) (by simp; omega) (by simp; omega) (fun x hx' => hx x (List.mem_of_mem_drop hx'))), rfl⟩ ?_
   refine runf @box.eq_1 ?_
   refine call_pure (node_c (rt (l.take (sp l.length))) (rt (l.drop (sp l.length))) (rt_len (fun x hx' => hx x (List.mem_of_mem_take hx'))) (rt_len (fun x hx' => hx x (List.mem_of_mem_drop hx')))) (by rfl) (by rfl) (by rfl) ?_
   refine runf @box.eq_1 ?_
   rw [rt_two h2]
   exact ends_ret (κ := [0]) (by rfl) (subOk_one 0 (by rfl) (by rfl)) (by rfl) (by rfl) (by rfl)
theorem root_c (l : List By) (hl : l.length ≤ 1000000) (hx : ∀ x ∈ l, x.length ≤ 1000000) : AC Tryz.prog 58 [sls l] [] (.st (root l)) [] := by
 refine AC.enter [91] [] Tryz.func58 rfl (by decide) (by decide) znl (by kernel_rfl) ?_; refine zev ?_
 by_cases h0 : l.length = 0
 ·refine run ?_
  refine call_pure (sha_c [] (by simp)) (by rfl) (by rfl) (by rfl) ?_
  refine run ?_
  have : root l = sha [] := if_pos (List.eq_nil_of_length_eq_zero h0)
  rw [this]
  exact ends_ret0 (by rfl) (by rfl) (by rfl)
 ·refine run ?_
  refine call_mk (root1_c l.length l (Nat.le_refl _) (by omega) hl hx) ?_
  refine runf @box.eq_1 ?_
  have : root l = rt l := if_neg (fun e => h0 (by rw [e]; rfl))
  rw [this]
  exact ends_ret0 (by rfl) (by rfl) (by rfl)
theorem root_rt {l : List By} (h : 0 < l.length) : root l = rt l := if_neg (fun e => by rw [e] at h; simp at h)
end Go.Proofs.YtlefikdjhnaapaaGreatDoor.Pe
end
section
namespace Go.Proofs.YtlefikdjhnaapaaGreatDoor.Pe
open Go Go.RowKit Co Sg Ac It Sl
set_option maxRecDepth 100000
set_option maxHeartbeats 4000000
abbrev headV (h : Head) : AV := .agg [.it .i64 h.server, .it .i64 h.size, .st h.root, .it .i64 h.time, .it .i64 h.sig.e, .it .i64 h.sig.s]
abbrev entriesV (l : List It.Entry) : AV := .sl .ro (l.map entryV)
theorem entryB_len (e : It.Entry) : (entryB e).length ≤ 200009 := by
 unfold entryB
 split
 ·rename_i h
  rw [Bool.and_eq_true] at h
  have h1 := wi_iff.1 h.1
  have := numI_le e.time (by omega)
  have := bytesIt_len6 e.item
  rw [List.length_append]
  omega
 ·exact Nat.zero_le _
theorem entries_sz (l : List It.Entry) : allSz 50 (l.map entryV) = true := allSz_map 50 entryV (fun _ => rfl) _
theorem sleaf_c (e : It.Entry) (h : Iz e.item) : AC Tryz.prog 41 [entryV e] [] (.st (leafE e)) [] := by
 refine AC.enter [35, 55] [] Tryz.func41 rfl (by decide) (by decide) znl (by kernel_rfl) ?_; refine zev ?_
 have hl := entryB_len e
 have k1 := entryBytes_c e h
 have k2 := leaf_c (entryB e) (by omega)
 refine run ?_
 refine cp k1 ?_
 refine run ?_
 refine cp k2 ?_
 refine run ?_
 exact er0
theorem sroot_c (l : List It.Entry) (hl : l.length ≤ 1000000) (hz : ∀ e ∈ l, Iz e.item) : AC Tryz.prog 44 [entriesV l] [] (.st (rootE l)) [] := by
 refine AC.enter [41, 58] [] Tryz.func44 rfl (by decide) (by decide) znl (by kernel_rfl) ?_; refine zev ?_
 have hsz := entries_sz l
 refine run ?_
 refine loop_mk (fun m e S => e 9 = entriesV l ∧ e 10 = .it .i64 (l.length : Int) ∧ ∃ (k : Nat) (acc : List By) (T : Store), e 11 = .it .i64 (k : Int) ∧ e 3 = .sl (.own 0) (acc.map .st) ∧ S = .buf acc.length 9 1 :: T ∧ acc = (l.take k).map leafE ∧ k ≤ l.length ∧ m = l.length - k) l.length
  ⟨zsl, zsl, 0, [], [], zsl, zsl, rfl, by simp, by omega, rfl⟩ ?_
 rintro m e S ⟨s9, s10, k, acc, T, s11, s3, rfl, hacc, hk, rfl⟩
 have hT1 : ∀ y : SObj, (T ++ [y])[T.length]? = some y := fun y => by simp
 have hT2 : ∀ y z : SObj, (T ++ [y]).set T.length z = T ++ [z] := fun y z => by simp
 have hal : acc.length = k := by rw [hacc, List.length_map, List.length_take, Nat.min_eq_left hk]
 by_cases hlt : k < l.length
 ·have hg : l[k]? = some l[k] := List.getElem?_eq_getElem hlt
  have hzk := hz l[k] (List.getElem_mem hlt)
  have hst : acc ++ [leafE l[k]] = (l.take (k + 1)).map leafE := by rw [List.take_succ_eq_append_getElem hlt, List.map_append, ← hacc]; rfl
  generalize l[k] = x at *
  have kx := sleaf_c x hzk
  refine runf (an @s9 (an @s10 (an @s11 (an @s3 (an @hg (an @hsz (an @hT1 @hT2))))))) ?_
  refine cp kx ?_
  refine runf (an @s9 (an @s10 (an @s11 @s3))) ?_
  exact round_mk (l.length - (k + 1)) (by omega) ⟨zsl, zsl, k + 1, acc ++ [leafE x], _, zsl, by rw [List.map_append]; exact zsl, by rw [List.length_append]; rfl, hst, by omega, rfl⟩
 ·obtain rfl : k = l.length := by omega
  rw [List.take_length] at hacc
  have kr := root_c acc (by omega) (fun x hx => by rw [hacc] at hx; rw [leaves_dig l x hx]; decide)
  rw [show rootE l = Mk.root acc from by rw [hacc]; rfl]
  refine runf (an @s9 (an @s10 (an @s11 @s3))) ?_
  refine cp kr ?_
  refine runf @s3 ?_
  exact er0
theorem rightH_lin {h : Head} : rightH h = true ↔ (0 ≤ h.server ∧ h.server ≤ 19) ∧ (0 ≤ h.size ∧ h.size ≤ 1073741824) ∧ (0 ≤ h.time ∧ h.time ≤ 1099511627776) ∧ h.root.length = 32 ∧ (0 ≤ h.sig.e ∧ h.sig.e ≤ 2305843009213693949) ∧ (0 ≤ h.sig.s ∧ h.sig.s ≤ 2305843009213693949) := by
 rw [rightH_iff]
 simp only [sigR, Bool.and_eq_true, wi_iff]
theorem sright_c (h : Head) : AC Tryz.prog 48 [headV h] [] (.bo (rightH h)) [] := by
 refine AC.enter [] [] Tryz.func48 rfl (by decide) (by decide) znl (by kernel_rfl) ?_; refine zev ?_
 have hf : ¬ ((0 ≤ h.server ∧ h.server ≤ 19) ∧ (0 ≤ h.size ∧ h.size ≤ 1073741824) ∧ (0 ≤ h.time ∧ h.time ≤ 1099511627776) ∧ h.root.length = 32 ∧ (0 ≤ h.sig.e ∧ h.sig.e ≤ 2305843009213693949) ∧ (0 ≤ h.sig.s ∧ h.sig.s ≤ 2305843009213693949)) → rightH h = false := fun hn => Bool.eq_false_iff.2 fun r => hn (rightH_lin.1 r)
 by_cases h1 : 0 ≤ h.server
 rotate_left
 ·rw [hf (by omega)]
  refine run ?_
  exact er0
 by_cases h2 : h.server < 20
 rotate_left
 ·rw [hf (by omega)]
  refine run ?_
  exact er0
 by_cases h3 : 0 ≤ h.size
 rotate_left
 ·rw [hf (by omega)]
  refine run ?_
  exact er0
 by_cases h4 : h.size ≤ 1073741824
 rotate_left
 ·rw [hf (by omega)]
  refine run ?_
  exact er0
 by_cases h5 : 0 ≤ h.time
 rotate_left
 ·rw [hf (by omega)]
  refine run ?_
  exact er0
 by_cases h6 : h.time ≤ 1099511627776
 rotate_left
 ·rw [hf (by omega)]
  refine run ?_
  exact er0
 by_cases h7 : h.root.length = 32
 rotate_left
 ·have h7' : ¬ (h.root.length : Int) = 32 := by omega
  rw [hf (by omega)]
  refine runf @h7' ?_
  exact er0
 have h7' : (h.root.length : Int) = 32 := by omega
 by_cases h8 : 0 ≤ h.sig.e
 rotate_left
 ·rw [hf (by omega)]
  refine runf @h7' ?_
  exact er0
 by_cases h9 : h.sig.e ≤ 2305843009213693949
 rotate_left
 ·rw [hf (by omega)]
  refine runf @h7' ?_
  exact er0
 by_cases h10 : 0 ≤ h.sig.s
 rotate_left
 ·rw [hf (by omega)]
  refine runf @h7' ?_
  exact er0
 by_cases h11 : h.sig.s ≤ 2305843009213693949
 rotate_left
 ·rw [hf (by omega)]
  refine runf @h7' ?_
  exact er0
 rw [rightH_lin.2 (by omega)]
 refine runf @h7' ?_
 exact er0
theorem coreH_len {h : Head} (h1 : h.server < 9223372036854775808) (h2 : h.size < 9223372036854775808) (h3 : h.time < 9223372036854775808) (h4 : h.root.length ≤ 1000000) : (coreH h).length ≤ 1000100 := by
 have n1 := numI_le h.server h1
 have n2 := numI_le h.size h2
 have n3 := numI_le h.time h3
 have t1 := text_len h4
 have tw : (text wHead).length = 5 := rfl
 unfold coreH
 simp only [List.length_append]
 omega
theorem score_c (h : Head) (hr : rightH h = true) : AC Tryz.prog 95 [headV h] [] (.st (coreH h)) [] := by
 refine AC.enter [56, 57] [] Tryz.func95 rfl (by decide) (by decide) znl (by kernel_rfl) ?_; refine zev ?_
 have hh := rightH_lin.1 hr
 have n1 := numI_le h.server (by omega)
 have n2 := numI_le h.size (by omega)
 have n3 := numI_le h.time (by omega)
 have t1 := text_len (s := h.root) (by omega)
 have tw : (text wHead).length = 5 := rfl
 unfold coreH
 refine run ?_
 refine cp (text_c wHead (by simp)) ?_
 refine run ?_
 refine cp (num_c h.server (by omega) (by omega)) ?_
 refine run ?_
 refine cp (num_c h.size (by omega) (by omega)) ?_
 refine run ?_
 refine cp (text_c h.root (by omega)) ?_
 refine run ?_
 refine cp (num_c h.time (by omega) (by omega)) ?_
 refine run ?_
 exact er0
theorem coreR_lenH {h : Head} (hr : rightH h = true) : (coreH h).length ≤ 1000100 := by
 have hh := rightH_lin.1 hr
 exact coreH_len (by omega) (by omega) (by omega) (by omega)
theorem sverify_c (p : Int) (h : Head) (hp : -9223372036854775808 ≤ p ∧ p ≤ 9223372036854775807) : AC Tryz.prog 50 [.it .i64 p, headV h] [] (.bo (verifyH p h)) [] := by
 refine AC.enter [48, 95, 59] [] Tryz.func50 rfl (by decide) (by decide) znl (by kernel_rfl) ?_; refine zev ?_
 have kr := sright_c h
 unfold verifyH
 cases hr : rightH h with
 | false =>
  rw [hr] at kr
  refine run ?_
  refine cp kr ?_
  refine run ?_
  exact er0
 | true =>
  rw [hr] at kr
  have hh := rightH_lin.1 hr
  have hc := coreR_lenH hr
  have kc := score_c h hr
  have kv := verify_c p (coreH h) h.sig (by omega) hp (by omega)
  refine run ?_
  refine cp kr ?_
  refine run ?_
  refine cp kc ?_
  refine run ?_
  refine cp kv ?_
  refine run ?_
  exact er0
theorem shead_c (k : Key) (server : Int) (l : List It.Entry) (time : Int) (hk : -9223372036854775808 ≤ k.secret ∧ k.secret ≤ 9223372036854775807) (hl : l.length ≤ 1000000) (hz : ∀ e ∈ l, Iz e.item) :
  AC Tryz.prog 38 [keyV k, .it .i64 server, entriesV l, .it .i64 time] [] (headV (mkHead k server l time)) [] := by
 refine AC.enter [54, 44, 48, 95, 94] [] Tryz.func38 rfl (by decide) (by decide) znl (by kernel_rfl) ?_; refine zev ?_
 have k1 := keyright_c k hk
 have k2 := sroot_c l hl hz
 unfold mkHead
 cases hr : k.right with
 | false =>
  rw [if_neg (by simp)]
  rw [hr] at k1
  refine run ?_
  refine cp k1 ?_
  refine run ?_
  exact er0
 | true =>
  rw [if_pos rfl]
  rw [hr] at k1
  have k3 := sright_c ⟨server, l.length, rootE l, time, sig0⟩
  cases hh : rightH ⟨server, l.length, rootE l, time, sig0⟩ with
  | false =>
   rw [hh] at k3
   simp only [hh, Bool.false_eq_true, if_false]
   refine run ?_
   refine cp k1 ?_
   refine run ?_
   refine cp k2 ?_
   refine run ?_
   refine cp k3 ?_
   refine run ?_
   exact er0
  | true =>
   rw [hh] at k3
   simp only [hh, if_true]
   have k4 := score_c ⟨server, l.length, rootE l, time, sig0⟩ hh
   have hc := coreR_lenH hh
   have k5 := sign_c k (coreH ⟨server, l.length, rootE l, time, sig0⟩) (by omega) hk
   generalize coreH ⟨server, l.length, rootE l, time, sig0⟩ = c at *
   generalize sign k c = sg at *
   refine run ?_
   refine cp k1 ?_
   refine run ?_
   refine cp k2 ?_
   refine run ?_
   refine cp k3 ?_
   refine run ?_
   refine cp k4 ?_
   refine run ?_
   refine cp k5 ?_
   refine run ?_
   exact er0
theorem times_bad {l : List It.Entry} {k : Nat} (hk : k + 1 < l.length) (h : l[k + 1].time < l[k].time) : times l = false := by
 rw [Bool.eq_false_iff]
 intro ht
 have := times_iff.1 ht k hk
 omega
theorem stimes_c (l : List It.Entry) (hl : l.length ≤ 140737488355328) : AC Tryz.prog 46 [entriesV l] [] (.bo (times l)) [] := by
 refine AC.enter2 [] [] Tryz.func46 rfl (by decide) (by decide) znl (by kernel_rfl) ?_; refine zev ?_
 have hsz := entries_sz l
 refine run ?_
 refine loop_mk (fun m e S => S = [] ∧ e 0 = entriesV l ∧ ∃ k : Nat, e 3 = .it .i64 ((k + 1 : Nat) : Int) ∧ (∀ j (h : j + 1 < l.length), j < k → l[j].time ≤ l[j + 1].time) ∧ m = l.length - k) l.length
  ⟨rfl, zsl, 0, zsl, fun j _ h => absurd h (Nat.not_lt_zero _), rfl⟩ ?_
 rintro m e S ⟨rfl, s0, k, s3, hall, rfl⟩
 by_cases hlt : k + 1 < l.length
 rotate_left
 ·rw [times_iff.2 fun j h => hall j h (by omega)]
  have hlt' : ¬ ((k + 1 : Nat) : Int) < (l.length : Int) := by omega
  refine runf (an @s0 (an @s3 @hlt')) ?_
  exact er0
 have hlt' : ((k + 1 : Nat) : Int) < (l.length : Int) := by omega
 have hg1 : l[k + 1]? = some l[k + 1] := List.getElem?_eq_getElem hlt
 have hg0 : l[k]? = some l[k] := List.getElem?_eq_getElem (by omega)
 have hc : ((k + 1 : Nat) : Int) - 1 = (k : Int) := by omega
 have hbad := times_bad hlt
 have hgood : l[k].time ≤ l[k + 1].time → ∀ j (h : j + 1 < l.length), j < k + 1 → l[j].time ≤ l[j + 1].time := fun h j hj hjk => by
  by_cases e : j = k
  ·subst e; exact h
  ·exact hall j hj (by omega)
 generalize l[k + 1] = x at *
 generalize l[k] = y at *
 by_cases ht : x.time < y.time
 ·rw [hbad ht]
  refine runf (an @s0 (an @s3 (an @hlt' (an @hg1 (an @hg0 (an @hc @hsz)))))) ?_
  exact er0
 ·refine runf (an @s0 (an @s3 (an @hlt' (an @hg1 (an @hg0 (an @hc @hsz)))))) ?_
  exact round_mk (l.length - (k + 1)) (by omega) ⟨rfl, zsl, k + 1, zsl, hgood (by omega), rfl⟩
theorem sheadBytes_c (h : Head) : AC Tryz.prog 52 [headV h] [] (.st (headB h)) [] := by
 refine AC.enter [48, 95, 57] [] Tryz.func52 rfl (by decide) (by decide) znl (by kernel_rfl) ?_; refine zev ?_
 have kr := sright_c h
 unfold headB
 cases hr : rightH h with
 | false =>
  rw [hr] at kr
  rw [if_neg (by simp)]
  refine run ?_
  refine cp kr ?_
  refine run ?_
  exact er0
 | true =>
  rw [hr] at kr
  rw [if_pos rfl]
  have hh := rightH_lin.1 hr
  have hc := coreR_lenH hr
  have kc := score_c h hr
  have n1 := numI_le h.sig.e (by omega)
  have n2 := numI_le h.sig.s (by omega)
  generalize coreH h = c at *
  refine run ?_
  refine cp kr ?_
  refine run ?_
  refine cp kc ?_
  refine run ?_
  refine cp (num_c h.sig.e (by omega) (by omega)) ?_
  refine run ?_
  refine cp (num_c h.sig.s (by omega) (by omega)) ?_
  refine run ?_
  exact er0
theorem readHead_c (s : By) (hs : s.length ≤ 1000000) : AC Tryz.prog 39 [.st s] [] (.tup [headV (readHead s).1, .bo (readHead s).2]) [] := by
 refine AC.enter [48, 52] [] Tryz.func39 rfl (by decide) (by decide) znl (by kernel_rfl) ?_; refine zev ?_
 obtain ⟨n, x0, e0, b0, d0, k0⟩ := rtext_s ⟨s, false⟩ hs
 obtain ⟨server, x1, e1, b1, d1, k1⟩ := rnum_s x0 b0
 obtain ⟨size, x2, e2, b2, d2, k2⟩ := rnum_s x1 b1
 obtain ⟨root, x3, e3, b3, d3, k3⟩ := rtext_s x2 b2
 obtain ⟨time, x4, e4, b4, d4, k4⟩ := rnum_s x3 b3
 obtain ⟨se, x5, e5, b5, d5, k5⟩ := rnum_s x4 b4
 obtain ⟨ss, x6, e6, b6, d6, k6⟩ := rnum_s x5 b5
 have hread : readHead s = if n = wHead ∧ x6.done = true ∧ rightH ⟨server, size, root, time, ⟨se, ss⟩⟩ = true ∧ headB ⟨server, size, root, time, ⟨se, ss⟩⟩ = s then (⟨server, size, root, time, ⟨se, ss⟩⟩, true) else (head0, false) := by
  unfold readHead rHead rSig
  simp only [e0, e1, e2, e3, e4, e5, e6]
 have kd := done_c x6
 change AC _ _ _ _ (.bo x6.done) _ at kd
 have kr := sright_c ⟨server, size, root, time, ⟨se, ss⟩⟩
 have kb := sheadBytes_c ⟨server, size, root, time, ⟨se, ss⟩⟩
 generalize headB ⟨server, size, root, time, ⟨se, ss⟩⟩ = bs at *
 generalize rightH ⟨server, size, root, time, ⟨se, ss⟩⟩ = rr at *
 generalize x6.done = dn at *
 refine run ?_
 refine call_mk (AC.newAt (open_c s) _) ?_
 refine run ?_
 refine c1 1 k0 ?_
 by_cases hn : n = wHead
 rotate_left
 ·rw [if_neg (fun h => hn h.1)] at hread
  rw [hread]
  have hne := nilI n wHead hn
  refine runf @hne ?_
  exact er0w
 subst hn
 refine run ?_
 refine c1 1 k1 ?_
 refine run ?_
 refine c1 1 k2 ?_
 refine run ?_
 refine c1 1 k3 ?_
 refine run ?_
 refine c1 1 k4 ?_
 refine run ?_
 refine c1 1 k5 ?_
 refine run ?_
 refine c1 1 k6 ?_
 refine run ?_
 refine c1 1 kd ?_
 cases dn with
 | false =>
  rw [if_neg (fun h => by cases h.2.1)] at hread
  rw [hread]
  refine run ?_
  exact er0w
 | true =>
  refine run ?_
  refine cp kr ?_
  cases rr with
  | false =>
   rw [if_neg (fun h => by cases h.2.2.1)] at hread
   rw [hread]
   refine run ?_
   exact er0w
  | true =>
   refine run ?_
   refine cp kb ?_
   by_cases hb : bs = s
   ·subst hb
    rw [if_pos ⟨rfl, rfl, rfl, rfl⟩] at hread
    rw [hread]
    refine run ?_
    exact er0w
   ·rw [if_neg (fun h => hb h.2.2.2)] at hread
    rw [hread]
    have hne := nilI bs s hb
    refine runf @hne ?_
    exact er0w
end Go.Proofs.YtlefikdjhnaapaaGreatDoor.Pe
end
section
namespace Go.Proofs.YtlefikdjhnaapaaGreatDoor
open Go Go.RowKit Dm
def bl : Value → Option Nat
  | .slice (some a) _ (_ + 1) => some a.block
  | _ => none
theorem bl_lit (b n c : Nat) (hc : 0 < c) : bl (.slice (some ⟨b, 0, none⟩) n c) = some b := by
  obtain ⟨c, rfl⟩ := Nat.exists_eq_succ_of_ne_zero (Nat.ne_of_gt hc)
  rfl
theorem bl_none (A : Option Addr) (n : Nat) : bl (.slice A n 0) = none := by cases A <;> rfl
def Fil (w : World) (v : Value) (l : List UInt8) : Prop :=
  (∃ A, v = .slice A 0 0 ∧ l = []) ∨ ∃ b cap, v = .slice (some ⟨b, 0, none⟩) l.length cap ∧ 0 < cap ∧ Own w 0 5 1 v (l.map w8)
section
variable {w w' : World} {v : Value} {l : List UInt8}
theorem Fil.nil (w : World) : Fil w (.slice none 0 0) [] := .inl ⟨none, rfl, rfl⟩
theorem Fil.block (h : Fil w v l) : ∀ b, bl v = some b → b < w.heap.size := by
  rcases h with ⟨A, rfl, _⟩ | ⟨b, cap, rfl, hc, hown⟩
  · intro b h; rw [bl_none] at h; cases h
  · intro b' h
    rw [bl_lit _ _ _ hc] at h
    cases h
    exact (hown.block b rfl).2
theorem Fil.keep (h : Fil w v l) (hk : ∀ b, bl v = some b → w'.heap[b]? = w.heap[b]?) : Fil w' v l := by
  rcases h with h | ⟨b, cap, rfl, hc, hown⟩
  · exact .inl h
  · refine .inr ⟨b, cap, rfl, hc, hown.keep fun g hg => ?_⟩
    have : b = g := by simpa [Value.ownBlock] using hg
    subst this
    exact hk _ (bl_lit _ _ _ hc)
theorem Fil.rd (h : Fil w v l) : Rd w w.heap.size 1 v (l.map w8) := by
  rcases h with ⟨A, rfl, rfl⟩ | ⟨b, cap, rfl, hc, hown⟩
  · exact ⟨A, 0, 0, rfl, Nat.le_refl _, by simp, fun h => absurd h (by omega)⟩
  · exact hown.rd
theorem Fil.form (h : Fil w v l) : ∃ A c, v = .slice A l.length c ∧ l.length ≤ c := by
  obtain ⟨A, c, h1, h2⟩ := h.rd.len
  rw [List.length_map] at h1 h2
  exact ⟨A, c, h1, h2⟩
theorem Fil.take {A : Option Addr} {c : Nat} (h : Fil w (.slice A l.length c) l) (n : Nat) (hn : n ≤ l.length) : Fil w (.slice A n c) (l.take n) := by
  rcases h with ⟨A', h, rfl⟩ | ⟨b, cap, h, hc, hown⟩
  · simp only [Value.slice.injEq] at h
    obtain ⟨rfl, _, rfl⟩ := h
    have : n = 0 := by simpa using hn
    subst this
    exact .inl ⟨A, rfl, by simp⟩
  · simp only [Value.slice.injEq] at h
    obtain ⟨rfl, _, rfl⟩ := h
    refine .inr ⟨b, c, by rw [List.length_take, Nat.min_eq_left hn], hc, ?_⟩
    rcases hown with ⟨h, _⟩ | ⟨g, n', cap, cur, fr, h, hb, hg, hfr, hnc, hcm, hcs, hl, htake⟩
    · cases h
    · simp only [Value.slice.injEq, Option.some.injEq, Addr.mk.injEq] at h
      obtain ⟨⟨rfl, _⟩, rfl, rfl⟩ := h
      refine .inr ⟨b, n, c, cur, fr, rfl, hb, hg, hfr, by omega, hcm, hcs, by simp; omega, ?_⟩
      rw [Nat.mul_one] at htake ⊢
      rw [List.map_take, ← htake, List.take_take, Nat.min_eq_left hn]
theorem Fil.bl_take (A : Option Addr) (n m c : Nat) : bl (.slice A n c) = bl (.slice A m c) := by
  cases A <;> cases c <;> rfl
end
def Kp (w : World) (v : Value) (ks : List Int) : Prop :=
  ∃ A c, v = .slice A ks.length c ∧ ks.length ≤ c ∧ (0 < ks.length → ∃ b o, A = some ⟨b, o, none⟩ ∧ ∀ j, j < ks.length → w.cell? ⟨b, o + j, none⟩ = some (.int .i64 (ks.getD j 0)))
theorem Kp.nil (w : World) : Kp w (.slice none 0 0) [] := ⟨none, 0, rfl, Nat.le_refl _, fun h => absurd h (by simp)⟩
theorem Kp.keep {w w' : World} {v : Value} {ks : List Int} (h : Kp w v ks) (hk : ∀ b, bl v = some b → w'.heap[b]? = w.heap[b]?) : Kp w' v ks := by
  obtain ⟨A, c, rfl, hc, hr⟩ := h
  refine ⟨A, c, rfl, hc, fun h0 => ?_⟩
  obtain ⟨b, o, rfl, h⟩ := hr h0
  refine ⟨b, o, rfl, fun j hj => ?_⟩
  have hb : bl (.slice (some ⟨b, o, none⟩) ks.length c) = some b := by
    obtain ⟨c', rfl⟩ := Nat.exists_eq_succ_of_ne_zero (show c ≠ 0 by omega)
    rfl
  rw [World.cell?_of_block (hk b hb)]
  exact h j hj
theorem Kp.block {w : World} {v : Value} {ks : List Int} (h : Kp w v ks) (h0 : 0 < ks.length) : ∃ b, bl v = some b ∧ b < w.heap.size := by
  obtain ⟨A, c, rfl, hc, hr⟩ := h
  obtain ⟨b, o, rfl, h⟩ := hr h0
  have := World.block_lt_of_cell? w _ (h 0 h0)
  refine ⟨b, ?_, this⟩
  obtain ⟨c', rfl⟩ := Nat.exists_eq_succ_of_ne_zero (show c ≠ 0 by omega)
  rfl
def cellD (vs : Nat → Value) (kv : Value) (d : Dk) (j : Nat) : Value :=
  if j < 16 then (if j % 2 = 0 then vs (j / 2) else .int .i64 ((d.fs (j / 2)).dur : Int)) else
  if j = 16 then .bool d.down else if j = 17 then .int .i64 (d.lost : Int) else if j = 18 then .int .i64 (d.armed : Int) else kv
theorem cellD_data (vs : Nat → Value) (kv : Value) (d : Dk) (i : Nat) (h : i < 8) : cellD vs kv d (i * 2) = vs i := by
  unfold cellD
  rw [if_pos (by omega), if_pos (by omega), show i * 2 / 2 = i from by omega]
theorem cellD_dur (vs : Nat → Value) (kv : Value) (d : Dk) (i : Nat) (h : i < 8) : cellD vs kv d (i * 2 + 1) = .int .i64 ((d.fs i).dur : Int) := by
  unfold cellD
  rw [if_pos (by omega), if_neg (by omega), show (i * 2 + 1) / 2 = i from by omega]
structure Rows3 (w : World) (S : Nat → Prop) (g : Nat) (vs : Nat → Value) (kv : Value) (d : Dk) : Prop where
  head : S g
  fil : ∀ i, i < 8 → Fil w (vs i) (d.fs i).data
  own : ∀ i b, i < 8 → bl (vs i) = some b → S b ∧ b ≠ g
  apart : ∀ i j b, i < 8 → j < 8 → i ≠ j → bl (vs i) = some b → bl (vs j) ≠ some b
  kp : Kp w kv d.keep
  kown : ∀ b, bl kv = some b → S b ∧ b ≠ g
  kapart : ∀ i b, i < 8 → bl (vs i) = some b → bl kv ≠ some b
  klt : ∀ b, bl kv = some b → b < w.heap.size
def DRep (w : World) (S : Nat → Prop) (g : Nat) (d : Dk) : Prop :=
  ∃ vs kv, w.rowIs g 119 20 (cellD vs kv d) ∧ Rows3 w S g vs kv d
end Go.Proofs.YtlefikdjhnaapaaGreatDoor
namespace Go.Proofs.YtlefikdjhnaapaaGreatDoor
open Go Go.RowKit Dm
structure Fr (S : Nat → Prop) (w w' : World) : Prop where
  os : w'.os = w.os
  tape : w'.tape = w.tape
  output : w'.output = w.output
  size : w.heap.size ≤ w'.heap.size
  block : ∀ b, b < w.heap.size → ¬ S b → w'.heap[b]? = w.heap[b]?
section
variable {S : Nat → Prop} {w w' w'' : World} {g : Nat} {d : Dk}
theorem Fr.refl (S : Nat → Prop) (w : World) : Fr S w w := ⟨rfl, rfl, rfl, Nat.le_refl _, fun _ _ _ => rfl⟩
theorem Fr.trans (h : Fr S w w') (h' : Fr S w' w'') : Fr S w w'' :=
  ⟨h'.os.trans h.os, h'.tape.trans h.tape, h'.output.trans h.output, Nat.le_trans h.size h'.size, fun b hb hS => (h'.block b (Nat.lt_of_lt_of_le hb h.size) hS).trans (h.block b hb hS)⟩
theorem Fr.drewN (w : World) (n : Nat) : Fr S w (w.drewN n) := ⟨rfl, rfl, rfl, Nat.le_refl _, fun _ _ _ => rfl⟩
theorem Fr.setCell {p : Addr} (hp : S p.block) (u : Value) : Fr S w (w.setCell p u) :=
  ⟨rfl, rfl, rfl, by simp, fun b _ hS => Below.heap_setCell w p u b (fun e => hS (by rw [e]; exact hp))⟩
theorem Fr.alloc (w : World) (o : Obj) : Fr S w (w.alloc o) := ⟨rfl, rfl, rfl, by simp, fun b hb _ => heap_alloc_old w o hb⟩
theorem Fr.grown {row : Option Nat} (h : w.grownBy w' row) (hr : ∀ b, row = some b → S b) : Fr S w w' :=
  ⟨h.os, h.tape, h.output, h.size, fun b hb hS => h.block b hb (fun e => hS (hr b e.symm))⟩
theorem Fr.below {B : Nat} {a : World} (h : Fr S w w') (hb : Below B a w) (hS : ∀ b, b < B → ¬ S b) (hB : B ≤ w.heap.size) : Below B a w' :=
  ⟨h.os.trans hb.os, h.tape.trans hb.tape, h.output.trans hb.output, Nat.le_trans hb.size h.size, fun b hlt => (h.block b (by omega) (hS b hlt)).trans (hb.block b hlt)⟩
theorem Fr.more {S' : Nat → Prop} (h : Fr S w w') (hS : ∀ b, S b → S' b) : Fr S' w w' := ⟨h.os, h.tape, h.output, h.size, fun b hb hn => h.block b hb (fun hs => hn (hS b hs))⟩
theorem DRep.more {S' : Nat → Prop} (h : DRep w S g d) (hS : ∀ b, S b → S' b) : DRep w S' g d := by
  obtain ⟨vs, kv, hr, h⟩ := h
  exact ⟨vs, kv, hr, hS _ h.head, h.fil, fun i b hi hb => ⟨hS _ (h.own i b hi hb).1, (h.own i b hi hb).2⟩, h.apart, h.kp, fun b hb => ⟨hS _ (h.kown b hb).1, (h.kown b hb).2⟩, h.kapart, h.klt⟩
theorem same_lt {w w' : World} {b : Nat} (h : w'.heap[b]? = w.heap[b]?) (hb : b < w.heap.size) : b < w'.heap.size := by
  rw [Array.getElem?_eq_getElem hb] at h
  exact (Array.getElem?_eq_some_iff.1 h).1
theorem DRep.keep (h : DRep w S g d) (hk : ∀ b, S b → b < w.heap.size → w'.heap[b]? = w.heap[b]?) : DRep w' S g d := by
  obtain ⟨vs, kv, hr, h⟩ := h
  exact ⟨vs, kv, hr.of_block (hk _ h.head hr.lt), h.head, fun i hi => (h.fil i hi).keep fun b hb => hk b (h.own i b hi hb).1 ((h.fil i hi).block b hb), h.own, h.apart, h.kp.keep fun b hb => hk b (h.kown b hb).1 (h.klt b hb), h.kown, h.kapart, fun b hb => same_lt (hk b (h.kown b hb).1 (h.klt b hb)) (h.klt b hb)⟩
theorem DRep.drewN (h : DRep w S g d) (n : Nat) : DRep (w.drewN n) S g d := h.keep fun _ _ _ => rfl
theorem DRep.alloc (h : DRep w S g d) (o : Obj) : DRep (w.alloc o) S g d := h.keep fun _ _ hb => heap_alloc_old w o hb
end
end Go.Proofs.YtlefikdjhnaapaaGreatDoor
namespace Go.Proofs.YtlefikdjhnaapaaGreatDoor
open Go Go.RowKit Dm Go.Lib
theorem strCells_w8 (s : ByteArray) : strCells s = s.data.toList.map w8 := rfl
theorem Fil.append {P : Program} {w : World} {v : Value} {l : List UInt8} (h : Fil w v l) (t u ty : TypeId) (ht : P.underlying t = some (.slice 5)) (hu : P.underlying u = some .string)
    (hE : ElemOk P t 5 1 1) (hz : ∀ i, P.info? 5 = some i → i.zero = some (.int .u8 0)) (s : ByteArray) (hb : l.length + s.size ≤ 140737488355328) :
    ∃ v' w', (Builtin.append_ #[t, u] ty #[v, .string s]).run P w = .ok v' w' ∧ Fil w' v' (l ++ s.data.toList) ∧ w.grownBy w' (bl v) ∧ (bl v' = bl v ∨ bl v' = some w.heap.size) := by
  obtain ⟨_, _, i, z, hi, hz', hs1, hby, hzs⟩ := hE
  have hz := hz i hi
  have hsz : s.data.toList.length = s.size := by simp
  have grow : ∀ (xs : List UInt8) (old : Nat), xs.length = l.length → xs = l → 0 < s.size → Fil (w.drew.alloc (.cells ((xs.map w8).toArray ++ (strCells s).toArray ++ Builtin.zeroCells (Value.int .u8 0).cells (grownCap w (l.length + s.size) old 5 - (l.length + s.size))) 5))
      (.slice (some ⟨w.heap.size, 0, none⟩) (l.length + s.size) (grownCap w (l.length + s.size) old 5)) (l ++ s.data.toList) := by
    intro xs old hxl hx h0
    subst hx
    have hge := grownCap_ge w (xs.length + s.size) old 5
    have hcm : grownCap w (xs.length + s.size) old 5 ≤ maxLen := grownCap_le_maxLen w (xs.length + s.size) old 5 (by simp only [maxLen]; omega)
    have hlen : (xs ++ s.data.toList).length = xs.length + s.size := by rw [List.length_append, hsz]
    refine .inr ⟨w.heap.size, _, by rw [hlen], by omega, .inr ⟨w.heap.size, _, _, _, (0, 0), rfl, Nat.zero_le _, heap_alloc_new w.drew _, .inl (by simp), hge, hcm, ?_, by rw [List.length_map, hlen, Nat.mul_one], ?_⟩⟩
    · have hz1 : (Value.int IntKind.u8 0).cells.size = 1 := rfl
      simp only [Array.size_append, List.size_toArray, size_zeroCells, hz1, List.length_map, strCells_length]
      omega
    · simp only [Array.toList_append, List.append_assoc, strCells_w8]
      rw [← List.append_assoc, ← List.map_append, Nat.mul_one, ← hlen, ← List.length_map (f := w8)]
      exact List.take_left
  have gr : ∀ o, w.grownBy (w.drew.alloc o) (bl v) := fun o => ⟨rfl, rfl, rfl, by simp, fun k hk _ => heap_alloc_old w.drew _ hk⟩
  rcases Nat.eq_zero_or_pos s.size with h0 | h0
  · have hs0 : s.data.toList = [] := List.eq_nil_of_length_eq_zero (by omega)
    have hsc : strCells s = [] := by rw [strCells_w8, hs0]; rfl
    have hf := run_firstCells_string (P := P) w 1 s
    rw [hsc] at hf
    refine ⟨v, w, ?_, by rw [hs0, List.append_nil]; exact h, ⟨rfl, rfl, rfl, Nat.le_refl _, fun _ _ _ => rfl⟩, .inl rfl⟩
    rw [h0] at hf
    obtain ⟨A, c, rfl, hc⟩ := h.form
    cases A <;> simp [Builtin.append_, run_underlying ht, run_underlying hu, sizeOf, typeInfo, hi, hs1, Builtin.lenOf, h0, hc, hf, storeCells]
  · rcases h with ⟨A, rfl, rfl⟩ | ⟨b, cap, rfl, hc, hown⟩
    · rcases A with _ | a
      · have hr := run_append_nil_string (P := P) w t u ty 5 i (.int .u8 0) ht hu hi hz s h0 (by simp at hb; omega) (by rw [hby]; simp at hb; omega)
        have hg := grow [] 0 rfl rfl h0
        simp only [List.length_nil, Nat.zero_add] at hg hr
        refine ⟨_, _, hr, ?_, gr _, .inr (bl_lit _ _ _ ?_)⟩
        · have e : (s.data.map (fun b => Value.int .u8 (b.toNat : Int))) = (([] : List UInt8).map w8).toArray ++ (strCells s).toArray := by
            apply Array.ext'
            simp [strCells]
          rw [e]
          exact hg
        · have := grownCap_ge w s.size 0 5; omega
      · have hr := run_append_grow_string (P := P) w t u ty 5 i (.int .u8 0) ht hu hi hz a 0 0 [] (by simp) (fun j v h => by simp at h) s (by omega) (by simp at hb; omega) (by rw [hby]; exact growslice_fits (by omega) (by simp at hb; omega))
        have hg := grow [] 0 rfl rfl h0
        simp only [List.length_nil, Nat.zero_add] at hg hr
        refine ⟨_, _, hr, hg, gr _, .inr (bl_lit _ _ _ ?_)⟩
        have := grownCap_ge w s.size 0 5; omega
    · have hown0 := hown
      rcases hown with ⟨h, _⟩ | ⟨g, n, cap', cur, fr, h, hbg, hg, hfr, hnc, hcm, hcs, hl, htake⟩
      · cases h
      · simp only [Value.slice.injEq, Option.some.injEq, Addr.mk.injEq] at h
        obtain ⟨⟨rfl, _⟩, rfl, rfl⟩ := h
        simp only [Nat.mul_one] at hcs htake
        have hlen : (l ++ s.data.toList).length = l.length + s.size := by rw [List.length_append, hsz]
        by_cases hroom : l.length + s.size ≤ cap
        · have hf := run_firstCells_string (P := P) w 1 s
          have hst := storeCells_fr (P := P) b l.length 5 fr (strCells s) 0 cur w hg hfr (by rw [strCells_length]; omega) (strCells_oneCell s)
          simp only [Nat.add_zero, strCells_length] at hst
          have hr : (Builtin.append_ #[t, u] ty #[.slice (some ⟨b, 0, none⟩) l.length cap, .string s]).run P w =
              .ok (.slice (some ⟨b, 0, none⟩) (l.length + s.size) cap) (w.setRow b (cur.toList.take l.length ++ strCells s ++ cur.toList.drop (l.length + s.size)).toArray) := by
            simp [Builtin.append_, run_underlying ht, run_underlying hu, sizeOf, typeInfo, hi, hs1, Builtin.lenOf, hroom, hf, Addr.add_lit, hst]
          refine ⟨_, _, hr, .inr ⟨b, cap, by rw [hlen], hc, .inr ⟨b, _, cap, _, fr, rfl, Nat.zero_le _, setRow_heap w b cur _ _ _ hg, ?_, hroom, hcm, ?_, by rw [List.length_map, hlen, Nat.mul_one], ?_⟩⟩, ?_, .inl ?_⟩
          · rcases hfr with h | h
            · exact .inl h
            · refine .inr ?_
              simp only [List.size_toArray, List.length_append, List.length_take, List.length_drop, Array.length_toList, strCells_length]
              omega
          · simp only [List.size_toArray, List.length_append, List.length_take, List.length_drop, Array.length_toList, strCells_length]
            omega
          · rw [htake, strCells_w8, ← List.map_append, Nat.mul_one, ← hlen, ← List.length_map (f := w8)]
            exact List.take_left
          · rw [bl_lit _ _ _ hc]
            exact ⟨rfl, rfl, rfl, by simp, fun k _ hk => setRow_other w b k _ (fun e => hk (by rw [e]))⟩
          · rw [bl_lit _ _ _ hc, bl_lit _ _ _ hc]
        · have holds : ∀ j u, (l.map w8)[j]? = some u → w.cell? ((⟨b, 0, none⟩ : Addr).add j) = some u := by
            intro j u hu
            rw [Addr.add_lit]
            simp only [Nat.zero_add]
            rw [cell_of_row w b j cur 5 fr hg]
            rw [← htake, List.getElem?_take] at hu
            split at hu
            · simpa using hu
            · cases hu
          have hr := run_append_grow_string (P := P) w t u ty 5 i (.int .u8 0) ht hu hi hz ⟨b, 0, none⟩ l.length cap (l.map w8) (by rw [hs1]; simp) holds s (by omega) (by omega) (by rw [hby]; exact growslice_fits (by omega) (by omega))
          have hgw := grow l cap rfl rfl h0
          refine ⟨_, _, hr, hgw, gr _, .inr (bl_lit _ _ _ ?_)⟩
          have := grownCap_ge w (l.length + s.size) cap 5; omega
end Go.Proofs.YtlefikdjhnaapaaGreatDoor
end
section
namespace Go.Proofs.YtlefikdjhnaapaaGreatDoor
open Go Go.RowKit Dm
section
variable {S : Nat → Prop} {w : World} {g : Nat} {d : Dk} {vs : Nat → Value} {kv : Value}
theorem Rows3.head' (h : Rows3 w S g vs kv d) (o : Nat) (u : Value) : Rows3 (w.setCell ⟨g, o, none⟩ u) S g vs kv d :=
  ⟨h.head, fun i hi => (h.fil i hi).keep fun b hb => Below.heap_setCell w _ u b (h.own i b hi hb).2, h.own, h.apart, h.kp.keep fun b hb => Below.heap_setCell w _ u b (h.kown b hb).2, h.kown, h.kapart, fun b hb => by simpa using h.klt b hb⟩
theorem DRep.setDown (h : DRep w S g d) (b : Bool) : DRep (w.setCell ⟨g, 16, none⟩ (.bool b)) S g { d with down := b } := by
  obtain ⟨vs, kv, hr, h⟩ := h
  refine ⟨vs, kv, (hr.set 16 (.bool b)).congr fun j hj => ?_, ?_⟩
  · show (if j = 16 then _ else _) = _
    by_cases h : j = 16
    · subst h; rfl
    · rw [if_neg h]; unfold cellD; simp only [if_neg h]
  · have h := h.head' 16 (.bool b)
    exact ⟨h.head, h.fil, h.own, h.apart, h.kp, h.kown, h.kapart, h.klt⟩
theorem DRep.setLost (h : DRep w S g d) (n : Nat) : DRep (w.setCell ⟨g, 17, none⟩ (.int .i64 (n : Int))) S g { d with lost := n } := by
  obtain ⟨vs, kv, hr, h⟩ := h
  refine ⟨vs, kv, (hr.set 17 (.int .i64 (n : Int))).congr fun j hj => ?_, ?_⟩
  · show (if j = 17 then _ else _) = _
    by_cases h : j = 17
    · subst h; rfl
    · rw [if_neg h]; unfold cellD; simp only [if_neg h]
  · have h := h.head' 17 (.int .i64 (n : Int))
    exact ⟨h.head, h.fil, h.own, h.apart, h.kp, h.kown, h.kapart, h.klt⟩
theorem DRep.setArmed (h : DRep w S g d) (n : Nat) : DRep (w.setCell ⟨g, 18, none⟩ (.int .i64 (n : Int))) S g { d with armed := n } := by
  obtain ⟨vs, kv, hr, h⟩ := h
  refine ⟨vs, kv, (hr.set 18 (.int .i64 (n : Int))).congr fun j hj => ?_, ?_⟩
  · show (if j = 18 then _ else _) = _
    by_cases h : j = 18
    · subst h; rfl
    · rw [if_neg h]; unfold cellD; simp only [if_neg h]
  · have h := h.head' 18 (.int .i64 (n : Int))
    exact ⟨h.head, h.fil, h.own, h.apart, h.kp, h.kown, h.kapart, h.klt⟩
theorem DRep.setKeep (h : DRep w S g d) {kv' : Value} {ks : List Int} (hk : Kp w kv' ks) (hlt : ∀ b, bl kv' = some b → b < w.heap.size) (hb : ∀ b, bl kv' = some b → S b ∧ b ≠ g ∧ ∀ vs kv, Rows3 w S g vs kv d → ∀ i, i < 8 → bl (vs i) ≠ some b) : DRep (w.setCell ⟨g, 19, none⟩ kv') S g { d with keep := ks } := by
  obtain ⟨vs, kv, hr, h⟩ := h
  refine ⟨vs, kv', (hr.set 19 kv').congr fun j hj => ?_, ?_⟩
  · show (if j = 19 then _ else _) = _
    by_cases h : j = 19
    · subst h; rfl
    · rw [if_neg h]
      unfold cellD
      split
      · rfl
      split
      · rfl
      split
      · rfl
      split
      · rfl
      · omega
  · have h' := h.head' 19 kv'
    exact ⟨h'.head, h'.fil, h'.own, h'.apart, hk.keep fun b hbb => Below.heap_setCell w _ kv' b (hb b hbb).2.1, fun b hbb => ⟨(hb b hbb).1, (hb b hbb).2.1⟩, fun i b hi hv hkv => (hb b hkv).2.2 vs kv h i hi hv, fun b hbb => by simpa using hlt b hbb⟩
theorem DRep.setKeepNil (h : DRep w S g d) : DRep (w.setCell ⟨g, 19, none⟩ (.slice none 0 0)) S g { d with keep := [] } :=
  h.setKeep (Kp.nil w) (fun b hb => by cases hb) fun b hb => by cases hb
theorem DRep.setDur (h : DRep w S g d) (i : Nat) (hi : i < 8) (n : Nat) : DRep (w.setCell ⟨g, i * 2 + 1, none⟩ (.int .i64 (n : Int))) S g { d with fs := upd d.fs i ⟨(d.fs i).data, n⟩ } := by
  obtain ⟨vs, kv, hr, h⟩ := h
  refine ⟨vs, kv, (hr.set (i * 2 + 1) (.int .i64 (n : Int))).congr fun j hj => ?_, ?_⟩
  · show (if j = i * 2 + 1 then _ else _) = _
    by_cases h : j = i * 2 + 1
    · subst h
      rw [if_pos rfl, cellD_dur _ _ _ _ hi]
      simp only [upd_same]
    · rw [if_neg h]
      unfold cellD
      split
      · split
        · rfl
        · have : j / 2 ≠ i := by omega
          simp only [upd_ne _ this]
      · rfl
  · have h := h.head' (i * 2 + 1) (.int .i64 (n : Int))
    refine ⟨h.head, fun k hk => ?_, h.own, h.apart, h.kp, h.kown, h.kapart, h.klt⟩
    have := h.fil k hk
    by_cases e : k = i
    · subst e; simp only [upd_same]; exact this
    · simp only [upd_ne _ e]; exact this
theorem DRep.setData2 {w0 : World} (hr : w.rowIs g 119 20 (cellD vs kv d)) (h : Rows3 w0 S g vs kv d) (i : Nat) (hi : i < 8) (hfo : ∀ k, k < 8 → k ≠ i → Fil w (vs k) (d.fs k).data) (hkp : Kp w kv d.keep) (hklt : ∀ b, bl kv = some b → b < w.heap.size) {v : Value} {l : List UInt8} (hf : Fil w v l)
    (hv : ∀ b, bl v = some b → bl (vs i) = some b ∨ (S b ∧ b ≠ g ∧ (∀ j, j < 8 → bl (vs j) ≠ some b) ∧ bl kv ≠ some b)) : DRep (w.setCell ⟨g, i * 2, none⟩ v) S g { d with fs := upd d.fs i ⟨l, (d.fs i).dur⟩ } := by
  refine ⟨fun k => if k = i then v else vs k, kv, (hr.set (i * 2) v).congr fun j hj => ?_, ?_⟩
  · show (if j = i * 2 then _ else _) = _
    by_cases e : j = i * 2
    · subst e
      rw [if_pos rfl, cellD_data _ _ _ _ hi, if_pos rfl]
    · rw [if_neg e]
      unfold cellD
      split
      · split
        · exact (if_neg (show j / 2 ≠ i from by omega)).symm
        · by_cases e2 : j / 2 = i
          · rw [e2]; simp only [upd_same]
          · simp only [upd_ne _ e2]
      · rfl
  · have hvg : ∀ b, bl v = some b → b ≠ g := fun b hb => by
      rcases hv b hb with h1 | h1
      · exact (h.own i b hi h1).2
      · exact h1.2.1
    refine ⟨h.head, fun k hk => ?_, fun k b hk hb => ?_, fun j k b hj hk hjk hb hb' => ?_, hkp.keep fun b hb => Below.heap_setCell w _ v b (h.kown b hb).2, h.kown, fun k b hk hb hkb => ?_, fun b hb => by simpa using hklt b hb⟩
    · by_cases e : k = i
      · subst e
        simp only [if_pos, upd_same]
        exact hf.keep fun b hb => Below.heap_setCell w _ v b (hvg b hb)
      · simp only [if_neg e, upd_ne _ e]
        exact (hfo k hk e).keep fun b hb => Below.heap_setCell w _ v b (h.own k b hk hb).2
    · by_cases e : k = i
      · subst e
        simp only [if_pos] at hb
        rcases hv b hb with h1 | h1
        · exact h.own k b hk h1
        · exact ⟨h1.1, h1.2.1⟩
      · simp only [if_neg e] at hb
        exact h.own k b hk hb
    · by_cases e : j = i
      · subst e
        have e2 : k ≠ j := fun h => hjk h.symm
        simp only [if_pos, if_neg e2] at hb hb'
        rcases hv b hb with h1 | h1
        · exact h.apart j k b hj hk hjk h1 hb'
        · exact h1.2.2.1 k hk hb'
      · by_cases e2 : k = i
        · subst e2
          simp only [if_pos, if_neg e] at hb hb'
          rcases hv b hb' with h1 | h1
          · exact h.apart j k b hj hk hjk hb h1
          · exact h1.2.2.1 j hj hb
        · simp only [if_neg e, if_neg e2] at hb hb'
          exact h.apart j k b hj hk hjk hb hb'
    · by_cases e : k = i
      · subst e
        simp only [if_pos] at hb
        rcases hv b hb with h1 | h1
        · exact h.kapart k b hk h1 hkb
        · exact h1.2.2.2 hkb
      · simp only [if_neg e] at hb
        exact h.kapart k b hk hb hkb
theorem DRep.setData (hr : w.rowIs g 119 20 (cellD vs kv d)) (h : Rows3 w S g vs kv d) (i : Nat) (hi : i < 8) {v : Value} {l : List UInt8} (hf : Fil w v l)
    (hv : ∀ b, bl v = some b → bl (vs i) = some b ∨ (S b ∧ b ≠ g ∧ (∀ j, j < 8 → bl (vs j) ≠ some b) ∧ bl kv ≠ some b)) : DRep (w.setCell ⟨g, i * 2, none⟩ v) S g { d with fs := upd d.fs i ⟨l, (d.fs i).dur⟩ } :=
  DRep.setData2 hr h i hi (fun k hk _ => h.fil k hk) h.kp h.klt hf hv
theorem DRep.setTake (h : DRep w S g d) (i : Nat) (hi : i < 8) (n : Nat) (hn : n ≤ (d.fs i).data.length) :
    ∃ A c, w.cell? ⟨g, i * 2, none⟩ = some (.slice A (d.fs i).data.length c) ∧ (d.fs i).data.length ≤ c ∧ DRep (w.setCell ⟨g, i * 2, none⟩ (.slice A n c)) S g { d with fs := upd d.fs i ⟨(d.fs i).data.take n, (d.fs i).dur⟩ } := by
  obtain ⟨vs, kv, hr, h⟩ := h
  obtain ⟨A, c, hv, hc⟩ := (h.fil i hi).form
  refine ⟨A, c, ?_, hc, DRep.setData hr h i hi ?_ ?_⟩
  · rw [hr.cell (by omega), cellD_data _ _ _ _ hi, hv]
  · have := h.fil i hi
    rw [hv] at this
    exact this.take n hn
  · intro b hb
    left
    rw [hv, Fil.bl_take A _ n c]
    exact hb
theorem DRep.appended {w' : World} (hr : w.rowIs g 119 20 (cellD vs kv d)) (h : Rows3 w S g vs kv d) (i : Nat) (hi : i < 8) {v : Value} {l : List UInt8} (hf : Fil w' v l) (hg : w.grownBy w' (bl (vs i)))
    (hv : bl v = bl (vs i) ∨ bl v = some w.heap.size) (hS : S w.heap.size) :
    w'.cell? ⟨g, i * 2, none⟩ = some (vs i) ∧ w'.frozen? ⟨g, i * 2, none⟩ = false ∧ DRep (w'.setCell ⟨g, i * 2, none⟩ v) S g { d with fs := upd d.fs i ⟨l, (d.fs i).dur⟩ } ∧ Fr S w (w'.setCell ⟨g, i * 2, none⟩ v) := by
  have hgl := hr.lt
  have hkb := h.klt
  have hr' : w'.rowIs g 119 20 (cellD vs kv d) := hr.of_block (hg.block g hgl fun e => (h.own i g hi e.symm).2 rfl)
  refine ⟨by rw [hr'.cell (by omega), cellD_data _ _ _ _ hi], hr'.frozen _, ?_, ?_⟩
  · refine DRep.setData2 hr' h i hi (fun k hk hne => (h.fil k hk).keep fun b hb => hg.block b ((h.fil k hk).block b hb) fun e => h.apart i k b hi hk (fun h => hne h.symm) e.symm hb) (h.kp.keep fun b hb => hg.block b (hkb b hb) fun e => h.kapart i b hi e.symm hb) (fun b hb => Nat.lt_of_lt_of_le (hkb b hb) hg.size) hf fun b hb => ?_
    rcases hv with hv | hv
    · left; rw [← hv]; exact hb
    · right
      have : b = w.heap.size := by rw [hv] at hb; exact (Option.some.inj hb).symm
      subst this
      refine ⟨hS, by omega, fun j hj hb => ?_, fun hb => ?_⟩
      · have := (h.fil j hj).block _ hb; omega
      · have := hkb _ hb; omega
  · exact (Fr.grown hg fun b hb => (h.own i b hi hb).1).trans (Fr.setCell (p := ⟨g, i * 2, none⟩) h.head _)
end
end Go.Proofs.YtlefikdjhnaapaaGreatDoor
end
section
namespace Go.Proofs.YtlefikdjhnaapaaGreatDoor
open Go.RowKit Dm
theorem known_any (f : Int) (w : World) : Calls Tryz.prog 199 #[.int .i64 f] w fun e w' => e = .returned (.bool (kn f)) ∧ w = w' := by
  have e1 : 0 ≤ f → kn f = decide (f < 8) := fun h => by unfold kn; rw [decide_eq_true h]; rfl
  have e2 : f < 0 → kn f = false := fun h => by unfold kn; rw [decide_eq_false (show ¬ 0 ≤ f from by omega)]; rfl
  have E1 := Veil.mk e1
  have E2 := Veil.mk e2
  clear e1 e2
  by_cases h1 : 0 ≤ f
  · go_enter Tryz.func199, Tryz.ntmps199
    go_wp2
    go_ret
    exact ⟨by rw [E1.out h1]; rfl, rfl⟩
  · have h2 : f < 0 := by omega
    go_enter Tryz.func199, Tryz.ntmps199
    go_wp2
    go_ret
    exact ⟨by rw [E2.out h2]; rfl, rfl⟩
section
variable {S : Nat → Prop} {w : World} {g : Nat} {d : Dk}
theorem DRep.cDown (h : DRep w S g d) : w.cell? ⟨g, 16, none⟩ = some (.bool d.down) := by
  obtain ⟨vs, kv, hr, h⟩ := h; exact hr.cell (i := 16) (by omega)
theorem DRep.cLost (h : DRep w S g d) : w.cell? ⟨g, 17, none⟩ = some (.int .i64 (d.lost : Int)) := by
  obtain ⟨vs, kv, hr, h⟩ := h; exact hr.cell (i := 17) (by omega)
theorem DRep.cArmed (h : DRep w S g d) : w.cell? ⟨g, 18, none⟩ = some (.int .i64 (d.armed : Int)) := by
  obtain ⟨vs, kv, hr, h⟩ := h; exact hr.cell (i := 18) (by omega)
theorem DRep.cKeep (h : DRep w S g d) : ∃ kv, w.cell? ⟨g, 19, none⟩ = some kv ∧ Kp w kv d.keep ∧ ∀ b, bl kv = some b → b ≠ g := by
  obtain ⟨vs, kv, hr, h⟩ := h; exact ⟨kv, hr.cell (i := 19) (by omega), h.kp, fun b hb => (h.kown b hb).2⟩
theorem DRep.cDur (h : DRep w S g d) (i : Nat) (hi : i < 8) : w.cell? ⟨g, i * 2 + 1, none⟩ = some (.int .i64 ((d.fs i).dur : Int)) := by
  obtain ⟨vs, kv, hr, h⟩ := h; rw [hr.cell (by omega), cellD_dur _ _ _ _ hi]
theorem DRep.cData (h : DRep w S g d) (i : Nat) (hi : i < 8) : ∃ A c, w.cell? ⟨g, i * 2, none⟩ = some (.slice A (d.fs i).data.length c) ∧ (d.fs i).data.length ≤ c ∧ Fil w (.slice A (d.fs i).data.length c) (d.fs i).data := by
  obtain ⟨vs, kv, hr, h⟩ := h
  obtain ⟨A, c, hv, hc⟩ := (h.fil i hi).form
  refine ⟨A, c, ?_, hc, ?_⟩
  · rw [hr.cell (by omega), cellD_data _ _ _ _ hi, hv]
  · rw [← hv]; exact h.fil i hi
theorem DRep.free (h : DRep w S g d) (j : Nat) : w.frozen? ⟨g, j, none⟩ = false := by
  obtain ⟨vs, kv, hr, h⟩ := h; exact hr.frozen j
theorem DRep.at' (h : DRep w S g d) : S g := by
  obtain ⟨vs, kv, hr, h⟩ := h; exact h.head
theorem DRep.lt (h : DRep w S g d) : g < w.heap.size := by
  obtain ⟨vs, kv, hr, h⟩ := h; exact hr.lt
theorem kn_form {f : Int} (h : kn f = true) : ∃ n : Nat, f = (n : Int) ∧ n < 8 := by
  have hf : 0 ≤ f ∧ f < 8 := by simpa [kn] using h
  exact ⟨f.toNat, by omega, by omega⟩
theorem size_any (h : DRep w S g d) (f : Int) : Calls Tryz.prog 203 #[.pointer (some ⟨g, 0, none⟩), .int .i64 f] w fun e w' => e = .returned (.int .i64 (size d f : Int)) ∧ w = w' := by
  rcases hk : kn f
  · have hs : size d f = 0 := by unfold size; rw [hk]; rfl
    have Hs := Veil.mk hs
    clear h hs
    go_enter Tryz.func203, Tryz.ntmps203
    go_wp2_with (go_at_call 199; refine (known_any _ _).mono ?_; rintro e w1 ⟨rfl, rfl⟩)
    go_ret
    exact ⟨by rw [Hs.out]; rfl, rfl⟩
  · obtain ⟨n, rfl, hn⟩ := kn_form hk
    have hs : size d (n : Int) = (d.fs n).data.length := by unfold size; rw [hk]; rfl
    have Hs := Veil.mk hs
    obtain ⟨A, c, cn, hc, _⟩ := h.cData n hn
    clear hs h
    go_enter Tryz.func203, Tryz.ntmps203
    go_wp2_with (go_at_call 199; refine (known_any _ _).mono ?_; rintro e w1 ⟨rfl, rfl⟩)
    go_ret
    exact ⟨by rw [Hs.out]; rfl, rfl⟩
theorem read_any (h : DRep w S g d) (f : Int) : Calls Tryz.prog 127 #[.pointer (some ⟨g, 0, none⟩), .int .i64 f] w fun e w' => e = .returned (.tuple #[.string ⟨(peek d f).1.toArray⟩, .int .i64 (peek d f).2]) ∧ w = w' := by
  have c16 := h.cDown
  rcases hd : d.down
  · rw [hd] at c16
    rcases hk : kn f
    · have hs : peek d f = ([], 1) := by unfold peek; rw [hk, hd]; rfl
      have Hs := Veil.mk hs
      clear h hs hd
      go_enter Tryz.func127, Tryz.ntmps127
      go_wp2_with (go_at_call 199; refine (known_any _ _).mono ?_; rintro e w1 ⟨rfl, rfl⟩)
      go_ret2
      exact ⟨by rw [Hs.out]; rfl, rfl⟩
    · obtain ⟨n, rfl, hn⟩ := kn_form hk
      have hs : peek d (n : Int) = ((d.fs n).data, 0) := by unfold peek; rw [hk, hd]; rfl
      have Hs := Veil.mk hs
      obtain ⟨A, c, cn, hc, hfil⟩ := h.cData n hn
      have hrun := str_run (P := Tryz.prog) w 114 9 5 Tryz.underlying114 Tryz.underlying5 Tryz.underlying9 hfil.rd
      clear hs h hd hfil
      go_enter Tryz.func127, Tryz.ntmps127
      go_wp2_with (go_at_call 199; refine (known_any _ _).mono ?_; rintro e w1 ⟨rfl, rfl⟩)
      go_ret2
      exact ⟨by rw [Hs.out]; rfl, rfl⟩
  · rw [hd] at c16
    have hs : peek d f = ([], 8) := by unfold peek; rw [hd]; rfl
    have Hs := Veil.mk hs
    clear h hs hd
    go_enter Tryz.func127, Tryz.ntmps127
    go_wp2
    go_ret2
    exact ⟨by rw [Hs.out]; rfl, rfl⟩
theorem strikes_any (h : DRep w S g d) (ho : Ok d) : Calls Tryz.prog 219 #[.pointer (some ⟨g, 0, none⟩)] w fun e w' => e = .returned (.bool (strikes d).1) ∧ DRep w' S g (strikes d).2 ∧ Fr (fun b => b = g) w w' := by
  have c18 := h.cArmed
  have f18 := h.free 18
  have hb := ho.armed
  by_cases h0 : d.armed = 0
  · have e : strikes d = (false, d) := by unfold strikes; rw [if_pos h0]
    have H : Veil (DRep w S g (strikes d).2 ∧ (strikes d).1 = false) := ⟨by rw [e]; exact ⟨h, rfl⟩⟩
    clear h e
    rw [h0] at c18
    clear h0 hb ho
    go_enter Tryz.func219, Tryz.ntmps219
    go_wp2
    go_ret
    exact ⟨by rw [H.out.2]; rfl, H.out.1, Fr.refl _ _⟩
  · obtain ⟨n, hn⟩ : ∃ n, d.armed = n + 1 := ⟨d.armed - 1, by omega⟩
    have e : strikes d = (decide (n = 0), { d with armed := n }) := by
      unfold strikes
      rw [if_neg h0, hn]
      simp
    have H1 := h.setArmed n
    have c2 := H1.cArmed
    have H : Veil (DRep (w.setCell ⟨g, 18, none⟩ (.int .i64 (n : Int))) S g (strikes d).2 ∧ (strikes d).1 = decide (n = 0) ∧ Fr (fun b => b = g) w (w.setCell ⟨g, 18, none⟩ (.int .i64 (n : Int)))) := ⟨by rw [e]; exact ⟨H1, rfl, Fr.setCell (S := fun b => b = g) (p := ⟨g, 18, none⟩) rfl _⟩⟩
    clear h e H1
    rw [hn] at c18 hb
    have hn1 : (((n + 1 : Nat) : Int)) - 1 = (n : Int) := by omega
    clear hn h0 ho
    go_enter Tryz.func219, Tryz.ntmps219
    go_wp2
    go_ret
    refine ⟨?_, H.out.1, H.out.2.2⟩
    rw [H.out.2.1]
    show Ending.returned (.bool ((n : Int) == 0)) = _
    rw [show ((n : Int) == 0) = decide (n = 0) from by by_cases h : n = 0 <;> simp [h]]
end
end Go.Proofs.YtlefikdjhnaapaaGreatDoor
end
section
namespace Go.Proofs.YtlefikdjhnaapaaGreatDoor
open Go.RowKit Dm
section
variable {S : Nat → Prop} {w : World} {g : Nat} {d : Dk}
theorem trunc_any (h : DRep w S g d) (i : Nat) (hi : i < 8) (n : Nat) (x : Int) (hn : n ≤ (d.fs i).data.length) (hx : x = (n : Int)) :
    Calls Tryz.prog 84 #[.pointer (some ⟨g, i * 2, none⟩), .int .i64 x] w fun e w' => e = .returned (.tuple #[]) ∧ DRep w' S g { d with fs := upd d.fs i ((d.fs i).trunc n) } ∧ Fr (fun b => b = g) w w' := by
  subst hx
  obtain ⟨A, c, cd, hc, h1⟩ := h.setTake i hi n hn
  have f0 := h.free (i * 2)
  have fr1 : Fr (fun b => b = g) w (w.setCell ⟨g, i * 2, none⟩ (.slice A n c)) := Fr.setCell (S := fun b => b = g) (p := ⟨g, i * 2, none⟩) rfl _
  have c1 := h1.cDur i hi
  simp only [upd_same] at c1
  have f1 := h1.free (i * 2 + 1)
  have h2 := h1.setDur i hi (min (d.fs i).dur n)
  simp only [upd_same] at h2
  have e2 : upd (upd d.fs i ⟨(d.fs i).data.take n, (d.fs i).dur⟩) i ⟨(d.fs i).data.take n, min (d.fs i).dur n⟩ = upd d.fs i ((d.fs i).trunc n) := by
    funext j
    unfold upd
    split <;> rfl
  rw [e2] at h2
  have H : ∀ q : Int, q = ((min (d.fs i).dur n : Nat) : Int) → DRep ((w.setCell ⟨g, i * 2, none⟩ (.slice A n c)).setCell ⟨g, i * 2 + 1, none⟩ (.int .i64 q)) S g { d with fs := upd d.fs i ((d.fs i).trunc n) } ∧ Fr (fun b => b = g) w ((w.setCell ⟨g, i * 2, none⟩ (.slice A n c)).setCell ⟨g, i * 2 + 1, none⟩ (.int .i64 q)) := by
    intro q hq
    subst hq
    exact ⟨h2, fr1.trans (Fr.setCell (S := fun b => b = g) (p := ⟨g, i * 2 + 1, none⟩) rfl _)⟩
  have H := Veil.mk H
  have hnc : (n : Int) ≤ c := by omega
  clear h h1 h2 e2 fr1
  generalize (d.fs i).dur = m at c1 H
  by_cases hm : m ≤ n
  · have hmi : ¬ (n : Int) < m := by omega
    go_enter Tryz.func84, Tryz.ntmps84
    go_wp2
    go_end0
    exact ⟨rfl, H.out _ (by omega)⟩
  · have hmi : (n : Int) < m := by omega
    go_enter Tryz.func84, Tryz.ntmps84
    go_wp2
    go_end0
    exact ⟨rfl, H.out _ (by omega)⟩
theorem Kp.keep2 {w w' : World} {v : Value} {ks : List Int} (h : Kp w v ks) (hk : ∀ b, bl v = some b → b < w.heap.size → w'.heap[b]? = w.heap[b]?) : Kp w' v ks := by
  obtain ⟨A, c, rfl, hc, hr⟩ := h
  refine ⟨A, c, rfl, hc, fun h0 => ?_⟩
  obtain ⟨b, o, rfl, h⟩ := hr h0
  refine ⟨b, o, rfl, fun j hj => ?_⟩
  have hb : bl (.slice (some ⟨b, o, none⟩) ks.length c) = some b := by
    obtain ⟨c', rfl⟩ := Nat.exists_eq_succ_of_ne_zero (show c ≠ 0 by omega)
    rfl
  have hlt := World.block_lt_of_cell? w _ (h 0 h0)
  rw [World.cell?_of_block (hk b hb hlt)]
  exact h j hj
theorem Kp.keep3 {w w' : World} {v : Value} {ks : List Int} (h : Kp w v ks) (hk : 0 < ks.length → ∀ b, bl v = some b → b < w.heap.size → w'.heap[b]? = w.heap[b]?) : Kp w' v ks := by
  by_cases h0 : 0 < ks.length
  · exact h.keep2 (hk h0)
  · obtain ⟨A, c, e, hc, _⟩ := h
    exact ⟨A, c, e, hc, fun h1 => absurd h1 h0⟩
theorem Kp.fr {w w' : World} {v : Value} {ks : List Int} {g : Nat} (h : Kp w v ks) (hb : 0 < ks.length → ∀ b, bl v = some b → b ≠ g) (hf : Fr (fun b => b = g) w w') : Kp w' v ks :=
  h.keep3 fun h0 b hv hlt => hf.block b hlt (hb h0 b hv)
def fsK (d : Dk) (ks : List Int) (k : Nat) : Nat → Fl := fun j => if j < k then (d.fs j).crash (ks.getD j 0) else d.fs j
theorem fsK_at (d : Dk) (ks : List Int) (k : Nat) : fsK d ks k k = d.fs k := if_neg (Nat.lt_irrefl k)
theorem fsK_next (d : Dk) (ks : List Int) (k : Nat) : fsK d ks (k + 1) = upd (fsK d ks k) k ((d.fs k).crash (ks.getD k 0)) := by
  funext j
  unfold fsK upd
  by_cases h : j = k
  · subst h; rw [if_pos (by omega), if_pos rfl]
  · rw [if_neg h]
    by_cases h2 : j < k
    · rw [if_pos (by omega)]; exact (if_pos h2).symm
    · rw [if_neg (by omega)]; exact (if_neg h2).symm
theorem Kp.at' {w : World} {A : Option Addr} {n c : Nat} {ks : List Int} (h : Kp w (.slice A n c) ks) (k : Nat) (hk : k < ks.length) : ∃ b o, A = some ⟨b, o, none⟩ ∧ w.cell? ⟨b, o + k, none⟩ = some (.int .i64 (ks.getD k 0)) := by
  obtain ⟨A', c', hv, hc, hr⟩ := h
  simp only [Value.slice.injEq] at hv
  obtain ⟨rfl, _, rfl⟩ := hv
  obtain ⟨b, o, rfl, h⟩ := hr (by omega)
  exact ⟨b, o, rfl, h k hk⟩
theorem DRep.congr {d' : Dk} (h : DRep w S g d) (hf : ∀ i, i < 8 → d.fs i = d'.fs i) (h1 : d.down = d'.down) (h2 : d.lost = d'.lost) (h3 : d.armed = d'.armed) (h4 : d.keep = d'.keep) : DRep w S g d' := by
  obtain ⟨vs, kv, hr, h⟩ := h
  refine ⟨vs, kv, hr.congr fun j hj => ?_, h.head, fun i hi => by rw [← hf i hi]; exact h.fil i hi, h.own, h.apart, by rw [← h4]; exact h.kp, h.kown, h.kapart, h.klt⟩
  unfold cellD
  split
  · split
    · rfl
    · rw [hf _ (by omega)]
  · rw [h1, h2, h3]
theorem DRep.cLen (h : DRep w S g d) (i : Nat) (hi : i < 8) (n : Nat) (hn : (d.fs i).data.length = n) : ∃ A c, w.cell? ⟨g, i * 2, none⟩ = some (.slice A n c) ∧ n ≤ c := by
  subst hn
  obtain ⟨A, c, h1, h2, _⟩ := h.cData i hi
  exact ⟨A, c, h1, h2⟩
theorem crash_step (d : Dk) (ks : List Int) (k : Nat) (hok : (d.fs k).Ok) :
    (upd (fsK d ks k) k ((fsK d ks k k).trunc ((d.fs k).stay (ks.getD k 0))) k).data.length = (d.fs k).stay (ks.getD k 0) ∧
    upd (upd (fsK d ks k) k ((fsK d ks k k).trunc ((d.fs k).stay (ks.getD k 0)))) k ⟨(upd (fsK d ks k) k ((fsK d ks k k).trunc ((d.fs k).stay (ks.getD k 0))) k).data, (d.fs k).stay (ks.getD k 0)⟩ = fsK d ks (k + 1) := by
  have h := Fl.stay_le hok (ks.getD k 0)
  constructor
  · rw [upd_same, fsK_at]
    show ((d.fs k).data.take _).length = _
    rw [List.length_take]; omega
  · rw [fsK_next, upd_same, fsK_at]
    funext j
    unfold upd
    split
    · rfl
    · rfl
set_option maxRecDepth 100000 in
set_option maxHeartbeats 1000000 in
theorem crash_any (h : DRep w S g d) (ho : Ok d) (kv : Value) (ks : List Int) (hk : Kp w kv ks) (hb : 0 < ks.length → ∀ b, bl kv = some b → b ≠ g) :
    Calls Tryz.prog 21 #[.pointer (some ⟨g, 0, none⟩), kv] w fun e w' => e = .returned (.tuple #[]) ∧ DRep w' S g (crash d ks) ∧ Fr (fun b => b = g) w w' := by
  have c16 := h.cDown
  rcases hd : d.down
  · have hc : crash d ks = ⟨fun i => (d.fs i).crash (ks.getD i 0), true, d.lost, 0, []⟩ := by unfold crash; rw [hd]; rfl
    have Hc := Veil.mk hc; clear hc
    rw [hd] at c16
    have Hb := Veil.mk hb; clear hb
    have Ho := Veil.mk ho; clear ho
    obtain ⟨A, c, rfl, hkc, hkr⟩ := id hk
    have hk0 := Veil.mk hk; clear hk hkr
    have h0 : Veil (DRep w S g { d with fs := fsK d ks 0 }) := ⟨h⟩
    clear h
    go_enter Tryz.func21, Tryz.ntmps21
    go_wp2
    clear c16
    go_loopw [4, 5, 6, 11] (fun _ _ _ i wr => ∃ k : Nat, k ≤ 8 ∧ i = .int .i64 k ∧ Veil (DRep wr S g { d with fs := fsK d ks k }) ∧ Veil (Kp wr (.slice A ks.length c) ks) ∧ Veil (Fr (fun b => b = g) w wr)) (fun _ _ _ i _ => 8 - (intOf i).toNat)
    case atStart => exact ⟨0, by omega, rfl, h0, hk0, ⟨Fr.refl _ _⟩⟩
    case round =>
      clear h0 hk0
      obtain ⟨k, hk, rfl, HD, HK, HF⟩ := hrel
      by_cases hlt : k < 8
      · obtain ⟨A1, c1, cdat, hc1⟩ := HD.out.cLen k hlt (d.fs k).data.length (by simp only [fsK_at])
        have cdur := HD.out.cDur k hlt
        simp only [fsK_at] at cdur
        have hok := Ho.out.fs k
        have hdl := hok.dur
        have hll := hok.len
        have hst := Fl.stay_le hok (ks.getD k 0)
        have hsd : (d.fs k).stay (ks.getD k 0) = (d.fs k).dur + min ((d.fs k).data.length - (d.fs k).dur) (ks.getD k 0).toNat := rfl
        obtain ⟨cs1, cs2⟩ := crash_step d ks k hok
        have CS1 := Veil.mk cs1; have CS2 := Veil.mk cs2; clear cs1 cs2
        have Hst : Veil ((d.fs k).stay (ks.getD k 0) ≤ (fsK d ks k k).data.length) := ⟨by rw [fsK_at]; exact hst⟩
        clear hok hst
        generalize hS : (d.fs k).stay (ks.getD k 0) = st at hsd CS1 CS2 Hst
        have HS := Veil.mk hS; clear hS
        generalize (d.fs k).data.length = ln at *
        generalize (d.fs k).dur = du at *
        by_cases hkl : k < ks.length
        · obtain ⟨b, o, rfl, ck⟩ := HK.out.at' k hkl
          generalize ks.getD k 0 = q at *
          have hcase : (0 < q ∧ q < (ln : Int) - (du : Int)) ∨ (0 < q ∧ ¬ q < (ln : Int) - (du : Int)) ∨ (¬ 0 < q ∧ 0 < (ln : Int) - (du : Int)) ∨ (¬ 0 < q ∧ ¬ 0 < (ln : Int) - (du : Int)) := by omega
          rcases hcase with ⟨hq, hm⟩ | ⟨hq, hm⟩ | ⟨hq, hm⟩ | ⟨hq, hm⟩
          all_goals
            have Hsd := Veil.mk hsd; clear hsd
            go_wp2
            go_quiet (fail)
            have HDq := Veil.mk (HD.out.drewN nq)
            go_wp2_with (
              (go_at_call 84
               refine (trunc_any HDq.out k hlt st _ Hst.out (by have := Hsd.out; omega)).mono ?_
               rintro e w1 ⟨rfl, HD1, HF1⟩
               obtain ⟨A2, c2, cd2, hc2⟩ := HD1.cLen k hlt st CS1.out
               have f2 := HD1.free (k * 2 + 1)
               have c3 := HD1.cDur k hlt
               have HDr : Veil (DRep (w1.setCell ⟨g, k * 2 + 1, none⟩ (.int .i64 (st : Int))) S g { d with fs := fsK d ks (k + 1) }) := ⟨by rw [← CS2.out]; exact HD1.setDur k hlt st⟩
               have hFr := (Fr.drewN (S := fun b => b = g) wr nq).trans (HF1.trans (Fr.setCell (S := fun b => b = g) (p := ⟨g, k * 2 + 1, none⟩) rfl (.int .i64 (st : Int))))
               have HKr := Veil.mk (HK.out.fr Hb.out hFr)
               have HFr := Veil.mk (HF.out.trans hFr)
               clear HD1 HF1 hFr))
            go_roundw
            case rel => exact ⟨k + 1, by omega, by go_num, HDr, HKr, HFr⟩
            case measure => simp [intOf]; omega
        · have hq0 : ks.getD k 0 = 0 := by rw [List.getD_eq_getElem?_getD, List.getElem?_eq_none (by omega)]; rfl
          rw [hq0] at hsd
          have hkl2 : ¬ (k : Int) < ks.length := by omega
          clear hq0
          all_goals
            have Hsd := Veil.mk hsd; clear hsd
            go_wp2
            go_quiet (fail)
            have HDq := Veil.mk (HD.out.drewN nq)
            go_wp2_with (
              (go_at_call 84
               refine (trunc_any HDq.out k hlt st _ Hst.out (by have := Hsd.out; omega)).mono ?_
               rintro e w1 ⟨rfl, HD1, HF1⟩
               obtain ⟨A2, c2, cd2, hc2⟩ := HD1.cLen k hlt st CS1.out
               have f2 := HD1.free (k * 2 + 1)
               have c3 := HD1.cDur k hlt
               have HDr : Veil (DRep (w1.setCell ⟨g, k * 2 + 1, none⟩ (.int .i64 (st : Int))) S g { d with fs := fsK d ks (k + 1) }) := ⟨by rw [← CS2.out]; exact HD1.setDur k hlt st⟩
               have hFr := (Fr.drewN (S := fun b => b = g) wr nq).trans (HF1.trans (Fr.setCell (S := fun b => b = g) (p := ⟨g, k * 2 + 1, none⟩) rfl (.int .i64 (st : Int))))
               have HKr := Veil.mk (HK.out.fr Hb.out hFr)
               have HFr := Veil.mk (HF.out.trans hFr)
               clear HD1 HF1 hFr))
            go_roundw
            case rel => exact ⟨k + 1, by omega, by go_num, HDr, HKr, HFr⟩
            case measure => simp [intOf]; omega
      · have hk8 : 8 ≤ k := by omega
        have H0 : Veil (DRep wr S g { d with fs := (crash d ks).fs }) := ⟨HD.out.congr (fun i hi => by rw [Hc.out]; exact if_pos (show i < k from by omega)) rfl rfl rfl rfl⟩
        have c16 := H0.out.cDown
        have f16 := H0.out.free 16
        have H1 := Veil.mk (H0.out.setDown true)
        have c18 := H1.out.cArmed
        have f18 := H1.out.free 18
        have H2 : Veil (DRep ((wr.setCell ⟨g, 16, none⟩ (.bool true)).setCell ⟨g, 18, none⟩ (.int .i64 0)) S g { d with fs := (crash d ks).fs, down := true, armed := 0 }) := ⟨H1.out.setArmed 0⟩
        obtain ⟨kv, c19, _, _⟩ := H2.out.cKeep
        have f19 := H2.out.free 19
        have H3 : Veil (DRep (((wr.setCell ⟨g, 16, none⟩ (.bool true)).setCell ⟨g, 18, none⟩ (.int .i64 0)).setCell ⟨g, 19, none⟩ (.slice none 0 0)) S g (crash d ks)) := ⟨H2.out.setKeepNil.congr (fun _ _ => rfl) (by rw [Hc.out]) (by rw [Hc.out]) (by rw [Hc.out]) (by rw [Hc.out])⟩
        have HF3 : Veil (Fr (fun b => b = g) w (((wr.setCell ⟨g, 16, none⟩ (.bool true)).setCell ⟨g, 18, none⟩ (.int .i64 0)).setCell ⟨g, 19, none⟩ (.slice none 0 0))) :=
          ⟨HF.out.trans ((Fr.setCell (S := fun b => b = g) (p := ⟨g, 16, none⟩) rfl _).trans ((Fr.setCell (S := fun b => b = g) (p := ⟨g, 18, none⟩) rfl _).trans (Fr.setCell (S := fun b => b = g) (p := ⟨g, 19, none⟩) rfl _)))⟩
        clear hlt
        go_wp2
        go_end0
        exact ⟨rfl, H3.out, HF3.out⟩
  · have hc : crash d ks = d := by unfold crash; rw [if_pos hd]
    rw [hd] at c16
    have H0 : Veil (DRep w S g (crash d ks)) := ⟨by rw [hc]; exact h⟩
    clear h hc hk hb ho hd
    go_enter Tryz.func21, Tryz.ntmps21
    go_wp2
    refine bodyPost_ret (results_none rfl _ _ _) rfl ?_
    exact ⟨rfl, H0.out, Fr.refl _ _⟩
end
end Go.Proofs.YtlefikdjhnaapaaGreatDoor
end
section
namespace Go.Proofs.YtlefikdjhnaapaaGreatDoor
open Go.RowKit Dm
section
variable {S : Nat → Prop} {w : World} {g : Nat} {d : Dk}
theorem struck_hit {d : Dk} {e : Int} (h : (strikes d).1 = true) : struck d e = (8, crash (strikes d).2 (strikes d).2.keep) := by unfold struck; rw [h]; rfl
theorem struck_miss {d : Dk} {e : Int} (h : (strikes d).1 = false) : struck d e = (e, (strikes d).2) := by unfold struck; rw [h]; rfl
theorem all_take {l : List Int} {k : Nat} (hk : k < l.length) (h : (l.take k).all kn = true) (hx : kn (l.getD k 0) = true) : (l.take (k + 1)).all kn = true := by
  rw [List.take_succ_eq_append_getElem hk, List.all_append, h]
  rw [List.getD_eq_getElem?_getD, List.getElem?_eq_getElem hk] at hx
  simpa using hx
theorem all_not {l : List Int} {k : Nat} (hk : k < l.length) (hx : kn (l.getD k 0) = false) : l.all kn = false := by
  rw [List.getD_eq_getElem?_getD, List.getElem?_eq_getElem hk] at hx
  rw [List.all_eq_false]
  exact ⟨l[k], List.getElem_mem hk, by simpa using hx⟩
set_option maxRecDepth 100000 in
set_option maxHeartbeats 1000000 in
theorem begin_any (h : DRep w S g d) (ho : Ok d) (fv : Value) (l : List Int) (hk : Kp w fv l) (hb : ∀ b, bl fv = some b → b ≠ g) (hl : l.length ≤ 1000) :
    Calls Tryz.prog 202 #[.pointer (some ⟨g, 0, none⟩), fv] w fun e w' => e = .returned (.int .i64 (beginD d l).1) ∧ DRep w' S g (beginD d l).2 ∧ Fr (fun b => b = g) w w' := by
  have c16 := h.cDown
  rcases hd : d.down
  · have hB : beginD d l = struck d (if l.all kn then 0 else 1) := by unfold beginD; rw [hd]; rfl
    have HB := Veil.mk hB; clear hB
    rw [hd] at c16
    have HD := Veil.mk h; have HO := Veil.mk ho; have HK := Veil.mk hk; have Hb := Veil.mk hb
    clear h ho hb hd
    rcases hs : (strikes d).1
    · have HB2 : Veil (beginD d l = (if l.all kn then 0 else 1, (strikes d).2)) := ⟨by rw [HB.out, struck_miss hs]⟩
      obtain ⟨A, c, rfl, hkc, hkr⟩ := hk
      clear hkr
      go_enter Tryz.func202, Tryz.ntmps202
      go_wp2_with ((go_at_call 219
                    refine (strikes_any HD.out HO.out).mono ?_
                    rintro e w1 ⟨rfl, HD1, HF1⟩
                    have HK1 := Veil.mk (HK.out.fr (fun _ => Hb.out) HF1)
                    have HD1 := Veil.mk HD1
                    have HF1 := Veil.mk HF1))
      clear HD HK
      go_loop [6, 21] (fun _ i => ∃ k : Nat, k ≤ l.length ∧ i = .int .i64 k ∧ Veil ((l.take k).all kn = true)) (fun _ i => l.length - (intOf i).toNat)
      case atStart => exact ⟨0, by omega, rfl, ⟨rfl⟩⟩
      case round =>
        obtain ⟨k, hk, rfl, Hall⟩ := hrel
        by_cases hlt : k < l.length
        · obtain ⟨b, o, rfl, ck⟩ := HK1.out.at' k hlt
          have hki : (k : Int) < l.length := by omega
          have Ht := Veil.mk (fun hx => all_take hlt Hall.out hx)
          have Hn := Veil.mk (fun hx => all_not (l := l) (k := k) hlt hx)
          generalize l.getD k 0 = q at ck Ht Hn
          rcases hq : kn q
          · go_wp2_with (go_at_call 199; refine (known_any _ _).mono ?_; rintro e w2 ⟨rfl, rfl⟩)
            go_ret
            refine ⟨?_, ?_, HF1.out⟩
            · rw [HB2.out, Hn.out hq]; rfl
            · rw [HB2.out]; exact HD1.out
          · go_wp2_with (go_at_call 199; refine (known_any _ _).mono ?_; rintro e w2 ⟨rfl, rfl⟩)
            go_round
            case rel => exact ⟨k + 1, by omega, by go_num, ⟨Ht.out hq⟩⟩
            case measure => simp [intOf]; omega
        · have hall : l.all kn = true := by
            have := Hall.out
            rwa [List.take_of_length_le (by omega)] at this
          have HA := Veil.mk hall; clear hall
          go_wp2
          go_ret
          refine ⟨?_, ?_, HF1.out⟩
          · rw [HB2.out, HA.out]; rfl
          · rw [HB2.out]; exact HD1.out
    · have HB2 : Veil (beginD d l = (8, crash (strikes d).2 (strikes d).2.keep)) := ⟨by rw [HB.out, struck_hit hs]⟩
      clear hk
      go_enter Tryz.func202, Tryz.ntmps202
      go_wp2_with (first
        | (go_at_call 219
           refine (strikes_any HD.out HO.out).mono ?_
           rintro e w1 ⟨rfl, HD1, HF1⟩
           obtain ⟨kv, ckv, hkp, hkb⟩ := HD1.cKeep
           have HKp := Veil.mk hkp
           have HKb := Veil.mk hkb
           have HD1 := Veil.mk HD1
           have HF1 := Veil.mk HF1
           clear hkp hkb)
        | (go_at_call 21
           refine (crash_any HD1.out (strikes_ok HO.out) _ _ HKp.out (fun _ => HKb.out)).mono ?_
           rintro e w2 ⟨rfl, HD2, HF2⟩
           have HD2 := Veil.mk HD2
           have HF2 := Veil.mk (HF1.out.trans HF2)))
      go_ret
      refine ⟨?_, ?_, HF2.out⟩
      · rw [HB2.out]; rfl
      · rw [HB2.out]; exact HD2.out
  · have hB : beginD d l = (8, d) := by unfold beginD; rw [hd]; rfl
    have HB := Veil.mk hB; clear hB
    rw [hd] at c16
    have HD := Veil.mk h
    clear h hk hb ho hd
    go_enter Tryz.func202, Tryz.ntmps202
    go_wp2
    go_ret
    refine ⟨?_, ?_, Fr.refl _ _⟩
    · rw [HB.out]; rfl
    · rw [HB.out]; exact HD.out
end
end Go.Proofs.YtlefikdjhnaapaaGreatDoor
end
section
namespace Go.Proofs.YtlefikdjhnaapaaGreatDoor
open Go.RowKit Dm
theorem step_ap_str {P : Program} {ops : Array Oper} {o : Oper} {a : Act} {K : Act → World → Prop} {Q : Exit → Act → World → Prop} {E : Prop} (w : World) (hgd : o.guard = none) (s x : Operand) (t u : TypeId)
    (ho : o.op = .call { callee := .builtin .append, args := #[s, x], argTypes := #[t, u] }) (ht : P.underlying t = some (.slice 5)) (hu : P.underlying u = some .string)
    (hE : ElemOk P t 5 1 1) (hz : ∀ i, P.info? 5 = some i → i.zero = some (.int .u8 0)) {v : Value} {l : List UInt8} (hf : Fil w v l) (hs : a.eval s = v) (str : ByteArray) (hx : a.eval x = .string str) (hb : l.length + str.size ≤ 140737488355328)
    (h : ∀ v' w', Fil w' v' (l ++ str.data.toList) → w.grownBy w' (bl v) → (bl v' = bl v ∨ bl v' = some w.heap.size) → K (a.put o.dst v') w') : if Region.wanted o (yielded ops a.tmps) = true then Oper.wp P o a w K Q else E := by
  have hw : Region.wanted o (yielded ops a.tmps) = true := by simp [Region.wanted, hgd]
  rw [if_pos hw]
  obtain ⟨v', w', hrun, h2, h3, h4⟩ := hf.append t u o.type ht hu hE hz str hb
  unfold Oper.wp execOp
  simp only [ho, resolve, invoke, builtin, Sem.run_bind, Sem.run_pure, Result.andThen_ok, List.map_toArray, List.map_cons, List.map_nil, hs, hx, hrun]
  exact h v' w' h2 h3 h4
theorem zero8 : ∀ i, Tryz.prog.info? 5 = some i → i.zero = some (.int .u8 0) := fun i h => by
  have : (Tryz.prog.info? 5).map (·.zero) = some (some (.int .u8 0)) := by kernel_rfl
  rw [h] at this
  simpa using this
section
variable {S : Nat → Prop} {w : World} {g : Nat} {d : Dk}
set_option maxRecDepth 100000 in
set_option maxHeartbeats 2000000 in
theorem append_any (h : DRep w S g d) (ho : Ok d) (hS : ∀ b, w.heap.size ≤ b → S b) (f : Int) (s : ByteArray) (hs : s.size ≤ 9223372036854775807) :
    Calls Tryz.prog 147 #[.pointer (some ⟨g, 0, none⟩), .int .i64 f, .string s] w fun e w' => e = .returned (.int .i64 (appendD d f s.data.toList).1) ∧ DRep w' S g (appendD d f s.data.toList).2 ∧ Fr S w w' := by
  have c16 := h.cDown
  have hsl : s.data.toList.length = s.size := by simp
  have hgS := Veil.mk (show ∀ b, b = g → S b from fun b hb => by rw [hb]; exact h.at')
  rcases hd : d.down
  · rw [hd] at c16
    rcases hk : kn f
    · have hA : appendD d f s.data.toList = struck d 1 := by unfold appendD; rw [hd, hk]; rfl
      have HA := Veil.mk hA; clear hA
      have HD := Veil.mk h; have HO := Veil.mk ho
      clear h ho hd hS hsl
      rcases hst : (strikes d).1
      all_goals
        have HA2 := Veil.mk (HA.out.trans (by first | exact struck_miss hst | exact struck_hit hst))
        go_enter Tryz.func147, Tryz.ntmps147
        go_wp2_with (first
          | (go_at_call 199; refine (known_any _ _).mono ?_; rintro e w2 ⟨rfl, rfl⟩)
          | (go_at_call 219
             refine (strikes_any HD.out HO.out).mono ?_
             rintro e w1 ⟨rfl, HD1, HF1⟩
             obtain ⟨kv, ckv, hkp, hkb⟩ := HD1.cKeep
             have HKp := Veil.mk hkp
             have HKb := Veil.mk hkb
             have HD1 := Veil.mk HD1
             have HF1 := Veil.mk HF1
             clear hkp hkb)
          | (go_at_call 21
             refine (crash_any HD1.out (strikes_ok HO.out) _ _ HKp.out (fun _ => HKb.out)).mono ?_
             rintro e w2 ⟨rfl, HD2, HF2⟩
             have HD1 := Veil.mk HD2
             have HF1 := Veil.mk (HF1.out.trans HF2)))
        go_ret
        refine ⟨?_, ?_, HF1.out.more hgS.out⟩
        · rw [HA2.out]; rfl
        · rw [HA2.out]; exact HD1.out
    · obtain ⟨n, rfl, hn⟩ := kn_form hk
      have hlen := (ho.fs n).len
      by_cases hfull : 16777216 < (d.fs n).data.length + s.size
      · have hA : appendD d (n : Int) s.data.toList = struck d 7 := by unfold appendD; rw [hd, hk, hsl, if_neg (by simp), if_neg (by simp)]; exact if_pos hfull
        have HA := Veil.mk hA; clear hA
        obtain ⟨A, c, cn, hc, _⟩ := h.cData n hn
        have hfi : (16777216 : Int) - ((d.fs n).data.length : Int) < (s.size : Int) := by omega
        have HD := Veil.mk h; have HO := Veil.mk ho
        clear h ho hd hS hsl hfull
        generalize (d.fs n).data.length = ln at *
        rcases hst : (strikes d).1
        all_goals
          have HA2 := Veil.mk (HA.out.trans (by first | exact struck_miss hst | exact struck_hit hst))
          go_enter Tryz.func147, Tryz.ntmps147
          go_wp2_with (first
            | (go_at_call 199; refine (known_any _ _).mono ?_; rintro e w2 ⟨rfl, rfl⟩)
            | (go_at_call 219
               refine (strikes_any HD.out HO.out).mono ?_
               rintro e w1 ⟨rfl, HD1, HF1⟩
               obtain ⟨kv, ckv, hkp, hkb⟩ := HD1.cKeep
               have HKp := Veil.mk hkp
               have HKb := Veil.mk hkb
               have HD1 := Veil.mk HD1
               have HF1 := Veil.mk HF1
               clear hkp hkb)
            | (go_at_call 21
               refine (crash_any HD1.out (strikes_ok HO.out) _ _ HKp.out (fun _ => HKb.out)).mono ?_
               rintro e w2 ⟨rfl, HD2, HF2⟩
               have HD1 := Veil.mk HD2
               have HF1 := Veil.mk (HF1.out.trans HF2)))
          go_ret
          refine ⟨?_, ?_, HF1.out.more hgS.out⟩
          · rw [HA2.out]; rfl
          · rw [HA2.out]; exact HD1.out
      · have hA : appendD d (n : Int) s.data.toList = struck { d with fs := upd d.fs n ⟨(d.fs n).data ++ s.data.toList, (d.fs n).dur⟩ } 0 := by unfold appendD; rw [hd, hk, hsl, if_neg (by simp), if_neg (by simp)]; exact if_neg hfull
        have HA := Veil.mk hA; clear hA
        have hoD : Ok { d with fs := upd d.fs n ⟨(d.fs n).data ++ s.data.toList, (d.fs n).dur⟩ } := ⟨upd_ok ho.fs _ ⟨by have := (ho.fs n).dur; simp only [List.length_append]; omega, by simp only [List.length_append]; omega⟩, ho.lost, ho.armed⟩
        have HO := Veil.mk hoD; clear hoD
        obtain ⟨vs, kv, hr, h3⟩ := h
        obtain ⟨A, c, hv, hc⟩ := (h3.fil n hn).form
        have cn := hr.cell (i := n * 2) (by omega)
        rw [cellD_data _ _ _ _ hn, hv] at cn
        have hfil := Veil.mk (h3.fil n hn)
        have hap := Veil.mk (fun {w' : World} {v : Value} {l : List UInt8} (hf : Fil w' v l) (hg : w.drew.grownBy w' (bl (vs n))) (hb : bl v = bl (vs n) ∨ bl v = some w.drew.heap.size) =>
          DRep.appended (w := w.drew) hr ⟨h3.head, h3.fil, h3.own, h3.apart, h3.kp, h3.kown, h3.kapart, h3.klt⟩ n hn hf hg hb (hS _ (Nat.le_refl _)))
        have hfi : ¬ (16777216 : Int) - ((d.fs n).data.length : Int) < (s.size : Int) := by omega
        have hsz : (d.fs n).data.length + s.size ≤ 140737488355328 := by omega
        have Hsz := Veil.mk hsz
        have hn8 : (n : Int) < 8 := by omega
        have Hlen : Veil (((d.fs n).data ++ s.data.toList).length = (d.fs n).data.length + s.size) := ⟨by rw [List.length_append, hsl]⟩
        rw [hv] at hfil hap
        clear hr h3 ho hd hS hfull hsz hv
        clear hsl
        go_enter Tryz.func147, Tryz.ntmps147
        go_wp2_with (first
          | (go_at_call 199; refine (known_any _ _).mono ?_; rintro e w2 ⟨rfl, rfl⟩))
        go_region_law (refine step_ap_str w.drew rfl (.tmp 37) (.tmp 38) _ _ rfl Tryz.underlying114 Tryz.underlying9 elem8 zero8 hfil.out rfl s rfl Hsz.out ?_; intro v' w' hf' hg' hb'; obtain ⟨A', c', hv', hc'⟩ := hf'.form; rw [Hlen.out] at hv' hc'; subst hv'; obtain ⟨cc, ff, HD0, HF0⟩ := hap.out hf' hg' hb'; have HD0 := Veil.mk HD0; have HF0 := Veil.mk HF0; clear hf' hg' hb')
        all_goals
          rcases hst : (strikes { d with fs := upd d.fs n ⟨(d.fs n).data ++ s.data.toList, (d.fs n).dur⟩ }).1
          all_goals
            have HA2 := Veil.mk (HA.out.trans (by first | exact struck_miss hst | exact struck_hit hst))
            go_wp2_with (first
              | (go_at_call 219
                 refine (strikes_any HD0.out HO.out).mono ?_
                 rintro e w1 ⟨rfl, HD1, HF1⟩
                 obtain ⟨kv, ckv, hkp, hkb⟩ := HD1.cKeep
                 have HKp := Veil.mk hkp
                 have HKb := Veil.mk hkb
                 have HD1 := Veil.mk HD1
                 have HF1 := Veil.mk (HF0.out.trans (HF1.more hgS.out))
                 clear hkp hkb)
              | (go_at_call 21
                 refine (crash_any HD1.out (strikes_ok HO.out) _ _ HKp.out (fun _ => HKb.out)).mono ?_
                 rintro e w2 ⟨rfl, HD2, HF2⟩
                 have HD1 := Veil.mk HD2
                 have HF1 := Veil.mk (HF1.out.trans (HF2.more hgS.out))))
            go_ret
            refine ⟨?_, ?_, (Fr.drewN w 1).trans HF1.out⟩
            · rw [HA2.out]; rfl
            · rw [HA2.out]; exact HD1.out
  · have hA : appendD d f s.data.toList = (8, d) := by unfold appendD; rw [if_pos hd]
    have HA := Veil.mk hA; clear hA
    rw [hd] at c16
    have HD := Veil.mk h
    clear h ho hd hS hsl
    go_enter Tryz.func147, Tryz.ntmps147
    go_wp2
    go_ret
    refine ⟨?_, ?_, Fr.refl _ _⟩
    · rw [HA.out]; rfl
    · rw [HA.out]; exact HD.out
end
end Go.Proofs.YtlefikdjhnaapaaGreatDoor
end
section
namespace Go.Proofs.YtlefikdjhnaapaaGreatDoor
open Go.RowKit Dm
section
variable {S : Nat → Prop} {w : World} {g : Nat} {d : Dk}
theorem beginD_zero {l : List Int} (h : (beginD d l).1 = 0) : l.all kn = true := by
  unfold beginD struck at h
  split at h
  · cases h
  split at h
  · cases h
  · simp only at h
    split at h
    · assumption
    · cases h
theorem Kp.lit1 (w : World) (t : TypeId) (x : Int) : Kp (w.alloc (.cells #[.int .i64 x] t)) (.slice (some ⟨w.heap.size, 0, none⟩) 1 1) [x] :=
  ⟨_, 1, rfl, Nat.le_refl _, fun _ => ⟨w.heap.size, 0, rfl, fun j hj => by
    obtain rfl : j = 0 := by simpa using hj
    rw [Nat.zero_add, cell_of_row _ _ 0 _ _ _ (heap_alloc_new w _)]
    rfl⟩⟩
theorem bl_ne {n m : Nat} (h : g < w.heap.size) : ∀ b, bl (.slice (some ⟨w.heap.size, 0, none⟩) n (m + 1)) = some b → b ≠ g := fun b hb => by
  have : w.heap.size = b := Option.some.inj hb
  omega
set_option maxRecDepth 100000 in
set_option maxHeartbeats 1000000 in
theorem flush_any (h : DRep w S g d) (ho : Ok d) (hS : ∀ b, w.heap.size ≤ b → S b) (f : Int) :
    Calls Tryz.prog 131 #[.pointer (some ⟨g, 0, none⟩), .int .i64 f] w fun e w' => e = .returned (.int .i64 (flushD d f).1) ∧ DRep w' S g (flushD d f).2 ∧ Fr S w w' := by
  have hgS := Veil.mk (show ∀ b, b = g → S b from fun b hb => by rw [hb]; exact h.at')
  have HD := Veil.mk (h.alloc (.cells #[.int .i64 f] 3))
  have HO := Veil.mk ho
  have Hne := Veil.mk (bl_ne (n := 1) (m := 0) h.lt)
  have Hgl := Veil.mk h.lt
  have HKl := Veil.mk (Kp.lit1 w 3 f)
  have HO1 := Veil.mk (begin_ok ho [f])
  have hz := beginD_zero (d := d) (l := [f])
  have hF : flushD d f = (if (beginD d [f]).1 ≠ 0 then beginD d [f] else if 0 < (beginD d [f]).2.lost then (18, { (beginD d [f]).2 with lost := (beginD d [f]).2.lost - 1 }) else (0, { (beginD d [f]).2 with fs := upd (beginD d [f]).2.fs f.toNat ⟨((beginD d [f]).2.fs f.toNat).data, ((beginD d [f]).2.fs f.toNat).data.length⟩ })) := rfl
  have hB := begin_any HD.out ho (.slice (some ⟨w.heap.size, 0, none⟩) 1 1) [f] HKl.out Hne.out (by show 1 ≤ 1000; omega)
  obtain ⟨e1, D1, hbe⟩ : ∃ e1 D1, beginD d [f] = (e1, D1) := ⟨_, _, rfl⟩
  rw [hbe] at hB hF HO1 hz
  simp only at hB hF HO1 hz
  have HF := Veil.mk hF
  have HB := Veil.mk hB
  clear hF hB h ho HD HKl hbe
  by_cases h0 : e1 = 0
  · subst h0
    have hkf : kn f = true := by simpa using hz rfl
    obtain ⟨n, rfl, hn⟩ := kn_form hkf
    clear hz hkf
    by_cases hl : 0 < D1.lost
    · have HF2 : Veil (flushD d (n : Int) = (18, { D1 with lost := D1.lost - 1 })) := ⟨by rw [HF.out, if_neg (by simp), if_pos hl]⟩
      have hll := HO1.out.lost
      go_enter Tryz.func131, Tryz.ntmps131
      go_wp2_with ((go_at_call 202
                    refine HB.out.mono ?_
                    rintro e w1 ⟨rfl, HD1, HF1⟩
                    have c17 := HD1.cLost
                    have f17 := HD1.free 17
                    have HD2 : Veil (∀ q : Int, q = (D1.lost : Int) - 1 → DRep (w1.setCell ⟨g, 17, none⟩ (.int .i64 q)) S g { D1 with lost := D1.lost - 1 }) := ⟨fun q hq => by
                      rw [show q = ((D1.lost - 1 : Nat) : Int) from by omega]; exact HD1.setLost (D1.lost - 1)⟩
                    have HF1 := Veil.mk ((Fr.alloc (S := S) w (.cells #[.int .i64 (n : Int)] 3)).trans (HF1.more hgS.out))
                    clear HD1))
      go_ret
      refine ⟨?_, ?_, HF1.out.trans (Fr.setCell (p := ⟨g, 17, none⟩) (hgS.out g rfl) _)⟩
      · rw [HF2.out]; rfl
      · rw [HF2.out]; exact HD2.out _ (by omega)
    · have HF2 : Veil (flushD d (n : Int) = (0, { D1 with fs := upd D1.fs n ⟨(D1.fs n).data, (D1.fs n).data.length⟩ })) := ⟨by rw [HF.out, if_neg (by simp), if_neg hl]; rfl⟩
      have hn8 : (n : Int) < 8 := by omega
      go_enter Tryz.func131, Tryz.ntmps131
      go_wp2_with ((go_at_call 202
                    refine HB.out.mono ?_
                    rintro e w1 ⟨rfl, HD1, HF1⟩
                    have c17 := HD1.cLost
                    obtain ⟨A, c, cn, hc⟩ := HD1.cLen n hn _ rfl
                    have cdu := HD1.cDur n hn
                    have fdu := HD1.free (n * 2 + 1)
                    have HD2 := Veil.mk ((HD1.drewN 1).setDur n hn (D1.fs n).data.length)
                    have HF1 := Veil.mk ((Fr.alloc (S := S) w (.cells #[.int .i64 (n : Int)] 3)).trans (HF1.more hgS.out))
                    clear HD1))
      refine wp_region_still_tail 14 (by kernel_rfl) (by kernel_rfl) ?_
      simp only [List.take_succ_cons, List.take_zero, List.drop_succ_cons, List.drop_zero]
      repeat still_step
      refine wpStill_nil ?_
      change wpList _ _ _ _ _ w1.drew
      go_wp2
      go_ret
      refine ⟨?_, ?_, HF1.out.trans ((Fr.drewN w1 1).trans (Fr.setCell (p := ⟨g, n * 2 + 1, none⟩) (hgS.out g rfl) _))⟩
      · rw [HF2.out]; rfl
      · rw [HF2.out]; exact HD2.out
  · have HF2 : Veil (flushD d f = (e1, D1)) := ⟨by rw [HF.out, if_pos h0]⟩
    clear hz
    have h0' : (e1 == 0) = false := beq_false_of_ne h0
    go_enter Tryz.func131, Tryz.ntmps131
    go_wp2_with ((go_at_call 202
                  refine HB.out.mono ?_
                  rintro e w1 ⟨rfl, HD1, HF1⟩
                  have HD1 := Veil.mk HD1
                  have HF1 := Veil.mk ((Fr.alloc (S := S) w (.cells #[.int .i64 f] 3)).trans (HF1.more hgS.out))))
    go_ret
    refine ⟨?_, ?_, HF1.out⟩
    · rw [HF2.out]; rfl
    · rw [HF2.out]; exact HD1.out
end
end Go.Proofs.YtlefikdjhnaapaaGreatDoor
end
section
namespace Go.Proofs.YtlefikdjhnaapaaGreatDoor
open Go.RowKit Dm
section
variable {S : Nat → Prop} {w : World} {g : Nat} {d : Dk}
set_option maxRecDepth 100000 in
set_option maxHeartbeats 1000000 in
theorem cut_any (h : DRep w S g d) (ho : Ok d) (hS : ∀ b, w.heap.size ≤ b → S b) (f m : Int) :
    Calls Tryz.prog 129 #[.pointer (some ⟨g, 0, none⟩), .int .i64 f, .int .i64 m] w fun e w' => e = .returned (.int .i64 (cutD d f m).1) ∧ DRep w' S g (cutD d f m).2 ∧ Fr S w w' := by
  have hgS := Veil.mk (show ∀ b, b = g → S b from fun b hb => by rw [hb]; exact h.at')
  have HD := Veil.mk (h.alloc (.cells #[.int .i64 f] 3))
  have Hne := Veil.mk (bl_ne (n := 1) (m := 0) h.lt)
  have HKl := Veil.mk (Kp.lit1 w 3 f)
  have HO1 := Veil.mk (begin_ok ho [f])
  have hz := beginD_zero (d := d) (l := [f])
  have hF : cutD d f m = (if (beginD d [f]).1 ≠ 0 then beginD d [f] else if m < 0 ∨ (size (beginD d [f]).2 f : Int) < m then (1, (beginD d [f]).2) else (0, { (beginD d [f]).2 with fs := upd (beginD d [f]).2.fs f.toNat (((beginD d [f]).2.fs f.toNat).trunc m.toNat) })) := rfl
  have hB := begin_any HD.out ho (.slice (some ⟨w.heap.size, 0, none⟩) 1 1) [f] HKl.out Hne.out (by show 1 ≤ 1000; omega)
  obtain ⟨e1, D1, hbe⟩ : ∃ e1 D1, beginD d [f] = (e1, D1) := ⟨_, _, rfl⟩
  rw [hbe] at hB hF HO1 hz
  simp only at hB hF HO1 hz
  have HF := Veil.mk hF
  have HB := Veil.mk hB
  clear hF hB h ho HD HKl hbe
  by_cases h0 : e1 = 0
  · subst h0
    have hkf : kn f = true := by simpa using hz rfl
    obtain ⟨n, rfl, hn⟩ := kn_form hkf
    clear hz
    have hn8 : (n : Int) < 8 := by omega
    have hsz : size D1 (n : Int) = (D1.fs n).data.length := by unfold size; rw [hkf]; rfl
    rw [hsz] at HF
    have Hsz := Veil.mk hsz; clear hsz hkf
    by_cases hm0 : m < 0
    · have HF2 : Veil (cutD d (n : Int) m = (1, D1)) := ⟨by rw [HF.out, if_neg (by simp), if_pos (.inl hm0)]⟩
      go_enter Tryz.func129, Tryz.ntmps129
      go_wp2_with ((go_at_call 202
                    refine HB.out.mono ?_
                    rintro e w1 ⟨rfl, HD1, HF1⟩
                    have HD1 := Veil.mk HD1
                    have HF1 := Veil.mk ((Fr.alloc (S := S) w (.cells #[.int .i64 (n : Int)] 3)).trans (HF1.more hgS.out))))
      go_ret
      refine ⟨?_, ?_, HF1.out⟩
      · rw [HF2.out]; rfl
      · rw [HF2.out]; exact HD1.out
    · obtain ⟨k, rfl⟩ := Int.eq_ofNat_of_zero_le (show 0 ≤ m by omega)
      by_cases hmk : (D1.fs n).data.length < k
      · have HF2 : Veil (cutD d (n : Int) (k : Int) = (1, D1)) := ⟨by rw [HF.out, if_neg (by simp), if_pos (.inr (by omega))]⟩
        have hmi : ((D1.fs n).data.length : Int) < (k : Int) := by omega
        go_enter Tryz.func129, Tryz.ntmps129
        go_wp2_with (first
          | (go_at_call 202
             refine HB.out.mono ?_
             rintro e w1 ⟨rfl, HD1, HF1⟩
             have HD1 := Veil.mk HD1
             have HF1 := Veil.mk ((Fr.alloc (S := S) w (.cells #[.int .i64 (n : Int)] 3)).trans (HF1.more hgS.out)))
          | (go_at_call 203
             refine (size_any HD1.out _).mono ?_
             rintro e w2 ⟨rfl, rfl⟩
             rw [Hsz.out]))
        go_ret
        refine ⟨?_, ?_, HF1.out⟩
        · rw [HF2.out]; rfl
        · rw [HF2.out]; exact HD1.out
      · have HF2 : Veil (cutD d (n : Int) (k : Int) = (0, { D1 with fs := upd D1.fs n ((D1.fs n).trunc k) })) := ⟨by rw [HF.out, if_neg (by simp), if_neg (by omega)]; rfl⟩
        have hmi : ¬ ((D1.fs n).data.length : Int) < (k : Int) := by omega
        have Hkl : Veil (k ≤ (D1.fs n).data.length) := ⟨by omega⟩
        clear hmk
        go_enter Tryz.func129, Tryz.ntmps129
        go_wp2_with (first
          | (go_at_call 202
             refine HB.out.mono ?_
             rintro e w1 ⟨rfl, HD1, HF1⟩
             have HD1 := Veil.mk HD1
             have HF1 := Veil.mk ((Fr.alloc (S := S) w (.cells #[.int .i64 (n : Int)] 3)).trans (HF1.more hgS.out)))
          | (go_at_call 203
             refine (size_any HD1.out _).mono ?_
             rintro e w2 ⟨rfl, rfl⟩
             rw [Hsz.out])
          | (go_at_call 84
             refine (trunc_any HD1.out n hn k _ Hkl.out rfl).mono ?_
             rintro e w2 ⟨rfl, HD2, HF2'⟩
             have HD2 := Veil.mk HD2
             have HF1 := Veil.mk (HF1.out.trans (HF2'.more hgS.out))))
        go_ret
        refine ⟨?_, ?_, HF1.out⟩
        · rw [HF2.out]; rfl
        · rw [HF2.out]; exact HD2.out
  · have HF2 : Veil (cutD d f m = (e1, D1)) := ⟨by rw [HF.out, if_pos h0]⟩
    clear hz
    have h0' : (e1 == 0) = false := beq_false_of_ne h0
    go_enter Tryz.func129, Tryz.ntmps129
    go_wp2_with ((go_at_call 202
                  refine HB.out.mono ?_
                  rintro e w1 ⟨rfl, HD1, HF1⟩
                  have HD1 := Veil.mk HD1
                  have HF1 := Veil.mk ((Fr.alloc (S := S) w (.cells #[.int .i64 f] 3)).trans (HF1.more hgS.out))))
    go_ret
    refine ⟨?_, ?_, HF1.out⟩
    · rw [HF2.out]; rfl
    · rw [HF2.out]; exact HD1.out
end
theorem DRep.fresh (w : World) (S : Nat → Prop) (hS : ∀ b, w.heap.size ≤ b → S b) (cs : Array Value) (hc : cs = (List.replicate 8 [Value.slice none 0 0, .int .i64 0]).flatten.toArray ++ #[.bool false, .int .i64 0, .int .i64 0, .slice none 0 0]) :
    DRep (w.alloc (.cells cs 119)) S w.heap.size dk0 := by
  subst hc
  refine ⟨fun _ => .slice none 0 0, .slice none 0 0, World.rowIs_alloc w _ _ (cellD (fun _ => .slice none 0 0) (.slice none 0 0) dk0) fun i hi => ?_, hS _ (Nat.le_refl _), fun i _ => Fil.nil _, fun i b _ hb => (by cases hb), fun i j b _ _ _ hb => (by cases hb), Kp.nil _, fun b hb => (by cases hb), fun i b _ hb => (by cases hb), fun b hb => (by cases hb)⟩
  have hi : i < 20 := hi
  rcases i with _ | _ | _ | _ | _ | _ | _ | _ | _ | _ | _ | _ | _ | _ | _ | _ | _ | _ | _ | _ | i
  all_goals first | rfl | omega
set_option maxRecDepth 100000 in
theorem new_any (w : World) (S : Nat → Prop) (hS : ∀ b, w.heap.size ≤ b → S b) :
    Calls Tryz.prog 12 #[] w fun e w' => ∃ g, e = .returned (.pointer (some ⟨g, 0, none⟩)) ∧ DRep w' S g dk0 ∧ Fr S w w' ∧ g = w.heap.size := by
  have H := Veil.mk (DRep.fresh w S hS _ rfl)
  go_enter Tryz.func12, Tryz.ntmps12
  go_wp2
  go_ret
  exact ⟨_, rfl, H.out, Fr.alloc _ _, rfl⟩
end Go.Proofs.YtlefikdjhnaapaaGreatDoor
end
section
namespace Go.Proofs.YtlefikdjhnaapaaGreatDoor
open Go.RowKit Dm
def intC (ks : List Int) : List Value := ks.map (Value.int .i64)
theorem Kp.rd {w : World} {v : Value} {ks : List Int} (h : Kp w v ks) : Rd w w.heap.size 1 v (intC ks) := by
  obtain ⟨A, c, rfl, hc, hr⟩ := h
  refine ⟨A, ks.length, c, rfl, hc, by simp [intC], fun h0 => ?_⟩
  obtain ⟨b, o, rfl, h⟩ := hr h0
  refine ⟨_, rfl, World.block_lt_of_cell? w _ (h 0 h0), fun j u hu => ?_⟩
  rw [Addr.add_lit]
  unfold intC at hu
  rw [List.getElem?_map] at hu
  obtain ⟨x, hx, rfl⟩ := Option.map_eq_some_iff.1 hu
  have hj := (List.getElem?_eq_some_iff.1 hx).1
  rw [h j hj, List.getD_eq_getElem?_getD, hx]
  rfl
section
variable {S : Nat → Prop} {w : World} {g : Nat} {d : Dk}
end
end Go.Proofs.YtlefikdjhnaapaaGreatDoor
end
section
namespace Go.Proofs.YtlefikdjhnaapaaGreatDoor
open Go.RowKit Dm
structure Copied (w wr : World) (vs : Nat → Value) (kv : Value) (d : Dk) (k : Nat) (vs' : Nat → Value) : Prop where
  row : wr.rowIs w.heap.size 119 20 (cellD (fun i => if i < k then vs' i else vs i) kv d)
  grown : w.grownBy wr none
  fil : ∀ i, i < k → Fil wr (vs' i) (d.fs i).data
  own : ∀ i b, i < k → bl (vs' i) = some b → w.heap.size < b ∧ b < wr.heap.size
  apart : ∀ i j b, i < k → j < k → i ≠ j → bl (vs' i) = some b → bl (vs' j) ≠ some b
theorem Copied.step {w wr w1 : World} {vs : Nat → Value} {kv : Value} {d : Dk} {k : Nat} {vs' : Nat → Value} (h : Copied w wr vs kv d k vs') (hk : k < 8) {v : Value} (hg : wr.grownBy w1 none) (hf : Fil w1 v (d.fs k).data)
    (hb : ∀ b, bl v = some b → wr.heap.size ≤ b ∧ b < w1.heap.size) :
    (∃ u, w1.cell? ⟨w.heap.size, k * 2, none⟩ = some u) ∧ w1.frozen? ⟨w.heap.size, k * 2, none⟩ = false ∧ Copied w (w1.setCell ⟨w.heap.size, k * 2, none⟩ v) vs kv d (k + 1) (fun i => if i = k then v else vs' i) := by
  have hrl := h.row.lt
  have hr1 := h.row.of_block (hg.block _ hrl (by simp))
  have h0 : w.heap.size < wr.heap.size := hrl
  refine ⟨⟨_, hr1.cell (by omega)⟩, hr1.frozen _, (hr1.set (k * 2) v).congr fun j hj => ?_, ?_, fun i hi => ?_, fun i b hi hbl => ?_, fun i j b hi hj hij hbi hbj => ?_⟩
  · show (if j = k * 2 then _ else _) = _
    by_cases e : j = k * 2
    · subst e
      rw [if_pos rfl, cellD_data _ _ _ _ hk, if_pos (by omega), if_pos rfl]
    · rw [if_neg e]
      unfold cellD
      split
      · split
        · show (if j / 2 < k then vs' (j / 2) else vs (j / 2)) = (if j / 2 < k + 1 then (if j / 2 = k then v else vs' (j / 2)) else vs (j / 2))
          by_cases e1 : j / 2 < k
          · rw [if_pos e1, if_pos (by omega), if_neg (by omega)]
          · rw [if_neg e1, if_neg (by omega)]
        · rfl
      · rfl
  · exact ⟨hg.os.trans h.grown.os, hg.tape.trans h.grown.tape, hg.output.trans h.grown.output, by simpa using Nat.le_trans h.grown.size hg.size, fun b hlt hne => (Below.heap_setCell w1 _ v b (show b ≠ w.heap.size by omega)).trans ((hg.block b (by omega) (by simp)).trans (h.grown.block b hlt hne))⟩
  · by_cases e : i = k
    · subst e
      simp only [if_pos]
      exact hf.keep fun b hbl => Below.heap_setCell w1 _ v b (show b ≠ w.heap.size by have := (hb b hbl).1; omega)
    · simp only [if_neg e]
      have hi' : i < k := by omega
      exact ((h.fil i hi').keep fun b hbl => hg.block b (h.own i b hi' hbl).2 (by simp)).keep fun b hbl => Below.heap_setCell w1 _ v b (show b ≠ w.heap.size by have := (h.own i b hi' hbl).1; omega)
  · by_cases e : i = k
    · subst e
      simp only [if_pos] at hbl
      have := hb b hbl
      exact ⟨by omega, by simpa using this.2⟩
    · simp only [if_neg e] at hbl
      have := h.own i b (by omega) hbl
      have := hg.size
      exact ⟨by omega, by simp; omega⟩
  · by_cases e : i = k
    · subst e
      have e2 : j ≠ i := fun h => hij h.symm
      simp only [if_pos, if_neg e2] at hbi hbj
      have h1 := hb b hbi
      have h2 := h.own j b (by omega) hbj
      omega
    · by_cases e2 : j = k
      · subst e2
        simp only [if_pos, if_neg e] at hbi hbj
        have h1 := hb b hbj
        have h2 := h.own i b (by omega) hbi
        omega
      · simp only [if_neg e, if_neg e2] at hbi hbj
        exact h.apart i j b (by omega) (by omega) hij hbi hbj
section
variable {S : Nat → Prop} {w : World} {g : Nat} {d : Dk}
end
end Go.Proofs.YtlefikdjhnaapaaGreatDoor
end
section
namespace Go.Proofs.YtlefikdjhnaapaaGreatDoor.Pe
open Go Go.RowKit Dm
variable [Tab]
section
variable {P : Program} {w w' : World} {g : Gh}
theorem drep_lt {S : Nat → Prop} {p : Nat} {d : Dk} (h : DRep w S p d) : DRep w (fun b => S b ∧ b < w.heap.size) p d := by
  obtain ⟨vs, kv, hr, h⟩ := h
  exact ⟨vs, kv, hr, ⟨h.head, hr.lt⟩, h.fil, fun i b hi hb => ⟨⟨(h.own i b hi hb).1, (h.fil i hi).block b hb⟩, (h.own i b hi hb).2⟩, h.apart, h.kp, fun b hb => ⟨⟨(h.kown b hb).1, h.klt b hb⟩, (h.kown b hb).2⟩, h.kapart, h.klt⟩
abbrev XD (d : Dk) : SObj := .ext fun w p S => DRep w S p d ∧ Ok d
theorem AC.ofFr {f : FuncId} {args : List AV} {v : AV} {X X' : World → Nat → (Nat → Prop) → Prop} (hcan : callable P f = true)
    (hX : ∀ w p (S T : Nat → Prop), X w p S → (∀ b, S b → T b) → X w p T)
    (hX' : ∀ (w w' : World) p (S : Nat → Prop), X' w p S → (∀ b, S b ∧ b < w.heap.size → w'.heap[b]? = w.heap[b]?) → X' w' p (fun b => S b ∧ b < w.heap.size))
    (h : ∀ (w : World) (g : Gh) (S : Nat → Prop) (cargs : Array Value), LRel w g args cargs → g.buf 0 = false → 0 < g.nid → g.G (g.pl 0) = 0 → S (g.pl 0) → (∀ b, w.heap.size ≤ b → S b) → X w (g.pl 0) S →
      Calls P f cargs w fun r w' => ∃ cv, r = .returned cv ∧ (∀ g', Rel w' g' v cv) ∧ X' w' (g.pl 0) S ∧ Fr S w w') : AC P f args [.ext X] v [.ext X'] := by
  refine ⟨hcan, fun w g cargs hw hargs => ?_⟩
  obtain ⟨ho1, ho2, ho3, ho4⟩ := hw.obj 0 _ rfl
  have hn : g.nid = 1 := hw.nid
  have hlt := hw.lt 0
  refine (h w g (fun b => g.own 0 b ∨ w.heap.size ≤ b) cargs hargs ho1 (by omega) (ho3 _ ho2) (.inl ho2) (fun b hb => .inr hb) (hX _ _ _ _ (ho4 w (fun _ _ => rfl)) fun b hb => .inl hb)).mono ?_
  rintro r w' ⟨cv, rfl, h1, h2, h3⟩
  have hb : ∀ b, b < w.heap.size → ¬ g.own 0 b → w'.heap[b]? = w.heap[b]? := fun b hb hno => h3.block b hb (fun e => e.elim hno (fun e => by omega))
  have hsz := h3.size
  generalize hg' : ({ g with own := fun l b => if l = 0 then (g.own 0 b ∨ w.heap.size ≤ b) ∧ b < w'.heap.size else g.own l b, G := fun b => if b < w.heap.size then g.G b else 0 } : Gh) = g'
  have eG : ∀ b, b < w.heap.size → g'.G b = g.G b := fun b hb => by rw [← hg']; exact if_pos hb
  have eG0 : ∀ b, ¬ b < w.heap.size → g'.G b = 0 := fun b hb => by rw [← hg']; exact if_neg hb
  have eo : g'.own 0 = fun b => (g.own 0 b ∨ w.heap.size ≤ b) ∧ b < w'.heap.size := by rw [← hg']; rfl
  have epl : g'.pl = g.pl := by rw [← hg']
  have ebuf : g'.buf = g.buf := by rw [← hg']
  have enid : g'.nid = g.nid := by rw [← hg']
  have ewm : g'.wm = g.wm := by rw [← hg']
  have ecap : g'.cap = g.cap := by rw [← hg']
  clear hg'
  have hcl : ∀ b o u, w.cell? ⟨b, o, none⟩ = some u → b < w.heap.size := fun b o u hu => World.block_lt_of_cell? w _ hu
  have hle : Le w g w' g' := ⟨fun b o u hG hc => by
      rw [World.cell?_of_block (hb b (hcl b o u hc) (fun e => by rw [ho3 b e] at hG; omega))]; exact hc,
    fun b o u hG hc => by rw [eG b (hcl b o u hc)]; exact hG, by rw [enid]; exact Nat.le_refl _, fun l _ => ⟨by rw [ebuf], .inl ⟨by rw [epl], by rw [ewm], by rw [ecap]⟩⟩,
    fun b me c hG hm => by
      have hlt' := (Array.getElem?_eq_some_iff.1 hm).1
      have hno : ¬ g.own 0 b := fun e => by rw [ho3 b e] at hG; omega
      exact ⟨by rw [eG b hlt']; exact hG, (hb b hlt' hno).trans hm⟩⟩
  refine ⟨cv, g', rfl, ?_, h1 g', ?_⟩
  · refine hw.touch (l := 0) (by simp) hle enid (fun k hk hk' => by omega) (fun b hbo => ?_) hsz (fun b hb _ => eG b hb) hb ?_
    · rw [eo] at hbo
      rcases hbo with ⟨h | h, h'⟩
      · exact .inl h
      · exact .inr ⟨h, h'⟩
    · refine ⟨by rw [ebuf]; exact ho1, ?_, ?_, ?_⟩
      · rw [eo, epl]; exact ⟨.inl ho2, by have := hlt _ (by omega) ho2; omega⟩
      · intro b hbo
        rw [eo] at hbo
        by_cases hlt' : b < w.heap.size
        · rw [eG b hlt']; exact ho3 b (hbo.1.elim id fun e => by omega)
        · exact eG0 b hlt'
      · intro w'' hs
        rw [eo, epl]
        rw [eo] at hs
        exact hX' w' w'' _ _ h2 hs
  · refine ⟨hle, h3.os, h3.tape, h3.output, hsz, fun b hlt' hno => hb b hlt' (hno 0 (by omega)), fun l b hl hbo hlt' => ?_, fun b hlt' _ => eG b hlt'⟩
    rw [enid] at hl
    obtain rfl : l = 0 := by omega
    rw [eo] at hbo
    exact ⟨hl, hbo.1.elim id fun e => by omega⟩
theorem AC.newFr {f : FuncId} {args : List AV} {S0 : Store} {X : World → Nat → (Nat → Prop) → Prop} (hcan : callable P f = true)
    (hX' : ∀ (w w' : World) p (S : Nat → Prop), X w p S → (∀ b, S b ∧ b < w.heap.size → w'.heap[b]? = w.heap[b]?) → X w' p (fun b => S b ∧ b < w.heap.size))
    (hp : ∀ w p S, X w p S → S p ∧ p < w.heap.size)
    (h : ∀ (w : World) (g : Gh) (cargs : Array Value), WF w g S0 → LRel w g args cargs →
      Calls P f cargs w fun r w' => ∃ p, r = .returned (.pointer (some ⟨p, 0, none⟩)) ∧ X w' p (fun b => w.heap.size ≤ b) ∧ Fr (fun b => w.heap.size ≤ b) w w') : AC P f args S0 (.ptr S0.length 0) (S0 ++ [.ext X]) := by
  refine ⟨hcan, fun w g cargs hw hargs => (h w g cargs hw hargs).mono ?_⟩
  rintro r w' ⟨p, rfl, h2, h3⟩
  have hb : ∀ b, b < w.heap.size → w'.heap[b]? = w.heap[b]? := fun b hb => h3.block b hb (by omega)
  have hsz := h3.size
  have hn : g.nid = S0.length := hw.nid
  have hpp := hp _ _ _ h2
  generalize hg' : (⟨fun b => if b < w.heap.size then g.G b else 0, fun l => if l = g.nid then p else g.pl l, fun l b => if l = g.nid then w.heap.size ≤ b ∧ b < w'.heap.size else g.own l b, g.nid + 1, fun l => if l = g.nid then false else g.buf l, g.wm, g.cap⟩ : Gh) = g'
  have eG : ∀ b, b < w.heap.size → g'.G b = g.G b := fun b hb => by rw [← hg']; exact if_pos hb
  have eG0 : ∀ b, ¬ b < w.heap.size → g'.G b = 0 := fun b hb => by rw [← hg']; exact if_neg hb
  have eo : g'.own g.nid = fun b => w.heap.size ≤ b ∧ b < w'.heap.size := by rw [← hg']; funext b; exact if_pos rfl
  have eo' : ∀ l, l ≠ g.nid → g'.own l = g.own l := fun l hl => by rw [← hg']; funext b; exact if_neg hl
  have epl : g'.pl g.nid = p := by rw [← hg']; exact if_pos rfl
  have epl' : ∀ l, l ≠ g.nid → g'.pl l = g.pl l := fun l hl => by rw [← hg']; exact if_neg hl
  have ebuf : g'.buf g.nid = false := by rw [← hg']; exact if_pos rfl
  have ebuf' : ∀ l, l ≠ g.nid → g'.buf l = g.buf l := fun l hl => by rw [← hg']; exact if_neg hl
  have enid : g'.nid = g.nid + 1 := by rw [← hg']
  have ewm : g'.wm = g.wm := by rw [← hg']
  have ecap : g'.cap = g.cap := by rw [← hg']
  clear hg'
  have hcl : ∀ b o u, w.cell? ⟨b, o, none⟩ = some u → b < w.heap.size := fun b o u hu => World.block_lt_of_cell? w _ hu
  have hle : Le w g w' g' := ⟨fun b o u hG hc => by rw [World.cell?_of_block (hb b (hcl b o u hc))]; exact hc,
    fun b o u hG hc => by rw [eG b (hcl b o u hc)]; exact hG, by rw [enid]; omega, fun l hl => ⟨ebuf' l (by omega), .inl ⟨epl' l (by omega), by rw [ewm], by rw [ecap]⟩⟩,
    fun b me c hG hm => by
      have hlt' := (Array.getElem?_eq_some_iff.1 hm).1
      exact ⟨by rw [eG b hlt']; exact hG, (hb b hlt').trans hm⟩⟩
  refine ⟨_, g', rfl, ⟨by rw [enid, hn, List.length_append]; rfl, fun l o hl => ?_, fun l l' b hl hl' ho ho' => ?_, fun l b hl ho => ?_, hw.tab.le hle⟩, ?_, ?_⟩
  · by_cases hln : l = g.nid
    · subst hln
      rw [List.getElem?_append_right (by omega), hn, Nat.sub_self] at hl
      cases hl
      refine ⟨ebuf, ?_, ?_, ?_⟩
      · rw [eo, epl]; exact hpp
      · intro b hbo
        rw [eo] at hbo
        exact eG0 b (by omega)
      · intro w'' hs
        rw [eo, epl]
        rw [eo] at hs
        exact hX' w' w'' _ _ h2 hs
    · have hlt : l < g.nid := by have := (List.getElem?_eq_some_iff.1 hl).1; rw [List.length_append] at this; simp at this; omega
      rw [List.getElem?_append_left (by omega)] at hl
      exact (hw.obj l o hl).keep hle (epl' l hln) (ebuf' l hln) (by rw [ewm]) (by rw [ecap]) (eo' l hln) (fun b hbo => eG b (hw.lt l b hlt hbo)) (fun b hbo => hb b (hw.lt l b hlt hbo))
  · rw [enid] at hl hl'
    by_cases h1 : l = g.nid <;> by_cases h2 : l' = g.nid
    · rw [h1, h2]
    · subst h1; rw [eo] at ho; rw [eo' l' h2] at ho'; have := hw.lt l' b (by omega) ho'; omega
    · subst h2; rw [eo] at ho'; rw [eo' l h1] at ho; have := hw.lt l b (by omega) ho; omega
    · rw [eo' l h1] at ho; rw [eo' l' h2] at ho'; exact hw.disj l l' b (by omega) (by omega) ho ho'
  · rw [enid] at hl
    by_cases h1 : l = g.nid
    · subst h1; rw [eo] at ho; exact ho.2
    · rw [eo' l h1] at ho; have := hw.lt l b (by omega) ho; omega
  · have := Rel.ptr (w := w') g' g.nid 0 (by omega) ebuf
    rw [epl, hn] at this
    exact this
  · refine ⟨hle, h3.os, h3.tape, h3.output, hsz, fun b hlt' _ => hb b hlt', fun l b hl ho hlt' => ?_, fun b hlt' _ => eG b hlt'⟩
    rw [enid] at hl
    by_cases h1 : l = g.nid
    · subst h1; rw [eo] at ho; omega
    · rw [eo' l h1] at ho; exact ⟨by omega, ho⟩
end
theorem xd_mono (d : Dk) : ∀ w p (S T : Nat → Prop), (DRep w S p d ∧ Ok d) → (∀ b, S b → T b) → DRep w T p d ∧ Ok d := fun _ _ _ _ h hs => ⟨h.1.more hs, h.2⟩
theorem xd_keep (d : Dk) : ∀ (w w' : World) p (S : Nat → Prop), (DRep w S p d ∧ Ok d) → (∀ b, S b ∧ b < w.heap.size → w'.heap[b]? = w.heap[b]?) → DRep w' (fun b => S b ∧ b < w.heap.size) p d ∧ Ok d :=
  fun _ _ _ _ h hs => ⟨(drep_lt h.1).keep fun b hb _ => hs b hb, h.2⟩
theorem lrel_cons {w : World} {g : Gh} {u : AV} {us : List AV} {cargs : Array Value} (h : LRel w g (u :: us) cargs) : ∃ (cv : Value) (cs : List Value), cargs = (cv :: cs).toArray ∧ Rel w g u cv ∧ LRel w g us cs.toArray := by
  obtain ⟨h1, h2⟩ := h
  obtain ⟨l⟩ := cargs
  cases l with
  | nil => simp at h1
  | cons cv cs => exact ⟨cv, cs, rfl, h2 0 u cv rfl rfl, by simpa using h1, fun j u v hu hv => h2 (j + 1) u v (by simpa using hu) (by simpa using hv)⟩
theorem lrelc {w : World} {g : Gh} {u : AV} {us : List AV} {cs : List Value} (h : LRel w g (u :: us) cs.toArray) : ∃ (cv : Value) (cs' : List Value), cs = cv :: cs' ∧ Rel w g u cv ∧ LRel w g us cs'.toArray := by
  obtain ⟨cv, cs', e, h1, h2⟩ := lrel_cons h
  exact ⟨cv, cs', by simpa using e, h1, h2⟩
theorem lrel_nil {w : World} {g : Gh} {cargs : Array Value} (h : LRel w g [] cargs) : cargs = #[] := by
  obtain ⟨h1, _⟩ := h
  exact Array.eq_empty_of_size_eq_zero h1
theorem rel_ptr {w : World} {g : Gh} {l off : Nat} {cv : Value} (h : Rel w g (.ptr l off) cv) : cv = .pointer (some ⟨g.pl l, off, none⟩) := by cases h; rfl
theorem rel_it {w : World} {g : Gh} {k : IntKind} {n : Int} {cv : Value} (h : Rel w g (.it k n) cv) : cv = .int k n := by cases h; rfl
theorem rel_st {w : World} {g : Gh} {l : List UInt8} {cv : Value} (h : Rel w g (.st l) cv) : cv = .string ⟨l.toArray⟩ := by cases h; rfl
theorem rel_tup2 {w : World} {g : Gh} {a b : AV} {x y : Value} (h : Rel w g a x) (h' : Rel w g b y) : Rel w g (.tup [a, b]) (.tuple #[x, y]) := by
  refine .tup _ _ _ rfl fun j u v hu hv => ?_
  match j with
  | 0 => cases hu; cases hv; exact h
  | 1 => cases hu; cases hv; exact h'
  | j + 2 => simp at hu
abbrev ints (m : Mode) (ks : List Int) : AV := .sl m (ks.map (AV.it .i64))
section
variable {d : Dk}
theorem d_append (d : Dk) (f : Int) (s : List UInt8) (hs : s.length ≤ 9223372036854775807) :
    AC Tryz.prog 147 [.ptr 0 0, .it .i64 f, .st s] [XD d] (.it .i64 (appendD d f s).1) [XD (appendD d f s).2] := by
  refine AC.ofFr (by kernel_rfl) (xd_mono d) (xd_keep _) fun w g S cargs hargs hbuf hn hG hSp hS hX => ?_
  obtain ⟨v0, c0, rfl, h0, hargs⟩ := lrel_cons hargs
  obtain ⟨v1, c1, rfl, h1, hargs⟩ := lrelc hargs
  obtain ⟨v2, c2, rfl, h2, hargs⟩ := lrelc hargs
  obtain rfl : c2 = [] := by simpa using lrel_nil hargs
  obtain rfl := rel_ptr h0; obtain rfl := rel_it h1; obtain rfl := rel_st h2
  refine (append_any hX.1 hX.2 hS f ⟨s.toArray⟩ (by simpa [ByteArray.size] using hs)).mono fun r w' ⟨e, hD, hF⟩ => ?_
  exact ⟨_, e, fun g' => .it _ _ _, ⟨hD, append_ok hX.2 _ _⟩, hF⟩
theorem d_flush (d : Dk) (f : Int) : AC Tryz.prog 131 [.ptr 0 0, .it .i64 f] [XD d] (.it .i64 (flushD d f).1) [XD (flushD d f).2] := by
  refine AC.ofFr (by kernel_rfl) (xd_mono d) (xd_keep _) fun w g S cargs hargs hbuf hn hG hSp hS hX => ?_
  obtain ⟨v0, c0, rfl, h0, hargs⟩ := lrel_cons hargs
  obtain ⟨v1, c1, rfl, h1, hargs⟩ := lrelc hargs
  obtain rfl : c1 = [] := by simpa using lrel_nil hargs
  obtain rfl := rel_ptr h0; obtain rfl := rel_it h1
  exact (flush_any hX.1 hX.2 hS f).mono fun r w' ⟨e, hD, hF⟩ => ⟨_, e, fun g' => .it _ _ _, ⟨hD, flush_ok hX.2 _⟩, hF⟩
theorem d_cut (d : Dk) (f n : Int) : AC Tryz.prog 129 [.ptr 0 0, .it .i64 f, .it .i64 n] [XD d] (.it .i64 (cutD d f n).1) [XD (cutD d f n).2] := by
  refine AC.ofFr (by kernel_rfl) (xd_mono d) (xd_keep _) fun w g S cargs hargs hbuf hn hG hSp hS hX => ?_
  obtain ⟨v0, c0, rfl, h0, hargs⟩ := lrel_cons hargs
  obtain ⟨v1, c1, rfl, h1, hargs⟩ := lrelc hargs
  obtain ⟨v2, c2, rfl, h2, hargs⟩ := lrelc hargs
  obtain rfl : c2 = [] := by simpa using lrel_nil hargs
  obtain rfl := rel_ptr h0; obtain rfl := rel_it h1; obtain rfl := rel_it h2
  exact (cut_any hX.1 hX.2 hS f n).mono fun r w' ⟨e, hD, hF⟩ => ⟨_, e, fun g' => .it _ _ _, ⟨hD, cut_ok hX.2 _ _⟩, hF⟩
theorem d_read (d : Dk) (f : Int) : AC Tryz.prog 127 [.ptr 0 0, .it .i64 f] [XD d] (.tup [.st (peek d f).1, .it .i64 (peek d f).2]) [XD d] := by
  refine AC.ofFr (by kernel_rfl) (xd_mono d) (xd_keep _) fun w g S cargs hargs hbuf _ hG hSp hS hX => ?_
  obtain ⟨v0, c0, rfl, h0, hargs⟩ := lrel_cons hargs
  obtain ⟨v1, c1, rfl, h1, hargs⟩ := lrelc hargs
  obtain rfl : c1 = [] := by simpa using lrel_nil hargs
  obtain rfl := rel_ptr h0; obtain rfl := rel_it h1
  exact (read_any hX.1 f).mono fun r w' ⟨e, e'⟩ => by subst e'; exact ⟨_, e, fun g' => rel_tup2 (.st _ _) (.it _ _ _), hX, Fr.refl _ _⟩
theorem d_size (d : Dk) (f : Int) : AC Tryz.prog 203 [.ptr 0 0, .it .i64 f] [XD d] (.it .i64 (size d f : Int)) [XD d] := by
  refine AC.ofFr (by kernel_rfl) (xd_mono d) (xd_keep _) fun w g S cargs hargs hbuf _ hG hSp hS hX => ?_
  obtain ⟨v0, c0, rfl, h0, hargs⟩ := lrel_cons hargs
  obtain ⟨v1, c1, rfl, h1, hargs⟩ := lrelc hargs
  obtain rfl : c1 = [] := by simpa using lrel_nil hargs
  obtain rfl := rel_ptr h0; obtain rfl := rel_it h1
  exact (size_any hX.1 f).mono fun r w' ⟨e, e'⟩ => by subst e'; exact ⟨_, e, fun g' => .it _ _ _, hX, Fr.refl _ _⟩
theorem d_new : AC Tryz.prog 12 [] [] (.ptr 0 0) [XD dk0] := by
  refine AC.newFr (S0 := []) (by kernel_rfl) (xd_keep _) (fun w p S h => ⟨h.1.at', h.1.lt⟩) fun w g cargs hw hargs => ?_
  obtain rfl := lrel_nil hargs
  exact (new_any w _ (fun b hb => hb)).mono fun r w' ⟨p, e, hD, hF, _⟩ => ⟨p, e, ⟨hD, dk0_ok⟩, hF⟩
end
end Go.Proofs.YtlefikdjhnaapaaGreatDoor.Pe
end
