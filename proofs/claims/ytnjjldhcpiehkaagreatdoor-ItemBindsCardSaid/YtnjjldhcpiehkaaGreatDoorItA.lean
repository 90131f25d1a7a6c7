/- The walk of package item on plain values: which items are right; comparing. Printed by tools/mkita.py. -/
import Derived.Test.YtnjjldhcpiehkaaGreatDoorAcW
import Derived.Test.YtnjjldhcpiehkaaGreatDoorItP
namespace Go.Proofs.YtnjjldhcpiehkaaGreatDoor.Pe
set_option linter.unusedSectionVars false
set_option linter.unusedVariables false
set_option linter.unusedSimpArgs false
open Go Go.RowKit Co Sg Ac It
set_option maxRecDepth 100000
set_option maxHeartbeats 4000000
abbrev claimV (c : It.Claim) : AV := .agg [.st c.actor, .it .i64 c.base, .st c.prev, .it .i64 c.gen, .it .i64 c.home, .it .i64 c.pub, .it .i64 c.time, .it .i64 c.sig.e, .it .i64 c.sig.s]
abbrev ballotV (b : It.Ballot) : AV := .agg [.it .i64 b.server, .st b.actor, .it .i64 b.gen, .st b.claim, .it .i64 b.time, .it .i64 b.sig.e, .it .i64 b.sig.s]
abbrev decisionV (d : It.Decision) : AV := .agg [.it .i64 d.server, .it .i64 d.number, .it .i64 d.kind, .st d.actor, .st d.object, .st d.text, sls d.to, .it .i64 d.n, .it .i64 d.frm, .it .i64 d.til, .it .i64 d.sig.e, .it .i64 d.sig.s]
abbrev itemL (i : It.Item) : List AV := [.it .i64 i.kind, .st i.act.author, .it .i64 i.act.seq, .st i.act.prev, .it .i64 i.act.kind, .it .i64 i.act.time, .st i.act.object, .st i.act.target, .it .i64 i.act.scope, .st i.act.group, sls i.act.to, .st i.act.text, .st i.act.body.nonce, .st i.act.body.data, .st i.act.body.tag, .it .i64 i.act.epoch, .sl .ro (i.act.wraps.map wrapV), .it .i64 i.act.n, .it .i64 i.act.m, .it .i64 i.act.sig.e, .it .i64 i.act.sig.s, .st i.claim.actor, .it .i64 i.claim.base, .st i.claim.prev, .it .i64 i.claim.gen, .it .i64 i.claim.home, .it .i64 i.claim.pub, .it .i64 i.claim.time, .it .i64 i.claim.sig.e, .it .i64 i.claim.sig.s, .it .i64 i.ballot.server, .st i.ballot.actor, .it .i64 i.ballot.gen, .st i.ballot.claim, .it .i64 i.ballot.time, .it .i64 i.ballot.sig.e, .it .i64 i.ballot.sig.s, .it .i64 i.decision.server, .it .i64 i.decision.number, .it .i64 i.decision.kind, .st i.decision.actor, .st i.decision.object, .st i.decision.text, sls i.decision.to, .it .i64 i.decision.n, .it .i64 i.decision.frm, .it .i64 i.decision.til, .it .i64 i.decision.sig.e, .it .i64 i.decision.sig.s]
abbrev itemV (i : It.Item) : AV := .agg [.it .i64 i.kind, .st i.act.author, .it .i64 i.act.seq, .st i.act.prev, .it .i64 i.act.kind, .it .i64 i.act.time, .st i.act.object, .st i.act.target, .it .i64 i.act.scope, .st i.act.group, sls i.act.to, .st i.act.text, .st i.act.body.nonce, .st i.act.body.data, .st i.act.body.tag, .it .i64 i.act.epoch, .sl .ro (i.act.wraps.map wrapV), .it .i64 i.act.n, .it .i64 i.act.m, .it .i64 i.act.sig.e, .it .i64 i.act.sig.s, .st i.claim.actor, .it .i64 i.claim.base, .st i.claim.prev, .it .i64 i.claim.gen, .it .i64 i.claim.home, .it .i64 i.claim.pub, .it .i64 i.claim.time, .it .i64 i.claim.sig.e, .it .i64 i.claim.sig.s, .it .i64 i.ballot.server, .st i.ballot.actor, .it .i64 i.ballot.gen, .st i.ballot.claim, .it .i64 i.ballot.time, .it .i64 i.ballot.sig.e, .it .i64 i.ballot.sig.s, .it .i64 i.decision.server, .it .i64 i.decision.number, .it .i64 i.decision.kind, .st i.decision.actor, .st i.decision.object, .st i.decision.text, sls i.decision.to, .it .i64 i.decision.n, .it .i64 i.decision.frm, .it .i64 i.decision.til, .it .i64 i.decision.sig.e, .it .i64 i.decision.sig.s]
theorem claim_eq (x y : It.Claim) : ((x.actor == y.actor) && ((x.base == y.base) && ((x.prev == y.prev) && ((x.gen == y.gen) && ((x.home == y.home) && ((x.pub == y.pub) && ((x.time == y.time) && ((x.sig.e == y.sig.e) && (x.sig.s == y.sig.s))))))))) = decide (x = y) := by
  obtain ⟨x1, x2, x3, x4, x5, x6, x7, ⟨x8, x9⟩⟩ := x
  obtain ⟨y1, y2, y3, y4, y5, y6, y7, ⟨y8, y9⟩⟩ := y
  rw [Bool.eq_iff_iff]
  simp
theorem ballot_eq (x y : It.Ballot) : ((x.server == y.server) && ((x.actor == y.actor) && ((x.gen == y.gen) && ((x.claim == y.claim) && ((x.time == y.time) && ((x.sig.e == y.sig.e) && (x.sig.s == y.sig.s))))))) = decide (x = y) := by
  obtain ⟨x1, x2, x3, x4, x5, ⟨x8, x9⟩⟩ := x
  obtain ⟨y1, y2, y3, y4, y5, ⟨y8, y9⟩⟩ := y
  rw [Bool.eq_iff_iff]
  simp
theorem sameDecision_c (a b : It.Decision) (ha : a.to.length ≤ 140737488355328) (hb : b.to.length ≤ 140737488355328) : AC Tryz.prog 66 [decisionV a, decisionV b] [] (.bo (decide (a = b))) [] := by
  refine AC.enter [120] [] Tryz.func66 rfl (by decide) (by decide) (Nat.le_of_ble_eq_true rfl) (by kernel_rfl) ?_; simp only [eraseC, eraseO, List.map_cons, List.map_nil, List.map_toArray, List.getElem?_toArray, List.getElem?_cons_zero, List.getElem?_cons_succ, Option.bind_some, Option.bind_none, List.append_eq, List.cons_append, List.nil_append]
  obtain ⟨q, hq⟩ : ∃ q, decide (a = b) = q := ⟨_, rfl⟩
  rw [hq]
  obtain ⟨a_server, a_number, a_kind, a_actor, a_object, a_text, a_to, a_n, a_frm, a_til, ⟨a_se, a_ss⟩⟩ := a
  obtain ⟨b_server, b_number, b_kind, b_actor, b_object, b_text, b_to, b_n, b_frm, b_til, ⟨b_se, b_ss⟩⟩ := b
  by_cases h_server : a_server = b_server
  rotate_left
  · obtain rfl : q = false := by rw [← hq]; exact decide_eq_false (fun e => h_server (by cases e; rfl))
    refine run ?_
    exact er0
  subst h_server
  by_cases h_number : a_number = b_number
  rotate_left
  · obtain rfl : q = false := by rw [← hq]; exact decide_eq_false (fun e => h_number (by cases e; rfl))
    refine run ?_
    exact er0
  subst h_number
  by_cases h_kind : a_kind = b_kind
  rotate_left
  · obtain rfl : q = false := by rw [← hq]; exact decide_eq_false (fun e => h_kind (by cases e; rfl))
    refine run ?_
    exact er0
  subst h_kind
  by_cases h_actor : a_actor = b_actor
  rotate_left
  · obtain rfl : q = false := by rw [← hq]; exact decide_eq_false (fun e => h_actor (by cases e; rfl))
    have e_actor : (a_actor == b_actor) = false := by simpa using h_actor
    refine runf @e_actor ?_
    exact er0
  subst h_actor
  by_cases h_object : a_object = b_object
  rotate_left
  · obtain rfl : q = false := by rw [← hq]; exact decide_eq_false (fun e => h_object (by cases e; rfl))
    have e_object : (a_object == b_object) = false := by simpa using h_object
    refine runf @e_object ?_
    exact er0
  subst h_object
  by_cases h_text : a_text = b_text
  rotate_left
  · obtain rfl : q = false := by rw [← hq]; exact decide_eq_false (fun e => h_text (by cases e; rfl))
    have e_text : (a_text == b_text) = false := by simpa using h_text
    refine runf @e_text ?_
    exact er0
  subst h_text
  refine run ?_
  refine cp (eqS_c a_to b_to ha hb) ?_
  by_cases h_to : a_to = b_to
  rotate_left
  · obtain rfl : q = false := by rw [← hq]; exact decide_eq_false (fun e => h_to (by cases e; rfl))
    rw [decide_eq_false h_to]
    refine run ?_
    exact er0
  subst h_to
  rw [decide_eq_true (p := a_to = a_to) rfl]
  by_cases h_n : a_n = b_n
  rotate_left
  · obtain rfl : q = false := by rw [← hq]; exact decide_eq_false (fun e => h_n (by cases e; rfl))
    refine run ?_
    exact er0
  subst h_n
  by_cases h_frm : a_frm = b_frm
  rotate_left
  · obtain rfl : q = false := by rw [← hq]; exact decide_eq_false (fun e => h_frm (by cases e; rfl))
    refine run ?_
    exact er0
  subst h_frm
  by_cases h_til : a_til = b_til
  rotate_left
  · obtain rfl : q = false := by rw [← hq]; exact decide_eq_false (fun e => h_til (by cases e; rfl))
    refine run ?_
    exact er0
  subst h_til
  by_cases h_se : a_se = b_se
  rotate_left
  · obtain rfl : q = false := by rw [← hq]; exact decide_eq_false (fun e => h_se (by cases e; rfl))
    refine run ?_
    exact er0
  subst h_se
  by_cases h_ss : a_ss = b_ss
  rotate_left
  · obtain rfl : q = false := by rw [← hq]; exact decide_eq_false (fun e => h_ss (by cases e; rfl))
    refine run ?_
    exact er0
  subst h_ss
  obtain rfl : q = true := by rw [← hq]; exact decide_eq_true rfl
  refine run ?_
  exact er0
/-- lists that memory allows -/
structure Lz (i : It.Item) : Prop where
  to : i.act.to.length ≤ 140737488355328
  wraps : i.act.wraps.length ≤ 140737488355328
  dto : i.decision.to.length ≤ 140737488355328
theorem sameI_c (a b : It.Item) (ha : Lz a) (hb : Lz b) : AC Tryz.prog 14 [itemV a, itemV b] [] (.bo (decide (a = b))) [] := by
  refine AC.enter [65, 66] [] Tryz.func14 rfl (by decide) (by decide) (Nat.le_of_ble_eq_true rfl) (by kernel_rfl) ?_; simp only [eraseC, eraseO, List.map_cons, List.map_nil, List.map_toArray, List.getElem?_toArray, List.getElem?_cons_zero, List.getElem?_cons_succ, Option.bind_some, Option.bind_none, List.append_eq, List.cons_append, List.nil_append]
  obtain ⟨q, hq⟩ : ∃ q, decide (a = b) = q := ⟨_, rfl⟩
  rw [hq]
  obtain ⟨a_kind, a_act, a_claim, a_ballot, a_dec⟩ := a
  obtain ⟨b_kind, b_act, b_claim, b_ballot, b_dec⟩ := b
  by_cases h_kind : a_kind = b_kind
  rotate_left
  · obtain rfl : q = false := by rw [← hq]; exact decide_eq_false (fun e => h_kind (by cases e; rfl))
    refine run ?_
    exact er0
  subst h_kind
  refine run ?_
  refine cp (same_c a_act b_act ⟨ha.to, ha.wraps⟩ ⟨hb.to, hb.wraps⟩) ?_
  by_cases h_act : a_act = b_act
  rotate_left
  · obtain rfl : q = false := by rw [← hq]; exact decide_eq_false (fun e => h_act (by cases e; rfl))
    rw [decide_eq_false h_act]
    refine run ?_
    exact er0
  subst h_act
  rw [decide_eq_true (p := a_act = a_act) rfl]
  by_cases h_claim : a_claim = b_claim
  rotate_left
  · obtain rfl : q = false := by rw [← hq]; exact decide_eq_false (fun e => h_claim (by cases e; rfl))
    have e_claim := claim_eq a_claim b_claim
    rw [decide_eq_false h_claim] at e_claim
    refine runf @e_claim ?_
    exact er0
  subst h_claim
  by_cases h_ballot : a_ballot = b_ballot
  rotate_left
  · obtain rfl : q = false := by rw [← hq]; exact decide_eq_false (fun e => h_ballot (by cases e; rfl))
    have e_ballot := ballot_eq a_ballot b_ballot
    rw [decide_eq_false h_ballot] at e_ballot
    refine runf @e_ballot ?_
    exact er0
  subst h_ballot
  refine run ?_
  refine cp (sameDecision_c a_dec b_dec ha.dto hb.dto) ?_
  by_cases h_dec : a_dec = b_dec
  rotate_left
  · obtain rfl : q = false := by rw [← hq]; exact decide_eq_false (fun e => h_dec (by cases e; rfl))
    rw [decide_eq_false h_dec]
    refine run ?_
    exact er0
  subst h_dec
  rw [decide_eq_true (p := a_dec = a_dec) rfl]
  obtain rfl : q = true := by rw [← hq]; exact decide_eq_true rfl
  refine run ?_
  exact er0
theorem iwithin_c (n lo hi : Int) : AC Tryz.prog 107 [.it .i64 n, .it .i64 lo, .it .i64 hi] [] (.bo (wi n lo hi)) [] := by
  refine AC.enter [] [] Tryz.func107 rfl (by decide) (by decide) (Nat.le_of_ble_eq_true rfl) (by kernel_rfl) ?_; simp only [eraseC, eraseO, List.map_cons, List.map_nil, List.map_toArray, List.getElem?_toArray, List.getElem?_cons_zero, List.getElem?_cons_succ, Option.bind_some, Option.bind_none, List.append_eq, List.cons_append, List.nil_append]
  unfold wi
  by_cases h : lo ≤ n
  · rw [decide_eq_true h]
    refine run ?_
    exact er0
  · rw [decide_eq_false h]
    refine run ?_
    exact er0
theorem isServer_c (n : Int) : AC Tryz.prog 109 [.it .i64 n] [] (.bo (isServer n)) [] := by
  refine AC.enter [107] [] Tryz.func109 rfl (by decide) (by decide) (Nat.le_of_ble_eq_true rfl) (by kernel_rfl) ?_; simp only [eraseC, eraseO, List.map_cons, List.map_nil, List.map_toArray, List.getElem?_toArray, List.getElem?_cons_zero, List.getElem?_cons_succ, Option.bind_some, Option.bind_none, List.append_eq, List.cons_append, List.nil_append]
  refine run ?_
  refine cp (iwithin_c n 0 19) ?_
  refine run ?_
  exact er0
theorem isTime_c (n : Int) : AC Tryz.prog 82 [.it .i64 n] [] (.bo (isTime n)) [] := by
  refine AC.enter [107] [] Tryz.func82 rfl (by decide) (by decide) (Nat.le_of_ble_eq_true rfl) (by kernel_rfl) ?_; simp only [eraseC, eraseO, List.map_cons, List.map_nil, List.map_toArray, List.getElem?_toArray, List.getElem?_cons_zero, List.getElem?_cons_succ, Option.bind_some, Option.bind_none, List.append_eq, List.cons_append, List.nil_append]
  refine run ?_
  refine cp (iwithin_c n 0 1099511627776) ?_
  refine run ?_
  exact er0
theorem iisDigest_c (s : By) : AC Tryz.prog 108 [.st s] [] (.bo (dig s)) [] := by
  refine AC.enter [] [] Tryz.func108 rfl (by decide) (by decide) (Nat.le_of_ble_eq_true rfl) (by kernel_rfl) ?_; simp only [eraseC, eraseO, List.map_cons, List.map_nil, List.map_toArray, List.getElem?_toArray, List.getElem?_cons_zero, List.getElem?_cons_succ, Option.bind_some, Option.bind_none, List.append_eq, List.cons_append, List.nil_append]
  rw [dig_eq]
  refine run ?_
  exact er0
theorem rightSig_c (s : Sig) : AC Tryz.prog 110 [sigV s] [] (.bo (sigR s)) [] := by
  refine AC.enter [107] [] Tryz.func110 rfl (by decide) (by decide) (Nat.le_of_ble_eq_true rfl) (by kernel_rfl) ?_; simp only [eraseC, eraseO, List.map_cons, List.map_nil, List.map_toArray, List.getElem?_toArray, List.getElem?_cons_zero, List.getElem?_cons_succ, Option.bind_some, Option.bind_none, List.append_eq, List.cons_append, List.nil_append]
  unfold sigR
  refine run ?_
  refine cp (iwithin_c s.e 0 2305843009213693949) ?_
  cases h1 : wi s.e 0 2305843009213693949 with
  | false => refine run ?_; exact er0
  | true =>
    refine run ?_
    refine cp (iwithin_c s.s 0 2305843009213693949) ?_
    refine run ?_
    exact er0
theorem rightClaim_c (c : It.Claim) (ha : c.actor.length ≤ 140737488355328) : AC Tryz.prog 52 [claimV c] [] (.bo (rightClaim c)) [] := by
  refine AC.enter [77, 107, 108, 109, 82, 110] [] Tryz.func52 rfl (by decide) (by decide) (Nat.le_of_ble_eq_true rfl) (by kernel_rfl) ?_; simp only [eraseC, eraseO, List.map_cons, List.map_nil, List.map_toArray, List.getElem?_toArray, List.getElem?_cons_zero, List.getElem?_cons_succ, Option.bind_some, Option.bind_none, List.append_eq, List.cons_append, List.nil_append]
  unfold rightClaim
  refine run ?_
  refine cp (idright_c c.actor ha) ?_
  cases h0 : idR c.actor with
  | false => refine run ?_; exact er0
  | true =>
    refine run ?_
    refine cp (iwithin_c c.base 1 1073741824) ?_
    cases h1 : wi c.base 1 1073741824 with
    | false => refine run ?_; exact er0
    | true =>
      refine run ?_
      refine cp (iisDigest_c c.prev) ?_
      cases h2 : dig c.prev with
      | false => refine run ?_; exact er0
      | true =>
        refine run ?_
        refine cp (iwithin_c c.gen 0 1073741824) ?_
        cases h3 : wi c.gen 0 1073741824 with
        | false => refine run ?_; exact er0
        | true =>
          refine run ?_
          refine cp (isServer_c c.home) ?_
          cases h4 : isServer c.home with
          | false => refine run ?_; exact er0
          | true =>
            refine run ?_
            refine cp (iwithin_c c.pub 1 2305843009213693950) ?_
            cases h5 : wi c.pub 1 2305843009213693950 with
            | false => refine run ?_; exact er0
            | true =>
              refine run ?_
              refine cp (isTime_c c.time) ?_
              cases h6 : isTime c.time with
              | false => refine run ?_; exact er0
              | true =>
                refine run ?_
                refine cp (rightSig_c c.sig) ?_
                refine run ?_
                exact er0
theorem rightBallot_c (b : It.Ballot) (ha : b.actor.length ≤ 140737488355328) : AC Tryz.prog 53 [ballotV b] [] (.bo (rightBallot b)) [] := by
  refine AC.enter [77, 107, 108, 109, 82, 110] [] Tryz.func53 rfl (by decide) (by decide) (Nat.le_of_ble_eq_true rfl) (by kernel_rfl) ?_; simp only [eraseC, eraseO, List.map_cons, List.map_nil, List.map_toArray, List.getElem?_toArray, List.getElem?_cons_zero, List.getElem?_cons_succ, Option.bind_some, Option.bind_none, List.append_eq, List.cons_append, List.nil_append]
  unfold rightBallot
  refine run ?_
  refine cp (isServer_c b.server) ?_
  cases h0 : isServer b.server with
  | false => refine run ?_; exact er0
  | true =>
    refine run ?_
    refine cp (idright_c b.actor ha) ?_
    cases h1 : idR b.actor with
    | false => refine run ?_; exact er0
    | true =>
      refine run ?_
      refine cp (iwithin_c b.gen 0 1073741824) ?_
      cases h2 : wi b.gen 0 1073741824 with
      | false => refine run ?_; exact er0
      | true =>
        refine run ?_
        refine cp (iisDigest_c b.claim) ?_
        cases h3 : dig b.claim with
        | false => refine run ?_; exact er0
        | true =>
          refine run ?_
          refine cp (isTime_c b.time) ?_
          cases h4 : isTime b.time with
          | false => refine run ?_; exact er0
          | true =>
            refine run ?_
            refine cp (rightSig_c b.sig) ?_
            refine run ?_
            exact er0
structure Dz (d : It.Decision) : Prop where
  actor : d.actor.length ≤ 140737488355328
  to : d.to.length ≤ 140737488355328
  tos : ∀ s ∈ d.to, s.length ≤ 140737488355328
theorem plain_eq (d : It.Decision) : plainD d = (if (d.to.length : Int) = 0 then (d.n == 0) else false) := by
  unfold plainD
  by_cases h : d.to = []
  · rw [decide_eq_true h, if_pos (by rw [h]; rfl)]
    rfl
  · rw [decide_eq_false h, if_neg (by have := List.length_pos_iff.2 h; omega)]
    rfl
set_option maxHeartbeats 8000000 in
theorem rightTerms_c (d : It.Decision) (h : Dz d) : AC Tryz.prog 111 [decisionV d] [] (.bo (rightTerms d)) [] := by
  refine AC.enter [77, 108, 139, 107] [] Tryz.func111 rfl (by decide) (by decide) (Nat.le_of_ble_eq_true rfl) (by kernel_rfl) ?_; simp only [eraseC, eraseO, List.map_cons, List.map_nil, List.map_toArray, List.getElem?_toArray, List.getElem?_cons_zero, List.getElem?_cons_succ, Option.bind_some, Option.bind_none, List.append_eq, List.cons_append, List.nil_append]
  have hn := nilD
  have hs : decide ((d.text.length : Int) ≤ 500) = short d.text := (short_eq d.text).symm
  have hl : decide ((d.text.length : Int) ≤ 4096) = decide (d.text.length ≤ 4096) := by
    rw [Bool.eq_iff_iff]
    simp only [decide_eq_true_eq]
    omega
  obtain ⟨p, hp⟩ : ∃ p, plainD d = p := ⟨_, rfl⟩
  have hpe := plain_eq d
  rw [hp] at hpe
  unfold rightTerms
  rw [hp]
  have k1 := idright_c d.actor h.actor
  have k2 := iisDigest_c d.object
  have k3 := ids_c d.to h.tos h.to
  have k4 := iwithin_c d.n 1 d.to.length
  generalize short d.text = sh at *
  generalize decide (d.text.length ≤ 4096) = lg at *
  by_cases hto : (d.to.length : Int) = 0
  focus
    rw [if_pos hto] at hpe
    have hpe := hpe.symm
  rotate_left
  focus
    rw [if_neg hto] at hpe
    subst hpe
    have hpe : d.n = d.n := rfl
  all_goals
    by_cases c1 : d.kind = 0 ∨ d.kind = 1 ∨ d.kind = 4 ∨ d.kind = 6 ∨ d.kind = 7
    focus
      rw [if_pos c1]
      rcases c1 with c | c | c | c | c
      all_goals
        refine runf (And.intro @hs (And.intro @hl @hpe)) ?_
        refine cp k1 ?_
        cases h1 : idR d.actor with
        | false => refine run ?_; exact er0
        | true =>
          by_cases h2 : d.object = []
          · try rw [decide_eq_true h2]
            refine runf (And.intro @hn @h2) ?_
            cases sh with
            | false => refine run ?_; exact er0
            | true => refine run ?_; exact er0
          · try rw [decide_eq_false h2]
            refine runf (And.intro @hn @h2) ?_
            exact er0
    rw [if_neg c1]
    by_cases c2 : d.kind = 2 ∨ d.kind = 3 ∨ d.kind = 5
    focus
      rw [if_pos c2]
      rcases c2 with c | c | c
      all_goals
        by_cases h2 : d.actor = []
        rotate_left
        · try rw [decide_eq_false h2]
          refine runf (And.intro @hs (And.intro @hl (And.intro @hpe (And.intro @hn @h2)))) ?_
          exact er0
        try rw [decide_eq_true h2]
        have h2' : (d.actor == []) = true := by rw [h2]; rfl
        refine runf (And.intro @hs (And.intro @hl (And.intro @hpe @h2'))) ?_
        refine cp k2 ?_
        cases h3 : dig d.object with
        | false => refine run ?_; exact er0
        | true =>
          cases sh with
          | false => refine run ?_; exact er0
          | true => refine run ?_; exact er0
    rw [if_neg c2]
    by_cases c3 : d.kind = 8
    focus
      rw [if_pos c3]
      by_cases h2 : d.actor = []
      rotate_left
      · try rw [decide_eq_false h2]
        refine runf (And.intro @hs (And.intro @hl (And.intro @hpe (And.intro @hn @h2)))) ?_
        exact er0
      try rw [decide_eq_true h2]
      have h2' : (d.actor == []) = true := by rw [h2]; rfl
      by_cases h3 : d.object = []
      rotate_left
      · try rw [decide_eq_false h3]
        refine runf (And.intro @hs (And.intro @hl (And.intro @hpe (And.intro @hn (And.intro @h2' @h3))))) ?_
        exact er0
      try rw [decide_eq_true h3]
      have h3' : (d.object == []) = true := by rw [h3]; rfl
      cases sh with
      | false => refine runf (And.intro @hs (And.intro @hl (And.intro @hpe (And.intro @h2' @h3')))) ?_; exact er0
      | true =>
        refine runf (And.intro @hs (And.intro @hl (And.intro @hpe (And.intro @h2' @h3')))) ?_
        refine cp k3 ?_
        cases h4 : idsR d.to with
        | false => refine run ?_; exact er0
        | true =>
          refine run ?_
          refine cp k4 ?_
          refine run ?_
          exact er0
    rw [if_neg c3]
    by_cases c4 : d.kind = 9
    focus
      rw [if_pos c4]
      by_cases h2 : d.actor = []
      rotate_left
      · try rw [decide_eq_false h2]
        refine runf (And.intro @hs (And.intro @hl (And.intro @hpe (And.intro @hn @h2)))) ?_
        exact er0
      try rw [decide_eq_true h2]
      have h2' : (d.actor == []) = true := by rw [h2]; rfl
      by_cases h3 : d.object = []
      rotate_left
      · try rw [decide_eq_false h3]
        refine runf (And.intro @hs (And.intro @hl (And.intro @hpe (And.intro @hn (And.intro @h2' @h3))))) ?_
        exact er0
      try rw [decide_eq_true h3]
      have h3' : (d.object == []) = true := by rw [h3]; rfl
      cases lg with
      | false => refine runf (And.intro @hs (And.intro @hl (And.intro @hpe (And.intro @h2' @h3')))) ?_; exact er0
      | true => refine runf (And.intro @hs (And.intro @hl (And.intro @hpe (And.intro @h2' @h3')))) ?_; exact er0
    rw [if_neg c4]
    refine runf (And.intro @hs (And.intro @hl @hpe)) ?_
    exact er0
theorem rightDecision_c (d : It.Decision) (h : Dz d) : AC Tryz.prog 54 [decisionV d] [] (.bo (rightDecision d)) [] := by
  refine AC.enter [109, 107, 82, 111, 110] [] Tryz.func54 rfl (by decide) (by decide) (Nat.le_of_ble_eq_true rfl) (by kernel_rfl) ?_; simp only [eraseC, eraseO, List.map_cons, List.map_nil, List.map_toArray, List.getElem?_toArray, List.getElem?_cons_zero, List.getElem?_cons_succ, Option.bind_some, Option.bind_none, List.append_eq, List.cons_append, List.nil_append]
  unfold rightDecision
  refine run ?_
  refine cp (isServer_c d.server) ?_
  cases h0 : isServer d.server with
  | false => refine run ?_; exact er0
  | true =>
    refine run ?_
    refine cp (iwithin_c d.number 0 1073741824) ?_
    cases h1 : wi d.number 0 1073741824 with
    | false => refine run ?_; exact er0
    | true =>
      refine run ?_
      refine cp (isTime_c d.frm) ?_
      cases h2 : isTime d.frm with
      | false => refine run ?_; exact er0
      | true =>
        refine run ?_
        refine cp (isTime_c d.til) ?_
        cases h3 : isTime d.til with
        | false => refine run ?_; exact er0
        | true =>
          by_cases h4 : d.frm < d.til
          rotate_left
          · rw [decide_eq_false h4]
            refine run ?_
            exact er0
          rw [decide_eq_true h4]
          refine run ?_
          refine cp (rightTerms_c d h) ?_
          cases h5 : rightTerms d with
          | false => refine run ?_; exact er0
          | true =>
            refine run ?_
            refine cp (rightSig_c d.sig) ?_
            refine run ?_
            exact er0
/-- sizes that memory allows -/
structure Iz (i : It.Item) : Prop where
  act : Sz i.act
  claim : i.claim.actor.length ≤ 140737488355328
  ballot : i.ballot.actor.length ≤ 140737488355328
  decision : Dz i.decision
theorem Iz.lz {i : It.Item} (h : Iz i) : Lz i := ⟨h.act.to, h.act.wraps, h.decision.to⟩
theorem lz0 : Lz item0 := ⟨by decide, by decide, by decide⟩
theorem rightI_c (i : It.Item) (h : Iz i) : AC Tryz.prog 11 [itemV i] [] (.bo (It.right i)) [] := by
  refine AC.enter [21, 52, 53, 54, 14] [] Tryz.func11 rfl (by decide) (by decide) (Nat.le_of_ble_eq_true rfl) (by kernel_rfl) ?_; simp only [eraseC, eraseO, List.map_cons, List.map_nil, List.map_toArray, List.getElem?_toArray, List.getElem?_cons_zero, List.getElem?_cons_succ, Option.bind_some, Option.bind_none, List.append_eq, List.cons_append, List.nil_append]
  have hl := h.lz
  unfold It.right rightField rest
  have lz : ∀ j : It.Item, (j.act = i.act ∨ j.act = act0) → (j.decision = i.decision ∨ j.decision = decision0) → Lz j := fun j h1 h2 => by
    refine ⟨?_, ?_, ?_⟩
    · rcases h1 with e | e <;> rw [e]; exact hl.to; exact by decide
    · rcases h1 with e | e <;> rw [e]; exact hl.wraps; exact by decide
    · rcases h2 with e | e <;> rw [e]; exact hl.dto; exact by decide
  by_cases h0 : i.kind = 0
  · rw [if_pos h0, if_pos h0]
    have ks : AC _ _ [itemV { i with kind := 0, act := act0 }, itemV item0] [] _ [] := sameI_c { i with kind := 0, act := act0 } item0 (lz _ (.inr rfl) (.inl rfl)) lz0
    refine run ?_
    refine cp (right_c i.act h.act) ?_
    cases hr : Ac.right i.act with
    | false => refine run ?_; exact er0
    | true =>
      refine run ?_
      refine cp ks ?_
      refine run ?_
      exact er0
  rw [if_neg h0, if_neg h0]
  by_cases h1 : i.kind = 1
  · rw [if_pos h1, if_pos h1]
    have ks : AC _ _ [itemV { i with kind := 0, claim := claim0 }, itemV item0] [] _ [] := sameI_c { i with kind := 0, claim := claim0 } item0 (lz _ (.inl rfl) (.inl rfl)) lz0
    refine run ?_
    refine cp (rightClaim_c i.claim h.claim) ?_
    cases hr : rightClaim i.claim with
    | false => refine run ?_; exact er0
    | true =>
      refine run ?_
      refine cp ks ?_
      refine run ?_
      exact er0
  rw [if_neg h1, if_neg h1]
  by_cases h2 : i.kind = 2
  · rw [if_pos h2, if_pos h2]
    have ks : AC _ _ [itemV { i with kind := 0, ballot := ballot0 }, itemV item0] [] _ [] := sameI_c { i with kind := 0, ballot := ballot0 } item0 (lz _ (.inl rfl) (.inl rfl)) lz0
    refine run ?_
    refine cp (rightBallot_c i.ballot h.ballot) ?_
    cases hr : rightBallot i.ballot with
    | false => refine run ?_; exact er0
    | true =>
      refine run ?_
      refine cp ks ?_
      refine run ?_
      exact er0
  rw [if_neg h2, if_neg h2]
  by_cases h3 : i.kind = 3
  · rw [if_pos h3, if_pos h3]
    have ks : AC _ _ [itemV { i with kind := 0, decision := decision0 }, itemV item0] [] _ [] := sameI_c { i with kind := 0, decision := decision0 } item0 (lz _ (.inl rfl) (.inr rfl)) lz0
    refine run ?_
    refine cp (rightDecision_c i.decision h.decision) ?_
    cases hr : rightDecision i.decision with
    | false => refine run ?_; exact er0
    | true =>
      refine run ?_
      refine cp ks ?_
      refine run ?_
      exact er0
  · rw [if_neg h3]
    refine run ?_
    exact er0
end Go.Proofs.YtnjjldhcpiehkaaGreatDoor.Pe
