/- The reference of layer 13 on plain values: which items are right, their bytes, the bytes of entries. Printed by tools/mkrfm.py. -/
import Derived.Test.YtaphpbiaoofmkaaGreatDoorRfL
import Derived.Test.YtaphpbiaoofmkaaGreatDoorRfG
set_option linter.unusedSectionVars false
set_option linter.unusedVariables false
set_option linter.unusedSimpArgs false
namespace Go.Proofs.YtaphpbiaoofmkaaGreatDoor.Pe
open Go Go.RowKit Co Sg Ac It
set_option maxRecDepth 100000
set_option maxHeartbeats 4000000
theorem ffrom_c (n lo hi : Int) : AC Tryz.prog 151 [.it .i64 n, .it .i64 lo, .it .i64 hi] [] (.bo (wi n lo hi)) [] := by
 refine AC.enter2 [] [] Tryz.func151 rfl (by decide) (by decide) (Nat.le_of_ble_eq_true rfl) (by kernel_rfl) ?_; simp only [eraseC, eraseO, List.map_cons, List.map_nil, List.map_toArray, List.getElem?_toArray, List.getElem?_cons_zero, List.getElem?_cons_succ, Option.bind_some, Option.bind_none, List.append_eq, List.cons_append, List.nil_append]
 unfold wi
 by_cases h : lo ≤ n
 ·rw [decide_eq_true h]
  refine run ?_
  exact er0
 ·rw [decide_eq_false h]
  refine run ?_
  exact er0
theorem fsig_c (s : Sig) : AC Tryz.prog 242 [sigV s] [] (.bo (sigR s)) [] := by
 refine AC.enter2 [151] [] Tryz.func242 rfl (by decide) (by decide) (Nat.le_of_ble_eq_true rfl) (by kernel_rfl) ?_; simp only [eraseC, eraseO, List.map_cons, List.map_nil, List.map_toArray, List.getElem?_toArray, List.getElem?_cons_zero, List.getElem?_cons_succ, Option.bind_some, Option.bind_none, List.append_eq, List.cons_append, List.nil_append]
 unfold sigR
 refine run ?_
 refine cp (ffrom_c s.e 0 2305843009213693949) ?_
 cases h : wi s.e 0 2305843009213693949 with
 | false =>
  refine run ?_
  exact er0
 | true =>
  refine run ?_
  refine cp (ffrom_c s.s 0 2305843009213693949) ?_
  refine run ?_
  exact er0
theorem fclaimed13_c (c : It.Claim) (ha : c.actor.length ≤ 140737488355328) : AC Tryz.prog 136 [claimV c] [] (.bo (rightClaim c)) [] := by
 refine AC.enter2 [113, 151, 242] [] Tryz.func136 rfl (by decide) (by decide) (Nat.le_of_ble_eq_true rfl) (by kernel_rfl) ?_; simp only [eraseC, eraseO, List.map_cons, List.map_nil, List.map_toArray, List.getElem?_toArray, List.getElem?_cons_zero, List.getElem?_cons_succ, Option.bind_some, Option.bind_none, List.append_eq, List.cons_append, List.nil_append]
 obtain ⟨q, hq⟩ : ∃ q, rightClaim c = q := ⟨_, rfl⟩
 rw [hq]
 unfold rightClaim at hq
 refine run ?_
 refine cp (fidright_c c.actor ha) ?_
 cases c0 : idR c.actor with
 | false =>
  obtain rfl : q = false := by rw [← hq, c0]; simp
  refine run ?_
  refine cp (ffrom_c c.base 1 1073741824) ?_
  cases n0 : wi c.base 1 1073741824 with
  | false =>
   refine run ?_
   exact er0
  | true =>
  refine run ?_
  refine cp (ffrom_c c.gen 0 1073741824) ?_
  cases n1 : wi c.gen 0 1073741824 with
  | false =>
   refine run ?_
   exact er0
  | true =>
  refine run ?_
  refine cp (ffrom_c c.home 0 19) ?_
  cases n2 : wi c.home 0 19 with
  | false =>
   refine run ?_
   exact er0
  | true =>
  refine run ?_
  refine cp (ffrom_c c.pub 1 2305843009213693950) ?_
  cases n3 : wi c.pub 1 2305843009213693950 with
  | false =>
   refine run ?_
   exact er0
  | true =>
  refine run ?_
  refine cp (ffrom_c c.time 0 1099511627776) ?_
  cases n4 : wi c.time 0 1099511627776 with
  | false =>
   refine run ?_
   exact er0
  | true =>
  refine run ?_
  exact er0
 | true =>
  refine run ?_
  refine cp (ffrom_c c.base 1 1073741824) ?_
  cases n0 : wi c.base 1 1073741824 with
  | false =>
   obtain rfl : q = false := by rw [← hq]; simp [n0, isServer, isTime]
   refine run ?_
   exact er0
  | true =>
  refine run ?_
  refine cp (ffrom_c c.gen 0 1073741824) ?_
  cases n1 : wi c.gen 0 1073741824 with
  | false =>
   obtain rfl : q = false := by rw [← hq]; simp [n1, isServer, isTime]
   refine run ?_
   exact er0
  | true =>
  refine run ?_
  refine cp (ffrom_c c.home 0 19) ?_
  cases n2 : wi c.home 0 19 with
  | false =>
   obtain rfl : q = false := by rw [← hq]; simp [n2, isServer, isTime]
   refine run ?_
   exact er0
  | true =>
  refine run ?_
  refine cp (ffrom_c c.pub 1 2305843009213693950) ?_
  cases n3 : wi c.pub 1 2305843009213693950 with
  | false =>
   obtain rfl : q = false := by rw [← hq]; simp [n3, isServer, isTime]
   refine run ?_
   exact er0
  | true =>
  refine run ?_
  refine cp (ffrom_c c.time 0 1099511627776) ?_
  cases n4 : wi c.time 0 1099511627776 with
  | false =>
   obtain rfl : q = false := by rw [← hq]; simp [n4, isServer, isTime]
   refine run ?_
   exact er0
  | true =>
  have hd := dig_eq c.prev
  cases cd : ((c.prev.length : Int) == 32) with
  | false =>
   obtain rfl : q = false := by rw [← hq, hd, cd]; simp
   refine runf @cd ?_
   exact er0
  | true =>
  obtain rfl : q = sigR c.sig := by rw [← hq, hd, cd]; simp [c0, n0, n1, n2, n3, n4, isServer, isTime]
  refine runf @cd ?_
  refine cp (fsig_c c.sig) ?_
  refine run ?_
  exact er0
theorem fvoted_c (c : It.Ballot) (ha : c.actor.length ≤ 140737488355328) : AC Tryz.prog 137 [ballotV c] [] (.bo (rightBallot c)) [] := by
 refine AC.enter2 [113, 151, 242] [] Tryz.func137 rfl (by decide) (by decide) (Nat.le_of_ble_eq_true rfl) (by kernel_rfl) ?_; simp only [eraseC, eraseO, List.map_cons, List.map_nil, List.map_toArray, List.getElem?_toArray, List.getElem?_cons_zero, List.getElem?_cons_succ, Option.bind_some, Option.bind_none, List.append_eq, List.cons_append, List.nil_append]
 obtain ⟨q, hq⟩ : ∃ q, rightBallot c = q := ⟨_, rfl⟩
 rw [hq]
 unfold rightBallot at hq
 refine run ?_
 refine cp (fidright_c c.actor ha) ?_
 cases c0 : idR c.actor with
 | false =>
  obtain rfl : q = false := by rw [← hq, c0]; simp
  refine run ?_
  refine cp (ffrom_c c.server 0 19) ?_
  cases n0 : wi c.server 0 19 with
  | false =>
   refine run ?_
   exact er0
  | true =>
  refine run ?_
  refine cp (ffrom_c c.gen 0 1073741824) ?_
  cases n1 : wi c.gen 0 1073741824 with
  | false =>
   refine run ?_
   exact er0
  | true =>
  refine run ?_
  refine cp (ffrom_c c.time 0 1099511627776) ?_
  cases n2 : wi c.time 0 1099511627776 with
  | false =>
   refine run ?_
   exact er0
  | true =>
  refine run ?_
  exact er0
 | true =>
  refine run ?_
  refine cp (ffrom_c c.server 0 19) ?_
  cases n0 : wi c.server 0 19 with
  | false =>
   obtain rfl : q = false := by rw [← hq]; simp [n0, isServer, isTime]
   refine run ?_
   exact er0
  | true =>
  refine run ?_
  refine cp (ffrom_c c.gen 0 1073741824) ?_
  cases n1 : wi c.gen 0 1073741824 with
  | false =>
   obtain rfl : q = false := by rw [← hq]; simp [n1, isServer, isTime]
   refine run ?_
   exact er0
  | true =>
  refine run ?_
  refine cp (ffrom_c c.time 0 1099511627776) ?_
  cases n2 : wi c.time 0 1099511627776 with
  | false =>
   obtain rfl : q = false := by rw [← hq]; simp [n2, isServer, isTime]
   refine run ?_
   exact er0
  | true =>
  have hd := dig_eq c.claim
  cases cd : ((c.claim.length : Int) == 32) with
  | false =>
   obtain rfl : q = false := by rw [← hq, hd, cd]; simp
   refine runf @cd ?_
   exact er0
  | true =>
  obtain rfl : q = sigR c.sig := by rw [← hq, hd, cd]; simp [c0, n0, n1, n2, isServer, isTime]
  refine runf @cd ?_
  refine cp (fsig_c c.sig) ?_
  refine run ?_
  exact er0
theorem terms_kind (d : It.Decision) (h : wi d.kind 0 9 = false) : rightTerms d = false := by
 unfold rightTerms
 have : ¬ (0 ≤ d.kind ∧ d.kind ≤ 9) := fun e => by rw [wi_iff.2 e] at h; cases h
 rw [if_neg (by omega), if_neg (by omega), if_neg (by omega), if_neg (by omega)]
theorem fdecided_c (d : It.Decision) (ha : d.actor.length ≤ 140737488355328) (hts : ∀ s ∈ d.to, s.length ≤ 140737488355328) (htl : d.to.length ≤ 140737488355328) : AC Tryz.prog 138 [decisionV d] [] (.bo (rightDecision d)) [] := by
 refine AC.enter2 [113, 231, 151, 242] [] Tryz.func138 rfl (by decide) (by decide) (Nat.le_of_ble_eq_true rfl) (by kernel_rfl) ?_; simp only [eraseC, eraseO, List.map_cons, List.map_nil, List.map_toArray, List.getElem?_toArray, List.getElem?_cons_zero, List.getElem?_cons_succ, Option.bind_some, Option.bind_none, List.append_eq, List.cons_append, List.nil_append]
 obtain ⟨q, hq⟩ : ∃ q, rightDecision d = q := ⟨_, rfl⟩
 rw [hq]
 unfold rightDecision at hq
 have hn := nilD
 have hl := lenD d.to
 have hs := short_eq d.text
 refine run ?_
 refine cp (ffrom_c d.server 0 19) ?_
 cases n0 : wi d.server 0 19 with
 | false =>
  obtain rfl : q = false := by rw [← hq]; simp [n0, isServer, isTime]
  refine run ?_
  exact er0
 | true =>
 refine run ?_
 refine cp (ffrom_c d.number 0 1073741824) ?_
 cases n1 : wi d.number 0 1073741824 with
 | false =>
  obtain rfl : q = false := by rw [← hq]; simp [n1, isServer, isTime]
  refine run ?_
  exact er0
 | true =>
 refine run ?_
 refine cp (ffrom_c d.kind 0 9) ?_
 cases n2 : wi d.kind 0 9 with
 | false =>
  obtain rfl : q = false := by rw [← hq]; simp [terms_kind d n2]
  refine run ?_
  exact er0
 | true =>
 refine run ?_
 refine cp (ffrom_c d.frm 0 1099511627776) ?_
 cases n3 : wi d.frm 0 1099511627776 with
 | false =>
  obtain rfl : q = false := by rw [← hq]; simp [n3, isServer, isTime]
  refine run ?_
  exact er0
 | true =>
 refine run ?_
 refine cp (ffrom_c d.til 0 1099511627776) ?_
 cases n4 : wi d.til 0 1099511627776 with
 | false =>
  obtain rfl : q = false := by rw [← hq]; simp [n4, isServer, isTime]
  refine run ?_
  exact er0
 | true =>
 by_cases hft : d.frm < d.til
 rotate_left
 ·obtain rfl : q = false := by rw [← hq, decide_eq_false hft]; simp
  refine run ?_
  exact er0
 refine run ?_
 refine cp (fsig_c d.sig) ?_
 cases cs : sigR d.sig with
 | false =>
  obtain rfl : q = false := by rw [← hq, cs]; simp
  refine run ?_
  exact er0
 | true =>
 have hk := wi_iff.1 n2
 obtain rfl : q = rightTerms d := by rw [← hq, cs, decide_eq_true hft]; simp [n0, n1, n3, n4, isServer, isTime]
 clear hq
 obtain ⟨pl, hpl⟩ : ∃ pl, plainD d = pl := ⟨_, rfl⟩
 have hks : d.kind = 0 ∨ d.kind = 1 ∨ d.kind = 2 ∨ d.kind = 3 ∨ d.kind = 4 ∨ d.kind = 5 ∨ d.kind = 6 ∨ d.kind = 7 ∨ d.kind = 8 ∨ d.kind = 9 := by omega
 rcases hks with hk | hk | hk | hk | hk | hk | hk | hk | hk | hk
 ·have hv : rightTerms d = (idR d.actor && decide (d.object = []) && decide ((d.text.length : Int) ≤ 500) && plainD d) := by
   unfold rightTerms
   rw [if_pos (by omega), hs]
  rw [hv]
  cases ct : decide (d.to = []) with
  | false =>
   have hp : plainD d = false := by unfold plainD; rw [ct]; rfl
   rw [hp]
   refine runf (an @hn (an @hl @ct)) ?_
   refine cp (fidright_c d.actor ha) ?_
   cases c0 : idR d.actor with
   | false =>
    refine runf (an @hn (an @hl @ct)) ?_
    exact er0
   | true =>
   cases c1 : decide (d.object = []) with
   | false =>
    refine runf (an @hn (an @hl (an @ct @c1))) ?_
    exact er0
   | true =>
   cases c2 : decide ((d.text.length : Int) ≤ 500) with
   | false =>
    refine runf (an @hn (an @hl (an @c1 (an @ct @c2)))) ?_
    exact er0
   | true =>
   refine runf (an @hn (an @hl (an @c1 (an @c2 @ct)))) ?_
   exact er0
  | true =>
  by_cases hN : d.n = 0
  ·have hp : plainD d = true := by unfold plainD; rw [ct, decide_eq_true hN]; rfl
   rw [hp]
   refine runf (an @hn (an @hl @ct)) ?_
   refine cp (fidright_c d.actor ha) ?_
   cases c0 : idR d.actor with
   | false =>
    refine runf (an @hn (an @hl @ct)) ?_
    exact er0
   | true =>
   cases c1 : decide (d.object = []) with
   | false =>
    refine runf (an @hn (an @hl (an @ct @c1))) ?_
    exact er0
   | true =>
   cases c2 : decide ((d.text.length : Int) ≤ 500) with
   | false =>
    refine runf (an @hn (an @hl (an @c1 (an @ct @c2)))) ?_
    exact er0
   | true =>
   refine runf (an @hn (an @hl (an @c1 (an @c2 @ct)))) ?_
   exact er0
  ·have hp : plainD d = false := by unfold plainD; rw [decide_eq_false hN, Bool.and_false]
   rw [hp]
   refine runf (an @hn (an @hl @ct)) ?_
   refine cp (fidright_c d.actor ha) ?_
   cases c0 : idR d.actor with
   | false =>
    refine runf (an @hn (an @hl @ct)) ?_
    exact er0
   | true =>
   cases c1 : decide (d.object = []) with
   | false =>
    refine runf (an @hn (an @hl (an @ct @c1))) ?_
    exact er0
   | true =>
   cases c2 : decide ((d.text.length : Int) ≤ 500) with
   | false =>
    refine runf (an @hn (an @hl (an @c1 (an @ct @c2)))) ?_
    exact er0
   | true =>
   refine runf (an @hn (an @hl (an @c1 (an @c2 @ct)))) ?_
   exact er0
 ·have hv : rightTerms d = (idR d.actor && decide (d.object = []) && decide ((d.text.length : Int) ≤ 500) && plainD d) := by
   unfold rightTerms
   rw [if_pos (by omega), hs]
  rw [hv]
  cases ct : decide (d.to = []) with
  | false =>
   have hp : plainD d = false := by unfold plainD; rw [ct]; rfl
   rw [hp]
   refine runf (an @hn (an @hl @ct)) ?_
   refine cp (fidright_c d.actor ha) ?_
   cases c0 : idR d.actor with
   | false =>
    refine runf (an @hn (an @hl @ct)) ?_
    exact er0
   | true =>
   cases c1 : decide (d.object = []) with
   | false =>
    refine runf (an @hn (an @hl (an @ct @c1))) ?_
    exact er0
   | true =>
   cases c2 : decide ((d.text.length : Int) ≤ 500) with
   | false =>
    refine runf (an @hn (an @hl (an @c1 (an @ct @c2)))) ?_
    exact er0
   | true =>
   refine runf (an @hn (an @hl (an @c1 (an @c2 @ct)))) ?_
   exact er0
  | true =>
  by_cases hN : d.n = 0
  ·have hp : plainD d = true := by unfold plainD; rw [ct, decide_eq_true hN]; rfl
   rw [hp]
   refine runf (an @hn (an @hl @ct)) ?_
   refine cp (fidright_c d.actor ha) ?_
   cases c0 : idR d.actor with
   | false =>
    refine runf (an @hn (an @hl @ct)) ?_
    exact er0
   | true =>
   cases c1 : decide (d.object = []) with
   | false =>
    refine runf (an @hn (an @hl (an @ct @c1))) ?_
    exact er0
   | true =>
   cases c2 : decide ((d.text.length : Int) ≤ 500) with
   | false =>
    refine runf (an @hn (an @hl (an @c1 (an @ct @c2)))) ?_
    exact er0
   | true =>
   refine runf (an @hn (an @hl (an @c1 (an @c2 @ct)))) ?_
   exact er0
  ·have hp : plainD d = false := by unfold plainD; rw [decide_eq_false hN, Bool.and_false]
   rw [hp]
   refine runf (an @hn (an @hl @ct)) ?_
   refine cp (fidright_c d.actor ha) ?_
   cases c0 : idR d.actor with
   | false =>
    refine runf (an @hn (an @hl @ct)) ?_
    exact er0
   | true =>
   cases c1 : decide (d.object = []) with
   | false =>
    refine runf (an @hn (an @hl (an @ct @c1))) ?_
    exact er0
   | true =>
   cases c2 : decide ((d.text.length : Int) ≤ 500) with
   | false =>
    refine runf (an @hn (an @hl (an @c1 (an @ct @c2)))) ?_
    exact er0
   | true =>
   refine runf (an @hn (an @hl (an @c1 (an @c2 @ct)))) ?_
   exact er0
 ·have hv : rightTerms d = (decide (d.actor = []) && dig d.object && decide ((d.text.length : Int) ≤ 500) && plainD d) := by
   unfold rightTerms
   rw [if_neg (by omega), if_pos (by omega), hs]
  rw [hv]
  cases ct : decide (d.to = []) with
  | false =>
   have hp : plainD d = false := by unfold plainD; rw [ct]; rfl
   rw [hp]
   cases c0 : decide (d.actor = []) with
   | false =>
    refine runf (an @hn (an @hl (an @ct @c0))) ?_
    exact er0
   | true =>
   rw [dig_eq]
   cases c1 : ((d.object.length : Int) == 32) with
   | false =>
    refine runf (an @hn (an @hl (an @c0 (an @ct @c1)))) ?_
    exact er0
   | true =>
   cases c2 : decide ((d.text.length : Int) ≤ 500) with
   | false =>
    refine runf (an @hn (an @hl (an @c0 (an @c1 (an @ct @c2))))) ?_
    exact er0
   | true =>
   refine runf (an @hn (an @hl (an @c0 (an @c1 (an @c2 @ct))))) ?_
   exact er0
  | true =>
  by_cases hN : d.n = 0
  ·have hp : plainD d = true := by unfold plainD; rw [ct, decide_eq_true hN]; rfl
   rw [hp]
   cases c0 : decide (d.actor = []) with
   | false =>
    refine runf (an @hn (an @hl (an @ct @c0))) ?_
    exact er0
   | true =>
   rw [dig_eq]
   cases c1 : ((d.object.length : Int) == 32) with
   | false =>
    refine runf (an @hn (an @hl (an @c0 (an @ct @c1)))) ?_
    exact er0
   | true =>
   cases c2 : decide ((d.text.length : Int) ≤ 500) with
   | false =>
    refine runf (an @hn (an @hl (an @c0 (an @c1 (an @ct @c2))))) ?_
    exact er0
   | true =>
   refine runf (an @hn (an @hl (an @c0 (an @c1 (an @c2 @ct))))) ?_
   exact er0
  ·have hp : plainD d = false := by unfold plainD; rw [decide_eq_false hN, Bool.and_false]
   rw [hp]
   cases c0 : decide (d.actor = []) with
   | false =>
    refine runf (an @hn (an @hl (an @ct @c0))) ?_
    exact er0
   | true =>
   rw [dig_eq]
   cases c1 : ((d.object.length : Int) == 32) with
   | false =>
    refine runf (an @hn (an @hl (an @c0 (an @ct @c1)))) ?_
    exact er0
   | true =>
   cases c2 : decide ((d.text.length : Int) ≤ 500) with
   | false =>
    refine runf (an @hn (an @hl (an @c0 (an @c1 (an @ct @c2))))) ?_
    exact er0
   | true =>
   refine runf (an @hn (an @hl (an @c0 (an @c1 (an @c2 @ct))))) ?_
   exact er0
 ·have hv : rightTerms d = (decide (d.actor = []) && dig d.object && decide ((d.text.length : Int) ≤ 500) && plainD d) := by
   unfold rightTerms
   rw [if_neg (by omega), if_pos (by omega), hs]
  rw [hv]
  cases ct : decide (d.to = []) with
  | false =>
   have hp : plainD d = false := by unfold plainD; rw [ct]; rfl
   rw [hp]
   cases c0 : decide (d.actor = []) with
   | false =>
    refine runf (an @hn (an @hl (an @ct @c0))) ?_
    exact er0
   | true =>
   rw [dig_eq]
   cases c1 : ((d.object.length : Int) == 32) with
   | false =>
    refine runf (an @hn (an @hl (an @c0 (an @ct @c1)))) ?_
    exact er0
   | true =>
   cases c2 : decide ((d.text.length : Int) ≤ 500) with
   | false =>
    refine runf (an @hn (an @hl (an @c0 (an @c1 (an @ct @c2))))) ?_
    exact er0
   | true =>
   refine runf (an @hn (an @hl (an @c0 (an @c1 (an @c2 @ct))))) ?_
   exact er0
  | true =>
  by_cases hN : d.n = 0
  ·have hp : plainD d = true := by unfold plainD; rw [ct, decide_eq_true hN]; rfl
   rw [hp]
   cases c0 : decide (d.actor = []) with
   | false =>
    refine runf (an @hn (an @hl (an @ct @c0))) ?_
    exact er0
   | true =>
   rw [dig_eq]
   cases c1 : ((d.object.length : Int) == 32) with
   | false =>
    refine runf (an @hn (an @hl (an @c0 (an @ct @c1)))) ?_
    exact er0
   | true =>
   cases c2 : decide ((d.text.length : Int) ≤ 500) with
   | false =>
    refine runf (an @hn (an @hl (an @c0 (an @c1 (an @ct @c2))))) ?_
    exact er0
   | true =>
   refine runf (an @hn (an @hl (an @c0 (an @c1 (an @c2 @ct))))) ?_
   exact er0
  ·have hp : plainD d = false := by unfold plainD; rw [decide_eq_false hN, Bool.and_false]
   rw [hp]
   cases c0 : decide (d.actor = []) with
   | false =>
    refine runf (an @hn (an @hl (an @ct @c0))) ?_
    exact er0
   | true =>
   rw [dig_eq]
   cases c1 : ((d.object.length : Int) == 32) with
   | false =>
    refine runf (an @hn (an @hl (an @c0 (an @ct @c1)))) ?_
    exact er0
   | true =>
   cases c2 : decide ((d.text.length : Int) ≤ 500) with
   | false =>
    refine runf (an @hn (an @hl (an @c0 (an @c1 (an @ct @c2))))) ?_
    exact er0
   | true =>
   refine runf (an @hn (an @hl (an @c0 (an @c1 (an @c2 @ct))))) ?_
   exact er0
 ·have hv : rightTerms d = (idR d.actor && decide (d.object = []) && decide ((d.text.length : Int) ≤ 500) && plainD d) := by
   unfold rightTerms
   rw [if_pos (by omega), hs]
  rw [hv]
  cases ct : decide (d.to = []) with
  | false =>
   have hp : plainD d = false := by unfold plainD; rw [ct]; rfl
   rw [hp]
   refine runf (an @hn (an @hl @ct)) ?_
   refine cp (fidright_c d.actor ha) ?_
   cases c0 : idR d.actor with
   | false =>
    refine runf (an @hn (an @hl @ct)) ?_
    exact er0
   | true =>
   cases c1 : decide (d.object = []) with
   | false =>
    refine runf (an @hn (an @hl (an @ct @c1))) ?_
    exact er0
   | true =>
   cases c2 : decide ((d.text.length : Int) ≤ 500) with
   | false =>
    refine runf (an @hn (an @hl (an @c1 (an @ct @c2)))) ?_
    exact er0
   | true =>
   refine runf (an @hn (an @hl (an @c1 (an @c2 @ct)))) ?_
   exact er0
  | true =>
  by_cases hN : d.n = 0
  ·have hp : plainD d = true := by unfold plainD; rw [ct, decide_eq_true hN]; rfl
   rw [hp]
   refine runf (an @hn (an @hl @ct)) ?_
   refine cp (fidright_c d.actor ha) ?_
   cases c0 : idR d.actor with
   | false =>
    refine runf (an @hn (an @hl @ct)) ?_
    exact er0
   | true =>
   cases c1 : decide (d.object = []) with
   | false =>
    refine runf (an @hn (an @hl (an @ct @c1))) ?_
    exact er0
   | true =>
   cases c2 : decide ((d.text.length : Int) ≤ 500) with
   | false =>
    refine runf (an @hn (an @hl (an @c1 (an @ct @c2)))) ?_
    exact er0
   | true =>
   refine runf (an @hn (an @hl (an @c1 (an @c2 @ct)))) ?_
   exact er0
  ·have hp : plainD d = false := by unfold plainD; rw [decide_eq_false hN, Bool.and_false]
   rw [hp]
   refine runf (an @hn (an @hl @ct)) ?_
   refine cp (fidright_c d.actor ha) ?_
   cases c0 : idR d.actor with
   | false =>
    refine runf (an @hn (an @hl @ct)) ?_
    exact er0
   | true =>
   cases c1 : decide (d.object = []) with
   | false =>
    refine runf (an @hn (an @hl (an @ct @c1))) ?_
    exact er0
   | true =>
   cases c2 : decide ((d.text.length : Int) ≤ 500) with
   | false =>
    refine runf (an @hn (an @hl (an @c1 (an @ct @c2)))) ?_
    exact er0
   | true =>
   refine runf (an @hn (an @hl (an @c1 (an @c2 @ct)))) ?_
   exact er0
 ·have hv : rightTerms d = (decide (d.actor = []) && dig d.object && decide ((d.text.length : Int) ≤ 500) && plainD d) := by
   unfold rightTerms
   rw [if_neg (by omega), if_pos (by omega), hs]
  rw [hv]
  cases ct : decide (d.to = []) with
  | false =>
   have hp : plainD d = false := by unfold plainD; rw [ct]; rfl
   rw [hp]
   cases c0 : decide (d.actor = []) with
   | false =>
    refine runf (an @hn (an @hl (an @ct @c0))) ?_
    exact er0
   | true =>
   rw [dig_eq]
   cases c1 : ((d.object.length : Int) == 32) with
   | false =>
    refine runf (an @hn (an @hl (an @c0 (an @ct @c1)))) ?_
    exact er0
   | true =>
   cases c2 : decide ((d.text.length : Int) ≤ 500) with
   | false =>
    refine runf (an @hn (an @hl (an @c0 (an @c1 (an @ct @c2))))) ?_
    exact er0
   | true =>
   refine runf (an @hn (an @hl (an @c0 (an @c1 (an @c2 @ct))))) ?_
   exact er0
  | true =>
  by_cases hN : d.n = 0
  ·have hp : plainD d = true := by unfold plainD; rw [ct, decide_eq_true hN]; rfl
   rw [hp]
   cases c0 : decide (d.actor = []) with
   | false =>
    refine runf (an @hn (an @hl (an @ct @c0))) ?_
    exact er0
   | true =>
   rw [dig_eq]
   cases c1 : ((d.object.length : Int) == 32) with
   | false =>
    refine runf (an @hn (an @hl (an @c0 (an @ct @c1)))) ?_
    exact er0
   | true =>
   cases c2 : decide ((d.text.length : Int) ≤ 500) with
   | false =>
    refine runf (an @hn (an @hl (an @c0 (an @c1 (an @ct @c2))))) ?_
    exact er0
   | true =>
   refine runf (an @hn (an @hl (an @c0 (an @c1 (an @c2 @ct))))) ?_
   exact er0
  ·have hp : plainD d = false := by unfold plainD; rw [decide_eq_false hN, Bool.and_false]
   rw [hp]
   cases c0 : decide (d.actor = []) with
   | false =>
    refine runf (an @hn (an @hl (an @ct @c0))) ?_
    exact er0
   | true =>
   rw [dig_eq]
   cases c1 : ((d.object.length : Int) == 32) with
   | false =>
    refine runf (an @hn (an @hl (an @c0 (an @ct @c1)))) ?_
    exact er0
   | true =>
   cases c2 : decide ((d.text.length : Int) ≤ 500) with
   | false =>
    refine runf (an @hn (an @hl (an @c0 (an @c1 (an @ct @c2))))) ?_
    exact er0
   | true =>
   refine runf (an @hn (an @hl (an @c0 (an @c1 (an @c2 @ct))))) ?_
   exact er0
 ·have hv : rightTerms d = (idR d.actor && decide (d.object = []) && decide ((d.text.length : Int) ≤ 500) && plainD d) := by
   unfold rightTerms
   rw [if_pos (by omega), hs]
  rw [hv]
  cases ct : decide (d.to = []) with
  | false =>
   have hp : plainD d = false := by unfold plainD; rw [ct]; rfl
   rw [hp]
   refine runf (an @hn (an @hl @ct)) ?_
   refine cp (fidright_c d.actor ha) ?_
   cases c0 : idR d.actor with
   | false =>
    refine runf (an @hn (an @hl @ct)) ?_
    exact er0
   | true =>
   cases c1 : decide (d.object = []) with
   | false =>
    refine runf (an @hn (an @hl (an @ct @c1))) ?_
    exact er0
   | true =>
   cases c2 : decide ((d.text.length : Int) ≤ 500) with
   | false =>
    refine runf (an @hn (an @hl (an @c1 (an @ct @c2)))) ?_
    exact er0
   | true =>
   refine runf (an @hn (an @hl (an @c1 (an @c2 @ct)))) ?_
   exact er0
  | true =>
  by_cases hN : d.n = 0
  ·have hp : plainD d = true := by unfold plainD; rw [ct, decide_eq_true hN]; rfl
   rw [hp]
   refine runf (an @hn (an @hl @ct)) ?_
   refine cp (fidright_c d.actor ha) ?_
   cases c0 : idR d.actor with
   | false =>
    refine runf (an @hn (an @hl @ct)) ?_
    exact er0
   | true =>
   cases c1 : decide (d.object = []) with
   | false =>
    refine runf (an @hn (an @hl (an @ct @c1))) ?_
    exact er0
   | true =>
   cases c2 : decide ((d.text.length : Int) ≤ 500) with
   | false =>
    refine runf (an @hn (an @hl (an @c1 (an @ct @c2)))) ?_
    exact er0
   | true =>
   refine runf (an @hn (an @hl (an @c1 (an @c2 @ct)))) ?_
   exact er0
  ·have hp : plainD d = false := by unfold plainD; rw [decide_eq_false hN, Bool.and_false]
   rw [hp]
   refine runf (an @hn (an @hl @ct)) ?_
   refine cp (fidright_c d.actor ha) ?_
   cases c0 : idR d.actor with
   | false =>
    refine runf (an @hn (an @hl @ct)) ?_
    exact er0
   | true =>
   cases c1 : decide (d.object = []) with
   | false =>
    refine runf (an @hn (an @hl (an @ct @c1))) ?_
    exact er0
   | true =>
   cases c2 : decide ((d.text.length : Int) ≤ 500) with
   | false =>
    refine runf (an @hn (an @hl (an @c1 (an @ct @c2)))) ?_
    exact er0
   | true =>
   refine runf (an @hn (an @hl (an @c1 (an @c2 @ct)))) ?_
   exact er0
 ·have hv : rightTerms d = (idR d.actor && decide (d.object = []) && decide ((d.text.length : Int) ≤ 500) && plainD d) := by
   unfold rightTerms
   rw [if_pos (by omega), hs]
  rw [hv]
  cases ct : decide (d.to = []) with
  | false =>
   have hp : plainD d = false := by unfold plainD; rw [ct]; rfl
   rw [hp]
   refine runf (an @hn (an @hl @ct)) ?_
   refine cp (fidright_c d.actor ha) ?_
   cases c0 : idR d.actor with
   | false =>
    refine runf (an @hn (an @hl @ct)) ?_
    exact er0
   | true =>
   cases c1 : decide (d.object = []) with
   | false =>
    refine runf (an @hn (an @hl (an @ct @c1))) ?_
    exact er0
   | true =>
   cases c2 : decide ((d.text.length : Int) ≤ 500) with
   | false =>
    refine runf (an @hn (an @hl (an @c1 (an @ct @c2)))) ?_
    exact er0
   | true =>
   refine runf (an @hn (an @hl (an @c1 (an @c2 @ct)))) ?_
   exact er0
  | true =>
  by_cases hN : d.n = 0
  ·have hp : plainD d = true := by unfold plainD; rw [ct, decide_eq_true hN]; rfl
   rw [hp]
   refine runf (an @hn (an @hl @ct)) ?_
   refine cp (fidright_c d.actor ha) ?_
   cases c0 : idR d.actor with
   | false =>
    refine runf (an @hn (an @hl @ct)) ?_
    exact er0
   | true =>
   cases c1 : decide (d.object = []) with
   | false =>
    refine runf (an @hn (an @hl (an @ct @c1))) ?_
    exact er0
   | true =>
   cases c2 : decide ((d.text.length : Int) ≤ 500) with
   | false =>
    refine runf (an @hn (an @hl (an @c1 (an @ct @c2)))) ?_
    exact er0
   | true =>
   refine runf (an @hn (an @hl (an @c1 (an @c2 @ct)))) ?_
   exact er0
  ·have hp : plainD d = false := by unfold plainD; rw [decide_eq_false hN, Bool.and_false]
   rw [hp]
   refine runf (an @hn (an @hl @ct)) ?_
   refine cp (fidright_c d.actor ha) ?_
   cases c0 : idR d.actor with
   | false =>
    refine runf (an @hn (an @hl @ct)) ?_
    exact er0
   | true =>
   cases c1 : decide (d.object = []) with
   | false =>
    refine runf (an @hn (an @hl (an @ct @c1))) ?_
    exact er0
   | true =>
   cases c2 : decide ((d.text.length : Int) ≤ 500) with
   | false =>
    refine runf (an @hn (an @hl (an @c1 (an @ct @c2)))) ?_
    exact er0
   | true =>
   refine runf (an @hn (an @hl (an @c1 (an @c2 @ct)))) ?_
   exact er0
 ·have hv : rightTerms d = (decide (d.actor = []) && decide (d.object = []) && decide ((d.text.length : Int) ≤ 500) && idsR d.to && wi d.n 1 d.to.length) := by
   unfold rightTerms
   rw [if_neg (by omega), if_neg (by omega), if_pos (by omega), hs]
  rw [hv]
  cases ct : decide (d.to = []) with
  | false =>
   refine runf (an @hn (an @hl @ct)) ?_
   refine cp (fids_c d.to hts htl) ?_
   cases c0 : idsR d.to with
   | false =>
    cases c1 : decide (d.actor = []) with
    | false =>
     refine runf (an @hn (an @hl (an @ct @c1))) ?_
     exact er0
    | true =>
    cases c2 : decide (d.object = []) with
    | false =>
     refine runf (an @hn (an @hl (an @ct (an @c1 @c2)))) ?_
     exact er0
    | true =>
    cases c3 : decide ((d.text.length : Int) ≤ 500) with
    | false =>
     refine runf (an @hn (an @hl (an @ct (an @c1 (an @c2 @c3))))) ?_
     exact er0
    | true =>
    refine runf (an @hn (an @hl (an @ct (an @c1 (an @c2 @c3))))) ?_
    exact er0
   | true =>
    cases c1 : decide (d.actor = []) with
    | false =>
     refine runf (an @hn (an @hl (an @ct @c1))) ?_
     exact er0
    | true =>
    cases c2 : decide (d.object = []) with
    | false =>
     refine runf (an @hn (an @hl (an @ct (an @c1 @c2)))) ?_
     exact er0
    | true =>
    cases c3 : decide ((d.text.length : Int) ≤ 500) with
    | false =>
     refine runf (an @hn (an @hl (an @ct (an @c1 (an @c2 @c3))))) ?_
     exact er0
    | true =>
    refine runf (an @hn (an @hl (an @ct (an @c1 (an @c2 @c3))))) ?_
    refine cp (ffrom_c d.n 1 d.to.length) ?_
    refine run ?_
    exact er0
  | true =>
  by_cases hN : d.n = 0
  ·skip
   refine runf (an @hn (an @hl @ct)) ?_
   refine cp (fids_c d.to hts htl) ?_
   cases c0 : idsR d.to with
   | false =>
    cases c1 : decide (d.actor = []) with
    | false =>
     refine runf (an @hn (an @hl (an @ct @c1))) ?_
     exact er0
    | true =>
    cases c2 : decide (d.object = []) with
    | false =>
     refine runf (an @hn (an @hl (an @ct (an @c1 @c2)))) ?_
     exact er0
    | true =>
    cases c3 : decide ((d.text.length : Int) ≤ 500) with
    | false =>
     refine runf (an @hn (an @hl (an @ct (an @c1 (an @c2 @c3))))) ?_
     exact er0
    | true =>
    refine runf (an @hn (an @hl (an @ct (an @c1 (an @c2 @c3))))) ?_
    exact er0
   | true =>
    cases c1 : decide (d.actor = []) with
    | false =>
     refine runf (an @hn (an @hl (an @ct @c1))) ?_
     exact er0
    | true =>
    cases c2 : decide (d.object = []) with
    | false =>
     refine runf (an @hn (an @hl (an @ct (an @c1 @c2)))) ?_
     exact er0
    | true =>
    cases c3 : decide ((d.text.length : Int) ≤ 500) with
    | false =>
     refine runf (an @hn (an @hl (an @ct (an @c1 (an @c2 @c3))))) ?_
     exact er0
    | true =>
    refine runf (an @hn (an @hl (an @ct (an @c1 (an @c2 @c3))))) ?_
    refine cp (ffrom_c d.n 1 d.to.length) ?_
    refine run ?_
    exact er0
  ·skip
   refine runf (an @hn (an @hl @ct)) ?_
   refine cp (fids_c d.to hts htl) ?_
   cases c0 : idsR d.to with
   | false =>
    cases c1 : decide (d.actor = []) with
    | false =>
     refine runf (an @hn (an @hl (an @ct @c1))) ?_
     exact er0
    | true =>
    cases c2 : decide (d.object = []) with
    | false =>
     refine runf (an @hn (an @hl (an @ct (an @c1 @c2)))) ?_
     exact er0
    | true =>
    cases c3 : decide ((d.text.length : Int) ≤ 500) with
    | false =>
     refine runf (an @hn (an @hl (an @ct (an @c1 (an @c2 @c3))))) ?_
     exact er0
    | true =>
    refine runf (an @hn (an @hl (an @ct (an @c1 (an @c2 @c3))))) ?_
    exact er0
   | true =>
    cases c1 : decide (d.actor = []) with
    | false =>
     refine runf (an @hn (an @hl (an @ct @c1))) ?_
     exact er0
    | true =>
    cases c2 : decide (d.object = []) with
    | false =>
     refine runf (an @hn (an @hl (an @ct (an @c1 @c2)))) ?_
     exact er0
    | true =>
    cases c3 : decide ((d.text.length : Int) ≤ 500) with
    | false =>
     refine runf (an @hn (an @hl (an @ct (an @c1 (an @c2 @c3))))) ?_
     exact er0
    | true =>
    refine runf (an @hn (an @hl (an @ct (an @c1 (an @c2 @c3))))) ?_
    refine cp (ffrom_c d.n 1 d.to.length) ?_
    refine run ?_
    exact er0
 ·have hv : rightTerms d = (decide (d.actor = []) && decide (d.object = []) && decide ((d.text.length : Int) ≤ 4096) && plainD d) := by
   unfold rightTerms
   rw [if_neg (by omega), if_neg (by omega), if_neg (by omega), if_pos (by omega), show decide (d.text.length ≤ 4096) = decide ((d.text.length : Int) ≤ 4096) by rw [Bool.eq_iff_iff]; simp only [decide_eq_true_eq]; omega]
  rw [hv]
  cases ct : decide (d.to = []) with
  | false =>
   have hp : plainD d = false := by unfold plainD; rw [ct]; rfl
   rw [hp]
   cases c0 : decide (d.actor = []) with
   | false =>
    refine runf (an @hn (an @hl (an @ct @c0))) ?_
    exact er0
   | true =>
   cases c1 : decide (d.object = []) with
   | false =>
    refine runf (an @hn (an @hl (an @c0 (an @ct @c1)))) ?_
    exact er0
   | true =>
   cases c2 : decide ((d.text.length : Int) ≤ 4096) with
   | false =>
    refine runf (an @hn (an @hl (an @c0 (an @c1 (an @ct @c2))))) ?_
    exact er0
   | true =>
   refine runf (an @hn (an @hl (an @c0 (an @c1 (an @c2 @ct))))) ?_
   exact er0
  | true =>
  by_cases hN : d.n = 0
  ·have hp : plainD d = true := by unfold plainD; rw [ct, decide_eq_true hN]; rfl
   rw [hp]
   cases c0 : decide (d.actor = []) with
   | false =>
    refine runf (an @hn (an @hl (an @ct @c0))) ?_
    exact er0
   | true =>
   cases c1 : decide (d.object = []) with
   | false =>
    refine runf (an @hn (an @hl (an @c0 (an @ct @c1)))) ?_
    exact er0
   | true =>
   cases c2 : decide ((d.text.length : Int) ≤ 4096) with
   | false =>
    refine runf (an @hn (an @hl (an @c0 (an @c1 (an @ct @c2))))) ?_
    exact er0
   | true =>
   refine runf (an @hn (an @hl (an @c0 (an @c1 (an @c2 @ct))))) ?_
   exact er0
  ·have hp : plainD d = false := by unfold plainD; rw [decide_eq_false hN, Bool.and_false]
   rw [hp]
   cases c0 : decide (d.actor = []) with
   | false =>
    refine runf (an @hn (an @hl (an @ct @c0))) ?_
    exact er0
   | true =>
   cases c1 : decide (d.object = []) with
   | false =>
    refine runf (an @hn (an @hl (an @c0 (an @ct @c1)))) ?_
    exact er0
   | true =>
   cases c2 : decide ((d.text.length : Int) ≤ 4096) with
   | false =>
    refine runf (an @hn (an @hl (an @c0 (an @c1 (an @ct @c2))))) ?_
    exact er0
   | true =>
   refine runf (an @hn (an @hl (an @c0 (an @c1 (an @c2 @ct))))) ?_
   exact er0
theorem claim_eqb (c : It.Claim) : (c.actor == [] && (c.base == 0 && (c.prev == [] && (c.gen == 0 && (c.home == 0 && (c.pub == 0 && (c.time == 0 && (c.sig.e == 0 && c.sig.s == 0)))))))) = decide (c = claim0) := by
 obtain ⟨a, b, p, g, h, u, t, ⟨x, y⟩⟩ := c
 rw [Bool.eq_iff_iff]
 simp [claim0, sig0]
theorem ballot_eqb (c : It.Ballot) : (c.server == 0 && (c.actor == [] && (c.gen == 0 && (c.claim == [] && (c.time == 0 && (c.sig.e == 0 && c.sig.s == 0)))))) = decide (c = ballot0) := by
 obtain ⟨s, a, g, h, t, ⟨x, y⟩⟩ := c
 rw [Bool.eq_iff_iff]
 simp [ballot0, sig0]
theorem fright13_c (i : It.Item) (h : Iz i) : AC Tryz.prog 37 [itemV i] [] (.bo (It.right i)) [] := by
 refine AC.enter2 [16, 132, 20, 136, 137, 138] [] Tryz.func37 rfl (by decide) (by decide) (Nat.le_of_ble_eq_true rfl) (by kernel_rfl) ?_; simp only [eraseC, eraseO, List.map_cons, List.map_nil, List.map_toArray, List.getElem?_toArray, List.getElem?_cons_zero, List.getElem?_cons_succ, Option.bind_some, Option.bind_none, List.append_eq, List.cons_append, List.nil_append]
 have lz := h.lz
 have k1 := fsame12_c i.act act0 ⟨lz.to, lz.wraps⟩ ⟨by decide, by decide⟩
 have k4 := fsameDecision_c i.decision decision0 lz.dto (by decide)
 have e1 := claim_eqb i.claim
 have e2 := ballot_eqb i.ballot
 refine run ?_
 refine cp k1 ?_
 refine runf (an @e1 @e2) ?_
 refine cp k4 ?_
 by_cases h0 : i.kind = 0
 ·have hv : It.right i = (Ac.right i.act && decide (i.claim = claim0) && decide (i.ballot = ballot0) && decide (i.decision = decision0)) := by
   rw [Bool.eq_iff_iff, It.right_act h0]
   simp [and_assoc]
  rw [hv]
  refine run ?_
  refine cp (fright12_c i.act h.act) ?_
  cases c0 : Ac.right i.act with
  | false =>
   refine run ?_
   exact er0
  | true =>
  cases d1 : decide (i.claim = claim0) with
  | false =>
   refine run ?_
   exact er0
  | true =>
  cases d2 : decide (i.ballot = ballot0) with
  | false =>
   refine run ?_
   exact er0
  | true =>
  cases d3 : decide (i.decision = decision0) with
  | false =>
   refine run ?_
   exact er0
  | true =>
  refine run ?_
  exact er0
 by_cases h1 : i.kind = 1
 ·have hv : It.right i = (rightClaim i.claim && decide (i.act = act0) && decide (i.ballot = ballot0) && decide (i.decision = decision0)) := by
   rw [Bool.eq_iff_iff, It.right_claim h1]
   simp [and_assoc]
  rw [hv]
  refine run ?_
  refine cp (fclaimed13_c i.claim h.claim) ?_
  cases c0 : rightClaim i.claim with
  | false =>
   refine run ?_
   exact er0
  | true =>
  cases d0 : decide (i.act = act0) with
  | false =>
   refine run ?_
   exact er0
  | true =>
  cases d2 : decide (i.ballot = ballot0) with
  | false =>
   refine run ?_
   exact er0
  | true =>
  cases d3 : decide (i.decision = decision0) with
  | false =>
   refine run ?_
   exact er0
  | true =>
  refine run ?_
  exact er0
 by_cases h2 : i.kind = 2
 ·have hv : It.right i = (rightBallot i.ballot && decide (i.act = act0) && decide (i.claim = claim0) && decide (i.decision = decision0)) := by
   rw [Bool.eq_iff_iff, It.right_ballot h2]
   simp [and_assoc]
  rw [hv]
  refine run ?_
  refine cp (fvoted_c i.ballot h.ballot) ?_
  cases c0 : rightBallot i.ballot with
  | false =>
   refine run ?_
   exact er0
  | true =>
  cases d0 : decide (i.act = act0) with
  | false =>
   refine run ?_
   exact er0
  | true =>
  cases d1 : decide (i.claim = claim0) with
  | false =>
   refine run ?_
   exact er0
  | true =>
  cases d3 : decide (i.decision = decision0) with
  | false =>
   refine run ?_
   exact er0
  | true =>
  refine run ?_
  exact er0
 by_cases h3 : i.kind = 3
 ·have hv : It.right i = (rightDecision i.decision && decide (i.act = act0) && decide (i.claim = claim0) && decide (i.ballot = ballot0)) := by
   rw [Bool.eq_iff_iff, It.right_decision h3]
   simp [and_assoc]
  rw [hv]
  refine run ?_
  refine cp (fdecided_c i.decision h.decision.actor h.decision.tos h.decision.to) ?_
  cases c0 : rightDecision i.decision with
  | false =>
   refine run ?_
   exact er0
  | true =>
  cases d0 : decide (i.act = act0) with
  | false =>
   refine run ?_
   exact er0
  | true =>
  cases d1 : decide (i.claim = claim0) with
  | false =>
   refine run ?_
   exact er0
  | true =>
  cases d2 : decide (i.ballot = ballot0) with
  | false =>
   refine run ?_
   exact er0
  | true =>
  refine run ?_
  exact er0
 ·have hv : It.right i = false := by
   cases hr : It.right i with
   | false => rfl
   | true => rcases It.right_kind hr with e | e | e | e <;> contradiction
  rw [hv]
  refine run ?_
  exact er0
theorem fsigBytes_c (s : Sig) (h : (0 ≤ s.e ∧ s.e ≤ 2305843009213693949) ∧ 0 ≤ s.s ∧ s.s ≤ 2305843009213693949) : AC Tryz.prog 142 [sigV s] [] (.st (numI s.e ++ numI s.s)) [] := by
 refine AC.enter2 [120] [] Tryz.func142 rfl (by decide) (by decide) (Nat.le_of_ble_eq_true rfl) (by kernel_rfl) ?_; simp only [eraseC, eraseO, List.map_cons, List.map_nil, List.map_toArray, List.getElem?_toArray, List.getElem?_cons_zero, List.getElem?_cons_succ, Option.bind_some, Option.bind_none, List.append_eq, List.cons_append, List.nil_append]
 have n1 := numI_le s.e (by omega)
 have n2 := numI_le s.s (by omega)
 refine run ?_
 refine cp (fnum_c s.e (by omega)) ?_
 refine run ?_
 refine cp (fnum_c s.s (by omega)) ?_
 refine run ?_
 exact er0
theorem fbytes13_c (i : It.Item) (h : Iz i) : AC Tryz.prog 39 [itemV i] [] (.st (It.bytes i)) [] := by
 refine AC.enter2 [37, 120, 26, 141, 143, 144, 142] [] Tryz.func39 rfl (by decide) (by decide) (Nat.le_of_ble_eq_true rfl) (by kernel_rfl) ?_; simp only [eraseC, eraseO, List.map_cons, List.map_nil, List.map_toArray, List.getElem?_toArray, List.getElem?_cons_zero, List.getElem?_cons_succ, Option.bind_some, Option.bind_none, List.append_eq, List.cons_append, List.nil_append]
 have kr := fright13_c i h
 cases hr : It.right i with
 | false =>
  rw [hr] at kr
  rw [It.bytes_wrong hr]
  refine run ?_
  refine cp kr ?_
  refine run ?_
  exact er0
 | true =>
 rw [hr] at kr
 have h3 := sh_right hr
 have hkk := It.right_kind hr
 have hl0 := numI_le i.kind (by omega)
 have kn := fnum_c i.kind (by omega)
 by_cases h0 : i.kind = 0
 ·rw [bytes_act hr h0]
  have k2 := fbytes12_c i.act h.act
  have hl := bytes_len (a := i.act)
  generalize Ac.bytes i.act = z at *
  generalize numI i.kind = n0 at *
  refine run ?_
  refine cp kr ?_
  refine run ?_
  refine cp kn ?_
  refine run ?_
  refine cp k2 ?_
  refine run ?_
  exact er0
 by_cases hk : i.kind = 1
 ·have hs := sig_right hr (by omega)
  have hb : It.bytes i = numI i.kind ++ claimB i.claim ++ (numI i.claim.sig.e ++ numI i.claim.sig.s) := by
   rw [It.bytes_right hr]
   unfold bodyB coreOf sigOf
   have e0 : i.kind ≠ 0 := by omega
   simp [hk]
  have hsg : sigOf i = i.claim.sig := by unfold sigOf; simp [hk]
  rw [hsg] at hs
  simp only [sigR, Bool.and_eq_true, wi_iff] at hs
  rw [hb]
  have k2 := fclaim_c i.claim h3.ez.c h3.ez.ci
  have k3 := fsigBytes_c i.claim.sig hs
  have hl : (claimB i.claim).length ≤ 60000000 := by have := claimB_len h3.ez; omega
  have n1 := numI_le i.claim.sig.e (by omega)
  have n2 := numI_le i.claim.sig.s (by omega)
  generalize claimB i.claim = core at *
  generalize numI i.kind = n0 at *
  generalize numI i.claim.sig.e = ne at *
  generalize numI i.claim.sig.s = ns at *
  refine run ?_
  refine cp kr ?_
  refine run ?_
  refine cp kn ?_
  refine run ?_
  refine cp k2 ?_
  refine run ?_
  refine cp k3 ?_
  refine run ?_
  exact er0
 by_cases hk : i.kind = 2
 ·have hs := sig_right hr (by omega)
  have hb : It.bytes i = numI i.kind ++ ballotB i.ballot ++ (numI i.ballot.sig.e ++ numI i.ballot.sig.s) := by
   rw [It.bytes_right hr]
   unfold bodyB coreOf sigOf
   have e0 : i.kind ≠ 0 := by omega
   simp [hk]
  have hsg : sigOf i = i.ballot.sig := by unfold sigOf; simp [hk]
  rw [hsg] at hs
  simp only [sigR, Bool.and_eq_true, wi_iff] at hs
  rw [hb]
  have k2 := fballot_c i.ballot h3.ez.b h3.ez.bi
  have k3 := fsigBytes_c i.ballot.sig hs
  have hl : (ballotB i.ballot).length ≤ 60000000 := by have := ballotB_len h3.ez; omega
  have n1 := numI_le i.ballot.sig.e (by omega)
  have n2 := numI_le i.ballot.sig.s (by omega)
  generalize ballotB i.ballot = core at *
  generalize numI i.kind = n0 at *
  generalize numI i.ballot.sig.e = ne at *
  generalize numI i.ballot.sig.s = ns at *
  refine run ?_
  refine cp kr ?_
  refine run ?_
  refine cp kn ?_
  refine run ?_
  refine cp k2 ?_
  refine run ?_
  refine cp k3 ?_
  refine run ?_
  exact er0
 have hk : i.kind = 3 := by omega
 have hs := sig_right hr (by omega)
 have hb : It.bytes i = numI i.kind ++ decisionB i.decision ++ (numI i.decision.sig.e ++ numI i.decision.sig.s) := by
  rw [It.bytes_right hr]
  unfold bodyB coreOf sigOf
  have e0 : i.kind ≠ 0 := by omega
  simp [hk]
 have hsg : sigOf i = i.decision.sig := by unfold sigOf; simp [hk]
 rw [hsg] at hs
 simp only [sigR, Bool.and_eq_true, wi_iff] at hs
 rw [hb]
 have k2 := fdecision_c i.decision h3.ez.d h3.ez.dt h3.ez.di
 have k3 := fsigBytes_c i.decision.sig hs
 have hl : (decisionB i.decision).length ≤ 60000000 := by have := decisionB_len h3; omega
 have n1 := numI_le i.decision.sig.e (by omega)
 have n2 := numI_le i.decision.sig.s (by omega)
 generalize decisionB i.decision = core at *
 generalize numI i.kind = n0 at *
 generalize numI i.decision.sig.e = ne at *
 generalize numI i.decision.sig.s = ns at *
 refine run ?_
 refine cp kr ?_
 refine run ?_
 refine cp kn ?_
 refine run ?_
 refine cp k2 ?_
 refine run ?_
 refine cp k3 ?_
 refine run ?_
 exact er0
theorem bytes13_ne {i : It.Item} (h : It.right i = true) : It.bytes i ≠ [] := by
 have hk := It.right_kind h
 rw [It.bytes_right h]
 exact fun e => absurd (List.append_eq_nil_iff.1 e).1 (numI_ne (by omega))
theorem fentryBytes_c (e : It.Entry) (h : Iz e.item) : AC Tryz.prog 46 [entryV e] [] (.st (entryB e)) [] := by
 refine AC.enter2 [39, 151, 120] [] Tryz.func46 rfl (by decide) (by decide) (Nat.le_of_ble_eq_true rfl) (by kernel_rfl) ?_; simp only [eraseC, eraseO, List.map_cons, List.map_nil, List.map_toArray, List.getElem?_toArray, List.getElem?_cons_zero, List.getElem?_cons_succ, Option.bind_some, Option.bind_none, List.append_eq, List.cons_append, List.nil_append]
 have kb := fbytes13_c e.item h
 have hl := bytesIt_len e.item
 refine run ?_
 refine cp kb ?_
 cases hr : It.right e.item with
 | false =>
  have h0 := It.bytes_wrong hr
  have h1 : entryB e = [] := by unfold entryB; rw [hr, Bool.and_false]; rfl
  rw [h1, h0]
  refine run ?_
  exact er0
 | true =>
  have hne := bytes13_ne hr
  have hq : (It.bytes e.item == []) = false := by simpa using hne
  have kt := ffrom_c e.time 0 1099511627776
  cases ht : wi e.time 0 1099511627776 with
  | false =>
   rw [ht] at kt
   have h1 : entryB e = [] := by unfold entryB isTime; rw [ht]; rfl
   rw [h1]
   refine runf @hq ?_
   refine cp kt ?_
   refine runf @hq ?_
   exact er0
  | true =>
   rw [ht] at kt
   have h1 : entryB e = numI e.time ++ It.bytes e.item := by unfold entryB isTime; rw [ht, hr]; rfl
   have htm := wi_iff.1 ht
   have n1 := numI_le e.time (by omega)
   rw [h1]
   generalize It.bytes e.item = z at *
   refine runf @hq ?_
   refine cp kt ?_
   refine runf @hq ?_
   refine cp (fnum_c e.time (by omega)) ?_
   refine run ?_
   exact er0
end Go.Proofs.YtaphpbiaoofmkaaGreatDoor.Pe
