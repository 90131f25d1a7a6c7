/- The walk of package item on plain values: forms, messages, bytes, reading, entries. Printed by tools/mkitc.py. -/
import Derived.Test.YtnjjldhcpiehkaaGreatDoorItB
namespace Go.Proofs.YtnjjldhcpiehkaaGreatDoor.Pe
set_option linter.unusedSectionVars false
set_option linter.unusedVariables false
set_option linter.unusedSimpArgs false
open Go Go.RowKit Co Sg Ac It
set_option maxRecDepth 100000
set_option maxHeartbeats 4000000
/- sizes of right items -/
theorem ezc {c : It.Claim} (h : rightClaim c = true ∨ c = claim0) : (c.actor.length ≤ 1000000 ∧ c.prev.length ≤ 1000000) ∧ ∀ x ∈ [c.base, c.gen, c.home, c.pub, c.time], -9223372036854775808 ≤ x ∧ x ≤ 9223372036854775807 := by
  rcases h with h | rfl
  · have s := claim_sm h
    have h1 := s.actor; have h2 := s.base; have h3 := s.prev; have h4 := s.gen; have h5 := s.home; have h6 := s.pub; have h7 := s.time
    simp only [List.forall_mem_cons, List.not_mem_nil, false_implies, implies_true, and_true]
    omega
  · decide
theorem ezb {b : It.Ballot} (h : rightBallot b = true ∨ b = ballot0) : (b.actor.length ≤ 1000000 ∧ b.claim.length ≤ 1000000) ∧ ∀ x ∈ [b.server, b.gen, b.time], -9223372036854775808 ≤ x ∧ x ≤ 9223372036854775807 := by
  rcases h with h | rfl
  · have s := ballot_sm h
    have h1 := s.actor; have h2 := s.server; have h3 := s.claim; have h4 := s.gen; have h5 := s.time
    simp only [List.forall_mem_cons, List.not_mem_nil, false_implies, implies_true, and_true]
    omega
  · decide
theorem ezd {d : It.Decision} (h : rightDecision d = true ∨ d = decision0) : (d.actor.length ≤ 1000000 ∧ d.object.length ≤ 1000000 ∧ d.text.length ≤ 1000000) ∧ (d.to.length ≤ 64 ∧ ∀ s ∈ d.to, s.length ≤ 16) ∧ ∀ x ∈ [d.server, d.number, d.kind, d.n, d.frm, d.til], -9223372036854775808 ≤ x ∧ x ≤ 9223372036854775807 := by
  rcases h with h | rfl
  · have s := decision_sm h
    have h1 := s.actor; have h2 := s.server; have h3 := s.number; have h4 := s.kind; have h5 := s.object; have h6 := s.text; have h7 := s.to; have h8 := s.n; have h9 := s.frm; have h10 := s.til
    simp only [List.forall_mem_cons, List.not_mem_nil, false_implies, implies_true, and_true]
    refine ⟨by omega, ⟨h7.1, fun s hs => Nat.le_of_eq (h7.2 s hs)⟩, by omega⟩
  · decide
theorem right_parts {i : It.Item} (h : It.right i = true) : (Ac.right i.act = true ∨ i.act = act0) ∧ (rightClaim i.claim = true ∨ i.claim = claim0) ∧ (rightBallot i.ballot = true ∨ i.ballot = ballot0) ∧ (rightDecision i.decision = true ∨ i.decision = decision0) := by
  rcases right_kind h with e | e | e | e
  · obtain ⟨q1, q2, q3, q4⟩ := (right_act e).1 h
    exact ⟨.inl q1, .inr q2, .inr q3, .inr q4⟩
  · obtain ⟨q1, q2, q3, q4⟩ := (right_claim e).1 h
    exact ⟨.inr q2, .inl q1, .inr q3, .inr q4⟩
  · obtain ⟨q1, q2, q3, q4⟩ := (right_ballot e).1 h
    exact ⟨.inr q2, .inr q3, .inl q1, .inr q4⟩
  · obtain ⟨q1, q2, q3, q4⟩ := (right_decision e).1 h
    exact ⟨.inr q2, .inr q3, .inr q4, .inl q1⟩
theorem ez_of {i : It.Item} (hc : rightClaim i.claim = true ∨ i.claim = claim0) (hb : rightBallot i.ballot = true ∨ i.ballot = ballot0) (hd : rightDecision i.decision = true ∨ i.decision = decision0) : Ez i := by
  have c := ezc hc
  have b := ezb hb
  have d := ezd hd
  exact ⟨c.1, c.2, b.1, b.2, d.1, ⟨by have := d.2.1.1; omega, fun s hs => by have := d.2.1.2 s hs; omega⟩, d.2.2⟩
theorem ez_right {i : It.Item} (h : It.right i = true) : Ez i := have p := right_parts h; ez_of p.2.1 p.2.2.1 p.2.2.2
theorem sig_right {i : It.Item} (h : It.right i = true) (h0 : i.kind ≠ 0) : sigR (sigOf i) = true := by
  unfold sigOf
  rcases right_kind h with e | e | e | e
  · exact absurd e h0
  · rw [if_pos e]; exact (claim_sm ((right_claim e).1 h).1).sig
  · rw [if_neg (by omega), if_pos e]; exact (ballot_sm ((right_ballot e).1 h).1).sig
  · rw [if_neg (by omega), if_neg (by omega)]; exact (decision_sm ((right_decision e).1 h).1).sig
theorem list_len16 {l : List By} (h : l.length ≤ 64 ∧ ∀ s ∈ l, s.length ≤ 16) : (list l).length ≤ 2000 := by
  have h1 := num_len9 (n := l.length) (by have := h.1; omega)
  have h2 : ∀ l : List By, (∀ s ∈ l, s.length ≤ 16) → (l.map text).flatten.length ≤ l.length * 25 := fun l => by
    induction l with
    | nil => intro _; simp
    | cons s l ih =>
      intro h
      have e0 := h s (by simp)
      have e1 : (text s).length ≤ 25 := by
        have := num_len9 (n := s.length) (by omega)
        unfold text
        rw [List.length_append]
        omega
      have e2 := ih fun x hx => h x (by simp [hx])
      rw [List.map_cons, List.flatten_cons, List.length_append, List.length_cons, Nat.succ_mul]
      omega
  have h3 := h2 l h.2
  have h4 : l.length * 25 ≤ 64 * 25 := Nat.mul_le_mul_right _ h.1
  unfold list
  rw [List.length_append]
  omega
/-- what is encoded is short -/
structure Sh (i : It.Item) : Prop where
  ez : Ez i
  to : (list i.decision.to).length ≤ 50000000
theorem sh_right {i : It.Item} (h : It.right i = true) : Sh i := ⟨ez_right h, by have := list_len16 (ezd (right_parts h).2.2.2).2.1; omega⟩
theorem claimB_len {i : It.Item} (h : Ez i) : (claimB i.claim).length ≤ 10000000 := by
  have h1 := h.c
  have h2 := h.ci
  simp only [List.forall_mem_cons] at h2
  have l1 := text_len h1.1
  have l2 := text_len h1.2
  have n1 := numI_le i.claim.base (by omega)
  have n2 := numI_le i.claim.gen (by omega)
  have n3 := numI_le i.claim.home (by omega)
  have n4 := numI_le i.claim.pub (by omega)
  have n5 := numI_le i.claim.time (by omega)
  unfold claimB
  simp only [List.length_append]
  omega
theorem ballotB_len {i : It.Item} (h : Ez i) : (ballotB i.ballot).length ≤ 10000000 := by
  have h1 := h.b
  have h2 := h.bi
  simp only [List.forall_mem_cons] at h2
  have l1 := text_len h1.1
  have l2 := text_len h1.2
  have n1 := numI_le i.ballot.server (by omega)
  have n2 := numI_le i.ballot.gen (by omega)
  have n3 := numI_le i.ballot.time (by omega)
  unfold ballotB
  simp only [List.length_append]
  omega
theorem decisionB_len {i : It.Item} (h : Sh i) : (decisionB i.decision).length ≤ 60000000 := by
  have h1 := h.ez.d
  have h2 := h.ez.di
  have h3 := h.to
  simp only [List.forall_mem_cons] at h2
  have l1 := text_len h1.1
  have l2 := text_len h1.2.1
  have l3 := text_len h1.2.2
  have n1 := numI_le i.decision.server (by omega)
  have n2 := numI_le i.decision.number (by omega)
  have n3 := numI_le i.decision.kind (by omega)
  have n4 := numI_le i.decision.n (by omega)
  have n5 := numI_le i.decision.frm (by omega)
  have n6 := numI_le i.decision.til (by omega)
  unfold decisionB
  simp only [List.length_append]
  omega
theorem coreOf_len {i : It.Item} (h : Sh i) : (coreOf i).length ≤ 60000000 := by
  have h1 := claimB_len h.ez
  have h2 := ballotB_len h.ez
  have h3 := decisionB_len h
  unfold coreOf
  split
  · omega
  split <;> omega

abbrev formV (F : FuncId) (n : By) (s : Sig) : AV := .agg [.st n, .fn (.func F) [] [], .it .i64 s.e, .it .i64 s.s]
theorem formOf1 (i : It.Item) (hk : i.kind = 1) : AC Tryz.prog 51 [itemV i] [] (formV 104 wClaim i.claim.sig) [] := by
  refine AC.enter [] [] Tryz.func51 rfl (by decide) (by decide) (Nat.le_of_ble_eq_true rfl) (by kernel_rfl) ?_; simp only [eraseC, eraseO, List.map_cons, List.map_nil, List.map_toArray, List.getElem?_toArray, List.getElem?_cons_zero, List.getElem?_cons_succ, Option.bind_some, Option.bind_none, List.append_eq, List.cons_append, List.nil_append]
  refine runf @hk ?_
  exact er0w
theorem formOf2 (i : It.Item) (hk : i.kind = 2) : AC Tryz.prog 51 [itemV i] [] (formV 105 wBallot i.ballot.sig) [] := by
  refine AC.enter [] [] Tryz.func51 rfl (by decide) (by decide) (Nat.le_of_ble_eq_true rfl) (by kernel_rfl) ?_; simp only [eraseC, eraseO, List.map_cons, List.map_nil, List.map_toArray, List.getElem?_toArray, List.getElem?_cons_zero, List.getElem?_cons_succ, Option.bind_some, Option.bind_none, List.append_eq, List.cons_append, List.nil_append]
  refine runf @hk ?_
  exact er0w
theorem formOf3 (i : It.Item) (hk : i.kind ≠ 1 ∧ i.kind ≠ 2) : AC Tryz.prog 51 [itemV i] [] (formV 106 wDecision i.decision.sig) [] := by
  refine AC.enter [] [] Tryz.func51 rfl (by decide) (by decide) (Nat.le_of_ble_eq_true rfl) (by kernel_rfl) ?_; simp only [eraseC, eraseO, List.map_cons, List.map_nil, List.map_toArray, List.getElem?_toArray, List.getElem?_cons_zero, List.getElem?_cons_succ, Option.bind_some, Option.bind_none, List.append_eq, List.cons_append, List.nil_append]
  obtain ⟨h1, h2⟩ := hk
  refine run ?_
  exact er0w
theorem message1 (i : It.Item) (hk : i.kind = 1) (h : Sh i) : AC Tryz.prog 101 [itemV i] [] (.st (message i)) [] := by
  refine AC.enter [51] [] Tryz.func101 rfl (by decide) (by decide) (Nat.le_of_ble_eq_true rfl) (by kernel_rfl) ?_; simp only [eraseC, eraseO, List.map_cons, List.map_nil, List.map_toArray, List.getElem?_toArray, List.getElem?_cons_zero, List.getElem?_cons_succ, Option.bind_some, Option.bind_none, List.append_eq, List.cons_append, List.nil_append]
  have hm : message i = text wClaim ++ claimB i.claim := by unfold message nameOf coreOf; simp [hk]
  rw [hm]
  have k1 := texts0_c [wClaim] (by simp) (by decide)
  rw [flat1t] at k1
  have k2 := bclaim_c i (text wClaim) h.ez (by decide)
  have hl : (text wClaim).length ≤ 100 := by decide
  have hl2 : (claimB i.claim).length ≤ 60000000 := by have := claimB_len h.ez; omega
  generalize text wClaim = tw at *
  refine run ?_
  refine cp (formOf1 i hk) ?_
  refine run ?_
  refine cb0 2 k1 ?_
  refine run ?_
  refine cb 2 3 k2 ?_
  generalize claimB i.claim = cb' at *
  refine run ?_
  exact er0
theorem message2 (i : It.Item) (hk : i.kind = 2) (h : Sh i) : AC Tryz.prog 101 [itemV i] [] (.st (message i)) [] := by
  refine AC.enter [51] [] Tryz.func101 rfl (by decide) (by decide) (Nat.le_of_ble_eq_true rfl) (by kernel_rfl) ?_; simp only [eraseC, eraseO, List.map_cons, List.map_nil, List.map_toArray, List.getElem?_toArray, List.getElem?_cons_zero, List.getElem?_cons_succ, Option.bind_some, Option.bind_none, List.append_eq, List.cons_append, List.nil_append]
  have hm : message i = text wBallot ++ ballotB i.ballot := by unfold message nameOf coreOf; simp [hk]
  rw [hm]
  have k1 := texts0_c [wBallot] (by simp) (by decide)
  rw [flat1t] at k1
  have k2 := bballot_c i (text wBallot) h.ez (by decide)
  have hl : (text wBallot).length ≤ 100 := by decide
  have hl2 : (ballotB i.ballot).length ≤ 60000000 := by have := ballotB_len h.ez; omega
  generalize text wBallot = tw at *
  refine run ?_
  refine cp (formOf2 i hk) ?_
  refine run ?_
  refine cb0 2 k1 ?_
  refine run ?_
  refine cb 2 3 k2 ?_
  generalize ballotB i.ballot = cb' at *
  refine run ?_
  exact er0
theorem message3 (i : It.Item) (hk : i.kind ≠ 1 ∧ i.kind ≠ 2) (h : Sh i) : AC Tryz.prog 101 [itemV i] [] (.st (message i)) [] := by
  refine AC.enter [51] [] Tryz.func101 rfl (by decide) (by decide) (Nat.le_of_ble_eq_true rfl) (by kernel_rfl) ?_; simp only [eraseC, eraseO, List.map_cons, List.map_nil, List.map_toArray, List.getElem?_toArray, List.getElem?_cons_zero, List.getElem?_cons_succ, Option.bind_some, Option.bind_none, List.append_eq, List.cons_append, List.nil_append]
  have hm : message i = text wDecision ++ decisionB i.decision := by unfold message nameOf coreOf; simp [hk]
  rw [hm]
  have k1 := texts0_c [wDecision] (by simp) (by decide)
  rw [flat1t] at k1
  have k2 := bdecision_c i (text wDecision) h.ez (by decide) (by have := h.to; omega)
  have hl : (text wDecision).length ≤ 100 := by decide
  have hl2 : (decisionB i.decision).length ≤ 60000000 := by have := decisionB_len h; omega
  generalize text wDecision = tw at *
  refine run ?_
  refine cp (formOf3 i hk) ?_
  refine run ?_
  refine cb0 2 k1 ?_
  refine run ?_
  refine cb 2 3 k2 ?_
  generalize decisionB i.decision = cb' at *
  refine run ?_
  exact er0
theorem message_len {i : It.Item} (h : Sh i) : (message i).length ≤ 100000000 := by
  have h1 := coreOf_len h
  have h2 : (text (nameOf i)).length ≤ 100 := by
    unfold nameOf
    split
    · decide
    split <;> decide
  unfold message
  rw [List.length_append]
  omega
theorem kinds3 (i : It.Item) : i.kind = 1 ∨ i.kind = 2 ∨ (i.kind ≠ 1 ∧ i.kind ≠ 2) := by omega
theorem message_c (i : It.Item) (h : Sh i) : AC Tryz.prog 101 [itemV i] [] (.st (message i)) [] := by
  rcases kinds3 i with e | e | e
  · exact message1 i e h
  · exact message2 i e h
  · exact message3 i e h
theorem signedBy_c (p : Int) (i : It.Item) (h : Sh i) (hp : -9223372036854775808 ≤ p ∧ p ≤ 9223372036854775807) (hs : -9223372036854775808 ≤ (sigOf i).e ∧ (sigOf i).e ≤ 9223372036854775807) (hl : (message i).length ≤ 100000000) : AC Tryz.prog 67 [.it .i64 p, itemV i] [] (.bo (signedBy p i)) [] := by
  refine AC.enter [101, 51, 122] [] Tryz.func67 rfl (by decide) (by decide) (Nat.le_of_ble_eq_true rfl) (by kernel_rfl) ?_; simp only [eraseC, eraseO, List.map_cons, List.map_nil, List.map_toArray, List.getElem?_toArray, List.getElem?_cons_zero, List.getElem?_cons_succ, Option.bind_some, Option.bind_none, List.append_eq, List.cons_append, List.nil_append]
  unfold signedBy
  have k1 := message_c i h
  generalize message i = ms at *
  rcases kinds3 i with e | e | e
  · have hsg : sigOf i = i.claim.sig := by unfold sigOf; simp [e]
    rw [hsg] at hs ⊢
    refine run ?_
    refine cp k1 ?_
    refine run ?_
    refine cp (formOf1 i e) ?_
    refine run ?_
    refine cp (verify_c p ms i.claim.sig hl hp hs) ?_
    refine run ?_
    exact er0
  · have hsg : sigOf i = i.ballot.sig := by unfold sigOf; simp [e]
    rw [hsg] at hs ⊢
    refine run ?_
    refine cp k1 ?_
    refine run ?_
    refine cp (formOf2 i e) ?_
    refine run ?_
    refine cp (verify_c p ms i.ballot.sig hl hp hs) ?_
    refine run ?_
    exact er0
  · have hsg : sigOf i = i.decision.sig := by unfold sigOf; simp [e]
    rw [hsg] at hs ⊢
    refine run ?_
    refine cp k1 ?_
    refine run ?_
    refine cp (formOf3 i e) ?_
    refine run ?_
    refine cp (verify_c p ms i.decision.sig hl hp hs) ?_
    refine run ?_
    exact er0
theorem flat2 (g : Int → By) (a b : Int) : ([a, b].map g).flatten = g a ++ g b := by simp
theorem bytes_act {i : It.Item} (h : It.right i = true) (h0 : i.kind = 0) : It.bytes i = numI i.kind ++ Ac.bytes i.act := by
  rw [bytes_right h]
  unfold bodyB
  rw [if_pos h0]
theorem bytesI0 (i : It.Item) (h : Iz i) (h0 : i.kind = 0) (hr : It.right i = true) : AC Tryz.prog 10 [itemV i] [] (.st (It.bytes i)) [] := by
  refine AC.enter2 [11, 50, 51] [] Tryz.func10 rfl (by decide) (by decide) (Nat.le_of_ble_eq_true rfl) (by kernel_rfl) ?_; simp only [eraseC, eraseO, List.map_cons, List.map_nil, List.map_toArray, List.getElem?_toArray, List.getElem?_cons_zero, List.getElem?_cons_succ, Option.bind_some, Option.bind_none, List.append_eq, List.cons_append, List.nil_append]
  have kr := rightI_c i h
  rw [hr] at kr
  rw [bytes_act hr h0]
  have k1 := nums0_c [i.kind] (by simp) (by simp [h0])
  rw [flat1] at k1
  have hq : (i.kind == 0) = true := by rw [h0]; rfl
  have k2 := bytes_c i.act h.act
  have hl := bytes_len (a := i.act)
  have hl0 := numI_le i.kind (by omega)
  generalize Ac.bytes i.act = z at *
  generalize numI i.kind = n0 at *
  refine run ?_
  refine cp kr ?_
  refine runf @hq ?_
  refine cb0 1 k1 ?_
  refine runf @hq ?_
  refine cp k2 ?_
  have hmap : n0.map u8 ++ z.map u8 = (n0 ++ z).map u8 := List.map_append.symm
  have hlen : n0.length + z.length = (n0 ++ z).length := List.length_append.symm
  generalize n0 ++ z = c1 at *
  refine runf (And.intro @hq (And.intro @hmap @hlen)) ?_
  exact er0
theorem bytesI1 (i : It.Item) (h : Iz i) (hk : i.kind = 1) (hr : It.right i = true) : AC Tryz.prog 10 [itemV i] [] (.st (It.bytes i)) [] := by
  refine AC.enter2 [11, 50, 51] [] Tryz.func10 rfl (by decide) (by decide) (Nat.le_of_ble_eq_true rfl) (by kernel_rfl) ?_; simp only [eraseC, eraseO, List.map_cons, List.map_nil, List.map_toArray, List.getElem?_toArray, List.getElem?_cons_zero, List.getElem?_cons_succ, Option.bind_some, Option.bind_none, List.append_eq, List.cons_append, List.nil_append]
  have kr := rightI_c i h
  rw [hr] at kr
  have h3 := sh_right hr
  have hs := sig_right hr (by omega)
  have hb : It.bytes i = numI i.kind ++ claimB i.claim ++ (numI i.claim.sig.e ++ numI i.claim.sig.s) := by
    rw [bytes_right hr]
    unfold bodyB coreOf sigOf
    have e0 : i.kind ≠ 0 := by omega
    simp [hk]
  have hsg : sigOf i = i.claim.sig := by unfold sigOf; simp [hk]
  rw [hsg] at hs
  simp only [sigR, Bool.and_eq_true, wi_iff] at hs
  rw [hb]
  have k1 := nums0_c [i.kind] (by simp) (by simp [hk])
  rw [flat1] at k1
  have hl0 := numI_le i.kind (by omega)
  have hq : (i.kind == 0) = false := beqF (by omega)
  have k2 := bclaim_c i (numI i.kind) h3.ez (by omega)
  have hl : (claimB i.claim).length ≤ 60000000 := by have := claimB_len h3.ez; omega
  have k3 := nums_c [i.claim.sig.e, i.claim.sig.s] (numI i.kind ++ claimB i.claim) (by simp) (by simp; omega) (by rw [List.length_append]; omega)
  rw [flat2] at k3
  have n1 := numI_le i.claim.sig.e (by omega)
  have n2 := numI_le i.claim.sig.s (by omega)
  have kf := formOf1 i hk
  generalize numI i.claim.sig.e ++ numI i.claim.sig.s = tl at *
  generalize numI i.kind = n0 at *
  generalize claimB i.claim = core at *
  generalize n0 ++ core ++ tl = c2 at *
  generalize n0 ++ core = c1 at *
  refine run ?_
  refine cp kr ?_
  refine runf @hq ?_
  refine cb0 1 k1 ?_
  refine runf @hq ?_
  refine cp kf ?_
  refine runf @hq ?_
  refine cb 1 2 k2 ?_
  refine runf @hq ?_
  refine cb 1 2 k3 ?_
  refine run ?_
  exact er0
theorem bytesI2 (i : It.Item) (h : Iz i) (hk : i.kind = 2) (hr : It.right i = true) : AC Tryz.prog 10 [itemV i] [] (.st (It.bytes i)) [] := by
  refine AC.enter2 [11, 50, 51] [] Tryz.func10 rfl (by decide) (by decide) (Nat.le_of_ble_eq_true rfl) (by kernel_rfl) ?_; simp only [eraseC, eraseO, List.map_cons, List.map_nil, List.map_toArray, List.getElem?_toArray, List.getElem?_cons_zero, List.getElem?_cons_succ, Option.bind_some, Option.bind_none, List.append_eq, List.cons_append, List.nil_append]
  have kr := rightI_c i h
  rw [hr] at kr
  have h3 := sh_right hr
  have hs := sig_right hr (by omega)
  have hb : It.bytes i = numI i.kind ++ ballotB i.ballot ++ (numI i.ballot.sig.e ++ numI i.ballot.sig.s) := by
    rw [bytes_right hr]
    unfold bodyB coreOf sigOf
    have e0 : i.kind ≠ 0 := by omega
    simp [hk]
  have hsg : sigOf i = i.ballot.sig := by unfold sigOf; simp [hk]
  rw [hsg] at hs
  simp only [sigR, Bool.and_eq_true, wi_iff] at hs
  rw [hb]
  have k1 := nums0_c [i.kind] (by simp) (by simp [hk])
  rw [flat1] at k1
  have hl0 := numI_le i.kind (by omega)
  have hq : (i.kind == 0) = false := beqF (by omega)
  have k2 := bballot_c i (numI i.kind) h3.ez (by omega)
  have hl : (ballotB i.ballot).length ≤ 60000000 := by have := ballotB_len h3.ez; omega
  have k3 := nums_c [i.ballot.sig.e, i.ballot.sig.s] (numI i.kind ++ ballotB i.ballot) (by simp) (by simp; omega) (by rw [List.length_append]; omega)
  rw [flat2] at k3
  have n1 := numI_le i.ballot.sig.e (by omega)
  have n2 := numI_le i.ballot.sig.s (by omega)
  have kf := formOf2 i hk
  generalize numI i.ballot.sig.e ++ numI i.ballot.sig.s = tl at *
  generalize numI i.kind = n0 at *
  generalize ballotB i.ballot = core at *
  generalize n0 ++ core ++ tl = c2 at *
  generalize n0 ++ core = c1 at *
  refine run ?_
  refine cp kr ?_
  refine runf @hq ?_
  refine cb0 1 k1 ?_
  refine runf @hq ?_
  refine cp kf ?_
  refine runf @hq ?_
  refine cb 1 2 k2 ?_
  refine runf @hq ?_
  refine cb 1 2 k3 ?_
  refine run ?_
  exact er0
theorem bytesI3 (i : It.Item) (h : Iz i) (hk : i.kind = 3) (hr : It.right i = true) : AC Tryz.prog 10 [itemV i] [] (.st (It.bytes i)) [] := by
  refine AC.enter2 [11, 50, 51] [] Tryz.func10 rfl (by decide) (by decide) (Nat.le_of_ble_eq_true rfl) (by kernel_rfl) ?_; simp only [eraseC, eraseO, List.map_cons, List.map_nil, List.map_toArray, List.getElem?_toArray, List.getElem?_cons_zero, List.getElem?_cons_succ, Option.bind_some, Option.bind_none, List.append_eq, List.cons_append, List.nil_append]
  have kr := rightI_c i h
  rw [hr] at kr
  have h3 := sh_right hr
  have hs := sig_right hr (by omega)
  have hb : It.bytes i = numI i.kind ++ decisionB i.decision ++ (numI i.decision.sig.e ++ numI i.decision.sig.s) := by
    rw [bytes_right hr]
    unfold bodyB coreOf sigOf
    have e0 : i.kind ≠ 0 := by omega
    simp [hk]
  have hsg : sigOf i = i.decision.sig := by unfold sigOf; simp [hk]
  rw [hsg] at hs
  simp only [sigR, Bool.and_eq_true, wi_iff] at hs
  rw [hb]
  have k1 := nums0_c [i.kind] (by simp) (by simp [hk])
  rw [flat1] at k1
  have hl0 := numI_le i.kind (by omega)
  have hq : (i.kind == 0) = false := beqF (by omega)
  have k2 := bdecision_c i (numI i.kind) h3.ez (by omega) (by have := h3.to; omega)
  have hl : (decisionB i.decision).length ≤ 60000000 := by have := decisionB_len h3; omega
  have k3 := nums_c [i.decision.sig.e, i.decision.sig.s] (numI i.kind ++ decisionB i.decision) (by simp) (by simp; omega) (by rw [List.length_append]; omega)
  rw [flat2] at k3
  have n1 := numI_le i.decision.sig.e (by omega)
  have n2 := numI_le i.decision.sig.s (by omega)
  have kf := formOf3 i (by omega)
  generalize numI i.decision.sig.e ++ numI i.decision.sig.s = tl at *
  generalize numI i.kind = n0 at *
  generalize decisionB i.decision = core at *
  generalize n0 ++ core ++ tl = c2 at *
  generalize n0 ++ core = c1 at *
  refine run ?_
  refine cp kr ?_
  refine runf @hq ?_
  refine cb0 1 k1 ?_
  refine runf @hq ?_
  refine cp kf ?_
  refine runf @hq ?_
  refine cb 1 2 k2 ?_
  refine runf @hq ?_
  refine cb 1 2 k3 ?_
  refine run ?_
  exact er0
theorem bytesI_c (i : It.Item) (h : Iz i) : AC Tryz.prog 10 [itemV i] [] (.st (It.bytes i)) [] := by
  cases hr : It.right i with
  | true =>
    rcases right_kind hr with e | e | e | e
    · exact bytesI0 i h e hr
    · exact bytesI1 i h e hr
    · exact bytesI2 i h e hr
    · exact bytesI3 i h e hr
  | false =>
    refine AC.enter2 [11, 50, 51] [] Tryz.func10 rfl (by decide) (by decide) (Nat.le_of_ble_eq_true rfl) (by kernel_rfl) ?_; simp only [eraseC, eraseO, List.map_cons, List.map_nil, List.map_toArray, List.getElem?_toArray, List.getElem?_cons_zero, List.getElem?_cons_succ, Option.bind_some, Option.bind_none, List.append_eq, List.cons_append, List.nil_append]
    have kr := rightI_c i h
    rw [hr] at kr
    rw [It.bytes_wrong hr]
    refine run ?_
    refine cp kr ?_
    refine run ?_
    exact er0
end Go.Proofs.YtnjjldhcpiehkaaGreatDoor.Pe
