/- The walk of ItemBinds on plain values. Printed by tools/mkiti.py. -/
import Derived.Test.YtnjjldhcpiehkaaGreatDoorItF
import Derived.Test.YtnjjldhcpiehkaaGreatDoorRfD
import Derived.Test.YtnjjldhcpiehkaaGreatDoorShI
namespace Go.Proofs.YtnjjldhcpiehkaaGreatDoor.Pe
set_option linter.unusedSectionVars false
set_option linter.unusedVariables false
set_option linter.unusedSimpArgs false
open Go Go.RowKit Co Sg Ac It
set_option maxRecDepth 100000
set_option maxHeartbeats 4000000
theorem signed_right {ps : List Int} {i : It.Item} (h : It.signed ps i = true) : It.right i = true := by
  unfold It.signed at h
  split at h
  · assumption
  · cases h
theorem signed_not {ps : List Int} {i : It.Item} (h : It.signed ps i = false) (hr : It.right i = true) : i.kind = 2 ∨ i.kind = 3 := by
  unfold It.signed at h
  rw [if_pos hr] at h
  split at h
  · assumption
  · cases h
theorem signed_server {ps : List Int} {i : It.Item} (h : It.signed ps i = true) (hk : i.kind = 2 ∨ i.kind = 3) : serverOf i < (ps.length : Int) ∧ It.signedBy (ps.getD (serverOf i).toNat 0) i = true := by
  unfold It.signed at h
  rw [if_pos (signed_right (ps := ps) (by unfold It.signed; exact h)), if_pos hk, Bool.and_eq_true, decide_eq_true_eq] at h
  exact h
theorem verify_iff {p : Int} {m : By} {s : Sig} (h : verify p m s = true) : (1 ≤ p ∧ p < 2305843009213693951) ∧ (0 ≤ s.e ∧ s.e < 2305843009213693950) ∧ (0 ≤ s.s ∧ s.s < 2305843009213693950) ∧ s.e = (challenge (commit p s) p m : Nat) := by
  simp only [verify, inOrder, Bool.and_eq_true, decide_eq_true_eq] at h
  omega
theorem message_inj2 {a b : It.Item} (ha : It.right a = true) (hb : It.right b = true) (ka : a.kind = 2) (kb : b.kind = 2) (hs : a.ballot.sig = b.ballot.sig) (hm : message (ofBallot a.ballot) = message (ofBallot b.ballot)) : a = b := by
  refine It.bytes_inj ha hb ?_
  have h : text wBallot ++ ballotB a.ballot = text wBallot ++ ballotB b.ballot := hm
  have h := List.append_cancel_left h
  have c1 : coreOf a = ballotB a.ballot := by unfold coreOf; rw [if_neg (by omega), if_pos ka]
  have c2 : coreOf b = ballotB b.ballot := by unfold coreOf; rw [if_neg (by omega), if_pos kb]
  have s1 : sigOf a = a.ballot.sig := by unfold sigOf; rw [if_neg (by omega), if_pos ka]
  have s2 : sigOf b = b.ballot.sig := by unfold sigOf; rw [if_neg (by omega), if_pos kb]
  rw [bytes_right ha, bytes_right hb]
  unfold bodyB
  rw [if_neg (by omega), if_neg (by omega), c1, c2, s1, s2, h, hs, ka, kb]
theorem message_inj3 {a b : It.Item} (ha : It.right a = true) (hb : It.right b = true) (ka : a.kind = 3) (kb : b.kind = 3) (hs : a.decision.sig = b.decision.sig) (hm : message (ofDecision a.decision) = message (ofDecision b.decision)) : a = b := by
  refine It.bytes_inj ha hb ?_
  have h : text wDecision ++ decisionB a.decision = text wDecision ++ decisionB b.decision := hm
  have h := List.append_cancel_left h
  have c1 : coreOf a = decisionB a.decision := by unfold coreOf; rw [if_neg (by omega), if_neg (by omega)]
  have c2 : coreOf b = decisionB b.decision := by unfold coreOf; rw [if_neg (by omega), if_neg (by omega)]
  have s1 : sigOf a = a.decision.sig := by unfold sigOf; rw [if_neg (by omega), if_neg (by omega)]
  have s2 : sigOf b = b.decision.sig := by unfold sigOf; rw [if_neg (by omega), if_neg (by omega)]
  rw [bytes_right ha, bytes_right hb]
  unfold bodyB
  rw [if_neg (by omega), if_neg (by omega), c1, c2, s1, s2, h, hs, ka, kb]
theorem message_of2 {a : It.Item} (ka : a.kind = 2) : message a = message (ofBallot a.ballot) := by
  have h : message (ofBallot a.ballot) = text wBallot ++ ballotB a.ballot := rfl
  rw [h]
  unfold message nameOf coreOf
  rw [if_neg (by omega), if_pos ka, if_neg (by omega), if_pos ka]
theorem message_of3 {a : It.Item} (ka : a.kind = 3) : message a = message (ofDecision a.decision) := by
  have h : message (ofDecision a.decision) = text wDecision ++ decisionB a.decision := rfl
  rw [h]
  unfold message nameOf coreOf
  rw [if_neg (by omega), if_neg (by omega), if_neg (by omega), if_neg (by omega)]
theorem sig_eqb (x y : Sig) : ((x.e == y.e) && (x.s == y.s)) = decide (x = y) := by
  obtain ⟨a, b⟩ := x
  obtain ⟨c, d⟩ := y
  rw [Bool.eq_iff_iff]
  simp
theorem ez_ofBallot {c : It.Ballot} (h : rightBallot c = true) : Sh (ofBallot c) := ⟨ez_of (.inr rfl) (.inl h) (.inr rfl), by show (list []).length ≤ 50000000; decide⟩
theorem ez_ofDecision {c : It.Decision} (h : rightDecision c = true) : Sh (ofDecision c) := ⟨ez_of (.inr rfl) (.inr rfl) (.inl h), by have := list_len16 (ezd (.inl h)).2.1; exact Nat.le_trans this (by decide)⟩
theorem itemBinds_c (a b : It.Item) (ps : List Int) (ha : InI a) (hb : InI b) (hp : InL ps) : AC Tryz.prog 4 [itemV a, itemV b, .sl .ro (ps.map (AV.it .i64))] [] (.bo true) [] := by
  have hps := hp.rng
  have hpl := hp.len
  refine AC.enter2 [8, 9, 11, 15, 14, 16, 17, 18, 19] [] Tryz.func4 rfl (by decide) (by decide) (Nat.le_of_ble_eq_true rfl) (by kernel_rfl) ?_; simp only [eraseC, eraseO, List.map_cons, List.map_nil, List.map_toArray, List.getElem?_toArray, List.getElem?_cons_zero, List.getElem?_cons_succ, Option.bind_some, Option.bind_none, List.append_eq, List.cons_append, List.nil_append]
  refine run ?_
  refine cp small13_c ?_
  refine run ?_
  refine cp (few13_c a) ?_
  cases hfa : fewI a with
  | false =>
    refine run ?_
    exact er0
  | true =>
  refine run ?_
  refine cp (few13_c b) ?_
  cases hfb : fewI b with
  | false =>
    refine run ?_
    exact er0
  | true =>
  by_cases hl : ps.length ≤ 30
  rotate_left
  · refine run ?_
    exact er0
  have k1 := signed_c ps a ha.iz hps
  have k2 := signed_c ps b hb.iz hps
  have kr := rightI_c a ha.iz
  have ks := sameI_c a b ha.iz.lz hb.iz.lz
  refine run ?_
  refine cp k1 ?_
  refine run ?_
  refine cp k2 ?_
  have h0 : It.signed ps a = false → It.right a = true → a.kind = 2 ∨ a.kind = 3 := signed_not
  by_cases hgo : a.kind = b.kind ∧ It.signed ps a = true ∧ It.signed ps b = true
  rotate_left
  · by_cases hk : a.kind = b.kind
    · have ne : (a.kind != b.kind) = false := bneF hk
      cases hsa : It.signed ps a with
      | false =>
        rw [hsa] at k1
        refine runf (And.intro @ne @hsa) ?_
        refine cp kr ?_
        cases hra : It.right a with
        | false =>
          refine runf @hra ?_
          exact er0
        | true =>
          rcases h0 hsa hra with e | e
          · have q2 : (a.kind == 2) = true := by rw [e]; rfl
            refine runf (And.intro @hra @q2) ?_
            exact er0
          · have q2 : (a.kind == 2) = false := beqF (by omega)
            have q3 : (a.kind == 3) = true := by rw [e]; rfl
            refine runf (And.intro @hra (And.intro @q2 @q3)) ?_
            exact er0
      | true =>
        have hsb : It.signed ps b = false := by
          cases hsb : It.signed ps b with
          | false => rfl
          | true => exact absurd ⟨hk, hsa, hsb⟩ hgo
        refine runf (And.intro @ne (And.intro @hsa @hsb)) ?_
        exact er0
    · have ne : (a.kind != b.kind) = true := bneT hk
      cases hsa : It.signed ps a with
      | false =>
        refine runf (And.intro @ne @hsa) ?_
        refine cp kr ?_
        cases hra : It.right a with
        | false =>
          refine runf @hra ?_
          exact er0
        | true =>
          rcases h0 hsa hra with e | e
          · have q2 : (a.kind == 2) = true := by rw [e]; rfl
            refine runf (And.intro @hra @q2) ?_
            exact er0
          · have q2 : (a.kind == 2) = false := beqF (by omega)
            have q3 : (a.kind == 3) = true := by rw [e]; rfl
            refine runf (And.intro @hra (And.intro @q2 @q3)) ?_
            exact er0
      | true =>
        refine runf (And.intro @ne @hsa) ?_
        exact er0
  obtain ⟨hk, hsa, hsb⟩ := hgo
  have ne : (a.kind != b.kind) = false := bneF hk
  have hra := signed_right hsa
  have hrb := signed_right hsb
  rw [hsa, hsb]
  clear h0
  have hsz : allSz 1 (ps.map (AV.it .i64)) = true := allSz_map 1 _ (fun _ => rfl) _
  by_cases e2 : a.kind = 2
  · have f2 : b.kind = 2 := by omega
    have q2 : (a.kind == 2) = true := by rw [e2]; rfl
    have q3 : (a.kind == 3) = false := beqF (by omega)
    by_cases hv : a.ballot.server = b.ballot.server
    rotate_left
    · have qv : (a.ballot.server == b.ballot.server) = false := beqF hv
      refine runf (And.intro @ne (And.intro @q2 (And.intro @q3 @qv))) ?_
      exact er0
    have qv : (a.ballot.server == b.ballot.server) = true := by rw [hv]; exact beq_self_eq_true _
    have qs := sig_eqb a.ballot.sig b.ballot.sig
    by_cases hs : a.ballot.sig = b.ballot.sig
    rotate_left
    · rw [decide_eq_false hs] at qs
      refine runf (And.intro @ne (And.intro @q2 (And.intro @q3 (And.intro @qv @qs)))) ?_
      exact er0
    rw [decide_eq_true hs] at qs
    have rba := ((right_ballot (by omega)).1 hra).1
    have rbb := ((right_ballot (by omega)).1 hrb).1
    have m1 := fmballot_c a.ballot (ez_ofBallot rba)
    have m2 := fmballot_c b.ballot (ez_ofBallot rbb)
    have hinj := message_inj2 hra hrb e2 f2 hs
    have heq : decide (a = b) = (message (ofBallot a.ballot) == message (ofBallot b.ballot)) := by
      rw [Bool.eq_iff_iff, decide_eq_true_eq, beq_iff_eq]
      exact ⟨fun e => by rw [e], hinj⟩
    rw [heq] at ks
    obtain ⟨va1, va2⟩ := signed_server hsa (by omega)
    obtain ⟨vb1, vb2⟩ := signed_server hsb (by omega)
    have sa : serverOf a = a.ballot.server := by unfold serverOf; rw [if_pos e2]
    have sb : serverOf b = a.ballot.server := by unfold serverOf; rw [if_pos f2, hv]
    have hsr := serverOf_right hra (by omega)
    rw [sa] at va1 va2 hsr
    rw [sb] at vb2
    unfold It.signedBy at va2 vb2
    rw [message_of2 e2] at va2
    rw [message_of2 f2] at vb2
    have ga : sigOf a = a.ballot.sig := by unfold sigOf; rw [if_neg (by omega), if_pos e2]
    have gb : sigOf b = a.ballot.sig := by unfold sigOf; rw [if_neg (by omega), if_pos f2, hs]
    rw [ga] at va2
    rw [gb] at vb2
    have hml1 : (message (ofBallot a.ballot)).length ≤ 100000000 := message_len (ez_ofBallot rba)
    have hml2 : (message (ofBallot b.ballot)).length ≤ 100000000 := message_len (ez_ofBallot rbb)
    obtain ⟨n, hn⟩ : ∃ n : Nat, a.ballot.server = (n : Int) := ⟨a.ballot.server.toNat, by omega⟩
    have hlt : n < ps.length := by omega
    have hg : ps[a.ballot.server.toNat]? = some (ps.getD a.ballot.server.toNat 0) := by
      rw [hn, Int.toNat_natCast, List.getD_eq_getElem?_getD, List.getElem?_eq_getElem hlt]
      rfl
    generalize ps.getD a.ballot.server.toNat 0 = p at *
    obtain ⟨r1, r2, r3, c1⟩ := verify_iff va2
    obtain ⟨_, _, _, c2⟩ := verify_iff vb2
    have kc := rcommit_c p a.ballot.sig r1.1 r1.2 r2 r3
    have hcl : commit p a.ballot.sig < 2305843009213693951 := Nat.mod_lt _ (by decide)
    have kh1 := rchallenge_c (commit p a.ballot.sig : Nat) p _ hml1 (by omega) (by omega)
    have kh2 := rchallenge_c (commit p a.ballot.sig : Nat) p _ hml2 (by omega) (by omega)
    rw [← c1] at kh1
    rw [← c2] at kh2
    have hl : a.ballot.server < (ps.length : Int) := va1
    have h0 : 0 ≤ a.ballot.server := hsr.1
    have hn0 : ¬ a.ballot.server < 0 := by omega
    generalize message (ofBallot a.ballot) = ma at *
    generalize message (ofBallot b.ballot) = mb at *
    refine runf (And.intro @ne (And.intro @q2 (And.intro @q3 (And.intro @qv @qs)))) ?_
    refine cp m1 ?_
    refine run ?_
    refine cp m2 ?_
    refine runf (And.intro @q2 (And.intro @q3 (And.intro @hn0 (And.intro @hl (And.intro @h0 (And.intro @hg @hsz)))))) ?_
    refine cp kc ?_
    refine runf (And.intro @hl (And.intro @h0 (And.intro @hg @hsz))) ?_
    refine cp kh1 ?_
    refine runf (And.intro @hl (And.intro @h0 (And.intro @hg @hsz))) ?_
    refine cp kh2 ?_
    refine run ?_
    refine cp ks ?_
    refine run ?_
    exact er0
  by_cases e3 : a.kind = 3
  · have f2 : b.kind = 3 := by omega
    have q2 : (a.kind == 2) = false := beqF (by omega)
    have q3 : (a.kind == 3) = true := by rw [e3]; rfl
    by_cases hv : a.decision.server = b.decision.server
    rotate_left
    · have qv : (a.decision.server == b.decision.server) = false := beqF hv
      refine runf (And.intro @ne (And.intro @q2 (And.intro @q3 @qv))) ?_
      exact er0
    have qv : (a.decision.server == b.decision.server) = true := by rw [hv]; exact beq_self_eq_true _
    have qs := sig_eqb a.decision.sig b.decision.sig
    by_cases hs : a.decision.sig = b.decision.sig
    rotate_left
    · rw [decide_eq_false hs] at qs
      refine runf (And.intro @ne (And.intro @q2 (And.intro @q3 (And.intro @qv @qs)))) ?_
      exact er0
    rw [decide_eq_true hs] at qs
    have rba := ((right_decision (by omega)).1 hra).1
    have rbb := ((right_decision (by omega)).1 hrb).1
    have m1 := fmdecision_c a.decision (ez_ofDecision rba) ⟨by have := (ezd (.inl rba)).2.1.1; omega, fun s h => by have := (ezd (.inl rba)).2.1.2 s h; omega⟩
    have m2 := fmdecision_c b.decision (ez_ofDecision rbb) ⟨by have := (ezd (.inl rbb)).2.1.1; omega, fun s h => by have := (ezd (.inl rbb)).2.1.2 s h; omega⟩
    have hinj := message_inj3 hra hrb e3 f2 hs
    have heq : decide (a = b) = (message (ofDecision a.decision) == message (ofDecision b.decision)) := by
      rw [Bool.eq_iff_iff, decide_eq_true_eq, beq_iff_eq]
      exact ⟨fun e => by rw [e], hinj⟩
    rw [heq] at ks
    obtain ⟨va1, va2⟩ := signed_server hsa (by omega)
    obtain ⟨vb1, vb2⟩ := signed_server hsb (by omega)
    have sa : serverOf a = a.decision.server := by unfold serverOf; rw [if_neg (by omega)]
    have sb : serverOf b = a.decision.server := by unfold serverOf; rw [if_neg (by omega), hv]
    have hsr := serverOf_right hra (by omega)
    rw [sa] at va1 va2 hsr
    rw [sb] at vb2
    unfold It.signedBy at va2 vb2
    rw [message_of3 e3] at va2
    rw [message_of3 f2] at vb2
    have ga : sigOf a = a.decision.sig := by unfold sigOf; rw [if_neg (by omega), if_neg (by omega)]
    have gb : sigOf b = a.decision.sig := by unfold sigOf; rw [if_neg (by omega), if_neg (by omega), hs]
    rw [ga] at va2
    rw [gb] at vb2
    have hml1 : (message (ofDecision a.decision)).length ≤ 100000000 := message_len (ez_ofDecision rba)
    have hml2 : (message (ofDecision b.decision)).length ≤ 100000000 := message_len (ez_ofDecision rbb)
    obtain ⟨n, hn⟩ : ∃ n : Nat, a.decision.server = (n : Int) := ⟨a.decision.server.toNat, by omega⟩
    have hlt : n < ps.length := by omega
    have hg : ps[a.decision.server.toNat]? = some (ps.getD a.decision.server.toNat 0) := by
      rw [hn, Int.toNat_natCast, List.getD_eq_getElem?_getD, List.getElem?_eq_getElem hlt]
      rfl
    generalize ps.getD a.decision.server.toNat 0 = p at *
    obtain ⟨r1, r2, r3, c1⟩ := verify_iff va2
    obtain ⟨_, _, _, c2⟩ := verify_iff vb2
    have kc := rcommit_c p a.decision.sig r1.1 r1.2 r2 r3
    have hcl : commit p a.decision.sig < 2305843009213693951 := Nat.mod_lt _ (by decide)
    have kh1 := rchallenge_c (commit p a.decision.sig : Nat) p _ hml1 (by omega) (by omega)
    have kh2 := rchallenge_c (commit p a.decision.sig : Nat) p _ hml2 (by omega) (by omega)
    rw [← c1] at kh1
    rw [← c2] at kh2
    have hl : a.decision.server < (ps.length : Int) := va1
    have h0 : 0 ≤ a.decision.server := hsr.1
    have hn0 : ¬ a.decision.server < 0 := by omega
    generalize message (ofDecision a.decision) = ma at *
    generalize message (ofDecision b.decision) = mb at *
    refine runf (And.intro @ne (And.intro @q2 (And.intro @q3 (And.intro @qv @qs)))) ?_
    refine cp m1 ?_
    refine run ?_
    refine cp m2 ?_
    refine runf (And.intro @q2 (And.intro @q3 (And.intro @hn0 (And.intro @hl (And.intro @h0 (And.intro @hg @hsz)))))) ?_
    refine cp kc ?_
    refine runf (And.intro @hl (And.intro @h0 (And.intro @hg @hsz))) ?_
    refine cp kh1 ?_
    refine runf (And.intro @hl (And.intro @h0 (And.intro @hg @hsz))) ?_
    refine cp kh2 ?_
    refine run ?_
    refine cp ks ?_
    refine run ?_
    exact er0
  · have q2 : (a.kind == 2) = false := beqF e2
    have q3 : (a.kind == 3) = false := beqF e3
    refine runf (And.intro @ne (And.intro @q2 @q3)) ?_
    exact er0
end Go.Proofs.YtnjjldhcpiehkaaGreatDoor.Pe
