/- Reference 13's Signed; the walk of ItemTells. Printed by tools/mkitt.py. -/
import Derived.Test.YtaphpbiaoofmkaaGreatDoorRfV
import Derived.Test.YtaphpbiaoofmkaaGreatDoorItV
import Derived.Test.YtaphpbiaoofmkaaGreatDoorShI
set_option linter.unusedSectionVars false
set_option linter.unusedVariables false
set_option linter.unusedSimpArgs false
namespace Go.Proofs.YtaphpbiaoofmkaaGreatDoor.Pe
open Go Go.RowKit Co Sg Ac It
set_option maxRecDepth 100000
set_option maxHeartbeats 4000000
theorem list_le70 {l : List By} (h : l.length ≤ 70) (hs : ∀ s ∈ l, s.length ≤ 5000) : (list l).length ≤ 50000000 := by
 have key : ∀ m : List By, (∀ s ∈ m, s.length ≤ 5000) → (m.map text).flatten.length ≤ m.length * 5009 := by
  intro m
  induction m with
  | nil => intro _; simp
  | cons s m ih =>
   intro h
   have e0 := h s (by simp)
   have e1 : (text s).length ≤ 5009 := by
    have := num_len9 (n := s.length) (by omega)
    unfold text
    rw [List.length_append]
    omega
   have e2 := ih fun x hx => h x (by simp [hx])
   rw [List.map_cons, List.flatten_cons, List.length_append, List.length_cons, Nat.succ_mul]
   omega
 have h3 := key l hs
 have h4 : l.length * 5009 ≤ 70 * 5009 := Nat.mul_le_mul_right _ h
 have h5 := num_len9 (n := l.length) (by omega)
 unfold list
 rw [List.length_append]
 omega
theorem few_strs {i : It.Item} (hf : fewI i = true) : ∀ s ∈ strs i, s.length ≤ 5000 := by
 unfold fewI at hf
 simp only [Bool.and_eq_true, List.all_eq_true, decide_eq_true_eq] at hf
 exact hf.2
theorem few_lens {i : It.Item} (hf : fewI i = true) : i.act.to.length ≤ 70 ∧ i.act.wraps.length ≤ 70 ∧ i.decision.to.length ≤ 70 := by
 unfold fewI at hf
 simp only [Bool.and_eq_true, decide_eq_true_eq] at hf
 exact ⟨hf.1.1.1, hf.1.1.2, hf.1.2⟩
theorem few_tos {i : It.Item} (hf : fewI i = true) : ∀ s ∈ i.decision.to, s.length ≤ 5000 := fun s hs => few_strs hf s (by simp [strs, hs])
theorem few_ez {i : It.Item} (h : InI i) (hf : fewI i = true) : Ez i := by
 have hs := few_strs hf
 have hb : ∀ s ∈ base16 i, s.length ≤ 5000 := fun s hm => hs s (by simp [strs, hm])
 simp only [base16, List.forall_mem_cons] at hb
 have hl := few_lens hf
 exact ⟨by omega, h.ci, by omega, h.bi, by omega, ⟨by omega, fun s hm => by have := few_tos hf s hm; omega⟩, h.di⟩
theorem ez_zero : Ez item0 := ⟨by decide, by decide, by decide, by decide, by decide, by decide, by decide⟩
theorem ez_claim {i : It.Item} (h : Ez i) : Sh (ofClaim i.claim) := ⟨⟨h.c, h.ci, ez_zero.b, ez_zero.bi, ez_zero.d, ez_zero.dt, ez_zero.di⟩, by show (list []).length ≤ 50000000; decide⟩
theorem ez_ballot {i : It.Item} (h : Ez i) : Sh (ofBallot i.ballot) := ⟨⟨ez_zero.c, ez_zero.ci, h.b, h.bi, ez_zero.d, ez_zero.dt, ez_zero.di⟩, by show (list []).length ≤ 50000000; decide⟩
theorem ez_decision {i : It.Item} (h : Ez i) (ht : (list i.decision.to).length ≤ 50000000) : Sh (ofDecision i.decision) := ⟨⟨ez_zero.c, ez_zero.ci, ez_zero.b, ez_zero.bi, h.d, h.dt, h.di⟩, ht⟩
theorem fsigned13_c (ps : List Int) (i : It.Item) (h : Iz i) : AC Tryz.prog 44 [intsV ps, itemV i] [] (.bo (It.signed ps i)) [] := by
 refine AC.enter2 [37, 149, 150, 107] [] Tryz.func44 rfl (by decide) (by decide) (Nat.le_of_ble_eq_true rfl) (by kernel_rfl) ?_; simp only [eraseC, eraseO, List.map_cons, List.map_nil, List.map_toArray, List.getElem?_toArray, List.getElem?_cons_zero, List.getElem?_cons_succ, Option.bind_some, Option.bind_none, List.append_eq, List.cons_append, List.nil_append]
 have kr := fright13_c i h
 unfold It.signed
 cases hr : It.right i with
 | false =>
  rw [hr] at kr
  refine run ?_
  refine cp kr ?_
  refine run ?_
  exact er0
 | true =>
  rw [hr] at kr
  rw [if_pos rfl]
  by_cases hk : i.kind = 2 ∨ i.kind = 3
  rotate_left
  ·rw [if_neg hk]
   have q2 : (i.kind == 2) = false := beqF (by omega)
   have q3 : (i.kind == 3) = false := beqF (by omega)
   refine run ?_
   refine cp kr ?_
   refine runf (an @q2 @q3) ?_
   exact er0
  rw [if_pos hk]
  have hsv := serverOf_right hr hk
  have hsh := sh_right hr
  have hsz : allSz 1 (ps.map (AV.it .i64)) = true := allSz_map 1 _ (fun _ => rfl) _
  rcases hk with e | e
  ·have hv : serverOf i = i.ballot.server := by unfold serverOf; simp [e]
   rw [hv] at hsv ⊢
   have q2 : (i.kind == 2) = true := by rw [e]; rfl
   have hms : message i = message (ofBallot i.ballot) := by
    unfold message nameOf coreOf
    simp only [e]
    rfl
   have hsg : sigOf i = i.ballot.sig := by
    unfold sigOf
    simp [e]
   have k1 := fmballot_c i.ballot (ez_ballot hsh.ez)
   have hml := message_len (i := ofBallot i.ballot) (ez_ballot hsh.ez)
   have hsd : signedBy (ps.getD i.ballot.server.toNat 0) i = verify (ps.getD i.ballot.server.toNat 0) (message (ofBallot i.ballot)) i.ballot.sig := by
    unfold signedBy
    rw [hms, hsg]
   have hlt0 : 0 ≤ i.ballot.server := hsv.1
   have k2 := rverify_c (ps.getD i.ballot.server.toNat 0) (message (ofBallot i.ballot)) i.ballot.sig hml
   rw [hsd]
   generalize message (ofBallot i.ballot) = ms at *
   by_cases hlt : i.ballot.server < (ps.length : Int)
   ·have hg : ps[i.ballot.server.toNat]? = some (ps.getD i.ballot.server.toNat 0) := by
     rw [List.getD_eq_getElem?_getD, List.getElem?_eq_getElem (show i.ballot.server.toNat < ps.length by omega)]
     rfl
    rw [decide_eq_true hlt]
    generalize ps.getD i.ballot.server.toNat 0 = p at *
    generalize verify p ms i.ballot.sig = b at *
    refine run ?_
    refine cp kr ?_
    refine runf (an @q2 (an @hlt (an @hlt0 (an @hg @hsz)))) ?_
    refine cp k1 ?_
    refine run ?_
    refine cp k2 ?_
    refine run ?_
    exact er0
   ·rw [decide_eq_false hlt]
    refine run ?_
    refine cp kr ?_
    refine runf (an @q2 @hlt) ?_
    exact er0
  ·have hv : serverOf i = i.decision.server := by unfold serverOf; simp [e]
   rw [hv] at hsv ⊢
   have q2 : (i.kind == 2) = false := by rw [e]; rfl
   have q3 : (i.kind == 3) = true := by rw [e]; rfl
   have hms : message i = message (ofDecision i.decision) := by
    unfold message nameOf coreOf
    simp only [e]
    rfl
   have hsg : sigOf i = i.decision.sig := by
    unfold sigOf
    simp [e]
   have k1 := fmdecision_c i.decision (ez_decision hsh.ez hsh.to) hsh.ez.dt
   have hml := message_len (i := ofDecision i.decision) (ez_decision hsh.ez hsh.to)
   have hsd : signedBy (ps.getD i.decision.server.toNat 0) i = verify (ps.getD i.decision.server.toNat 0) (message (ofDecision i.decision)) i.decision.sig := by
    unfold signedBy
    rw [hms, hsg]
   have hlt0 : 0 ≤ i.decision.server := hsv.1
   have k2 := rverify_c (ps.getD i.decision.server.toNat 0) (message (ofDecision i.decision)) i.decision.sig hml
   rw [hsd]
   generalize message (ofDecision i.decision) = ms at *
   by_cases hlt : i.decision.server < (ps.length : Int)
   ·have hg : ps[i.decision.server.toNat]? = some (ps.getD i.decision.server.toNat 0) := by
     rw [List.getD_eq_getElem?_getD, List.getElem?_eq_getElem (show i.decision.server.toNat < ps.length by omega)]
     rfl
    rw [decide_eq_true hlt]
    generalize ps.getD i.decision.server.toNat 0 = p at *
    generalize verify p ms i.decision.sig = b at *
    refine run ?_
    refine cp kr ?_
    refine runf (an @q2 (an @q3 (an @hlt (an @hlt0 (an @hg @hsz))))) ?_
    refine cp k1 ?_
    refine run ?_
    refine cp k2 ?_
    refine run ?_
    exact er0
   ·rw [decide_eq_false hlt]
    refine run ?_
    refine cp kr ?_
    refine runf (an @q2 (an @q3 @hlt)) ?_
    exact er0
theorem beq_claim (x : It.Claim) : ((x.actor == x.actor) && ((x.base == x.base) && ((x.prev == x.prev) && ((x.gen == x.gen) && ((x.home == x.home) && ((x.pub == x.pub) && ((x.time == x.time) && ((x.sig.e == x.sig.e) && (x.sig.s == x.sig.s))))))))) = true := by
 simp
theorem itemTells_c (a b : It.Item) (s : By) (t : Int) (ps : List Int) (k : Key) (ha : InI a) (hb : InI b) (hs : s.length ≤ 140737488351232) (ht : -9223372036854775808 ≤ t ∧ t ≤ 9223372036854775807) (hp : InL ps)
  (hk : (-9223372036854775808 ≤ k.secret ∧ k.secret ≤ 9223372036854775807) ∧ (-9223372036854775808 ≤ k.pub ∧ k.pub ≤ 9223372036854775807)) :
  AC Tryz.prog 4 [itemV a, itemV b, .st s, .it .i64 t, intsV ps, keyV k] [] (.bo true) [] := by
 refine AC.enter [28, 29, 30, 31, 32, 33, 34, 35, 36, 37, 38, 39, 40, 41, 42, 43, 44, 45, 46, 47, 48, 49, 50, 51, 52, 53, 54, 55, 56, 57, 58, 59, 60, 61, 62] [] Tryz.func4 rfl (by decide) (by decide) (Nat.le_of_ble_eq_true rfl) (by kernel_rfl) ?_; simp only [eraseC, eraseO, List.map_cons, List.map_nil, List.map_toArray, List.getElem?_toArray, List.getElem?_cons_zero, List.getElem?_cons_succ, Option.bind_some, Option.bind_none, List.append_eq, List.cons_append, List.nil_append]
 refine run ?_
 refine cp small13_c ?_
 refine run ?_
 refine cp (few13_c a) ?_
 by_cases hf : fewI a = true
 rotate_left
 ·have hf : fewI a = false := by simpa using hf
  rw [hf]
  refine run ?_
  exact er0
 rw [hf]
 refine run ?_
 refine cp (few13_c b) ?_
 by_cases hg : fewI b = true
 rotate_left
 ·have hg : fewI b = false := by simpa using hg
  rw [hg]
  refine run ?_
  exact er0
 rw [hg]
 by_cases hl : s.length ≤ 9000
 rotate_left
 ·refine run ?_
  exact er0
 by_cases hn : ps.length ≤ 30
 rotate_left
 ·refine run ?_
  exact er0
 have hez := few_ez ha hf
 have hln := few_lens hf
 have hts := few_tos hf
 have s1 := ez_claim hez
 have s2 := ez_ballot hez
 have s3 := ez_decision hez (list_le70 hln.2.2 hts)
 have hlx : Lz (It.read s).1 := by
  cases hq : (It.read s).2 with
  | true => exact (iz_right (It.read_right hq).1).lz
  | false => rw [It.read_wrong hq]; exact (show Iz item0 from ⟨szI0, Nat.zero_le _, Nat.zero_le _, dz0⟩).lz
 have hle : Lz (readEntry s).1.item := by
  cases hq : (readEntry s).2 with
  | true => exact (iz_right (readEntry_sound hq).2.1).lz
  | false =>
   have : (readEntry s).1 = entry0 := by
    unfold readEntry at hq ⊢
    simp only at hq ⊢
    split at hq
    ·cases hq
    ·rename_i hc; rw [if_neg hc]
   rw [this]; exact (show Iz item0 from ⟨szI0, Nat.zero_le _, Nat.zero_le _, dz0⟩).lz
 have k1 := readI_c s (by omega)
 have k2 := fread13_c s (by omega)
 have k3 := readEntry_c s (by omega)
 have k4' := freadEntry_c s (by omega)
 have k5 := fsame13_c (It.read s).1 (It.read s).1 hlx hlx
 have k6 := fsameEntry_c (readEntry s).1 (readEntry s).1 hle hle
 rw [decide_eq_true rfl] at k5 k6
 have k7 := rightI_c a ha.iz
 have k8 := fright13_c a ha.iz
 have k9 := bytesI_c a ha.iz
 have k10 := fbytes13_c a ha.iz
 have k11 := digest_c a ha.iz
 have k12 := fdigest13_c a ha.iz
 have k13 := sameI_c a b ha.iz.lz hb.iz.lz
 have k14 := fsame13_c a b ha.iz.lz hb.iz.lz
 have k15 := signed_c ps a ha.iz hp.rng
 have k16 := fsigned13_c ps a ha.iz
 have k17 := entryBytes_c ⟨t, a⟩ ha.iz
 have k18 := fentryBytes_c ⟨t, a⟩ ha.iz
 have hsi := ha.si
 simp only [List.forall_mem_cons] at hsi
 have k19 := claimed_c k.pub a.claim s1 hk.2 hsi.1
 have k20 := fclaimedP_c k.pub a.claim s1
 have k21 := signClaim_c k a.claim s1 hk.1
 have k22 := fsignClaim_c k a.claim s1 hk.1
 have k23 := signBallot_c k a.ballot s2 hk.1
 have k24 := fsignBallot_c k a.ballot s2 hk.1
 have k25 := signDecision_c k a.decision s3 hk.1 (by omega)
 have k26 := fsignDecision_c k a.decision s3 hk.1 (by omega) (fun x hx => by have := hts x hx; omega)
 have hdt : (signDecision k a.decision).to = a.decision.to := rfl
 have z0 : Lz item0 := (show Iz item0 from ⟨szI0, Nat.zero_le _, Nat.zero_le _, dz0⟩).lz
 have hz8 : ∀ d : It.Decision, d.to.length ≤ 1000000 → Lz (ofDecision d) := fun d hd => ⟨Nat.zero_le _, Nat.zero_le _, by show d.to.length ≤ _; omega⟩
 have k27 := ofDecision_c (signDecision k a.decision) (by rw [hdt]; omega)
 have k28 := fofDecision_c (signDecision k a.decision)
 have k29 := fsame13_c (ofDecision (signDecision k a.decision)) (ofDecision (signDecision k a.decision)) (hz8 _ (by rw [hdt]; omega)) (hz8 _ (by rw [hdt]; omega))
 rw [decide_eq_true rfl] at k29
 have k30 := ofAct_c a.act (by omega) (by omega)
 have k31 := fofAct_c a.act
 have hza : Lz (ofAct a.act) := ⟨ha.iz.lz.to, ha.iz.lz.wraps, Nat.zero_le _⟩
 have k32 := fsame13_c (ofAct a.act) (ofAct a.act) hza hza
 rw [decide_eq_true rfl] at k32
 have k33 := ofClaim_c a.claim
 have k34 := fofClaim_c a.claim
 have k35 := fsame13_c (ofClaim a.claim) (ofClaim a.claim) ⟨Nat.zero_le _, Nat.zero_le _, Nat.zero_le _⟩ ⟨Nat.zero_le _, Nat.zero_le _, Nat.zero_le _⟩
 rw [decide_eq_true rfl] at k35
 have k36 := ofBallot_c a.ballot
 have k37 := fofBallot_c a.ballot
 have k38 := fsame13_c (ofBallot a.ballot) (ofBallot a.ballot) ⟨Nat.zero_le _, Nat.zero_le _, Nat.zero_le _⟩ ⟨Nat.zero_le _, Nat.zero_le _, Nat.zero_le _⟩
 rw [decide_eq_true rfl] at k38
 clear hez hln hts s1 s2 s3 hlx hle hsi hdt z0 hz8 hza hf hg
 generalize It.read s = q at *
 obtain ⟨x, ok⟩ := q
 generalize readEntry s = q at *
 obtain ⟨y, is⟩ := q
 simp only at k1 k2 k3 k4' k5 k6
 generalize It.right a = r at *
 generalize It.bytes a = ba at *
 generalize It.digest a = da at *
 generalize decide (a = b) = d at *
 generalize It.signed ps a = sd at *
 generalize entryB ⟨t, a⟩ = eb at *
 generalize claimed k.pub a.claim = cl at *
 generalize signClaim k a.claim = sc at *
 generalize signBallot k a.ballot = sb at *
 generalize signDecision k a.decision = sdec at *
 have e3 : ∀ b : Bool, (b != b) = false := fun b => by cases b <;> rfl
 have e4 : ∀ b : Bool, (b == b) = true := fun b => by cases b <;> rfl
 have e5 : ∀ l : By, (l == l) = true := fun l => beq_self_eq_true _
 have e6 : ∀ l : Int, (l == l) = true := fun l => beq_self_eq_true _
 refine run ?_
 refine cp k1 ?_
 refine runf @e3 ?_
 refine cp k2 ?_
 refine runf @e3 ?_
 refine cp k3 ?_
 refine runf @e3 ?_
 refine cp k4' ?_
 refine runf @e3 ?_
 refine cp k5 ?_
 refine runf (an @e3 (an @e4 (an @e5 @e6))) ?_
 refine cp k6 ?_
 refine runf (an @e3 (an @e4 (an @e5 @e6))) ?_
 refine cp k7 ?_
 refine runf (an @e3 (an @e4 (an @e5 @e6))) ?_
 refine cp k8 ?_
 refine runf (an @e3 (an @e4 (an @e5 @e6))) ?_
 refine cp k9 ?_
 as_aux_lemma =>
  refine runf (an @e3 (an @e4 (an @e5 @e6))) ?_
  refine cp k10 ?_
  refine runf (an @e3 (an @e4 (an @e5 @e6))) ?_
  refine cp k11 ?_
  refine runf (an @e3 (an @e4 (an @e5 @e6))) ?_
  refine cp k12 ?_
  refine runf (an @e3 (an @e4 (an @e5 @e6))) ?_
  refine cp k13 ?_
  refine runf (an @e3 (an @e4 (an @e5 @e6))) ?_
  refine cp k14 ?_
  as_aux_lemma =>
   refine runf (an @e3 (an @e4 (an @e5 @e6))) ?_
   refine cp k15 ?_
   refine runf (an @e3 (an @e4 (an @e5 @e6))) ?_
   refine cp k16 ?_
   refine runf (an @e3 (an @e4 (an @e5 @e6))) ?_
   refine cp k17 ?_
   refine runf (an @e3 (an @e4 (an @e5 @e6))) ?_
   refine cp k18 ?_
   refine runf (an @e3 (an @e4 (an @e5 @e6))) ?_
   refine cp k19 ?_
   as_aux_lemma =>
    refine runf (an @e3 (an @e4 (an @e5 @e6))) ?_
    refine cp k20 ?_
    refine runf (an @e3 (an @e4 (an @e5 @e6))) ?_
    refine cp k21 ?_
    refine runf (an @e3 (an @e4 (an @e5 @e6))) ?_
    refine cp k22 ?_
    refine runf (an @e3 (an @e4 (an @e5 @e6))) ?_
    refine cp k23 ?_
    refine runf (an @e3 (an @e4 (an @e5 @e6))) ?_
    refine cp k24 ?_
    as_aux_lemma =>
     refine runf (an @e3 (an @e4 (an @e5 @e6))) ?_
     refine cp k25 ?_
     refine runf (an @e3 (an @e4 (an @e5 @e6))) ?_
     refine cp k27 ?_
     refine runf (an @e3 (an @e4 (an @e5 @e6))) ?_
     refine cp k26 ?_
     refine runf (an @e3 (an @e4 (an @e5 @e6))) ?_
     refine cp k28 ?_
     refine runf (an @e3 (an @e4 (an @e5 @e6))) ?_
     refine cp k29 ?_
     as_aux_lemma =>
      refine runf (an @e3 (an @e4 (an @e5 @e6))) ?_
      refine cp k30 ?_
      refine runf (an @e3 (an @e4 (an @e5 @e6))) ?_
      refine cp k31 ?_
      refine runf (an @e3 (an @e4 (an @e5 @e6))) ?_
      refine cp k32 ?_
      refine runf (an @e3 (an @e4 (an @e5 @e6))) ?_
      refine cp k33 ?_
      refine runf (an @e3 (an @e4 (an @e5 @e6))) ?_
      refine cp k34 ?_
      as_aux_lemma =>
       refine runf (an @e3 (an @e4 (an @e5 @e6))) ?_
       refine cp k35 ?_
       refine runf (an @e3 (an @e4 (an @e5 @e6))) ?_
       refine cp k36 ?_
       refine runf (an @e3 (an @e4 (an @e5 @e6))) ?_
       refine cp k37 ?_
       refine runf (an @e3 (an @e4 (an @e5 @e6))) ?_
       refine cp k38 ?_
       refine runf (an @e3 (an @e4 (an @e5 @e6))) ?_
       exact er0
end Go.Proofs.YtaphpbiaoofmkaaGreatDoor.Pe
