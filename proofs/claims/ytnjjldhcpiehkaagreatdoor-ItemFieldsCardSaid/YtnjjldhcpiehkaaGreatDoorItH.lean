/- The walk of ItemFields on plain values. Printed by tools/mkith.py. -/
import Derived.Test.YtnjjldhcpiehkaaGreatDoorItG
namespace Go.Proofs.YtnjjldhcpiehkaaGreatDoor.Pe
set_option linter.unusedSectionVars false
set_option linter.unusedVariables false
set_option linter.unusedSimpArgs false
open Go Go.RowKit Co Sg Ac It
set_option maxRecDepth 100000
set_option maxHeartbeats 4000000
theorem zA : Ac.right act0 = false := by decide +kernel
theorem zC : rightClaim claim0 = false := by decide +kernel
theorem zB : rightBallot ballot0 = false := by decide +kernel
theorem zD : rightDecision decision0 = false := by decide +kernel
/-- right only in its own kind -/
theorem right_other {a : It.Item} (h : It.right a = true) {k : Int} (hk : k ≠ a.kind) : It.right { a with kind := k } = false := by
  cases hr : It.right { a with kind := k } with
  | false => rfl
  | true =>
    exfalso
    rcases right_kind hr with e | e | e | e <;> simp only at e
    · have q := ((right_act (it := { a with kind := k }) e).1 hr).1
      rcases right_kind h with f | f | f | f
      · exact hk (e.trans f.symm)
      · rw [show a.act = _ from ((right_claim f).1 h).2.1, zA] at q; cases q
      · rw [show a.act = _ from ((right_ballot f).1 h).2.1, zA] at q; cases q
      · rw [show a.act = _ from ((right_decision f).1 h).2.1, zA] at q; cases q
    · have q := ((right_claim (it := { a with kind := k }) e).1 hr).1
      rcases right_kind h with f | f | f | f
      · rw [show a.claim = _ from ((right_act f).1 h).2.1, zC] at q; cases q
      · exact hk (e.trans f.symm)
      · rw [show a.claim = _ from ((right_ballot f).1 h).2.2.1, zC] at q; cases q
      · rw [show a.claim = _ from ((right_decision f).1 h).2.2.1, zC] at q; cases q
    · have q := ((right_ballot (it := { a with kind := k }) e).1 hr).1
      rcases right_kind h with f | f | f | f
      · rw [show a.ballot = _ from ((right_act f).1 h).2.2.1, zB] at q; cases q
      · rw [show a.ballot = _ from ((right_claim f).1 h).2.2.1, zB] at q; cases q
      · exact hk (e.trans f.symm)
      · rw [show a.ballot = _ from ((right_decision f).1 h).2.2.2, zB] at q; cases q
    · have q := ((right_decision (it := { a with kind := k }) e).1 hr).1
      rcases right_kind h with f | f | f | f
      · rw [show a.decision = _ from ((right_act f).1 h).2.2.2, zD] at q; cases q
      · rw [show a.decision = _ from ((right_claim f).1 h).2.2.2, zD] at q; cases q
      · rw [show a.decision = _ from ((right_ballot f).1 h).2.2.2, zD] at q; cases q
      · exact hk (e.trans f.symm)
theorem right_false {i : It.Item} (h : ¬ It.right i = true) : It.right i = false := by simpa using h
theorem ofAct_right (a : Ac.Act) : It.right (ofAct a) = Ac.right a := by
  rw [Bool.eq_iff_iff]
  exact ⟨fun h => ((right_act rfl).1 h).1, fun h => (right_act rfl).2 ⟨h, rfl, rfl, rfl⟩⟩
theorem other0 {a : It.Item} (h : a.kind = 0) : It.right { a with claim := { a.claim with base := 1 } } = false := right_false fun hr => by
  have := ((right_act (it := { a with claim := { a.claim with base := 1 } }) h).1 hr).2.1
  have := congrArg It.Claim.base this
  cases this
theorem other1 {a : It.Item} (h : a.kind = 1) : It.right { a with ballot := { a.ballot with gen := 1 } } = false := right_false fun hr => by
  have := ((right_claim (it := { a with ballot := { a.ballot with gen := 1 } }) h).1 hr).2.2.1
  have := congrArg It.Ballot.gen this
  cases this
theorem other2 {a : It.Item} (h : a.kind = 2) : It.right { a with decision := { a.decision with to := [[]] } } = false := right_false fun hr => by
  have := ((right_ballot (it := { a with decision := { a.decision with to := [[]] } }) h).1 hr).2.2.2
  have := congrArg It.Decision.to this
  cases this
theorem other3 {a : It.Item} (h : a.kind = 3) : It.right { a with act := { a.act with text := [120] } } = false := right_false fun hr => by
  have := ((right_decision (it := { a with act := { a.act with text := [120] } }) h).1 hr).2.1
  have := congrArg Ac.Act.text this
  cases this
theorem until_right {a : It.Item} (h : It.right a = true) : It.right { a with decision := { a.decision with til := a.decision.frm } } = !(a.kind == 3) := by
  by_cases hk : a.kind = 3
  · rw [show (!(a.kind == 3)) = false from by rw [hk]; rfl]
    refine right_false fun hr => ?_
    have := ((right_decision (it := { a with decision := { a.decision with til := a.decision.frm } }) hk).1 hr).1
    simp only [rightDecision, Bool.and_eq_true, decide_eq_true_eq] at this
    omega
  · rw [show (a.kind == 3) = false from beqF hk]
    have hd : a.decision = decision0 := by
      rcases right_kind h with f | f | f | f
      · exact ((right_act f).1 h).2.2.2
      · exact ((right_claim f).1 h).2.2.2
      · exact ((right_ballot f).1 h).2.2.2
      · exact absurd f hk
    have : ({ a with decision := { a.decision with til := a.decision.frm } } : It.Item) = a := by
      obtain ⟨k, x, c, b, d⟩ := a
      simp only at hd
      subst hd
      rfl
    rw [this, h]
    rfl
theorem dec_wrong {a : It.Item} (h : It.right a = true) (d : It.Decision) (hd : d ≠ decision0) (hw : rightDecision d = false) : It.right { a with decision := d } = false := right_false fun hr => by
  have hk := right_kind h
  rcases hk with f | f | f | f
  · exact hd ((right_act (it := { a with decision := d }) f).1 hr).2.2.2
  · exact hd ((right_claim (it := { a with decision := d }) f).1 hr).2.2.2
  · exact hd ((right_ballot (it := { a with decision := d }) f).1 hr).2.2.2
  · have := ((right_decision (it := { a with decision := d }) f).1 hr).1
    rw [show rightDecision d = true from this] at hw
    cases hw
theorem object_wrong {a : It.Item} (h : It.right a = true) : It.right { a with decision := { a.decision with object := [120] } } = false := by
  refine dec_wrong h _ (fun e => ?_) ?_
  · have := congrArg It.Decision.object e
    cases this
  · have : rightTerms { a.decision with object := [120] } = false := by
      unfold rightTerms
      simp only [show decide (([120] : By) = []) = false from rfl, show dig [120] = false from rfl, Bool.and_false, Bool.false_and]
      split <;> (try rfl)
      split <;> (try rfl)
      split <;> (try rfl)
      split <;> rfl
    unfold rightDecision
    rw [this]
    simp
theorem n_wrong {a : It.Item} (h : It.right a = true) : It.right { a with decision := { a.decision with n := -1 } } = false := by
  refine dec_wrong h _ (fun e => ?_) ?_
  · have := congrArg It.Decision.n e
    cases this
  · have : rightTerms { a.decision with n := -1 } = false := by
      have hp : plainD { a.decision with n := -1 } = false := by unfold plainD; simp
      unfold rightTerms
      rw [hp]
      simp only [wi, Bool.and_false]
      split <;> (try rfl)
      split <;> (try rfl)
      split <;> (try (simp; done))
      all_goals (try (split <;> rfl))
    unfold rightDecision
    rw [this]
    simp
theorem itemFields_c (a : It.Item) (ha : InI a) : AC Tryz.prog 5 [itemV a] [] (.bo true) [] := by
  refine AC.enter [8, 9, 11, 20, 21] [] Tryz.func5 rfl (by decide) (by decide) (Nat.le_of_ble_eq_true rfl) (by kernel_rfl) ?_; simp only [eraseC, eraseO, List.map_cons, List.map_nil, List.map_toArray, List.getElem?_toArray, List.getElem?_cons_zero, List.getElem?_cons_succ, Option.bind_some, Option.bind_none, List.append_eq, List.cons_append, List.nil_append]
  refine run ?_
  refine cp small13_c ?_
  refine run ?_
  refine cp (few13_c a) ?_
  by_cases hf : fewI a = true
  rotate_left
  · have hf : fewI a = false := by simpa using hf
    rw [hf]
    refine run ?_
    exact er0
  have hfl := hf
  rw [hf]
  unfold fewI at hfl
  simp only [Bool.and_eq_true, decide_eq_true_eq] at hfl
  have k1 := ofAct_c a.act (by omega) (by omega)
  have k2 := rightI_c (ofAct a.act) ⟨ha.iz.act, Nat.zero_le _, Nat.zero_le _, dz0⟩
  rw [ofAct_right] at k2
  have k3 := right_c a.act ha.iz.act
  have k4 := rightI_c a ha.iz
  refine run ?_
  refine cp k1 ?_
  refine run ?_
  refine cp k2 ?_
  refine run ?_
  refine cp k3 ?_
  refine run ?_
  refine cp k4 ?_
  by_cases hr : It.right a = true
  rotate_left
  · rw [right_false hr]
    refine run ?_
    exact er0
  rw [hr]
  refine run ?_
  refine loop_mk (fun m e S => e 1 = .ptr 0 0 ∧ e 3 = .bo true ∧ e 4 = .bo true ∧ ∃ (k : Int) (T : Store), e 5 = .it .i64 k ∧ S = .cells (itemL a) :: T ∧ -1 ≤ k ∧ k ≤ 5 ∧ m = (5 - k).toNat) 6 ⟨(by first | rfl | (simp only [↓upd_apply, ↓put_some, ↓reduceIte, Nat.reduceEqDiff, ↓argEnv_zero, ↓argEnv_succ, *]; done)), (by first | rfl | (simp only [↓upd_apply, ↓put_some, ↓reduceIte, Nat.reduceEqDiff, ↓argEnv_zero, ↓argEnv_succ, *]; done)), (by first | rfl | (simp only [↓upd_apply, ↓put_some, ↓reduceIte, Nat.reduceEqDiff, ↓argEnv_zero, ↓argEnv_succ, *]; done)), -1, [], (by first | rfl | (simp only [↓upd_apply, ↓put_some, ↓reduceIte, Nat.reduceEqDiff, ↓argEnv_zero, ↓argEnv_succ, *]; done)), rfl, by omega, by omega, rfl⟩ ?_
  rintro m e S ⟨s1, s3, s4, k, T, s5, rfl, hk1, hk2, rfl⟩
  have hG100 : ∀ y0 : SObj, (T ++ [y0])[T.length]? = some y0 := fun y0 => by simp [Nat.add_assoc]
  have hS100 : ∀ y0 z : SObj, (T ++ [y0]).set (T.length) z = T ++ [z] := fun y0 z => by simp [Nat.add_assoc]
  have hG200 : ∀ y0 y1 : SObj, (T ++ [y0] ++ [y1])[T.length]? = some y0 := fun y0 y1 => by simp [Nat.add_assoc]
  have hS200 : ∀ y0 y1 z : SObj, (T ++ [y0] ++ [y1]).set (T.length) z = T ++ [z] ++ [y1] := fun y0 y1 z => by simp [Nat.add_assoc]
  have hG210 : ∀ y0 y1 : SObj, (T ++ [y0] ++ [y1])[T.length + 1]? = some y1 := fun y0 y1 => by simp [Nat.add_assoc]
  have hS210 : ∀ y0 y1 z : SObj, (T ++ [y0] ++ [y1]).set (T.length + 1) z = T ++ [y0] ++ [z] := fun y0 y1 z => by simp [Nat.add_assoc]
  have hG300 : ∀ y0 y1 y2 : SObj, (T ++ [y0] ++ [y1] ++ [y2])[T.length]? = some y0 := fun y0 y1 y2 => by simp [Nat.add_assoc]
  have hS300 : ∀ y0 y1 y2 z : SObj, (T ++ [y0] ++ [y1] ++ [y2]).set (T.length) z = T ++ [z] ++ [y1] ++ [y2] := fun y0 y1 y2 z => by simp [Nat.add_assoc]
  have hG310 : ∀ y0 y1 y2 : SObj, (T ++ [y0] ++ [y1] ++ [y2])[T.length + 1]? = some y1 := fun y0 y1 y2 => by simp [Nat.add_assoc]
  have hS310 : ∀ y0 y1 y2 z : SObj, (T ++ [y0] ++ [y1] ++ [y2]).set (T.length + 1) z = T ++ [y0] ++ [z] ++ [y2] := fun y0 y1 y2 z => by simp [Nat.add_assoc]
  have hG320 : ∀ y0 y1 y2 : SObj, (T ++ [y0] ++ [y1] ++ [y2])[T.length + 1 + 1]? = some y2 := fun y0 y1 y2 => by simp [Nat.add_assoc]
  have hS320 : ∀ y0 y1 y2 z : SObj, (T ++ [y0] ++ [y1] ++ [y2]).set (T.length + 1 + 1) z = T ++ [y0] ++ [y1] ++ [z] := fun y0 y1 y2 z => by simp [Nat.add_assoc]
  have hG321 : ∀ y0 y1 y2 : SObj, (T ++ [y0] ++ [y1] ++ [y2])[T.length + 2]? = some y2 := fun y0 y1 y2 => by simp [Nat.add_assoc]
  have hS321 : ∀ y0 y1 y2 z : SObj, (T ++ [y0] ++ [y1] ++ [y2]).set (T.length + 2) z = T ++ [y0] ++ [y1] ++ [z] := fun y0 y1 y2 z => by simp [Nat.add_assoc]
  have hG400 : ∀ y0 y1 y2 y3 : SObj, (T ++ [y0] ++ [y1] ++ [y2] ++ [y3])[T.length]? = some y0 := fun y0 y1 y2 y3 => by simp [Nat.add_assoc]
  have hS400 : ∀ y0 y1 y2 y3 z : SObj, (T ++ [y0] ++ [y1] ++ [y2] ++ [y3]).set (T.length) z = T ++ [z] ++ [y1] ++ [y2] ++ [y3] := fun y0 y1 y2 y3 z => by simp [Nat.add_assoc]
  have hG410 : ∀ y0 y1 y2 y3 : SObj, (T ++ [y0] ++ [y1] ++ [y2] ++ [y3])[T.length + 1]? = some y1 := fun y0 y1 y2 y3 => by simp [Nat.add_assoc]
  have hS410 : ∀ y0 y1 y2 y3 z : SObj, (T ++ [y0] ++ [y1] ++ [y2] ++ [y3]).set (T.length + 1) z = T ++ [y0] ++ [z] ++ [y2] ++ [y3] := fun y0 y1 y2 y3 z => by simp [Nat.add_assoc]
  have hG420 : ∀ y0 y1 y2 y3 : SObj, (T ++ [y0] ++ [y1] ++ [y2] ++ [y3])[T.length + 1 + 1]? = some y2 := fun y0 y1 y2 y3 => by simp [Nat.add_assoc]
  have hS420 : ∀ y0 y1 y2 y3 z : SObj, (T ++ [y0] ++ [y1] ++ [y2] ++ [y3]).set (T.length + 1 + 1) z = T ++ [y0] ++ [y1] ++ [z] ++ [y3] := fun y0 y1 y2 y3 z => by simp [Nat.add_assoc]
  have hG421 : ∀ y0 y1 y2 y3 : SObj, (T ++ [y0] ++ [y1] ++ [y2] ++ [y3])[T.length + 2]? = some y2 := fun y0 y1 y2 y3 => by simp [Nat.add_assoc]
  have hS421 : ∀ y0 y1 y2 y3 z : SObj, (T ++ [y0] ++ [y1] ++ [y2] ++ [y3]).set (T.length + 2) z = T ++ [y0] ++ [y1] ++ [z] ++ [y3] := fun y0 y1 y2 y3 z => by simp [Nat.add_assoc]
  have hG430 : ∀ y0 y1 y2 y3 : SObj, (T ++ [y0] ++ [y1] ++ [y2] ++ [y3])[T.length + 1 + 1 + 1]? = some y3 := fun y0 y1 y2 y3 => by simp [Nat.add_assoc]
  have hS430 : ∀ y0 y1 y2 y3 z : SObj, (T ++ [y0] ++ [y1] ++ [y2] ++ [y3]).set (T.length + 1 + 1 + 1) z = T ++ [y0] ++ [y1] ++ [y2] ++ [z] := fun y0 y1 y2 y3 z => by simp [Nat.add_assoc]
  have hG431 : ∀ y0 y1 y2 y3 : SObj, (T ++ [y0] ++ [y1] ++ [y2] ++ [y3])[T.length + 3]? = some y3 := fun y0 y1 y2 y3 => by simp [Nat.add_assoc]
  have hS431 : ∀ y0 y1 y2 y3 z : SObj, (T ++ [y0] ++ [y1] ++ [y2] ++ [y3]).set (T.length + 3) z = T ++ [y0] ++ [y1] ++ [y2] ++ [z] := fun y0 y1 y2 y3 z => by simp [Nat.add_assoc]
  by_cases hk : k ≤ 4
  focus
    by_cases he : k = a.kind
    · have hb : (k == a.kind) = true := by rw [he]; exact beq_self_eq_true _
      refine runf (And.intro @s1 (And.intro @s3 (And.intro @s4 (And.intro @s5 (And.intro @hG100 (And.intro @hS100 (And.intro @hG200 (And.intro @hS200 (And.intro @hG210 (And.intro @hS210 (And.intro @hG300 (And.intro @hS300 (And.intro @hG310 (And.intro @hS310 (And.intro @hG320 (And.intro @hS320 (And.intro @hG321 (And.intro @hS321 (And.intro @hG400 (And.intro @hS400 (And.intro @hG410 (And.intro @hS410 (And.intro @hG420 (And.intro @hS420 (And.intro @hG421 (And.intro @hS421 (And.intro @hG430 (And.intro @hS430 (And.intro @hG431 (And.intro @hS431 @hb)))))))))))))))))))))))))))))) ?_
      exact round_mk (5 - (k + 1)).toNat (by omega) ⟨(by first | rfl | (simp only [↓upd_apply, ↓put_some, ↓reduceIte, Nat.reduceEqDiff, ↓argEnv_zero, ↓argEnv_succ, *]; done)), (by first | rfl | (simp only [↓upd_apply, ↓put_some, ↓reduceIte, Nat.reduceEqDiff, ↓argEnv_zero, ↓argEnv_succ, *]; done)), (by first | rfl | (simp only [↓upd_apply, ↓put_some, ↓reduceIte, Nat.reduceEqDiff, ↓argEnv_zero, ↓argEnv_succ, *]; done)), k + 1, _, (by first | rfl | (simp only [↓upd_apply, ↓put_some, ↓reduceIte, Nat.reduceEqDiff, ↓argEnv_zero, ↓argEnv_succ, *]; done)), rfl, by omega, by omega, rfl⟩
    · have hb : (k == a.kind) = false := beqF he
      have kk := rightI_c { a with kind := k } ⟨ha.iz.act, ha.iz.claim, ha.iz.ballot, ha.iz.decision⟩
      rw [right_other hr he] at kk
      refine runf (And.intro @s1 (And.intro @s3 (And.intro @s4 (And.intro @s5 (And.intro @hG100 (And.intro @hS100 (And.intro @hG200 (And.intro @hS200 (And.intro @hG210 (And.intro @hS210 (And.intro @hG300 (And.intro @hS300 (And.intro @hG310 (And.intro @hS310 (And.intro @hG320 (And.intro @hS320 (And.intro @hG321 (And.intro @hS321 (And.intro @hG400 (And.intro @hS400 (And.intro @hG410 (And.intro @hS410 (And.intro @hG420 (And.intro @hS420 (And.intro @hG421 (And.intro @hS421 (And.intro @hG430 (And.intro @hS430 (And.intro @hG431 (And.intro @hS431 @hb)))))))))))))))))))))))))))))) ?_
      refine cp kk ?_
      refine runf (And.intro @s1 (And.intro @s3 (And.intro @s4 (And.intro @s5 (And.intro @hG100 (And.intro @hS100 (And.intro @hG200 (And.intro @hS200 (And.intro @hG210 (And.intro @hS210 (And.intro @hG300 (And.intro @hS300 (And.intro @hG310 (And.intro @hS310 (And.intro @hG320 (And.intro @hS320 (And.intro @hG321 (And.intro @hS321 (And.intro @hG400 (And.intro @hS400 (And.intro @hG410 (And.intro @hS410 (And.intro @hG420 (And.intro @hS420 (And.intro @hG421 (And.intro @hS421 (And.intro @hG430 (And.intro @hS430 (And.intro @hG431 @hS431))))))))))))))))))))))))))))) ?_
      exact round_mk (5 - (k + 1)).toNat (by omega) ⟨(by first | rfl | (simp only [↓upd_apply, ↓put_some, ↓reduceIte, Nat.reduceEqDiff, ↓argEnv_zero, ↓argEnv_succ, *]; done)), (by first | rfl | (simp only [↓upd_apply, ↓put_some, ↓reduceIte, Nat.reduceEqDiff, ↓argEnv_zero, ↓argEnv_succ, *]; done)), (by first | rfl | (simp only [↓upd_apply, ↓put_some, ↓reduceIte, Nat.reduceEqDiff, ↓argEnv_zero, ↓argEnv_succ, *]; done)), k + 1, _, (by first | rfl | (simp only [↓upd_apply, ↓put_some, ↓reduceIte, Nat.reduceEqDiff, ↓argEnv_zero, ↓argEnv_succ, *]; done)), rfl, by omega, by omega, rfl⟩
  have j2 := rightI_c { a with decision := { a.decision with til := a.decision.frm } } ⟨ha.iz.act, ha.iz.claim, ha.iz.ballot, ⟨ha.iz.decision.actor, ha.iz.decision.to, ha.iz.decision.tos⟩⟩
  rw [until_right hr] at j2
  have j3 := rightI_c { a with decision := { a.decision with object := [120] } } ⟨ha.iz.act, ha.iz.claim, ha.iz.ballot, ⟨ha.iz.decision.actor, ha.iz.decision.to, ha.iz.decision.tos⟩⟩
  rw [object_wrong hr] at j3
  have j4 := rightI_c { a with decision := { a.decision with n := -1 } } ⟨ha.iz.act, ha.iz.claim, ha.iz.ballot, ⟨ha.iz.decision.actor, ha.iz.decision.to, ha.iz.decision.tos⟩⟩
  rw [n_wrong hr] at j4
  rcases right_kind hr with f | f | f | f
  · have j1 := rightI_c { a with claim := { a.claim with base := 1 } } ⟨ha.iz.act, ha.iz.claim, ha.iz.ballot, ha.iz.decision⟩
    rw [other0 f] at j1
    have b0 : (a.kind == 0) = true := by rw [f]; rfl
    have b1 : (a.kind == 1) = false := beqF (by omega)
    have b2 : (a.kind == 2) = false := beqF (by omega)
    have b3 : (a.kind == 3) = false := beqF (by omega)
    rw [b3] at j2
    refine runf (And.intro @s1 (And.intro @s3 (And.intro @s4 (And.intro @s5 (And.intro @hG100 (And.intro @hS100 (And.intro @hG200 (And.intro @hS200 (And.intro @hG210 (And.intro @hS210 (And.intro @hG300 (And.intro @hS300 (And.intro @hG310 (And.intro @hS310 (And.intro @hG320 (And.intro @hS320 (And.intro @hG321 (And.intro @hS321 (And.intro @hG400 (And.intro @hS400 (And.intro @hG410 (And.intro @hS410 (And.intro @hG420 (And.intro @hS420 (And.intro @hG421 (And.intro @hS421 (And.intro @hG430 (And.intro @hS430 (And.intro @hG431 (And.intro @hS431 (And.intro @b0 (And.intro @b1 (And.intro @b2 @b3))))))))))))))))))))))))))))))))) ?_
    refine cp j1 ?_
    refine runf (And.intro @s1 (And.intro @s3 (And.intro @s4 (And.intro @s5 (And.intro @hG100 (And.intro @hS100 (And.intro @hG200 (And.intro @hS200 (And.intro @hG210 (And.intro @hS210 (And.intro @hG300 (And.intro @hS300 (And.intro @hG310 (And.intro @hS310 (And.intro @hG320 (And.intro @hS320 (And.intro @hG321 (And.intro @hS321 (And.intro @hG400 (And.intro @hS400 (And.intro @hG410 (And.intro @hS410 (And.intro @hG420 (And.intro @hS420 (And.intro @hG421 (And.intro @hS421 (And.intro @hG430 (And.intro @hS430 (And.intro @hG431 (And.intro @hS431 (And.intro @b0 (And.intro @b1 (And.intro @b2 @b3))))))))))))))))))))))))))))))))) ?_
    refine cp j2 ?_
    refine runf (And.intro @s1 (And.intro @s3 (And.intro @s4 (And.intro @s5 (And.intro @hG100 (And.intro @hS100 (And.intro @hG200 (And.intro @hS200 (And.intro @hG210 (And.intro @hS210 (And.intro @hG300 (And.intro @hS300 (And.intro @hG310 (And.intro @hS310 (And.intro @hG320 (And.intro @hS320 (And.intro @hG321 (And.intro @hS321 (And.intro @hG400 (And.intro @hS400 (And.intro @hG410 (And.intro @hS410 (And.intro @hG420 (And.intro @hS420 (And.intro @hG421 (And.intro @hS421 (And.intro @hG430 (And.intro @hS430 (And.intro @hG431 (And.intro @hS431 (And.intro @b0 (And.intro @b1 (And.intro @b2 @b3))))))))))))))))))))))))))))))))) ?_
    refine cp j3 ?_
    refine runf (And.intro @s1 (And.intro @s3 (And.intro @s4 (And.intro @s5 (And.intro @hG100 (And.intro @hS100 (And.intro @hG200 (And.intro @hS200 (And.intro @hG210 (And.intro @hS210 (And.intro @hG300 (And.intro @hS300 (And.intro @hG310 (And.intro @hS310 (And.intro @hG320 (And.intro @hS320 (And.intro @hG321 (And.intro @hS321 (And.intro @hG400 (And.intro @hS400 (And.intro @hG410 (And.intro @hS410 (And.intro @hG420 (And.intro @hS420 (And.intro @hG421 (And.intro @hS421 (And.intro @hG430 (And.intro @hS430 (And.intro @hG431 @hS431))))))))))))))))))))))))))))) ?_
    refine cp j4 ?_
    refine run ?_
    exact er0
  · have j1 := rightI_c { a with ballot := { a.ballot with gen := 1 } } ⟨ha.iz.act, ha.iz.claim, ha.iz.ballot, ha.iz.decision⟩
    rw [other1 f] at j1
    have b0 : (a.kind == 0) = false := beqF (by omega)
    have b1 : (a.kind == 1) = true := by rw [f]; rfl
    have b2 : (a.kind == 2) = false := beqF (by omega)
    have b3 : (a.kind == 3) = false := beqF (by omega)
    rw [b3] at j2
    refine runf (And.intro @s1 (And.intro @s3 (And.intro @s4 (And.intro @s5 (And.intro @hG100 (And.intro @hS100 (And.intro @hG200 (And.intro @hS200 (And.intro @hG210 (And.intro @hS210 (And.intro @hG300 (And.intro @hS300 (And.intro @hG310 (And.intro @hS310 (And.intro @hG320 (And.intro @hS320 (And.intro @hG321 (And.intro @hS321 (And.intro @hG400 (And.intro @hS400 (And.intro @hG410 (And.intro @hS410 (And.intro @hG420 (And.intro @hS420 (And.intro @hG421 (And.intro @hS421 (And.intro @hG430 (And.intro @hS430 (And.intro @hG431 (And.intro @hS431 (And.intro @b0 (And.intro @b1 (And.intro @b2 @b3))))))))))))))))))))))))))))))))) ?_
    refine cp j1 ?_
    refine runf (And.intro @s1 (And.intro @s3 (And.intro @s4 (And.intro @s5 (And.intro @hG100 (And.intro @hS100 (And.intro @hG200 (And.intro @hS200 (And.intro @hG210 (And.intro @hS210 (And.intro @hG300 (And.intro @hS300 (And.intro @hG310 (And.intro @hS310 (And.intro @hG320 (And.intro @hS320 (And.intro @hG321 (And.intro @hS321 (And.intro @hG400 (And.intro @hS400 (And.intro @hG410 (And.intro @hS410 (And.intro @hG420 (And.intro @hS420 (And.intro @hG421 (And.intro @hS421 (And.intro @hG430 (And.intro @hS430 (And.intro @hG431 (And.intro @hS431 (And.intro @b0 (And.intro @b1 (And.intro @b2 @b3))))))))))))))))))))))))))))))))) ?_
    refine cp j2 ?_
    refine runf (And.intro @s1 (And.intro @s3 (And.intro @s4 (And.intro @s5 (And.intro @hG100 (And.intro @hS100 (And.intro @hG200 (And.intro @hS200 (And.intro @hG210 (And.intro @hS210 (And.intro @hG300 (And.intro @hS300 (And.intro @hG310 (And.intro @hS310 (And.intro @hG320 (And.intro @hS320 (And.intro @hG321 (And.intro @hS321 (And.intro @hG400 (And.intro @hS400 (And.intro @hG410 (And.intro @hS410 (And.intro @hG420 (And.intro @hS420 (And.intro @hG421 (And.intro @hS421 (And.intro @hG430 (And.intro @hS430 (And.intro @hG431 (And.intro @hS431 (And.intro @b0 (And.intro @b1 (And.intro @b2 @b3))))))))))))))))))))))))))))))))) ?_
    refine cp j3 ?_
    refine runf (And.intro @s1 (And.intro @s3 (And.intro @s4 (And.intro @s5 (And.intro @hG100 (And.intro @hS100 (And.intro @hG200 (And.intro @hS200 (And.intro @hG210 (And.intro @hS210 (And.intro @hG300 (And.intro @hS300 (And.intro @hG310 (And.intro @hS310 (And.intro @hG320 (And.intro @hS320 (And.intro @hG321 (And.intro @hS321 (And.intro @hG400 (And.intro @hS400 (And.intro @hG410 (And.intro @hS410 (And.intro @hG420 (And.intro @hS420 (And.intro @hG421 (And.intro @hS421 (And.intro @hG430 (And.intro @hS430 (And.intro @hG431 @hS431))))))))))))))))))))))))))))) ?_
    refine cp j4 ?_
    refine run ?_
    exact er0
  · have j1 := rightI_c { a with decision := { a.decision with to := [[]] } } ⟨ha.iz.act, ha.iz.claim, ha.iz.ballot, ⟨ha.iz.decision.actor, by show ([[]] : List By).length ≤ _; decide, fun s hs => by rw [List.mem_singleton.1 hs]; decide⟩⟩
    rw [other2 f] at j1
    have b0 : (a.kind == 0) = false := beqF (by omega)
    have b1 : (a.kind == 1) = false := beqF (by omega)
    have b2 : (a.kind == 2) = true := by rw [f]; rfl
    have b3 : (a.kind == 3) = false := beqF (by omega)
    rw [b3] at j2
    refine runf (And.intro @s1 (And.intro @s3 (And.intro @s4 (And.intro @s5 (And.intro @hG100 (And.intro @hS100 (And.intro @hG200 (And.intro @hS200 (And.intro @hG210 (And.intro @hS210 (And.intro @hG300 (And.intro @hS300 (And.intro @hG310 (And.intro @hS310 (And.intro @hG320 (And.intro @hS320 (And.intro @hG321 (And.intro @hS321 (And.intro @hG400 (And.intro @hS400 (And.intro @hG410 (And.intro @hS410 (And.intro @hG420 (And.intro @hS420 (And.intro @hG421 (And.intro @hS421 (And.intro @hG430 (And.intro @hS430 (And.intro @hG431 (And.intro @hS431 (And.intro @b0 (And.intro @b1 (And.intro @b2 @b3))))))))))))))))))))))))))))))))) ?_
    refine cp j1 ?_
    refine runf (And.intro @s1 (And.intro @s3 (And.intro @s4 (And.intro @s5 (And.intro @hG100 (And.intro @hS100 (And.intro @hG200 (And.intro @hS200 (And.intro @hG210 (And.intro @hS210 (And.intro @hG300 (And.intro @hS300 (And.intro @hG310 (And.intro @hS310 (And.intro @hG320 (And.intro @hS320 (And.intro @hG321 (And.intro @hS321 (And.intro @hG400 (And.intro @hS400 (And.intro @hG410 (And.intro @hS410 (And.intro @hG420 (And.intro @hS420 (And.intro @hG421 (And.intro @hS421 (And.intro @hG430 (And.intro @hS430 (And.intro @hG431 (And.intro @hS431 (And.intro @b0 (And.intro @b1 (And.intro @b2 @b3))))))))))))))))))))))))))))))))) ?_
    refine cp j2 ?_
    refine runf (And.intro @s1 (And.intro @s3 (And.intro @s4 (And.intro @s5 (And.intro @hG100 (And.intro @hS100 (And.intro @hG200 (And.intro @hS200 (And.intro @hG210 (And.intro @hS210 (And.intro @hG300 (And.intro @hS300 (And.intro @hG310 (And.intro @hS310 (And.intro @hG320 (And.intro @hS320 (And.intro @hG321 (And.intro @hS321 (And.intro @hG400 (And.intro @hS400 (And.intro @hG410 (And.intro @hS410 (And.intro @hG420 (And.intro @hS420 (And.intro @hG421 (And.intro @hS421 (And.intro @hG430 (And.intro @hS430 (And.intro @hG431 (And.intro @hS431 (And.intro @b0 (And.intro @b1 (And.intro @b2 @b3))))))))))))))))))))))))))))))))) ?_
    refine cp j3 ?_
    refine runf (And.intro @s1 (And.intro @s3 (And.intro @s4 (And.intro @s5 (And.intro @hG100 (And.intro @hS100 (And.intro @hG200 (And.intro @hS200 (And.intro @hG210 (And.intro @hS210 (And.intro @hG300 (And.intro @hS300 (And.intro @hG310 (And.intro @hS310 (And.intro @hG320 (And.intro @hS320 (And.intro @hG321 (And.intro @hS321 (And.intro @hG400 (And.intro @hS400 (And.intro @hG410 (And.intro @hS410 (And.intro @hG420 (And.intro @hS420 (And.intro @hG421 (And.intro @hS421 (And.intro @hG430 (And.intro @hS430 (And.intro @hG431 @hS431))))))))))))))))))))))))))))) ?_
    refine cp j4 ?_
    refine run ?_
    exact er0
  · have j1 := rightI_c { a with act := { a.act with text := [120] } } ⟨⟨ha.iz.act.author, ha.iz.act.target, ha.iz.act.group, by show ([120] : By).length ≤ _; decide, ha.iz.act.tos, ha.iz.act.to, ha.iz.act.wraps⟩, ha.iz.claim, ha.iz.ballot, ha.iz.decision⟩
    rw [other3 f] at j1
    have b0 : (a.kind == 0) = false := beqF (by omega)
    have b1 : (a.kind == 1) = false := beqF (by omega)
    have b2 : (a.kind == 2) = false := beqF (by omega)
    have b3 : (a.kind == 3) = true := by rw [f]; rfl
    rw [b3] at j2
    refine runf (And.intro @s1 (And.intro @s3 (And.intro @s4 (And.intro @s5 (And.intro @hG100 (And.intro @hS100 (And.intro @hG200 (And.intro @hS200 (And.intro @hG210 (And.intro @hS210 (And.intro @hG300 (And.intro @hS300 (And.intro @hG310 (And.intro @hS310 (And.intro @hG320 (And.intro @hS320 (And.intro @hG321 (And.intro @hS321 (And.intro @hG400 (And.intro @hS400 (And.intro @hG410 (And.intro @hS410 (And.intro @hG420 (And.intro @hS420 (And.intro @hG421 (And.intro @hS421 (And.intro @hG430 (And.intro @hS430 (And.intro @hG431 (And.intro @hS431 (And.intro @b0 (And.intro @b1 (And.intro @b2 @b3))))))))))))))))))))))))))))))))) ?_
    refine cp j1 ?_
    refine runf (And.intro @s1 (And.intro @s3 (And.intro @s4 (And.intro @s5 (And.intro @hG100 (And.intro @hS100 (And.intro @hG200 (And.intro @hS200 (And.intro @hG210 (And.intro @hS210 (And.intro @hG300 (And.intro @hS300 (And.intro @hG310 (And.intro @hS310 (And.intro @hG320 (And.intro @hS320 (And.intro @hG321 (And.intro @hS321 (And.intro @hG400 (And.intro @hS400 (And.intro @hG410 (And.intro @hS410 (And.intro @hG420 (And.intro @hS420 (And.intro @hG421 (And.intro @hS421 (And.intro @hG430 (And.intro @hS430 (And.intro @hG431 (And.intro @hS431 (And.intro @b0 (And.intro @b1 (And.intro @b2 @b3))))))))))))))))))))))))))))))))) ?_
    refine cp j2 ?_
    refine runf (And.intro @s1 (And.intro @s3 (And.intro @s4 (And.intro @s5 (And.intro @hG100 (And.intro @hS100 (And.intro @hG200 (And.intro @hS200 (And.intro @hG210 (And.intro @hS210 (And.intro @hG300 (And.intro @hS300 (And.intro @hG310 (And.intro @hS310 (And.intro @hG320 (And.intro @hS320 (And.intro @hG321 (And.intro @hS321 (And.intro @hG400 (And.intro @hS400 (And.intro @hG410 (And.intro @hS410 (And.intro @hG420 (And.intro @hS420 (And.intro @hG421 (And.intro @hS421 (And.intro @hG430 (And.intro @hS430 (And.intro @hG431 (And.intro @hS431 (And.intro @b0 (And.intro @b1 (And.intro @b2 @b3))))))))))))))))))))))))))))))))) ?_
    refine cp j3 ?_
    refine runf (And.intro @s1 (And.intro @s3 (And.intro @s4 (And.intro @s5 (And.intro @hG100 (And.intro @hS100 (And.intro @hG200 (And.intro @hS200 (And.intro @hG210 (And.intro @hS210 (And.intro @hG300 (And.intro @hS300 (And.intro @hG310 (And.intro @hS310 (And.intro @hG320 (And.intro @hS320 (And.intro @hG321 (And.intro @hS321 (And.intro @hG400 (And.intro @hS400 (And.intro @hG410 (And.intro @hS410 (And.intro @hG420 (And.intro @hS420 (And.intro @hG421 (And.intro @hS421 (And.intro @hG430 (And.intro @hS430 (And.intro @hG431 @hS431))))))))))))))))))))))))))))) ?_
    refine cp j4 ?_
    refine run ?_
    exact er0
end Go.Proofs.YtnjjldhcpiehkaaGreatDoor.Pe
