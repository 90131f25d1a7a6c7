/- The references of layers 2 and 13 on plain values: lists; the messages of claims, ballots and decisions. -/
import Derived.Test.YtnjjldhcpiehkaaGreatDoorRfC
import Derived.Test.YtnjjldhcpiehkaaGreatDoorItD
namespace Go.Proofs.YtnjjldhcpiehkaaGreatDoor.Pe
set_option linter.unusedSectionVars false
set_option linter.unusedVariables false
set_option linter.unusedSimpArgs false
open Go Go.RowKit Co Sg Ac It
set_option maxRecDepth 100000
set_option maxHeartbeats 4000000
theorem flist_c (l : List By) (hl : l.length ≤ 1000000) (hx : ∀ x ∈ l, x.length ≤ 1000000) : AC Tryz.prog 123 [sls l] [] (.st (list l)) [] := by
  refine AC.enter [74, 68] [] Tryz.func123 rfl (by decide) (by decide) (Nat.le_of_ble_eq_true rfl) (by kernel_rfl) ?_; simp only [eraseC, eraseO, List.map_cons, List.map_nil, List.map_toArray, List.getElem?_toArray, List.getElem?_cons_zero, List.getElem?_cons_succ, Option.bind_some, Option.bind_none, List.append_eq, List.cons_append, List.nil_append]
  have hn9 := num_len9 (n := l.length) (by omega)
  have kn := fnum_c (l.length : Int) (by omega)
  rw [numI_nat] at kn
  refine run ?_
  refine cp kn ?_
  refine run ?_
  refine loop_mk (fun m e S => S = [] ∧ e 0 = sls l ∧ ∃ (k : Nat) (acc : By), e 3 = .st acc ∧ e 4 = .it .i64 (k : Int) ∧ acc = num l.length ++ ((l.take k).map text).flatten ∧ k ≤ l.length ∧ m = l.length - k) l.length
    ⟨rfl, (by first | rfl | (simp only [↓upd_apply, ↓put_some, ↓reduceIte, Nat.reduceEqDiff, ↓argEnv_zero, ↓argEnv_succ, *]; done)), 0, num l.length, (by first | rfl | (simp only [↓upd_apply, ↓put_some, ↓reduceIte, Nat.reduceEqDiff, ↓argEnv_zero, ↓argEnv_succ, *]; done)), (by first | rfl | (simp only [↓upd_apply, ↓put_some, ↓reduceIte, Nat.reduceEqDiff, ↓argEnv_zero, ↓argEnv_succ, *]; done)), by simp, by omega, rfl⟩ ?_
  rintro m e S ⟨rfl, s0, k, acc, s3, s4, hacc, hk, rfl⟩
  by_cases hlt : k < l.length
  · have ga : l[k]? = some l[k] := List.getElem?_eq_getElem hlt
    have hxk := hx l[k] (List.getElem_mem hlt)
    have htl := text_len hxk
    have hal : acc.length ≤ 1000009000009 := by
      have h1 := fl_len (l := l.take k) fun x h => hx x (List.mem_of_mem_take h)
      have h2 : (l.take k).length * 1000009 ≤ 1000000 * 1000009 := Nat.mul_le_mul_right _ (by rw [List.length_take]; omega)
      rw [hacc, List.length_append]; omega
    have hft := fl_take hlt
    generalize l[k] = x at *
    refine runf (And.intro @s0 (And.intro @s3 (And.intro @s4 @ga))) ?_
    refine cp (ftext_c x (by omega)) ?_
    refine runf (And.intro @s0 (And.intro @s3 @s4)) ?_
    refine round_mk (l.length - (k + 1)) (by omega) ⟨rfl, (by first | rfl | (simp only [↓upd_apply, ↓put_some, ↓reduceIte, Nat.reduceEqDiff, ↓argEnv_zero, ↓argEnv_succ, *]; done)), k + 1, acc ++ text x, (by first | rfl | (simp only [↓upd_apply, ↓put_some, ↓reduceIte, Nat.reduceEqDiff, ↓argEnv_zero, ↓argEnv_succ, *]; done)), (by first | rfl | (simp only [↓upd_apply, ↓put_some, ↓reduceIte, Nat.reduceEqDiff, ↓argEnv_zero, ↓argEnv_succ, *]; done)), by rw [hacc, hft, List.append_assoc], by omega, rfl⟩
  · obtain rfl : k = l.length := by omega
    rw [List.take_length] at hacc
    refine runf (And.intro @s0 (And.intro @s3 @s4)) ?_
    rw [show list l = acc from hacc.symm]
    exact er0
theorem fclaim_c (c : It.Claim) (h1 : c.actor.length ≤ 1000000 ∧ c.prev.length ≤ 1000000) (h2 : ∀ x ∈ [c.base, c.gen, c.home, c.pub, c.time], -9223372036854775808 ≤ x ∧ x ≤ 9223372036854775807) : AC Tryz.prog 94 [claimV c] [] (.st (claimB c)) [] := by
  refine AC.enter [68, 74] [] Tryz.func94 rfl (by decide) (by decide) (Nat.le_of_ble_eq_true rfl) (by kernel_rfl) ?_; simp only [eraseC, eraseO, List.map_cons, List.map_nil, List.map_toArray, List.getElem?_toArray, List.getElem?_cons_zero, List.getElem?_cons_succ, Option.bind_some, Option.bind_none, List.append_eq, List.cons_append, List.nil_append]
  simp only [List.forall_mem_cons] at h2
  have l1 := text_len h1.1
  have l2 := text_len h1.2
  have n1 := numI_le c.base (by omega)
  have n2 := numI_le c.gen (by omega)
  have n3 := numI_le c.home (by omega)
  have n4 := numI_le c.pub (by omega)
  have n5 := numI_le c.time (by omega)
  unfold claimB
  refine run ?_
  refine cp (ftext_c c.actor (by omega)) ?_
  refine run ?_
  refine cp (fnum_c c.base (by omega)) ?_
  refine run ?_
  refine cp (ftext_c c.prev (by omega)) ?_
  refine run ?_
  refine cp (fnum_c c.gen (by omega)) ?_
  refine run ?_
  refine cp (fnum_c c.home (by omega)) ?_
  refine run ?_
  refine cp (fnum_c c.pub (by omega)) ?_
  refine run ?_
  refine cp (fnum_c c.time (by omega)) ?_
  refine run ?_
  exact er0
theorem fballot_c (b : It.Ballot) (h1 : b.actor.length ≤ 1000000 ∧ b.claim.length ≤ 1000000) (h2 : ∀ x ∈ [b.server, b.gen, b.time], -9223372036854775808 ≤ x ∧ x ≤ 9223372036854775807) : AC Tryz.prog 69 [ballotV b] [] (.st (ballotB b)) [] := by
  refine AC.enter [68, 74] [] Tryz.func69 rfl (by decide) (by decide) (Nat.le_of_ble_eq_true rfl) (by kernel_rfl) ?_; simp only [eraseC, eraseO, List.map_cons, List.map_nil, List.map_toArray, List.getElem?_toArray, List.getElem?_cons_zero, List.getElem?_cons_succ, Option.bind_some, Option.bind_none, List.append_eq, List.cons_append, List.nil_append]
  simp only [List.forall_mem_cons] at h2
  have l1 := text_len h1.1
  have l2 := text_len h1.2
  have n1 := numI_le b.server (by omega)
  have n2 := numI_le b.gen (by omega)
  have n3 := numI_le b.time (by omega)
  unfold ballotB
  refine run ?_
  refine cp (fnum_c b.server (by omega)) ?_
  refine run ?_
  refine cp (ftext_c b.actor (by omega)) ?_
  refine run ?_
  refine cp (fnum_c b.gen (by omega)) ?_
  refine run ?_
  refine cp (ftext_c b.claim (by omega)) ?_
  refine run ?_
  refine cp (fnum_c b.time (by omega)) ?_
  refine run ?_
  exact er0
theorem fdecision_c (d : It.Decision) (h1 : d.actor.length ≤ 1000000 ∧ d.object.length ≤ 1000000 ∧ d.text.length ≤ 1000000) (ht : d.to.length ≤ 1000000 ∧ ∀ s ∈ d.to, s.length ≤ 1000000) (h2 : ∀ x ∈ [d.server, d.number, d.kind, d.n, d.frm, d.til], -9223372036854775808 ≤ x ∧ x ≤ 9223372036854775807) : AC Tryz.prog 70 [decisionV d] [] (.st (decisionB d)) [] := by
  refine AC.enter [68, 74, 123] [] Tryz.func70 rfl (by decide) (by decide) (Nat.le_of_ble_eq_true rfl) (by kernel_rfl) ?_; simp only [eraseC, eraseO, List.map_cons, List.map_nil, List.map_toArray, List.getElem?_toArray, List.getElem?_cons_zero, List.getElem?_cons_succ, Option.bind_some, Option.bind_none, List.append_eq, List.cons_append, List.nil_append]
  simp only [List.forall_mem_cons] at h2
  have l1 := text_len h1.1
  have l2 := text_len h1.2.1
  have l3 := text_len h1.2.2
  have n1 := numI_le d.server (by omega)
  have n2 := numI_le d.number (by omega)
  have n3 := numI_le d.kind (by omega)
  have n4 := numI_le d.n (by omega)
  have n5 := numI_le d.frm (by omega)
  have n6 := numI_le d.til (by omega)
  have ll := list_len ht.1 ht.2
  unfold decisionB
  refine run ?_
  refine cp (fnum_c d.server (by omega)) ?_
  refine run ?_
  refine cp (fnum_c d.number (by omega)) ?_
  refine run ?_
  refine cp (fnum_c d.kind (by omega)) ?_
  refine run ?_
  refine cp (ftext_c d.actor (by omega)) ?_
  refine run ?_
  refine cp (ftext_c d.object (by omega)) ?_
  refine run ?_
  refine cp (ftext_c d.text (by omega)) ?_
  refine run ?_
  refine cp (flist_c d.to ht.1 ht.2) ?_
  refine run ?_
  refine cp (fnum_c d.n (by omega)) ?_
  refine run ?_
  refine cp (fnum_c d.frm (by omega)) ?_
  refine run ?_
  refine cp (fnum_c d.til (by omega)) ?_
  refine run ?_
  exact er0
theorem fmclaim_c (c : It.Claim) (h : Sh (ofClaim c)) : AC Tryz.prog 99 [claimV c] [] (.st (message (ofClaim c))) [] := by
  refine AC.enter [68, 94] [] Tryz.func99 rfl (by decide) (by decide) (Nat.le_of_ble_eq_true rfl) (by kernel_rfl) ?_; simp only [eraseC, eraseO, List.map_cons, List.map_nil, List.map_toArray, List.getElem?_toArray, List.getElem?_cons_zero, List.getElem?_cons_succ, Option.bind_some, Option.bind_none, List.append_eq, List.cons_append, List.nil_append]
  have hl := claimB_len h.ez
  have hw : (text wClaim).length = 6 := rfl
  have hm : message (ofClaim c) = text wClaim ++ claimB c := rfl
  rw [hm]
  have hl : (claimB c).length ≤ 10000000 := hl
  have kc := fclaim_c c h.ez.c h.ez.ci
  generalize claimB c = x at *
  refine run ?_
  refine cp (ftext_c wClaim (by simp)) ?_
  refine run ?_
  refine cp kc ?_
  refine run ?_
  exact er0
theorem fmballot_c (c : It.Ballot) (h : Sh (ofBallot c)) : AC Tryz.prog 16 [ballotV c] [] (.st (message (ofBallot c))) [] := by
  refine AC.enter [68, 69] [] Tryz.func16 rfl (by decide) (by decide) (Nat.le_of_ble_eq_true rfl) (by kernel_rfl) ?_; simp only [eraseC, eraseO, List.map_cons, List.map_nil, List.map_toArray, List.getElem?_toArray, List.getElem?_cons_zero, List.getElem?_cons_succ, Option.bind_some, Option.bind_none, List.append_eq, List.cons_append, List.nil_append]
  have hl := ballotB_len h.ez
  have hw : (text wBallot).length = 7 := rfl
  have hm : message (ofBallot c) = text wBallot ++ ballotB c := rfl
  rw [hm]
  have hl : (ballotB c).length ≤ 10000000 := hl
  have kc := fballot_c c h.ez.b h.ez.bi
  generalize ballotB c = x at *
  refine run ?_
  refine cp (ftext_c wBallot (by simp)) ?_
  refine run ?_
  refine cp kc ?_
  refine run ?_
  exact er0
theorem fmdecision_c (c : It.Decision) (h : Sh (ofDecision c)) (ht : c.to.length ≤ 1000000 ∧ ∀ s ∈ c.to, s.length ≤ 1000000) : AC Tryz.prog 17 [decisionV c] [] (.st (message (ofDecision c))) [] := by
  refine AC.enter [68, 70] [] Tryz.func17 rfl (by decide) (by decide) (Nat.le_of_ble_eq_true rfl) (by kernel_rfl) ?_; simp only [eraseC, eraseO, List.map_cons, List.map_nil, List.map_toArray, List.getElem?_toArray, List.getElem?_cons_zero, List.getElem?_cons_succ, Option.bind_some, Option.bind_none, List.append_eq, List.cons_append, List.nil_append]
  have hl := decisionB_len h
  have hw : (text wDecision).length = 9 := rfl
  have hm : message (ofDecision c) = text wDecision ++ decisionB c := rfl
  rw [hm]
  have hl : (decisionB c).length ≤ 60000000 := hl
  have kc := fdecision_c c h.ez.d ht h.ez.di
  generalize decisionB c = x at *
  refine run ?_
  refine cp (ftext_c wDecision (by simp)) ?_
  refine run ?_
  refine cp kc ?_
  refine run ?_
  exact er0
end Go.Proofs.YtnjjldhcpiehkaaGreatDoor.Pe
