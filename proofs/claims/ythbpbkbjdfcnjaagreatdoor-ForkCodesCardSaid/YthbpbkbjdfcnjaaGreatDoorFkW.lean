/- Several texts in one. -/
import Derived.Test.YthbpbkbjdfcnjaaGreatDoorFkV0
import Derived.Test.YthbpbkbjdfcnjaaGreatDoorFkB
import Derived.Test.YthbpbkbjdfcnjaaGreatDoorRfE
import Derived.Test.YthbpbkbjdfcnjaaGreatDoorPeUW
import Derived.Test.YthbpbkbjdfcnjaaGreatDoorShH
set_option linter.unusedSectionVars false
set_option linter.unusedVariables false
set_option linter.unusedSimpArgs false
namespace Go.Proofs.YthbpbkbjdfcnjaaGreatDoor.Sl
open Go Co Sg Ac It
theorem text_none : R.text ⟨[], false⟩ = ([], Co.fail) := rfl
theorem rHead_fail : (rHead Co.fail).2 = Co.fail := rfl
theorem readHead_ref (s : By) : readHead s = if (rHead (R.text ⟨s, false⟩).2).2.done = true ∧ headB (rHead (R.text ⟨s, false⟩).2).1 = s then ((rHead (R.text ⟨s, false⟩).2).1, true) else (head0, false) := by
 by_cases hc : (rHead (R.text ⟨s, false⟩).2).2.done = true ∧ headB (rHead (R.text ⟨s, false⟩).2).1 = s
 ·rw [if_pos hc]
  have hr : rightH (rHead (R.text ⟨s, false⟩).2).1 = true := by
   cases h : rightH (rHead (R.text ⟨s, false⟩).2).1 with
   | true => rfl
   | false =>
    exfalso
    have h1 := hc.2
    rw [headB_wrong h] at h1
    subst h1
    have h2 := hc.1
    rw [text_none, rHead_fail] at h2
    cases h2
  have h3 := readHead_back hr
  rw [hc.2] at h3
  exact h3
 ·rw [if_neg hc]
  unfold readHead
  simp only
  rw [if_neg]
  exact fun h => hc ⟨h.2.1, h.2.2.2⟩
theorem readEv_ref (s : By) : readEv s =
  (let o := R.text ⟨s, false⟩
  let n := o.2.text
  let r := n.2.text
  let k := r.2.list
  let e : Evidence := ⟨(readHead o.1).1, (readHead n.1).1, r.1, k.1⟩
  if (readHead o.1).2 = true ∧ (readHead n.1).2 = true ∧ formedE e = true ∧ evidB e = s then (e, true) else (evid0, false)) := by
 simp only
 split
 ·rename_i hc
  have h := readEv_back hc.2.2.1
  rw [hc.2.2.2] at h
  exact h
 ·rename_i hc
  unfold readEv
  simp only
  rw [if_neg]
  exact fun h => hc h.2
end Go.Proofs.YthbpbkbjdfcnjaaGreatDoor.Sl
namespace Go.Proofs.YthbpbkbjdfcnjaaGreatDoor.Pe
open Go Go.RowKit Co Sg Ac It Sl
set_option maxRecDepth 100000
set_option maxHeartbeats 4000000
theorem fright15_c (h : Head) : AC Tryz.prog 126 [headV h] [] (.bo (rightH h)) [] := by
 refine AC.enter [] [] Tryz.func126 rfl (by decide) (by decide) (Nat.le_of_ble_eq_true rfl) (by kernel_rfl) ?_; simp only [eraseC, eraseO, List.map_cons, List.map_nil, List.map_toArray, List.getElem?_toArray, List.getElem?_cons_zero, List.getElem?_cons_succ, Option.bind_some, Option.bind_none, List.append_eq, List.cons_append, List.nil_append]
 have hf : ¬ ((0 ≤ h.server ∧ h.server ≤ 19) ∧ (0 ≤ h.size ∧ h.size ≤ 1073741824) ∧ (0 ≤ h.time ∧ h.time ≤ 1099511627776) ∧ h.root.length = 32 ∧ (0 ≤ h.sig.e ∧ h.sig.e ≤ 2305843009213693949) ∧ (0 ≤ h.sig.s ∧ h.sig.s ≤ 2305843009213693949)) → rightH h = false := fun hn => Bool.eq_false_iff.2 fun r => hn (rightH_lin.1 r)
 by_cases h1 : 0 ≤ h.server
 rotate_left
 ·rw [hf (by omega)]
  refine run ?_
  exact er0
 by_cases h2 : h.server < 20
 rotate_left
 ·rw [hf (by omega)]
  refine run ?_
  exact er0
 by_cases h3 : 0 ≤ h.size
 rotate_left
 ·rw [hf (by omega)]
  refine run ?_
  exact er0
 by_cases h4 : h.size ≤ 1073741824
 rotate_left
 ·rw [hf (by omega)]
  refine run ?_
  exact er0
 by_cases h5 : 0 ≤ h.time
 rotate_left
 ·rw [hf (by omega)]
  refine run ?_
  exact er0
 by_cases h6 : h.time ≤ 1099511627776
 rotate_left
 ·rw [hf (by omega)]
  refine run ?_
  exact er0
 by_cases h7 : h.root.length = 32
 rotate_left
 ·have h7' : ¬ (h.root.length : Int) = 32 := by omega
  rw [hf (by omega)]
  refine runf @h7' ?_
  exact er0
 have h7' : (h.root.length : Int) = 32 := by omega
 by_cases h8 : 0 ≤ h.sig.e
 rotate_left
 ·rw [hf (by omega)]
  refine runf @h7' ?_
  exact er0
 by_cases h9 : h.sig.e ≤ 2305843009213693949
 rotate_left
 ·rw [hf (by omega)]
  refine runf @h7' ?_
  exact er0
 by_cases h10 : 0 ≤ h.sig.s
 rotate_left
 ·rw [hf (by omega)]
  refine runf @h7' ?_
  exact er0
 by_cases h11 : h.sig.s ≤ 2305843009213693949
 rotate_left
 ·rw [hf (by omega)]
  refine runf @h7' ?_
  exact er0
 rw [rightH_lin.2 (by omega)]
 refine runf @h7' ?_
 exact er0
theorem fcore15_c (h : Head) (hr : rightH h = true) : AC Tryz.prog 129 [headV h] [] (.st (coreH h)) [] := by
 refine AC.enter [78, 128] [] Tryz.func129 rfl (by decide) (by decide) (Nat.le_of_ble_eq_true rfl) (by kernel_rfl) ?_; simp only [eraseC, eraseO, List.map_cons, List.map_nil, List.map_toArray, List.getElem?_toArray, List.getElem?_cons_zero, List.getElem?_cons_succ, Option.bind_some, Option.bind_none, List.append_eq, List.cons_append, List.nil_append]
 have hh := rightH_lin.1 hr
 have n1 := numI_le h.server (by omega)
 have n2 := numI_le h.size (by omega)
 have n3 := numI_le h.time (by omega)
 have t1 := text_len (s := h.root) (by omega)
 have tw : (text wHead).length = 5 := rfl
 unfold coreH
 refine run ?_
 refine cp (ftext_c wHead (by simp)) ?_
 refine run ?_
 refine cp (fnum_c h.server (by omega)) ?_
 refine run ?_
 refine cp (fnum_c h.size (by omega)) ?_
 refine run ?_
 refine cp (ftext_c h.root (by omega)) ?_
 refine run ?_
 refine cp (fnum_c h.time (by omega)) ?_
 refine run ?_
 exact er0
theorem fheadBytes_c (h : Head) : AC Tryz.prog 79 [headV h] [] (.st (headB h)) [] := by
 refine AC.enter [126, 129, 128] [] Tryz.func79 rfl (by decide) (by decide) (Nat.le_of_ble_eq_true rfl) (by kernel_rfl) ?_; simp only [eraseC, eraseO, List.map_cons, List.map_nil, List.map_toArray, List.getElem?_toArray, List.getElem?_cons_zero, List.getElem?_cons_succ, Option.bind_some, Option.bind_none, List.append_eq, List.cons_append, List.nil_append]
 have kr := fright15_c h
 unfold headB
 cases hr : rightH h with
 | false =>
  rw [hr] at kr
  rw [if_neg (by simp)]
  refine run ?_
  refine cp kr ?_
  refine run ?_
  exact er0
 | true =>
  rw [hr] at kr
  rw [if_pos rfl]
  have hh := rightH_lin.1 hr
  have hc := coreR_lenH hr
  have kc := fcore15_c h hr
  have n1 := numI_le h.sig.e (by omega)
  have n2 := numI_le h.sig.s (by omega)
  generalize coreH h = c at *
  refine run ?_
  refine cp kr ?_
  refine run ?_
  refine cp kc ?_
  refine run ?_
  refine cp (fnum_c h.sig.e (by omega)) ?_
  refine run ?_
  refine cp (fnum_c h.sig.s (by omega)) ?_
  refine run ?_
  exact er0
theorem frtext_s (x : R) (hx : x.rest.length ≤ 1000000) : x.text.2.rest.length ≤ 1000000 ∧ x.text.1.length ≤ 1000000 := by
 have := text_rest x
 omega
theorem frnum_s (x : R) (hx : x.rest.length ≤ 1000000) : (rNum x).2.rest.length ≤ 1000000 ∧ 0 ≤ (rNum x).1 ∧ (rNum x).1 < 9223372036854775808 := by
 have h1 := num_rest x
 have h2 := num_lt x
 refine ⟨?_, ?_, ?_⟩
 ·show x.num.2.rest.length ≤ _; omega
 ·show 0 ≤ ((x.num.1 : Nat) : Int); omega
 ·show ((x.num.1 : Nat) : Int) < _; omega
theorem freadHead_c (s : By) (hs : s.length ≤ 1000000) : AC Tryz.prog 74 [.st s] [] (.tup [headV (readHead s).1, .bo (readHead s).2]) [] := by
 refine AC.enter2 [79] [] Tryz.func74 rfl (by decide) (by decide) (Nat.le_of_ble_eq_true rfl) (by kernel_rfl) ?_; simp only [eraseC, eraseO, List.map_cons, List.map_nil, List.map_toArray, List.getElem?_toArray, List.getElem?_cons_zero, List.getElem?_cons_succ, Option.bind_some, Option.bind_none, List.append_eq, List.cons_append, List.nil_append]
 have k0 := frtext_c ⟨s, false⟩ (by show s.length < _; omega)
 have b0 := frtext_s ⟨s, false⟩ hs
 have hread := readHead_ref s
 unfold rHead rSig at hread
 simp only at hread
 generalize R.text ⟨s, false⟩ = q0 at *
 obtain ⟨n, x0⟩ := q0
 simp only at k0 b0 hread
 have k1 : AC Tryz.prog 122 [.ptr 0 0] [rd x0] (.it .i64 (rNum x0).1) [rd (rNum x0).2] := frnum_c x0 (by omega)
 have b1 := frnum_s x0 b0.1
 generalize rNum x0 = q1 at *
 obtain ⟨server, x1⟩ := q1
 simp only at k1 b1 hread
 have k2 : AC Tryz.prog 122 [.ptr 0 0] [rd x1] (.it .i64 (rNum x1).1) [rd (rNum x1).2] := frnum_c x1 (by omega)
 have b2 := frnum_s x1 b1.1
 generalize rNum x1 = q2 at *
 obtain ⟨size, x2⟩ := q2
 simp only at k2 b2 hread
 have k3 := frtext_c x2 (by omega)
 have b3 := frtext_s x2 b2.1
 generalize R.text x2 = q3 at *
 obtain ⟨root, x3⟩ := q3
 simp only at k3 b3 hread
 have k4 : AC Tryz.prog 122 [.ptr 0 0] [rd x3] (.it .i64 (rNum x3).1) [rd (rNum x3).2] := frnum_c x3 (by omega)
 have b4 := frnum_s x3 b3.1
 generalize rNum x3 = q4 at *
 obtain ⟨time, x4⟩ := q4
 simp only at k4 b4 hread
 have k5 : AC Tryz.prog 122 [.ptr 0 0] [rd x4] (.it .i64 (rNum x4).1) [rd (rNum x4).2] := frnum_c x4 (by omega)
 have b5 := frnum_s x4 b4.1
 generalize rNum x4 = q5 at *
 obtain ⟨se, x5⟩ := q5
 simp only at k5 b5 hread
 have k6 : AC Tryz.prog 122 [.ptr 0 0] [rd x5] (.it .i64 (rNum x5).1) [rd (rNum x5).2] := frnum_c x5 (by omega)
 have b6 := frnum_s x5 b5.1
 generalize rNum x5 = q6 at *
 obtain ⟨ss, x6⟩ := q6
 simp only at k6 b6 hread
 have kd := fdone_c x6
 change AC _ _ _ _ (.bo x6.done) _ at kd
 have kb := fheadBytes_c ⟨server, size, root, time, ⟨se, ss⟩⟩
 generalize headB ⟨server, size, root, time, ⟨se, ss⟩⟩ = bs at *
 generalize x6.done = dn at *
 refine run ?_
 refine call_mk (AC.newAt (fopen_c s) _) ?_
 refine run ?_
 refine c1 1 k0 ?_
 refine run ?_
 refine c1 1 k1 ?_
 refine run ?_
 refine c1 1 k2 ?_
 refine run ?_
 refine c1 1 k3 ?_
 refine run ?_
 refine c1 1 k4 ?_
 refine run ?_
 refine c1 1 k5 ?_
 refine run ?_
 refine c1 1 k6 ?_
 refine run ?_
 refine c1 1 kd ?_
 cases dn with
 | false =>
  rw [if_neg (fun h => by cases h.1)] at hread
  rw [hread]
  refine run ?_
  exact er0w
 | true =>
  refine run ?_
  refine cp kb ?_
  by_cases hb : bs = s
  ·subst hb
   rw [if_pos ⟨rfl, rfl⟩] at hread
   rw [hread]
   refine run ?_
   exact er0w
  ·rw [if_neg (fun h => hb h.2)] at hread
   rw [hread]
   have hne := nilI bs s hb
   refine runf @hne ?_
   exact er0w
theorem fdigests_c (l : List By) (hl : l.length ≤ 140737488355328) : AC Tryz.prog 127 [sls l] [] (.bo (l.all dig)) [] := by
 refine AC.enter2 [] [] Tryz.func127 rfl (by decide) (by decide) (Nat.le_of_ble_eq_true rfl) (by kernel_rfl) ?_; simp only [eraseC, eraseO, List.map_cons, List.map_nil, List.map_toArray, List.getElem?_toArray, List.getElem?_cons_zero, List.getElem?_cons_succ, Option.bind_some, Option.bind_none, List.append_eq, List.cons_append, List.nil_append]
 refine run ?_
 refine loop_mk (fun m e S => S = [] ∧ e 0 = sls l ∧ ∃ k : Nat, e 3 = .it .i64 (k : Int) ∧ k ≤ l.length ∧ (l.take k).all dig = true ∧ m = l.length - k) l.length
  ⟨rfl, (by first | rfl | (simp only [↓upd_apply, ↓put_some, ↓reduceIte, Nat.reduceEqDiff, ↓argEnv_zero, ↓argEnv_succ, *]; done)), 0, (by first | rfl | (simp only [↓upd_apply, ↓put_some, ↓reduceIte, Nat.reduceEqDiff, ↓argEnv_zero, ↓argEnv_succ, *]; done)), by omega, rfl, rfl⟩ ?_
 rintro m e S ⟨rfl, s0, k, s3, hk, hall, rfl⟩
 by_cases hlt : k < l.length
 ·have hg : l[k]? = some l[k] := List.getElem?_eq_getElem hlt
  have hstep : l.take (k + 1) = l.take k ++ [l[k]] := List.take_succ_eq_append_getElem hlt
  have hbad : dig l[k] = false → l.all dig = false := fun h => List.all_eq_false.2 ⟨l[k], List.getElem_mem hlt, by simp [h]⟩
  generalize l[k] = x at *
  by_cases hx : x.length = 32
  ·have hx' : ((x.length : Int) != 32) = false := bneF (by omega)
   have hd : dig x = true := decide_eq_true hx
   refine runf (an @s0 (an @s3 (an @hg @hx'))) ?_
   exact round_mk (l.length - (k + 1)) (by omega) ⟨rfl, (by first | rfl | (simp only [↓upd_apply, ↓put_some, ↓reduceIte, Nat.reduceEqDiff, ↓argEnv_zero, ↓argEnv_succ, *]; done)), k + 1, (by first | rfl | (simp only [↓upd_apply, ↓put_some, ↓reduceIte, Nat.reduceEqDiff, ↓argEnv_zero, ↓argEnv_succ, *]; done)), by omega, by rw [hstep, List.all_append, hall]; simp [hd], rfl⟩
  ·have hx' : ((x.length : Int) != 32) = true := bneT (by omega)
   rw [hbad (decide_eq_false hx)]
   refine runf (an @s0 (an @s3 (an @hg @hx'))) ?_
   exact er0
 ·obtain rfl : k = l.length := by omega
  rw [List.take_length] at hall
  rw [hall]
  have hx : ¬ ((l.length : Nat) : Int) < (l.length : Int) := by omega
  refine runf (an @s0 (an @s3 @hx)) ?_
  exact er0
theorem fformed17_c (e : Evidence) (hl : e.link.length ≤ 1000000) : AC Tryz.prog 77 [evV e] [] (.bo (formedE e)) [] := by
 refine AC.enter2 [126, 127] [] Tryz.func77 rfl (by decide) (by decide) (Nat.le_of_ble_eq_true rfl) (by kernel_rfl) ?_; simp only [eraseC, eraseO, List.map_cons, List.map_nil, List.map_toArray, List.getElem?_toArray, List.getElem?_cons_zero, List.getElem?_cons_succ, Option.bind_some, Option.bind_none, List.append_eq, List.cons_append, List.nil_append]
 have k1 := fright15_c e.old
 have k2 := fright15_c e.new
 have k3 := fdigests_c e.link (by omega)
 unfold formedE
 cases h1 : rightH e.old with
 | false =>
  rw [h1] at k1
  refine run ?_
  refine cp k1 ?_
  refine run ?_
  exact er0
 | true =>
 rw [h1] at k1
 cases h2 : rightH e.new with
 | false =>
  rw [h2] at k2
  refine run ?_
  refine cp k1 ?_
  refine run ?_
  refine cp k2 ?_
  refine run ?_
  exact er0
 | true =>
 rw [h2] at k2
 by_cases h3 : e.root.length = 32
 rotate_left
 ·have h3' : ((e.root.length : Int) != 32) = true := bneT (by omega)
  rw [decide_eq_false h3]
  refine run ?_
  refine cp k1 ?_
  refine run ?_
  refine cp k2 ?_
  refine runf @h3' ?_
  exact er0
 have h3' : ((e.root.length : Int) != 32) = false := bneF (by omega)
 by_cases h4 : e.link.length ≤ 64
 rotate_left
 ·have h4' : (64 : Int) < (e.link.length : Int) := by omega
  rw [decide_eq_true h3, decide_eq_false h4]
  refine run ?_
  refine cp k1 ?_
  refine run ?_
  refine cp k2 ?_
  refine runf (an @h3' @h4') ?_
  exact er0
 have h4' : ¬ (64 : Int) < (e.link.length : Int) := by omega
 rw [decide_eq_true h3, decide_eq_true h4]
 refine run ?_
 refine cp k1 ?_
 refine run ?_
 refine cp k2 ?_
 refine runf (an @h3' @h4') ?_
 refine cp k3 ?_
 refine run ?_
 exact er0
theorem fbytes17_c (e : Evidence) (hl : e.link.length ≤ 1000000) : AC Tryz.prog 30 [evV e] [] (.st (evidB e)) [] := by
 refine AC.enter2 [77, 79, 78, 80] [] Tryz.func30 rfl (by decide) (by decide) (Nat.le_of_ble_eq_true rfl) (by kernel_rfl) ?_; simp only [eraseC, eraseO, List.map_cons, List.map_nil, List.map_toArray, List.getElem?_toArray, List.getElem?_cons_zero, List.getElem?_cons_succ, Option.bind_some, Option.bind_none, List.append_eq, List.cons_append, List.nil_append]
 have kf := fformed17_c e hl
 have hlen := evidB_len e
 unfold evidB at hlen ⊢
 cases hf : formedE e with
 | false =>
  rw [hf] at kf
  rw [if_neg (by simp)]
  refine run ?_
  refine cp kf ?_
  refine run ?_
  exact er0
 | true =>
  rw [hf] at kf hlen
  rw [if_pos rfl] at hlen ⊢
  obtain ⟨h1, h2, h3, h4, h5⟩ := formedE_iff.1 hf
  have b1 := headB_len e.old
  have b2 := headB_len e.new
  have k1 := fheadBytes_c e.old
  have k2 := fheadBytes_c e.new
  have k3 := ftext_c (headB e.old) (by omega)
  have k4 := ftext_c (headB e.new) (by omega)
  have k5 := ftext_c e.root (by omega)
  have k6 := flist_c e.link (by omega) (fun x hx => by rw [h5 x hx]; decide)
  simp only [List.length_append] at hlen
  generalize text (headB e.old) = t1 at *
  generalize text (headB e.new) = t2 at *
  generalize text e.root = t3 at *
  generalize list e.link = t4 at *
  refine run ?_
  refine cp kf ?_
  refine run ?_
  refine cp k1 ?_
  refine run ?_
  refine cp k3 ?_
  refine run ?_
  refine cp k2 ?_
  refine run ?_
  refine cp k4 ?_
  refine run ?_
  refine cp k5 ?_
  refine run ?_
  refine cp k6 ?_
  refine run ?_
  exact er0
theorem fread17_c (s : By) (hs : s.length ≤ 1000000) : AC Tryz.prog 29 [.st s] [] (.tup [evV (readEv s).1, .bo (readEv s).2]) [] := by
 refine AC.enter4 [74, 77, 30] [] [(4, ([2, 3], [24, 25], [27, 29]))] [] Tryz.func29 rfl (by decide) (by decide) (Nat.le_of_ble_eq_true rfl) (by kernel_rfl) ?_; simp only [eraseC, eraseO, List.map_cons, List.map_nil, List.map_toArray, List.getElem?_toArray, List.getElem?_cons_zero, List.getElem?_cons_succ, Option.bind_some, Option.bind_none, List.append_eq, List.cons_append, List.nil_append, eraseC4, eraseC3, hasSp, ordOf, List.isEmpty_nil, List.isEmpty_cons, Bool.and_true, Bool.and_false, Bool.and_self, Bool.false_and, Bool.true_and, List.lookup, Nat.reduceBEq, beq_self_eq_true, Option.isSome_some, Option.isSome_none, Bool.or_true, Bool.true_or, Bool.or_false, Bool.not_true, Bool.not_false, Bool.false_eq_true, if_true, if_false, ↓reduceIte, List.size_toArray, List.length_cons, List.length_nil, List.range_succ_eq_map, List.range_zero, Nat.reduceAdd, List.filterMap_cons, List.filterMap_nil]
 have k0 := frtext_c ⟨s, false⟩ (by show s.length < _; omega)
 have b0 := frtext_s ⟨s, false⟩ hs
 have w0 := wf_text ⟨s, false⟩
 have hread := readEv_ref s
 simp only at hread
 generalize R.text ⟨s, false⟩ = q0 at *
 obtain ⟨o, x0⟩ := q0
 simp only at k0 b0 w0 hread
 have k1 := frtext_c x0 (by omega)
 have b1 := frtext_s x0 b0.1
 have w1 := wf_text x0
 generalize R.text x0 = q1 at *
 obtain ⟨n, x1⟩ := q1
 simp only at k1 b1 w1 hread
 have k2 := frtext_c x1 (by omega)
 have b2 := frtext_s x1 b1.1
 have w2 := wf_text x1
 generalize R.text x1 = q2 at *
 obtain ⟨r, x2⟩ := q2
 simp only at k2 b2 w2 hread
 have k3 := frlist_c x2 b2.1 w2
 have b3 := list_rest x2
 generalize R.list x2 = q3 at *
 obtain ⟨l, x3⟩ := q3
 simp only at k3 b3 hread
 have kh1 := freadHead_c o b0.2
 have kh2 := freadHead_c n b1.2
 generalize readHead o = ro at *
 generalize readHead n = rn at *
 obtain ⟨ho, oo⟩ := ro
 obtain ⟨hn, on⟩ := rn
 simp only at hread kh1 kh2
 have hll : l.length ≤ 1000000 := by omega
 have kf := fformed17_c ⟨ho, hn, r, l⟩ hll
 have kb := fbytes17_c ⟨ho, hn, r, l⟩ hll
 generalize formedE ⟨ho, hn, r, l⟩ = fo at *
 generalize evidB ⟨ho, hn, r, l⟩ = bs at *
 refine run4 ?_
 refine call_mk (AC.newAt (fopen_c s) _) ?_
 refine run4 ?_
 refine c1 1 k0 ?_
 refine run4 ?_
 refine cp kh1 ?_
 refine run4 ?_
 refine c1 1 k1 ?_
 refine run4 ?_
 refine cp kh2 ?_
 refine run4 ?_
 refine wk0 ?_; refine run4 ?_
 repeat (first | refine k4 ?_ | refine k4r ?_ | (refine a4r ?_; refine run4 ?_) | (refine a4 ?_; refine run4 ?_)); try refine run4 ?_
 refine w4 1 k2 ?_
 repeat (first | refine k4 ?_ | refine k4r ?_ | (refine a4r ?_; refine run4 ?_) | (refine a4 ?_; refine run4 ?_)); try refine run4 ?_
 refine w4 1 k3 ?_
 repeat (first | refine k4 ?_ | refine k4r ?_ | (refine a4r ?_; refine run4 ?_) | (refine a4 ?_; refine run4 ?_)); try refine run4 ?_
 cases oo with
 | false =>
  rw [if_neg (fun h => by cases h.1)] at hread
  rw [hread]
  refine run4 ?_
  exact er0w
 | true =>
 cases on with
 | false =>
  rw [if_neg (fun h => by cases h.2.1)] at hread
  rw [hread]
  refine run4 ?_
  exact er0w
 | true =>
 refine run4 ?_
 refine cp kf ?_
 cases fo with
 | false =>
  rw [if_neg (fun h => by cases h.2.2.1)] at hread
  rw [hread]
  refine run4 ?_
  exact er0w
 | true =>
 refine run4 ?_
 refine cp kb ?_
 by_cases hb : bs = s
 ·subst hb
  rw [if_pos ⟨rfl, rfl, rfl, rfl⟩] at hread
  rw [hread]
  refine run4 ?_
  exact er0w
 ·rw [if_neg (fun h => hb h.2.2.2)] at hread
  rw [hread]
  have hne := nilI bs s hb
  refine runf4 @hne ?_
  exact er0w
end Go.Proofs.YthbpbkbjdfcnjaaGreatDoor.Pe
namespace Go.Proofs.YthbpbkbjdfcnjaaGreatDoor.Pe
open Go Go.RowKit Co Sg Ac It Sl
set_option maxRecDepth 100000
set_option maxHeartbeats 4000000
theorem evidS_len {e : Evidence} (he : formedE e = true) : (evidB e).length ≤ 1000000 ∧ e.link.length ≤ 64 := by
 obtain ⟨h1, h2, h3, h4, h5⟩ := formedE_iff.1 he
 refine ⟨?_, h4⟩
 have hh : ∀ h : Head, rightH h = true → (text (headB h)).length ≤ 200 := fun h hr => by
  obtain ⟨r1, r2, r3, r4, r5⟩ := rightH_iff.1 hr
  simp only [sigR, Bool.and_eq_true, wi_iff] at r5
  have n1 := numI_le h.server (by omega)
  have n2 := numI_le h.size (by omega)
  have n3 := numI_le h.time (by omega)
  have n4 := numI_le h.sig.e (by omega)
  have n5 := numI_le h.sig.s (by omega)
  have t1 := textT (s := h.root) (n := 32) (by omega) (by omega)
  have tw : (text wHead).length = 5 := rfl
  have hb : (headB h).length ≤ 91 := by
   unfold headB coreH
   rw [if_pos hr]
   simp only [List.length_append]
   omega
  have := textT hb (by omega)
  omega
 have a1 := hh _ h1
 have a2 := hh _ h2
 have a3 := textT (s := e.root) (n := 32) (by omega) (by omega)
 have a4 : (list e.link).length ≤ 900000 := by
  have hn := num_len9 (n := e.link.length) (by omega)
  have hf : (e.link.map text).flatten.length ≤ e.link.length * 41 := by
   have hall : ∀ l : List By, (∀ x ∈ l, x.length = 32) → (l.map text).flatten.length ≤ l.length * 41 := by
    intro l
    induction l with
    | nil => intro _; simp
    | cons x l ih =>
     intro hx
     have i1 := ih fun y hy => hx y (by simp [hy])
     have i2 := textT (s := x) (n := 32) (by rw [hx x (by simp)]; omega) (by omega)
     rw [List.map_cons, List.flatten_cons, List.length_append, List.length_cons, Nat.succ_mul]
     omega
   exact hall _ h5
  have : e.link.length * 41 ≤ 64 * 41 := Nat.mul_le_mul_right _ h4
  unfold list
  rw [List.length_append]
  omega
 unfold evidB
 rw [if_pos he]
 simp only [List.length_append]
 omega
theorem readEv_len (s : By) : (readEv s).1.link.length ≤ 64 := by
 cases h : (readEv s).2 with
 | true => exact (evidS_len (readEv_right h).1).2
 | false =>
  unfold readEv at h ⊢
  simp only at h ⊢
  split at h
  ·cases h
  ·rename_i hc
   rw [if_neg hc]
   decide
theorem readEv_nil : (readEv []).2 = false := by decide +kernel
theorem evid_codes (e : Evidence) : (readEv (evidB e)).2 = !decide (evidB e = []) ∧ ((readEv (evidB e)).2 = true → (readEv (evidB e)).1 = e) ∧ (evidB e).length ≤ 1000000 := by
 cases h : formedE e with
 | true =>
  have hb := readEv_back h
  have hne : evidB e ≠ [] := fun h0 => by
   rw [h0] at hb
   have := readEv_nil
   rw [hb] at this
   cases this
  rw [hb]
  exact ⟨by rw [decide_eq_false hne]; rfl, fun _ => rfl, (evidS_len h).1⟩
 | false =>
  have h0 : evidB e = [] := by unfold evidB; rw [h]; rfl
  rw [h0, readEv_nil]
  exact ⟨rfl, fun h => (by cases h), Nat.zero_le _⟩
theorem shp_evid {n us} (h : shp Tryz.prog 140737488351232 (n + 4) 76 us) : ∃ e : Evidence, us = (evV e).cells ∧ e.link.length ≤ 140737488351232 ∧ e.root.length ≤ 140737488351232 := by
 have h := shp_struct Tryz.underlying76 h
 obtain ⟨a0, b0, rfl, h0, h⟩ := h
 obtain ⟨a1, b1, rfl, h1, h⟩ := h
 obtain ⟨a2, b2, rfl, h2, h⟩ := h
 obtain ⟨a3, b3, rfl, h3, rfl⟩ := h
 obtain ⟨old, rfl, w0⟩ := shp_head h0
 obtain ⟨new, rfl, w1⟩ := shp_head h1
 obtain ⟨root, rfl, w2⟩ := shp_str Tryz.underlying9 h2
 obtain ⟨link, rfl, w3, w4⟩ := shp_strs h3
 exact ⟨⟨old, new, root, link⟩, rfl, w3, w2⟩
theorem forkCodes_c (e : Evidence) (s : By) (hl : e.link.length ≤ 140737488351232) (hr : e.root.length ≤ 140737488351232) (hs : s.length ≤ 140737488351232) :
  AC Tryz.prog 6 [evV e, .st s] [] (.bo true) [] := by
 refine AC.enter2 [26, 27, 28, 29, 30, 31] [] Tryz.func6 rfl (by decide) (by decide) (Nat.le_of_ble_eq_true rfl) (by kernel_rfl) ?_; simp only [eraseC, eraseO, List.map_cons, List.map_nil, List.map_toArray, List.getElem?_toArray, List.getElem?_cons_zero, List.getElem?_cons_succ, Option.bind_some, Option.bind_none, List.append_eq, List.cons_append, List.nil_append]
 refine run ?_
 refine cp small17_c ?_
 by_cases t1 : e.link.length ≤ 100
 rotate_left
 ·have t1' : (100 : Int) < (e.link.length : Int) := by omega
  refine runf @t1' ?_
  exact er0
 have t1' : ¬ (100 : Int) < (e.link.length : Int) := by omega
 by_cases t2 : s.length ≤ 5000
 rotate_left
 ·have t2' : (5000 : Int) < (s.length : Int) := by omega
  refine runf (an @t1' @t2') ?_
  exact er0
 have t2' : ¬ (5000 : Int) < (s.length : Int) := by omega
 by_cases t3 : e.root.length ≤ 1000
 rotate_left
 ·have t3' : (1000 : Int) < (e.root.length : Int) := by omega
  refine runf (an @t1' (an @t2' @t3')) ?_
  exact er0
 have t3' : ¬ (1000 : Int) < (e.root.length : Int) := by omega
 obtain ⟨c1, c2, c3⟩ := evid_codes e
 have kb := fkbytes_c e (by omega)
 have kb' := fbytes17_c e (by omega)
 have ka := fkread_c (evidB e) c3
 have ks := fkread_c s (by omega)
 have ks' := fread17_c s (by omega)
 have la := readEv_len (evidB e)
 have lb := readEv_len s
 have kq := fsame17_c (readEv s).1 (readEv s).1 (by omega) (by omega)
 rw [decide_eq_true rfl] at kq
 have kp := fsame17_c (readEv (evidB e)).1 e (by omega) (by omega)
 have kr := fkbytes_c (readEv s).1 (by omega)
 have hsr : (readEv s).2 = true → evidB (readEv s).1 = s := fun h => (readEv_right h).2
 generalize readEv s = rs at *
 obtain ⟨b, isb⟩ := rs
 generalize readEv (evidB e) = ra at *
 obtain ⟨a, oka⟩ := ra
 generalize evidB e = t at *
 generalize evidB b = u at *
 simp only at *
 have hT : t = t := rfl
 refine runf (an @t1' (an @t2' @t3')) ?_
 refine cp kb ?_
 refine run ?_
 refine cp ka ?_
 refine run ?_
 refine cp ks ?_
 refine run ?_
 refine cp ks' ?_
 refine run ?_
 refine cp kb' ?_
 cases isb with
 | false =>
  refine run ?_
  refine cp kq ?_
  by_cases h0 : t = []
  ·subst h0
   rw [decide_eq_true rfl] at c1
   subst c1
   refine run ?_
   exact er0
  ·rw [decide_eq_false h0] at c1
   subst c1
   have hne := nilI t [] h0
   have hqa : a = e := c2 rfl
   rw [decide_eq_true hqa] at kp
   refine runf @hne ?_
   refine cp kp ?_
   refine run ?_
   exact er0
 | true =>
  have hu := hsr rfl
  subst hu
  refine run ?_
  refine cp kq ?_
  by_cases h0 : t = []
  ·subst h0
   rw [decide_eq_true rfl] at c1
   subst c1
   refine run ?_
   refine cp kr ?_
   refine run ?_
   exact er0
  ·rw [decide_eq_false h0] at c1
   subst c1
   have hne := nilI t [] h0
   have hqa : a = e := c2 rfl
   rw [decide_eq_true hqa] at kp
   refine runf @hne ?_
   refine cp kp ?_
   refine run ?_
   refine cp kr ?_
   refine run ?_
   exact er0
end Go.Proofs.YthbpbkbjdfcnjaaGreatDoor.Pe
