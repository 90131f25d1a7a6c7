/- Several texts in one, without what this claim does not use (tools/shake.py). -/
import Derived.Test.YtaphpbiaoofmkaaGreatDoorKj13
import Derived.Test.YtaphpbiaoofmkaaGreatDoorKj14
set_option linter.unusedSectionVars false
set_option linter.unusedVariables false
set_option linter.unusedSimpArgs false
section
namespace Go.Proofs.YtaphpbiaoofmkaaGreatDoor.Pe
open Go Go.RowKit Co Sg Ac
set_option maxRecDepth 100000
set_option maxHeartbeats 4000000
theorem fright12_c (a : Ac.Act) (h : Sz a) : AC Tryz.prog 20 [actV a] [] (.bo (Ac.right a)) [] := by
 refine AC.enter2 [113, 114] [] Tryz.func20 rfl (by decide) (by decide) (Nat.le_of_ble_eq_true rfl) (by kernel_rfl) ?_; simp only [eraseC, eraseO, List.map_cons, List.map_nil, List.map_toArray, List.getElem?_toArray, List.getElem?_cons_zero, List.getElem?_cons_succ, Option.bind_some, Option.bind_none, List.append_eq, List.cons_append, List.nil_append]
 obtain ⟨q, hq⟩ : ∃ q, Ac.right a = q := ⟨_, rfl⟩
 rw [hq]
 rw [right_fits] at hq
 have hn := nilD
 refine run ?_
 refine cp (fidright_c a.author h.author) ?_
 cases c0 : idR a.author with
 | false =>
  obtain rfl : q = false := by rw [← hq, c0]; rfl
  refine run ?_
  exact er0
 | true =>
 by_cases s0 : 0 ≤ a.seq
 rotate_left
 ·obtain rfl : q = false := by
   rw [← hq]
   have hp : placed a = false := by unfold placed; split <;> simp [wi, dig] <;> omega
   rw [hp]; simp
  refine runf @hn ?_
  exact er0
 by_cases s1 : a.seq ≤ 1073741824
 rotate_left
 ·obtain rfl : q = false := by
   rw [← hq]
   have hp : placed a = false := by unfold placed; split <;> simp [wi, dig] <;> omega
   rw [hp]; simp
  refine runf @hn ?_
  exact er0
 by_cases t0 : 0 ≤ a.time
 rotate_left
 ·obtain rfl : q = false := by
   rw [← hq]
   have hp : wi a.time 0 1099511627776 = false := by simp [wi]; omega
   rw [hp]; simp
  refine runf @hn ?_
  exact er0
 by_cases t1 : a.time ≤ 1099511627776
 rotate_left
 ·obtain rfl : q = false := by
   rw [← hq]
   have hp : wi a.time 0 1099511627776 = false := by simp [wi]; omega
   rw [hp]; simp
  refine runf @hn ?_
  exact er0
 by_cases e0 : 0 ≤ a.sig.e
 rotate_left
 ·obtain rfl : q = false := by
   rw [← hq]
   have hp : sigR a.sig = false := by simp [sigR, wi]; omega
   rw [hp]; simp
  refine runf @hn ?_
  exact er0
 by_cases e1 : a.sig.e < 2305843009213693950
 rotate_left
 ·obtain rfl : q = false := by
   rw [← hq]
   have hp : sigR a.sig = false := by simp [sigR, wi]; omega
   rw [hp]; simp
  refine runf @hn ?_
  exact er0
 by_cases f0 : 0 ≤ a.sig.s
 rotate_left
 ·obtain rfl : q = false := by
   rw [← hq]
   have hp : sigR a.sig = false := by simp [sigR, wi]; omega
   rw [hp]; simp
  refine runf @hn ?_
  exact er0
 by_cases f1 : a.sig.s < 2305843009213693950
 rotate_left
 ·obtain rfl : q = false := by
   rw [← hq]
   have hp : sigR a.sig = false := by simp [sigR, wi]; omega
   rw [hp]; simp
  refine runf @hn ?_
  exact er0
 have htm : wi a.time 0 1099511627776 = true := wi_iff.2 ⟨t0, t1⟩
 have hsg : sigR a.sig = true := by simp [sigR, wi]; omega
 by_cases z : a.seq = 0
 ·cases cp0 : decide (a.prev = []) with
  | false =>
   obtain rfl : q = false := by
    have hp : placed a = false := by unfold placed; rw [if_pos z, cp0, Bool.and_false]
    rw [← hq, hp]; simp
   refine runf (an @hn @cp0) ?_
   exact er0
  | true =>
  by_cases kz : a.kind = 0
  rotate_left
  ·obtain rfl : q = false := by
    have hp : placed a = false := by unfold placed; rw [if_pos z, decide_eq_false kz]; rfl
    rw [← hq, hp]; simp
   refine runf (an @hn @cp0) ?_
   exact er0
  obtain rfl : q = fitsF a := by
   have hp : placed a = true := by unfold placed; rw [if_pos z, decide_eq_true kz, cp0]; rfl
   rw [← hq, hp, c0, htm, hsg]; rfl
  refine runf (an @hn @cp0) ?_
  refine cp (ffits_c a h) ?_
  refine run ?_
  exact er0
 ·have z' : 1 ≤ a.seq := by omega
  have hw1 : wi a.seq 1 1073741824 = true := wi_iff.2 ⟨z', s1⟩
  have hd := dig_eq a.prev
  cases cd : ((a.prev.length : Int) == 32) with
  | false =>
   have cd' : ((a.prev.length : Int) != 32) = true := by simpa [bne] using cd
   obtain rfl : q = false := by
    have hp : placed a = false := by unfold placed; rw [if_neg z, hd, cd, Bool.and_false]
    rw [← hq, hp]; simp
   refine runf @cd' ?_
   exact er0
  | true =>
  have cd' : ((a.prev.length : Int) != 32) = false := by simpa [bne] using cd
  by_cases kz : a.kind = 0
  ·obtain rfl : q = false := by
    have hp : placed a = false := by unfold placed; rw [if_neg z, hw1, decide_eq_false (show ¬ a.kind ≠ 0 from fun h => h kz)]; rfl
    rw [← hq, hp]; simp
   refine runf @cd' ?_
   exact er0
  obtain rfl : q = fitsF a := by
   have hp : placed a = true := by unfold placed; rw [if_neg z, hw1, decide_eq_true (show a.kind ≠ 0 from kz), hd, cd]; rfl
   rw [← hq, hp, c0, htm, hsg]; rfl
  refine runf @cd' ?_
  refine cp (ffits_c a h) ?_
  refine run ?_
  exact er0
theorem fbox_c (b : Box) (h : b.nonce.length ≤ 1000000 ∧ b.data.length ≤ 1000000 ∧ b.tag.length ≤ 1000000) : AC Tryz.prog 122 [boxV b] [] (.st (boxB b)) [] := by
 refine AC.enter2 [119] [] Tryz.func122 rfl (by decide) (by decide) (Nat.le_of_ble_eq_true rfl) (by kernel_rfl) ?_; simp only [eraseC, eraseO, List.map_cons, List.map_nil, List.map_toArray, List.getElem?_toArray, List.getElem?_cons_zero, List.getElem?_cons_succ, Option.bind_some, Option.bind_none, List.append_eq, List.cons_append, List.nil_append]
 have l1 := text_len h.1
 have l2 := text_len h.2.1
 have l3 := text_len h.2.2
 unfold boxB
 refine run ?_
 refine cp (ftext_c b.nonce (by omega)) ?_
 refine run ?_
 refine cp (ftext_c b.data (by omega)) ?_
 refine run ?_
 refine cp (ftext_c b.tag (by omega)) ?_
 refine run ?_
 exact er0
def preF (a : Ac.Act) : By :=
 text wAct ++ text a.author ++ numI a.seq ++ text a.prev ++ numI a.kind ++ numI a.time ++ text a.object ++ text a.target ++ numI a.scope ++ text a.group ++ list a.to ++ text a.text ++ boxB a.body ++ numI a.epoch ++ num a.wraps.length
theorem coreB_preF (a : Ac.Act) : coreB a = preF a ++ (a.wraps.map wrapB).flatten ++ numI a.n ++ numI a.m := by
 unfold coreB preF
 simp only [List.append_assoc]
theorem fcore12_c (a : Ac.Act) (h : Sz a) : AC Tryz.prog 24 [actV a] [] (.st (core a)) [] := by
 refine AC.enter2 [20, 119, 120, 121, 122] [] Tryz.func24 rfl (by decide) (by decide) (Nat.le_of_ble_eq_true rfl) (by kernel_rfl) ?_; simp only [eraseC, eraseO, List.map_cons, List.map_nil, List.map_toArray, List.getElem?_toArray, List.getElem?_cons_zero, List.getElem?_cons_succ, Option.bind_some, Option.bind_none, List.append_eq, List.cons_append, List.nil_append]
 unfold core
 refine run ?_
 refine cp (fright12_c a h) ?_
 cases hr : Ac.right a with
 | false => rw [if_neg (by simp)]; refine run ?_; exact er0
 | true =>
  rw [if_pos rfl]
  have sm := right_sm hr
  have hto : a.to.length ≤ 1000000 := by have := sm.to; omega
  have htx : ∀ x ∈ a.to, x.length ≤ 1000000 := fun x hx => by have := sm.to.2 x hx; omega
  have q1 := text_len (s := wAct) (by simp)
  have k1 := ftext_c wAct (by simp)
  have q2 := text_len (s := a.author) (by have := sm.author; omega)
  have k2 := ftext_c a.author (by have := sm.author; omega)
  have q3 := numI_le a.seq (by have := sm.seq; omega)
  have k3 := fnum_c a.seq (by have := sm.seq; omega)
  have q4 := text_len (s := a.prev) (by have := sm.prev; omega)
  have k4 := ftext_c a.prev (by have := sm.prev; omega)
  have q5 := numI_le a.kind (by have := sm.kind; omega)
  have k5 := fnum_c a.kind (by have := sm.kind; omega)
  have q6 := numI_le a.time (by have := sm.time; omega)
  have k6 := fnum_c a.time (by have := sm.time; omega)
  have q7 := text_len (s := a.object) (by have := sm.object; omega)
  have k7 := ftext_c a.object (by have := sm.object; omega)
  have q8 := text_len (s := a.target) (by have := sm.target; omega)
  have k8 := ftext_c a.target (by have := sm.target; omega)
  have q9 := numI_le a.scope (by have := sm.scope; omega)
  have k9 := fnum_c a.scope (by have := sm.scope; omega)
  have q10 := text_len (s := a.group) (by have := sm.group; omega)
  have k10 := ftext_c a.group (by have := sm.group; omega)
  have q11 := list_len (l := a.to) hto htx
  have k11 := flist_c a.to hto htx
  have q12 := text_len (s := a.text) (by have := sm.text; omega)
  have k12 := ftext_c a.text (by have := sm.text; omega)
  have q13 := boxB_len a.body (by have := sm.body; omega)
  have k13 := fbox_c a.body (by have := sm.body; omega)
  have q14 := numI_le a.epoch (by have := sm.epoch; omega)
  have k14 := fnum_c a.epoch (by have := sm.epoch; omega)
  have q15 := num_len9 (n := a.wraps.length) (by have := sm.wraps; omega)
  have k15 := fnum_c (a.wraps.length : Int) (by have := sm.wraps; omega)
  rw [numI_nat] at k15
  have q16 := numI_le a.n (by have := sm.n; omega)
  have k16 := fnum_c a.n (by have := sm.n; omega)
  have q17 := numI_le a.m (by have := sm.m; omega)
  have k17 := fnum_c a.m (by have := sm.m; omega)
  have hwr := sm.wraps
  have hlp : (preF a).length ≤ 2000000000000 := by
   unfold preF
   simp only [List.length_append]
   omega
  rw [coreB_preF]
  have hsz : allSz 5 (a.wraps.map wrapV) = true := allSz_map 5 wrapV (fun _ => rfl) _
  clear hr sm h
  refine run ?_
  refine cp k1 ?_
  refine run ?_
  refine cp k2 ?_
  refine run ?_
  refine cp k3 ?_
  refine run ?_
  refine cp k4 ?_
  refine run ?_
  refine cp k5 ?_
  refine run ?_
  refine cp k6 ?_
  refine run ?_
  refine cp k7 ?_
  refine run ?_
  refine cp k8 ?_
  refine run ?_
  refine cp k9 ?_
  refine run ?_
  refine cp k10 ?_
  refine run ?_
  refine cp k11 ?_
  refine run ?_
  refine cp k12 ?_
  refine run ?_
  refine cp k13 ?_
  refine run ?_
  refine cp k14 ?_
  refine run ?_
  refine cp k15 ?_
  refine run ?_
  refine loop_mk (fun m e S => e 1 = .ptr 0 0 ∧ ∃ (k : Nat), e 5 = .it .i64 (k : Int) ∧ e 4 = .st (preF a ++ ((a.wraps.take k).map wrapB).flatten) ∧ S = [.cells (actL a)] ∧ k ≤ a.wraps.length ∧ m = a.wraps.length - k) a.wraps.length
   ⟨(by first | rfl | (simp only [↓upd_apply, ↓put_some, ↓reduceIte, Nat.reduceEqDiff, ↓argEnv_zero, ↓argEnv_succ, *]; done)), 0, (by first | rfl | (simp only [↓upd_apply, ↓put_some, ↓reduceIte, Nat.reduceEqDiff, ↓argEnv_zero, ↓argEnv_succ, *]; done)), by rw [List.take_zero, List.map_nil, List.flatten_nil, List.append_nil]; exact (by first | rfl | (simp only [↓upd_apply, ↓put_some, ↓reduceIte, Nat.reduceEqDiff, ↓argEnv_zero, ↓argEnv_succ, *]; done)), rfl, by omega, rfl⟩ ?_
  clear k1 k2 k3 k4 k5 k6 k7 k8 k9 k10 k11 k12 k13 k14 k15
  clear q1 q2 q3 q4 q5 q6 q7 q8 q9 q10 q11 q12 q13 q14 q15
  rintro m e S ⟨s1, k, s5, s4, rfl, hk, rfl⟩
  have hlen := wraps_len hwr.2 hwr.1 k
  by_cases hlt : k < a.wraps.length
  rotate_left
  ·obtain rfl : k = a.wraps.length := by omega
   rw [List.take_length] at s4 hlen
   have hx : ¬ ((a.wraps.length : Nat) : Int) < (a.wraps.length : Int) := by omega
   generalize (a.wraps.map wrapB).flatten = z at *
   generalize preF a = p at *
   refine runf (an @s1 (an @s5 (an @s4 @hx))) ?_
   refine cp k16 ?_
   refine runf (an @s1 (an @s5 @s4)) ?_
   refine cp k17 ?_
   refine runf (an @s1 (an @s5 @s4)) ?_
   exact er0
  have hg : a.wraps[k]? = some a.wraps[k] := List.getElem?_eq_getElem hlt
  have hx := hwr.2 a.wraps[k] (List.getElem_mem hlt)
  have hstep : ((a.wraps.take (k + 1)).map wrapB).flatten = ((a.wraps.take k).map wrapB).flatten ++ wrapB a.wraps[k] := by
   rw [List.take_succ_eq_append_getElem hlt, List.map_append, List.flatten_append]
   congr 1
   exact List.append_nil _
  generalize a.wraps[k] = x at *
  have hx' := wrap_sm hx
  have hbl := boxB_len x.box hx'.2.2
  have hn1 := numI_le x.to (by omega)
  have hn2 := numI_le x.eph (by omega)
  generalize ((a.wraps.take k).map wrapB).flatten = z at *
  generalize preF a = p at *
  have hwl := hwr.1
  clear k16 k17 q16 q17 hwr
  refine runf (an @s1 (an @s5 (an @s4 (an @hg @hsz)))) ?_
  refine cp (fnum_c x.to (by omega)) ?_
  refine runf (an @s1 (an @s5 (an @s4 (an @hg @hsz)))) ?_
  refine cp (fnum_c x.eph (by omega)) ?_
  refine runf (an @s1 (an @s5 (an @s4 (an @hg @hsz)))) ?_
  refine cp (fbox_c x.box hx'.2.2) ?_
  refine runf (an @s1 (an @s5 @s4)) ?_
  exact round_mk (a.wraps.length - (k + 1)) (by omega) ⟨(by first | rfl | (simp only [↓upd_apply, ↓put_some, ↓reduceIte, Nat.reduceEqDiff, ↓argEnv_zero, ↓argEnv_succ, *]; done)), k + 1, (by first | rfl | (simp only [↓upd_apply, ↓put_some, ↓reduceIte, Nat.reduceEqDiff, ↓argEnv_zero, ↓argEnv_succ, *]; done)), by rw [hstep]; unfold wrapB; simp only [List.append_assoc]; exact (by first | rfl | (simp only [↓upd_apply, ↓put_some, ↓reduceIte, Nat.reduceEqDiff, ↓argEnv_zero, ↓argEnv_succ, *]; done)), rfl, by omega, rfl⟩
theorem core_ne (a : Ac.Act) (hr : Ac.right a = true) : core a ≠ [] := by
 unfold core coreB
 rw [if_pos hr]
 have : (text wAct).length = 4 := rfl
 intro e
 have := congrArg List.length e
 simp only [List.length_append, List.length_nil] at this
 omega
theorem fbytes12_c (a : Ac.Act) (h : Sz a) : AC Tryz.prog 26 [actV a] [] (.st (Ac.bytes a)) [] := by
 refine AC.enter2 [24, 120] [] Tryz.func26 rfl (by decide) (by decide) (Nat.le_of_ble_eq_true rfl) (by kernel_rfl) ?_; simp only [eraseC, eraseO, List.map_cons, List.map_nil, List.map_toArray, List.getElem?_toArray, List.getElem?_cons_zero, List.getElem?_cons_succ, Option.bind_some, Option.bind_none, List.append_eq, List.cons_append, List.nil_append]
 refine run ?_
 refine cp (fcore12_c a h) ?_
 cases hr : Ac.right a with
 | false =>
  have h0 : core a = [] := by unfold core; rw [hr]; rfl
  have h1 : Ac.bytes a = [] := by unfold Ac.bytes; rw [hr]; rfl
  rw [h1, h0]
  refine run ?_
  exact er0
 | true =>
  have hne := core_ne a hr
  have hl := core_len5 (a := a)
  have h1 : Ac.bytes a = core a ++ numI a.sig.e ++ numI a.sig.s := by unfold Ac.bytes core; rw [if_pos hr, if_pos hr]
  have sm := (right_sm hr).sig
  simp only [sigR, Bool.and_eq_true, wi_iff] at sm
  rw [h1]
  have hq : (core a == []) = false := by simpa using hne
  have n1 := numI_le a.sig.e (by omega)
  have n2 := numI_le a.sig.s (by omega)
  generalize core a = c at *
  refine runf @hq ?_
  refine cp (fnum_c a.sig.e (by omega)) ?_
  refine run ?_
  refine cp (fnum_c a.sig.s (by omega)) ?_
  refine run ?_
  exact er0
end Go.Proofs.YtaphpbiaoofmkaaGreatDoor.Pe
end
section
namespace Go.Proofs.YtaphpbiaoofmkaaGreatDoor.Pe
open Go Go.RowKit Co Sg Ac
set_option maxRecDepth 100000
set_option maxHeartbeats 4000000
theorem upd_selfT {e : Env} {d : Nat} {v : AV} (h : e d = v) : e = upd e d v := funext fun t => by
 by_cases ht : t = d
 ·subst ht; rw [upd_same]; exact h
 ·rw [upd_ne e ht]
end Go.Proofs.YtaphpbiaoofmkaaGreatDoor.Pe
end
section
namespace Go.Proofs.YtaphpbiaoofmkaaGreatDoor.Pe
open Go Go.RowKit Co Sg Ac It Sl
set_option maxRecDepth 100000
set_option maxHeartbeats 4000000
theorem tprove_c (l : List It.Entry) (i : Int) (r : Receipt) (hl : l.length ≤ 1000000) (hz : ∀ e ∈ l, Iz e.item) : AC Tryz.prog 69 [entriesV l, .it .i64 i, rcptV r] [] (.tup [graveV (proveT l i r).1, .bo (proveT l i r).2]) [] := by
 refine AC.enter4 [162, 163, 164] [] [(10, ([], [], []))] [] Tryz.func69 rfl (by decide) (by decide) (Nat.le_of_ble_eq_true rfl) (by kernel_rfl) ?_; simp only [eraseC, eraseO, List.map_cons, List.map_nil, List.map_toArray, List.getElem?_toArray, List.getElem?_cons_zero, List.getElem?_cons_succ, Option.bind_some, Option.bind_none, List.append_eq, List.cons_append, List.nil_append, eraseC4, eraseC3, hasSp, ordOf, List.isEmpty_nil, List.isEmpty_cons, Bool.and_true, Bool.and_false, Bool.and_self, Bool.false_and, Bool.true_and, List.lookup, Nat.reduceBEq, beq_self_eq_true, Option.isSome_some, Option.isSome_none, Bool.or_true, Bool.true_or, Bool.or_false, Bool.not_true, Bool.not_false, Bool.false_eq_true, if_true, if_false, ↓reduceIte, List.size_toArray, List.length_cons, List.length_nil, List.range_succ_eq_map, List.range_zero, Nat.reduceAdd, List.filterMap_cons, List.filterMap_nil]
 have hsz := entries_sz l
 unfold proveT
 by_cases c1 : i < 0
 ·rw [if_pos (.inl c1)]
  refine runf4 @c1 ?_
  exact er0w
 by_cases c2 : r.head.size ≤ i
 ·rw [if_pos (.inr (.inl c2))]
  refine runf4 (an @c1 @c2) ?_
  exact er0w
 by_cases c3 : (l.length : Int) < r.head.size
 ·rw [if_pos (.inr (.inr (.inl c3)))]
  refine runf4 (an @c1 (an @c2 @c3)) ?_
  exact er0w
 have d1 : 0 ≤ i := by omega
 have hs0 : (r.head.size = 0) = False := by simp; omega
 have d2 : 0 ≤ r.head.size := by omega
 have d2' : (0 < r.head.size) = True := by simp; omega
 have hnl : r.head.size.toNat ≤ l.length := by omega
 have hlt : i.toNat < l.length := by omega
 have kr := sroot_c (l.take r.head.size.toNat) (by rw [List.length_take]; omega) (fun e he => hz e (List.mem_of_mem_take he))
 have hg : l[i.toNat]? = some (l.getD i.toNat ⟨0, item0⟩) := by rw [List.getD_eq_getElem?_getD, List.getElem?_eq_getElem hlt]; rfl
 generalize l.getD i.toNat ⟨0, item0⟩ = x at *
 generalize rootE (l.take r.head.size.toNat) = rt at *
 have hlti : i < (l.length : Int) := by omega
 refine runf4 (an @c1 (an @c2 (an @c3 (an @d2 (an @hnl @hsz))))) ?_
 refine cp kr ?_
 by_cases c4 : rt = r.head.root
 rotate_left
 ·have q4 := nilI _ _ c4
  rw [if_pos (.inr (.inr (.inr c4)))]
  refine runf4 @q4 ?_
  exact er0w
 have q4 : (rt == r.head.root) = true := by rw [c4]; exact beq_self_eq_true _
 rw [if_neg (by rintro (h | h | h | h) <;> first | exact h | exact h c4 | omega)]
 have hfit : fits r.head.size.toNat 16 = true := by simp [fits]; omega
 refine runf4 (an @q4 (an @d2 (an @hnl (an @hsz (an @hs0 (an @d2' (an @hfit @Int.le_refl))))))) ?_
 have hLl : ((l.take r.head.size.toNat).map leafE).length = r.head.size.toNat := by rw [List.length_map, List.length_take]; omega
 have hzn : ∀ e ∈ l.take r.head.size.toNat, Iz e.item := fun e he => hz e (List.mem_of_mem_take he)
 have hszn := entries_sz (l.take r.head.size.toNat)
 have hln : (l.take r.head.size.toNat).length = r.head.size.toNat := by rw [List.length_take]; omega
 have hsize : ((r.head.size.toNat : Nat) : Int) = r.head.size := by omega
 generalize hM : l.take r.head.size.toNat = M at *
 generalize hN : r.head.size.toNat = n at *
 refine loop_mk (fun m e S => e 0 = entriesV l ∧ e 1 = .it .i64 i ∧ e 5 = .ptr 0 0 ∧ e 6 = .ptr 1 0 ∧ e 9 = .ws 2 0 n n ∧ e 45 = entriesV M ∧ e 46 = .it .i64 (M.length : Int) ∧ ∃ (k : Nat) (acc : List By) (T : Store), e 47 = .it .i64 (k : Int) ∧ S = .cells (rcptV r).cells :: .cells [.it .i64 0, .it .i64 0, .it .i64 0, .st [], .it .i64 0, .st [], .it .i64 0, .it .i64 0, .st [], .st [], .it .i64 0, .st [], .sl .full [], .st [], .st [], .st [], .st [], .it .i64 0, .sl .full [], .it .i64 0, .it .i64 0, .it .i64 0, .it .i64 0, .st [], .it .i64 0, .st [], .it .i64 0, .it .i64 0, .it .i64 0, .it .i64 0, .it .i64 0, .it .i64 0, .it .i64 0, .st [], .it .i64 0, .st [], .it .i64 0, .it .i64 0, .it .i64 0, .it .i64 0, .it .i64 0, .it .i64 0, .st [], .st [], .st [], .sl .full [], .it .i64 0, .it .i64 0, .it .i64 0, .it .i64 0, .it .i64 0, .sl .full [], .it .i64 0, .it .i64 0, .it .i64 0, .st [], .it .i64 0, .it .i64 0, .it .i64 0, .it .i64 0, .it .i64 0] :: .cells (acc.map .st) :: T ∧ acc.length = n ∧ acc.take k = (M.map leafE).take k ∧ k ≤ n ∧ m = n - k) n
  ⟨(by first | rfl | (simp only [↓upd_apply, ↓put_some, ↓reduceIte, Nat.reduceEqDiff, ↓argEnv_zero, ↓argEnv_succ, *]; done)), (by first | rfl | (simp only [↓upd_apply, ↓put_some, ↓reduceIte, Nat.reduceEqDiff, ↓argEnv_zero, ↓argEnv_succ, *]; done)), (by first | rfl | (simp only [↓upd_apply, ↓put_some, ↓reduceIte, Nat.reduceEqDiff, ↓argEnv_zero, ↓argEnv_succ, *]; done)), (by first | rfl | (simp only [↓upd_apply, ↓put_some, ↓reduceIte, Nat.reduceEqDiff, ↓argEnv_zero, ↓argEnv_succ, *]; done)), (by first | rfl | (simp only [↓upd_apply, ↓put_some, ↓reduceIte, Nat.reduceEqDiff, ↓argEnv_zero, ↓argEnv_succ, *]; done)), (by first | rfl | (simp only [↓upd_apply, ↓put_some, ↓reduceIte, Nat.reduceEqDiff, ↓argEnv_zero, ↓argEnv_succ, *]; done)), (by first | rfl | (simp only [↓upd_apply, ↓put_some, ↓reduceIte, Nat.reduceEqDiff, ↓argEnv_zero, ↓argEnv_succ, *]; done)), 0, List.replicate n [], [], (by first | rfl | (simp only [↓upd_apply, ↓put_some, ↓reduceIte, Nat.reduceEqDiff, ↓argEnv_zero, ↓argEnv_succ, *]; done)), by rw [List.map_replicate, Nat.mul_one]; rfl, List.length_replicate .., rfl, by omega, rfl⟩ ?_
 rintro m e S ⟨s0, s1, s5, s6, s9, s45, s46, k, acc, T, s47, rfl, hacc, hak, hk, rfl⟩
 by_cases hlk : k < n
 ·have hkM : k < M.length := by omega
  have hgk : M[k]? = some M[k] := List.getElem?_eq_getElem hkM
  have hzk := hzn M[k] (List.getElem_mem hkM)
  have hst : (acc.set k (leafE M[k])).take (k + 1) = (M.map leafE).take (k + 1) := by
   rw [List.take_succ_eq_append_getElem (by rw [List.length_set]; omega), List.take_succ_eq_append_getElem (by rw [List.length_map]; omega), List.getElem_set_self, List.getElem_map, List.take_set_of_le (Nat.le_refl _), hak]
  generalize M[k] = y at *
  have ky := sleaf_c y hzk
  have hset := aSet_map AV.st acc k (leafE y) (by omega)
  have hT1 : ∀ o : SObj, (T ++ [o])[T.length]? = some o := fun o => by simp
  have hT2 : ∀ o o' : SObj, (T ++ [o]).set T.length o' = T ++ [o'] := fun o o' => by simp
  have hlki : (k : Int) < (M.length : Int) := by omega
  have hlkn : (k : Int) < (n : Int) := by omega
  refine runf4 (an @s0 (an @s1 (an @s5 (an @s6 (an @s9 (an @s45 (an @s46 (an @s47 (an @hgk (an @hszn (an @hT1 (an @hT2 @hlki)))))))))))) ?_
  refine cp ky ?_
  refine runf4 (an @s0 (an @s1 (an @s5 (an @s6 (an @s9 (an @s45 (an @s46 (an @s47 (an @hset (an @hlkn @hacc)))))))))) ?_
  exact round_mk (n - (k + 1)) (by omega) ⟨(by first | rfl | (simp only [↓upd_apply, ↓put_some, ↓reduceIte, Nat.reduceEqDiff, ↓argEnv_zero, ↓argEnv_succ, *]; done)), (by first | rfl | (simp only [↓upd_apply, ↓put_some, ↓reduceIte, Nat.reduceEqDiff, ↓argEnv_zero, ↓argEnv_succ, *]; done)), (by first | rfl | (simp only [↓upd_apply, ↓put_some, ↓reduceIte, Nat.reduceEqDiff, ↓argEnv_zero, ↓argEnv_succ, *]; done)), (by first | rfl | (simp only [↓upd_apply, ↓put_some, ↓reduceIte, Nat.reduceEqDiff, ↓argEnv_zero, ↓argEnv_succ, *]; done)), (by first | rfl | (simp only [↓upd_apply, ↓put_some, ↓reduceIte, Nat.reduceEqDiff, ↓argEnv_zero, ↓argEnv_succ, *]; done)), (by first | rfl | (simp only [↓upd_apply, ↓put_some, ↓reduceIte, Nat.reduceEqDiff, ↓argEnv_zero, ↓argEnv_succ, *]; done)), (by first | rfl | (simp only [↓upd_apply, ↓put_some, ↓reduceIte, Nat.reduceEqDiff, ↓argEnv_zero, ↓argEnv_succ, *]; done)), k + 1, acc.set k (leafE y), _, (by first | rfl | (simp only [↓upd_apply, ↓put_some, ↓reduceIte, Nat.reduceEqDiff, ↓argEnv_zero, ↓argEnv_succ, *]; done)), by rw [Nat.mul_one], by rw [List.length_set, hacc], by first | exact hst | (rw [hst, List.map_take]), by omega, rfl⟩
 obtain rfl : k = n := by omega
 have hacM : acc = M.map leafE := by
  rw [List.take_of_length_le (by omega), List.take_of_length_le (by rw [List.length_map]; omega)] at hak
  exact hak
 have hlki : ¬ (k : Int) < (M.length : Int) := by omega
 rw [upd_selfT s6]
 refine runf4 (an @s0 (an @s1 (an @s5 (an @s6 (an @s9 (an @s45 (an @s46 (an @s47 @hlki)))))))) ?_
 have hfl : flat ((M.map leafE).map AV.st) = (M.map leafE).map AV.st := flat_sts _
 have hil : i.toNat < (M.map leafE).length := by rw [hLl]; omega
 have kp := path_c (M.map leafE) i.toNat hil (by omega) (fun x hx => by
  obtain ⟨e, _, rfl⟩ := List.mem_map.1 hx
  rw [leafE_len]; omega)
 have ei : ((i.toNat : Nat) : Int) = i := by omega
 rw [ei] at kp
 subst hacM
 have hszL : allSz 1 ((M.map leafE).map AV.st) = true := allSz_map 1 AV.st (fun _ => rfl) _
 have hokL : (((M.map leafE).map AV.st).all (AV.o1 0)) = true := by
  rw [List.all_eq_true]
  intro v hv
  obtain ⟨b, _, rfl⟩ := List.mem_map.1 hv
  rfl
 generalize M.map leafE = L at *
 generalize Mk.path L i.toNat = pth at *
 refine wkzW 9 2 (n := k) (c := k) (es := L.map AV.st) (tl := []) (sz := 1) (by rw [hfl, List.append_nil]) (by rw [List.length_map, hLl]) hszL (by rw [hfl]; exact hokL) ?_ (hd := (by first | rfl | (simp only [↓upd_apply, ↓put_some, ↓reduceIte, Nat.reduceEqDiff, ↓argEnv_zero, ↓argEnv_succ, *]; done))) (hS := by rfl)
 refine runf4 (an @s0 (an @s1 (an @s5 (an @s6 (an @s9 (an @s45 (an @s46 @s47))))))) ?_
 refine cp kp ?_
 refine runf4 (an @s0 (an @s1 (an @s5 (an @s6 (an @s9 (an @s45 (an @s46 (an @s47 (an @hg (an @hsz (an @hlti @d1))))))))))) ?_
 exact er0w
end Go.Proofs.YtaphpbiaoofmkaaGreatDoor.Pe
end
section
namespace Go.Proofs.YtaphpbiaoofmkaaGreatDoor.Pe
open Go Go.RowKit Co Sg Ac It Sl
set_option maxRecDepth 100000
set_option maxHeartbeats 4000000
abbrev rcptsV (l : List Receipt) : AV := .sl .ro (l.map rcptV)
theorem delc_c (e : It.Entry) (id : By) (h : Iz e.item) : AC Tryz.prog 173 [entryV e, .ptr 0 0] [.cells [.st id]] (.bo (delT e id)) [.cells [.st id]] := by
 refine AC.enter2 [168] [] Tryz.func173 rfl (by decide) (by decide) (Nat.le_of_ble_eq_true rfl) (by kernel_rfl) ?_; simp only [eraseC, eraseO, List.map_cons, List.map_nil, List.map_toArray, List.getElem?_toArray, List.getElem?_cons_zero, List.getElem?_cons_succ, Option.bind_some, Option.bind_none, List.append_eq, List.cons_append, List.nil_append]
 refine run ?_
 refine cp (tdel_c e id h) ?_
 refine run ?_
 exact er1
def FirstDel (l : List It.Entry) (id : By) (n : Int) : Prop :=
 (∃ c : Nat, c < l.length ∧ delT (l.getD c ⟨0, item0⟩) id = true ∧ (∀ j, j < c → delT (l.getD j ⟨0, item0⟩) id = false) ∧ n = (c : Int)) ∨ ((∀ j, j < l.length → delT (l.getD j ⟨0, item0⟩) id = false) ∧ n = -1)
theorem first_del (l : List It.Entry) (id : By) : ∃ n, FirstDel l id n := by
 by_cases h : ∃ c : Nat, c < l.length ∧ delT (l.getD c ⟨0, item0⟩) id = true
 ·have key : ∀ m : Nat, ∀ c, c ≤ m → c < l.length → delT (l.getD c ⟨0, item0⟩) id = true → ∃ n, FirstDel l id n := by
   intro m
   induction m with
   | zero =>
    intro c hc hl hd
    exact ⟨(c : Int), .inl ⟨c, hl, hd, fun j hj => by omega, rfl⟩⟩
   | succ m ih =>
    intro c hc hl hd
    by_cases hf : ∀ j, j < c → delT (l.getD j ⟨0, item0⟩) id = false
    ·exact ⟨(c : Int), .inl ⟨c, hl, hd, hf, rfl⟩⟩
    ·obtain ⟨j, hj⟩ := Classical.not_forall.1 hf
     obtain ⟨hj, hb⟩ := Classical.not_imp.1 hj
     exact ih j (by omega) (by omega) (by simpa using hb)
  obtain ⟨c, hl, hd⟩ := h
  exact key c c (Nat.le_refl _) hl hd
 ·exact ⟨-1, .inr ⟨fun j hj => by
   cases hb : delT (l.getD j ⟨0, item0⟩) id with
   | false => rfl
   | true => exact absurd ⟨j, hj, hb⟩ h, rfl⟩⟩
theorem indexFunc_c (l : List It.Entry) (id : By) (n : Int) (hn : FirstDel l id n) (hl : l.length ≤ 1000000) (hz : ∀ e ∈ l, Iz e.item) :
  AC Tryz.prog 172 [entriesV l, .fn (.func 173) [] [.ptr 0 0]] [.cells [.st id]] (.it .i64 n) [.cells [.st id]] := by
 refine AC.enter [] [] Tryz.func172 rfl (by decide) (by decide) (Nat.le_of_ble_eq_true rfl) (by kernel_rfl) ?_; simp only [eraseC, eraseO, List.map_cons, List.map_nil, List.map_toArray, List.getElem?_toArray, List.getElem?_cons_zero, List.getElem?_cons_succ, Option.bind_some, Option.bind_none, List.append_eq, List.cons_append, List.nil_append]
 have hsz := entries_sz l
 refine run ?_
 refine loop_mk (fun m e S => S = [.cells [.st id]] ∧ e 0 = entriesV l ∧ e 1 = .fn (.func 173) [] [.ptr 0 0] ∧ e 7 = .it .i64 (l.length : Int) ∧ ∃ k : Nat, e 8 = .it .i64 (k : Int) ∧ k ≤ l.length ∧ (∀ j, j < k → delT (l.getD j ⟨0, item0⟩) id = false) ∧ m = l.length - k) l.length
  ⟨rfl, (by first | rfl | (simp only [↓upd_apply, ↓put_some, ↓reduceIte, Nat.reduceEqDiff, ↓argEnv_zero, ↓argEnv_succ, *]; done)), (by first | rfl | (simp only [↓upd_apply, ↓put_some, ↓reduceIte, Nat.reduceEqDiff, ↓argEnv_zero, ↓argEnv_succ, *]; done)), by simp [↓upd_apply], 0, (by first | rfl | (simp only [↓upd_apply, ↓put_some, ↓reduceIte, Nat.reduceEqDiff, ↓argEnv_zero, ↓argEnv_succ, *]; done)), by omega, fun j hj => absurd hj (Nat.not_lt_zero _), rfl⟩ ?_
 rintro m e S ⟨rfl, s0, s1, s7, k, s8, hk, hf, rfl⟩
 by_cases hlt : k < l.length
 ·have hg : l[k]? = some (l.getD k ⟨0, item0⟩) := by rw [List.getD_eq_getElem?_getD, List.getElem?_eq_getElem hlt]; rfl
  have hzk : Iz (l.getD k ⟨0, item0⟩).item := by
   rw [List.getD_eq_getElem?_getD, List.getElem?_eq_getElem hlt]
   exact hz _ (List.getElem_mem hlt)
  have hd0 : ∀ b, delT (l.getD k ⟨0, item0⟩) id = b → delT (l.getD k ⟨0, item0⟩) id = b := fun b h => h
  generalize hx : l.getD k ⟨0, item0⟩ = x at *
  have kc := delc_c x id hzk
  have hlti : (k : Int) < (l.length : Int) := by omega
  refine runf (an @s0 (an @s1 (an @s7 (an @s8 (an @hg (an @hsz @hlti)))))) ?_
  refine call_mk kc ?_
  cases hd : delT x id with
  | true =>
   have e1 : n = (k : Int) := by
    rcases hn with ⟨c, hc, hd', hf', rfl⟩ | ⟨hf', rfl⟩
    ·have h1 : ¬ c < k := fun h => by rw [hf c h] at hd'; cases hd'
     have h2 : ¬ k < c := fun h => by have := hf' k h; rw [hx, hd] at this; cases this
     omega
    ·have := hf' k hlt
     rw [hx, hd] at this
     cases this
   subst e1
   refine runf (an @s0 (an @s1 (an @s7 @s8))) ?_
   exact er1
  | false =>
   refine runf (an @s0 (an @s1 (an @s7 @s8))) ?_
   refine round_mk (l.length - (k + 1)) (by omega) ⟨rfl, (by first | rfl | (simp only [↓upd_apply, ↓put_some, ↓reduceIte, Nat.reduceEqDiff, ↓argEnv_zero, ↓argEnv_succ, *]; done)), (by first | rfl | (simp only [↓upd_apply, ↓put_some, ↓reduceIte, Nat.reduceEqDiff, ↓argEnv_zero, ↓argEnv_succ, *]; done)), (by first | rfl | (simp only [↓upd_apply, ↓put_some, ↓reduceIte, Nat.reduceEqDiff, ↓argEnv_zero, ↓argEnv_succ, *]; done)), k + 1, (by first | rfl | (simp only [↓upd_apply, ↓put_some, ↓reduceIte, Nat.reduceEqDiff, ↓argEnv_zero, ↓argEnv_succ, *]; done)), by omega, fun j hj => ?_, rfl⟩
   by_cases hjk : j = k
   ·subst hjk; rw [hx]; exact hd
   ·exact hf j (by omega)
 ·have e1 : n = -1 := by
   rcases hn with ⟨c, hc, hd', hf', rfl⟩ | ⟨hf', rfl⟩
   ·have := hf c (by omega)
    rw [hd'] at this
    cases this
   ·rfl
  subst e1
  have hlti : ¬ (k : Int) < (l.length : Int) := by omega
  refine runf (an @s0 (an @s1 (an @s7 (an @s8 @hlti)))) ?_
  exact er1
theorem kfind_no (s : Int) : ∀ (acc : List Int) (i : Nat), s ∉ acc → kfind (.it .i64 s) (acc.map fun s => (.it .i64 s, .bo true)) i = some none
 | [], _, _ => rfl
 | x :: l, i, h => by
  rw [List.mem_cons, not_or] at h
  rw [List.map_cons]
  unfold kfind
  simp only [keq, if_true]
  rw [show (s == x) = false by simpa using h.1]
  exact kfind_no s l (i + 1) h.2
theorem kfind_yes (s : Int) : ∀ (acc : List Int) (i : Nat), s ∈ acc → ∃ j, kfind (.it .i64 s) (acc.map fun s => (.it .i64 s, .bo true)) i = some (some (j, .bo true))
 | x :: l, i, h => by
  rw [List.map_cons]
  unfold kfind
  simp only [keq, if_true]
  by_cases hx : s = x
  ·rw [show (s == x) = true by simpa using hx]
   exact ⟨i, rfl⟩
  ·rw [show (s == x) = false by simpa using hx]
   exact kfind_yes s l (i + 1) ((List.mem_cons.1 h).resolve_left hx)
theorem mem_no {ps : List Int} {l : List It.Entry} {log : Int} {i : Nat} {rs : List Receipt} {acc : List Int} {k : Nat} {r : Receipt} (hm : ∀ s, s ∈ acc ↔ ∃ r ∈ rs.take k, r.frm = s ∧ goodT ps l log i r = true) (hr : rs[k]? = some r) (hn : goodT ps l log i r = true → r.frm ∈ acc) :
  ∀ s, s ∈ acc ↔ ∃ r ∈ rs.take (k + 1), r.frm = s ∧ goodT ps l log i r = true := by
 intro s
 have hk := (List.getElem?_eq_some_iff.1 hr)
 obtain ⟨hk, hrk⟩ := hk
 rw [List.take_succ_eq_append_getElem hk, hrk]
 constructor
 ·intro h
  obtain ⟨q, hq, h1, h2⟩ := (hm s).1 h
  exact ⟨q, List.mem_append_left _ hq, h1, h2⟩
 ·rintro ⟨q, hq, rfl, h2⟩
  rcases List.mem_append.1 hq with hq | hq
  ·exact (hm _).2 ⟨q, hq, rfl, h2⟩
  ·rw [List.mem_singleton] at hq
   subst hq
   exact hn h2
theorem mem_yes {ps : List Int} {l : List It.Entry} {log : Int} {i : Nat} {rs : List Receipt} {acc : List Int} {k : Nat} {r : Receipt} (hm : ∀ s, s ∈ acc ↔ ∃ r ∈ rs.take k, r.frm = s ∧ goodT ps l log i r = true) (hr : rs[k]? = some r) (hy : goodT ps l log i r = true) :
  ∀ s, s ∈ acc ++ [r.frm] ↔ ∃ r ∈ rs.take (k + 1), r.frm = s ∧ goodT ps l log i r = true := by
 intro s
 obtain ⟨hk, hrk⟩ := (List.getElem?_eq_some_iff.1 hr)
 rw [List.take_succ_eq_append_getElem hk, hrk, List.mem_append, List.mem_singleton]
 constructor
 ·rintro (h | rfl)
  ·obtain ⟨q, hq, h1, h2⟩ := (hm s).1 h
   exact ⟨q, List.mem_append_left _ hq, h1, h2⟩
  ·exact ⟨r, List.mem_append_right _ (List.mem_singleton.2 rfl), rfl, hy⟩
 ·rintro ⟨q, hq, rfl, h2⟩
  rcases List.mem_append.1 hq with hq | hq
  ·exact .inl ((hm _).2 ⟨q, hq, rfl, h2⟩)
  ·rw [List.mem_singleton] at hq
   exact .inr (by rw [hq])
theorem tanswered_c (ps : List Int) (id : By) (l : List It.Entry) (log : Int) (rs : List Receipt) (hp : InL ps) (hpl : ps.length ≤ 1000000) (hl : l.length ≤ 1000000) (hz : ∀ e ∈ l, Iz e.item) (hrl : rs.length ≤ 1000000) (hrs : ∀ r ∈ rs, InR r) :
  AC Tryz.prog 74 [intsV ps, .st id, entriesV l, .it .i64 log, rcptsV rs] [] (intsV (answeredT ps id l log rs)) [] := by
 refine AC.enter2 [66, 69] [] Tryz.func74 rfl (by decide) (by decide) (Nat.le_of_ble_eq_true rfl) (by kernel_rfl) ?_; simp only [eraseC, eraseO, List.map_cons, List.map_nil, List.map_toArray, List.getElem?_toArray, List.getElem?_cons_zero, List.getElem?_cons_succ, Option.bind_some, Option.bind_none, List.append_eq, List.cons_append, List.nil_append]
 obtain ⟨n, hn⟩ := first_del l id
 have kx := indexFunc_c l id n hn hl hz
 have hszr : allSz 9 (rs.map rcptV) = true := allSz_map 9 _ (fun _ => rfl) _
 refine run ?_
 refine call_mk kx ?_
 rcases hn with ⟨i, hi, hd, hf, rfl⟩ | ⟨hf, rfl⟩
 rotate_left
 ·rw [answered_none hf]
  refine run ?_
  exact er0w
 have hi0 : ¬ (i : Int) < 0 := by omega
 refine runf @hi0 ?_
 refine loop_mk (fun m e S => e 0 = intsV ps ∧ e 2 = entriesV l ∧ e 3 = .it .i64 log ∧ e 11 = .it .i64 (i : Int) ∧ e 12 = .mp 1 ∧ e 23 = rcptsV rs ∧ e 24 = .it .i64 (rs.length : Int) ∧ ∃ (k : Nat) (acc : List Int) (T : Store), e 25 = .it .i64 (k : Int) ∧ S = .cells [.st id] :: keyM acc :: T ∧
   k ≤ rs.length ∧ acc.Nodup ∧ (∀ s, s ∈ acc ↔ ∃ r ∈ rs.take k, r.frm = s ∧ goodT ps l log i r = true) ∧ m = rs.length - k) rs.length
  ⟨(by first | rfl | (simp only [↓upd_apply, ↓put_some, ↓reduceIte, Nat.reduceEqDiff, ↓argEnv_zero, ↓argEnv_succ, *]; done)), (by first | rfl | (simp only [↓upd_apply, ↓put_some, ↓reduceIte, Nat.reduceEqDiff, ↓argEnv_zero, ↓argEnv_succ, *]; done)), (by first | rfl | (simp only [↓upd_apply, ↓put_some, ↓reduceIte, Nat.reduceEqDiff, ↓argEnv_zero, ↓argEnv_succ, *]; done)), (by first | rfl | (simp only [↓upd_apply, ↓put_some, ↓reduceIte, Nat.reduceEqDiff, ↓argEnv_zero, ↓argEnv_succ, *]; done)), (by first | rfl | (simp only [↓upd_apply, ↓put_some, ↓reduceIte, Nat.reduceEqDiff, ↓argEnv_zero, ↓argEnv_succ, *]; done)), (by first | rfl | (simp only [↓upd_apply, ↓put_some, ↓reduceIte, Nat.reduceEqDiff, ↓argEnv_zero, ↓argEnv_succ, *]; done)), by simp [↓upd_apply], 0, [], [], (by first | rfl | (simp only [↓upd_apply, ↓put_some, ↓reduceIte, Nat.reduceEqDiff, ↓argEnv_zero, ↓argEnv_succ, *]; done)), rfl, by omega, List.nodup_nil, fun s => by simp, rfl⟩ ?_
 rintro m e S ⟨s0, s2, s3, s11, s12, s23, s24, k, acc, T, s25, rfl, hk, hnd, hm, rfl⟩
 by_cases hlt : k < rs.length
 ·have hg : rs[k]? = some rs[k] := List.getElem?_eq_getElem hlt
  have hr := hrs rs[k] (List.getElem_mem hlt)
  generalize rs[k] = r at *
  have hlti : (k : Int) < (rs.length : Int) := by omega
  have hT1 : ∀ o : SObj, (T ++ [o])[T.length]? = some o := fun o => by simp
  have hT2 : ∀ o o' : SObj, (T ++ [o]).set T.length o' = T ++ [o'] := fun o o' => by simp
  have hT3 : ∀ o o' : SObj, (T ++ [o] ++ [o'])[T.length + 1]? = some o' := fun o o' => by simp
  have hT4 : ∀ o o' o'' : SObj, (T ++ [o] ++ [o']).set (T.length + 1) o'' = T ++ [o] ++ [o''] := fun o o' o'' => by simp
  have hT5 : ∀ o o' : SObj, (T ++ [o] ++ [o'])[T.length]? = some o := fun o o' => by simp
  have kv := tverify_c ps r hp hr
  have kp := tprove_c l (i : Int) r hl hz
  by_cases c1 : r.head.server = log
  rotate_left
  ·have q1 : (r.head.server != log) = true := bneT c1
   have hno : goodT ps l log i r = true → r.frm ∈ acc := fun h => by
    unfold goodT at h
    rw [decide_eq_false c1] at h
    cases h
   refine runf (an @s0 (an @s2 (an @s3 (an @s11 (an @s12 (an @s23 (an @s24 (an @s25 (an @hlti (an @hg (an @hszr (an @hT1 (an @hT2 @q1))))))))))))) ?_
   exact round_mk (rs.length - (k + 1)) (by omega) ⟨(by first | rfl | (simp only [↓upd_apply, ↓put_some, ↓reduceIte, Nat.reduceEqDiff, ↓argEnv_zero, ↓argEnv_succ, *]; done)), (by first | rfl | (simp only [↓upd_apply, ↓put_some, ↓reduceIte, Nat.reduceEqDiff, ↓argEnv_zero, ↓argEnv_succ, *]; done)), (by first | rfl | (simp only [↓upd_apply, ↓put_some, ↓reduceIte, Nat.reduceEqDiff, ↓argEnv_zero, ↓argEnv_succ, *]; done)), (by first | rfl | (simp only [↓upd_apply, ↓put_some, ↓reduceIte, Nat.reduceEqDiff, ↓argEnv_zero, ↓argEnv_succ, *]; done)), (by first | rfl | (simp only [↓upd_apply, ↓put_some, ↓reduceIte, Nat.reduceEqDiff, ↓argEnv_zero, ↓argEnv_succ, *]; done)), (by first | rfl | (simp only [↓upd_apply, ↓put_some, ↓reduceIte, Nat.reduceEqDiff, ↓argEnv_zero, ↓argEnv_succ, *]; done)), (by first | rfl | (simp only [↓upd_apply, ↓put_some, ↓reduceIte, Nat.reduceEqDiff, ↓argEnv_zero, ↓argEnv_succ, *]; done)), k + 1, acc, _, (by first | rfl | (simp only [↓upd_apply, ↓put_some, ↓reduceIte, Nat.reduceEqDiff, ↓argEnv_zero, ↓argEnv_succ, *]; done)), rfl, by omega, hnd, mem_no hm hg hno, rfl⟩
  have q1 : (r.head.server != log) = false := bneF c1
  by_cases c2 : r.frm ∈ acc
  ·obtain ⟨j, hj⟩ := kfind_yes r.frm acc 0 c2
   refine runf (an @s0 (an @s2 (an @s3 (an @s11 (an @s12 (an @s23 (an @s24 (an @s25 (an @hlti (an @hg (an @hszr (an @hT1 (an @hT2 (an @q1 @hj)))))))))))))) ?_
   exact round_mk (rs.length - (k + 1)) (by omega) ⟨(by first | rfl | (simp only [↓upd_apply, ↓put_some, ↓reduceIte, Nat.reduceEqDiff, ↓argEnv_zero, ↓argEnv_succ, *]; done)), (by first | rfl | (simp only [↓upd_apply, ↓put_some, ↓reduceIte, Nat.reduceEqDiff, ↓argEnv_zero, ↓argEnv_succ, *]; done)), (by first | rfl | (simp only [↓upd_apply, ↓put_some, ↓reduceIte, Nat.reduceEqDiff, ↓argEnv_zero, ↓argEnv_succ, *]; done)), (by first | rfl | (simp only [↓upd_apply, ↓put_some, ↓reduceIte, Nat.reduceEqDiff, ↓argEnv_zero, ↓argEnv_succ, *]; done)), (by first | rfl | (simp only [↓upd_apply, ↓put_some, ↓reduceIte, Nat.reduceEqDiff, ↓argEnv_zero, ↓argEnv_succ, *]; done)), (by first | rfl | (simp only [↓upd_apply, ↓put_some, ↓reduceIte, Nat.reduceEqDiff, ↓argEnv_zero, ↓argEnv_succ, *]; done)), (by first | rfl | (simp only [↓upd_apply, ↓put_some, ↓reduceIte, Nat.reduceEqDiff, ↓argEnv_zero, ↓argEnv_succ, *]; done)), k + 1, acc, _, (by first | rfl | (simp only [↓upd_apply, ↓put_some, ↓reduceIte, Nat.reduceEqDiff, ↓argEnv_zero, ↓argEnv_succ, *]; done)), rfl, by omega, hnd, mem_no hm hg (fun _ => c2), rfl⟩
  have hj := kfind_no r.frm acc 0 c2
  cases hv : verifyT ps r with
  | false =>
   have hno : goodT ps l log i r = true → r.frm ∈ acc := fun h => by
    unfold goodT at h
    rw [hv, Bool.and_false] at h
    cases h
   rw [hv] at kv
   refine runf (an @s0 (an @s2 (an @s3 (an @s11 (an @s12 (an @s23 (an @s24 (an @s25 (an @hlti (an @hg (an @hszr (an @hT1 (an @hT2 (an @q1 @hj)))))))))))))) ?_
   refine cp kv ?_
   refine runf (an @s0 (an @s2 (an @s3 (an @s11 (an @s12 (an @s23 (an @s24 @s25))))))) ?_
   exact round_mk (rs.length - (k + 1)) (by omega) ⟨(by first | rfl | (simp only [↓upd_apply, ↓put_some, ↓reduceIte, Nat.reduceEqDiff, ↓argEnv_zero, ↓argEnv_succ, *]; done)), (by first | rfl | (simp only [↓upd_apply, ↓put_some, ↓reduceIte, Nat.reduceEqDiff, ↓argEnv_zero, ↓argEnv_succ, *]; done)), (by first | rfl | (simp only [↓upd_apply, ↓put_some, ↓reduceIte, Nat.reduceEqDiff, ↓argEnv_zero, ↓argEnv_succ, *]; done)), (by first | rfl | (simp only [↓upd_apply, ↓put_some, ↓reduceIte, Nat.reduceEqDiff, ↓argEnv_zero, ↓argEnv_succ, *]; done)), (by first | rfl | (simp only [↓upd_apply, ↓put_some, ↓reduceIte, Nat.reduceEqDiff, ↓argEnv_zero, ↓argEnv_succ, *]; done)), (by first | rfl | (simp only [↓upd_apply, ↓put_some, ↓reduceIte, Nat.reduceEqDiff, ↓argEnv_zero, ↓argEnv_succ, *]; done)), (by first | rfl | (simp only [↓upd_apply, ↓put_some, ↓reduceIte, Nat.reduceEqDiff, ↓argEnv_zero, ↓argEnv_succ, *]; done)), k + 1, acc, _, (by first | rfl | (simp only [↓upd_apply, ↓put_some, ↓reduceIte, Nat.reduceEqDiff, ↓argEnv_zero, ↓argEnv_succ, *]; done)), rfl, by omega, hnd, mem_no hm hg hno, rfl⟩
  | true =>
  rw [hv] at kv
  cases hpr : (proveT l (i : Int) r).2 with
  | false =>
   have hno : goodT ps l log i r = true → r.frm ∈ acc := fun h => by
    unfold goodT at h
    rw [hpr, Bool.and_false] at h
    cases h
   rw [hpr] at kp
   generalize (proveT l (i : Int) r).1 = gr at *
   refine runf (an @s0 (an @s2 (an @s3 (an @s11 (an @s12 (an @s23 (an @s24 (an @s25 (an @hlti (an @hg (an @hszr (an @hT1 (an @hT2 (an @q1 @hj)))))))))))))) ?_
   refine cp kv ?_
   refine runf (an @s0 (an @s2 (an @s3 (an @s11 (an @s12 (an @s23 (an @s24 (an @s25 @hT1)))))))) ?_
   refine cp kp ?_
   refine runf (an @s0 (an @s2 (an @s3 (an @s11 (an @s12 (an @s23 (an @s24 (an @s25 (an @hT1 (an @hT2 (an @hT3 (an @hT4 @hT5)))))))))))) ?_
   exact round_mk (rs.length - (k + 1)) (by omega) ⟨(by first | rfl | (simp only [↓upd_apply, ↓put_some, ↓reduceIte, Nat.reduceEqDiff, ↓argEnv_zero, ↓argEnv_succ, *]; done)), (by first | rfl | (simp only [↓upd_apply, ↓put_some, ↓reduceIte, Nat.reduceEqDiff, ↓argEnv_zero, ↓argEnv_succ, *]; done)), (by first | rfl | (simp only [↓upd_apply, ↓put_some, ↓reduceIte, Nat.reduceEqDiff, ↓argEnv_zero, ↓argEnv_succ, *]; done)), (by first | rfl | (simp only [↓upd_apply, ↓put_some, ↓reduceIte, Nat.reduceEqDiff, ↓argEnv_zero, ↓argEnv_succ, *]; done)), (by first | rfl | (simp only [↓upd_apply, ↓put_some, ↓reduceIte, Nat.reduceEqDiff, ↓argEnv_zero, ↓argEnv_succ, *]; done)), (by first | rfl | (simp only [↓upd_apply, ↓put_some, ↓reduceIte, Nat.reduceEqDiff, ↓argEnv_zero, ↓argEnv_succ, *]; done)), (by first | rfl | (simp only [↓upd_apply, ↓put_some, ↓reduceIte, Nat.reduceEqDiff, ↓argEnv_zero, ↓argEnv_succ, *]; done)), k + 1, acc, _, (by first | rfl | (simp only [↓upd_apply, ↓put_some, ↓reduceIte, Nat.reduceEqDiff, ↓argEnv_zero, ↓argEnv_succ, *]; done)), rfl, by omega, hnd, mem_no hm hg hno, rfl⟩
  | true =>
   have hy : goodT ps l log i r = true := by
    unfold goodT
    rw [hpr, hv, decide_eq_true c1]
    rfl
   rw [hpr] at kp
   generalize (proveT l (i : Int) r).1 = gr at *
   refine runf (an @s0 (an @s2 (an @s3 (an @s11 (an @s12 (an @s23 (an @s24 (an @s25 (an @hlti (an @hg (an @hszr (an @hT1 (an @hT2 (an @q1 @hj)))))))))))))) ?_
   refine cp kv ?_
   refine runf (an @s0 (an @s2 (an @s3 (an @s11 (an @s12 (an @s23 (an @s24 (an @s25 @hT1)))))))) ?_
   refine cp kp ?_
   refine runf (an @s0 (an @s2 (an @s3 (an @s11 (an @s12 (an @s23 (an @s24 (an @s25 (an @hT1 (an @hT2 (an @hT3 (an @hT4 (an @hT5 @hj))))))))))))) ?_
   exact round_mk (rs.length - (k + 1)) (by omega) ⟨(by first | rfl | (simp only [↓upd_apply, ↓put_some, ↓reduceIte, Nat.reduceEqDiff, ↓argEnv_zero, ↓argEnv_succ, *]; done)), (by first | rfl | (simp only [↓upd_apply, ↓put_some, ↓reduceIte, Nat.reduceEqDiff, ↓argEnv_zero, ↓argEnv_succ, *]; done)), (by first | rfl | (simp only [↓upd_apply, ↓put_some, ↓reduceIte, Nat.reduceEqDiff, ↓argEnv_zero, ↓argEnv_succ, *]; done)), (by first | rfl | (simp only [↓upd_apply, ↓put_some, ↓reduceIte, Nat.reduceEqDiff, ↓argEnv_zero, ↓argEnv_succ, *]; done)), (by first | rfl | (simp only [↓upd_apply, ↓put_some, ↓reduceIte, Nat.reduceEqDiff, ↓argEnv_zero, ↓argEnv_succ, *]; done)), (by first | rfl | (simp only [↓upd_apply, ↓put_some, ↓reduceIte, Nat.reduceEqDiff, ↓argEnv_zero, ↓argEnv_succ, *]; done)), (by first | rfl | (simp only [↓upd_apply, ↓put_some, ↓reduceIte, Nat.reduceEqDiff, ↓argEnv_zero, ↓argEnv_succ, *]; done)), k + 1, acc ++ [r.frm], _, (by first | rfl | (simp only [↓upd_apply, ↓put_some, ↓reduceIte, Nat.reduceEqDiff, ↓argEnv_zero, ↓argEnv_succ, *]; done)), by rw [keyM, List.map_append]; rfl, by omega, by rw [List.nodup_append]; exact ⟨hnd, by simp, fun a ha b hb e => c2 (by rw [List.mem_singleton] at hb; rw [← hb, ← e]; exact ha)⟩, mem_yes hm hg hy, rfl⟩
 ·have hlti : ¬ (k : Int) < (rs.length : Int) := by omega
  have hkl : rs.take k = rs := List.take_of_length_le (by omega)
  rw [hkl] at hm
  have hrng : ∀ s ∈ acc, 0 ≤ s ∧ s < (ps.length : Int) := fun s hs => by
   obtain ⟨r, _, rfl, hg⟩ := (hm s).1 hs
   unfold goodT at hg
   simp only [Bool.and_eq_true] at hg
   exact verify_frm hg.1.2
  have hap := answered_perm hi hd hf hnd hm
  have hal : acc.length ≤ 1000000 := by
   have h1 := hap.1.length_eq
   have h2 := answered_le ps id l log rs
   omega
  rw [← answered_sorted hap]
  refine runf (an @s0 (an @s2 (an @s3 (an @s11 (an @s12 (an @s23 (an @s24 (an @s25 @hlti)))))))) ?_
  refine call_mk (keys_at (l := 1) (acc := acc) rfl) ?_
  refine run ?_
  refine call_mk (sorted_at 1 (T.length + 1 + 1) (by omega) hnd hal (fun s hs => by have := hrng s hs; omega) rfl (by simp)) ?_
  refine run ?_
  exact er0w
end Go.Proofs.YtaphpbiaoofmkaaGreatDoor.Pe
end
section
namespace Go.Proofs.YtaphpbiaoofmkaaGreatDoor.Pe
open Go Go.RowKit Co Sg Ac It Sl
set_option maxRecDepth 100000
set_option maxHeartbeats 4000000
theorem tl0 (T : Store) (o : SObj) : (T ++ [o])[T.length]? = some o := by simp
theorem tl0s (T : Store) (o o' : SObj) : (T ++ [o]).set T.length o' = T ++ [o'] := by simp
theorem key_range (s : By) : -9223372036854775808 ≤ (keySeed s).secret ∧ (keySeed s).secret ≤ 9223372036854775807 := by
 have := Key.right_iff.1 (keySeed_right s)
 omega
theorem pub_in {k : Key} (h : k.right = true) : -9223372036854775808 ≤ k.pub ∧ k.pub ≤ 9223372036854775807 := by
 have := pub_range h
 omega
theorem signA_lens2 (k : Key) (a : Ac.Act) : (signA k a).to.length ≤ a.to.length ∧ (signA k a).wraps.length ≤ a.wraps.length := by
 unfold signA
 simp only
 split
 ·exact ⟨Nat.le_refl _, Nat.le_refl _⟩
 ·exact ⟨Nat.zero_le _, Nat.zero_le _⟩
theorem szdel (id : By) : Sz (delA id) := ⟨by show (16 : Nat) ≤ _; decide, Nat.zero_le _, Nat.zero_le _, Nat.zero_le _, fun s hs => (by cases hs), Nat.zero_le _, Nat.zero_le _⟩
theorem deletion29_c (id : By) : AC Tryz.prog 155 [.st id] [] (entryV (delE id)) [] := by
 refine AC.enter2 [145, 154, 14, 57] [] Tryz.func155 rfl (by decide) (by decide) (Nat.le_of_ble_eq_true rfl) (by kernel_rfl) ?_; simp only [eraseC, eraseO, List.map_cons, List.map_nil, List.map_toArray, List.getElem?_toArray, List.getElem?_cons_zero, List.getElem?_cons_succ, Option.bind_some, Option.bind_none, List.append_eq, List.cons_append, List.nil_append]
 have k1 := sha_c [] (by decide)
 have k2 := keySeed_c [97] (by decide)
 have k3 := signA_c (keySeed [97]) (delA id) (szdel id) (key_range [97])
 have hl := signA_lens2 (keySeed [97]) (delA id)
 have k4' := ofAct_c (signA (keySeed [97]) (delA id)) (Nat.le_trans hl.1 (Nat.zero_le _)) (Nat.le_trans hl.2 (Nat.zero_le _))
 unfold delE
 generalize signA (keySeed [97]) (delA id) = a at *
 generalize keySeed [97] = k at *
 unfold delA at k3
 generalize Sm.sha [] = z at *
 refine run ?_
 refine cp k1 ?_
 refine run ?_
 refine cp k2 ?_
 refine run ?_
 refine cp k3 ?_
 refine run ?_
 refine cp k4' ?_
 refine run ?_
 exact er0w
def light29 (l : List It.Entry) : Bool := (l.all fun e => decide (e.item.act.to.length ≤ 100) && decide (e.item.act.wraps.length ≤ 100) && decide (e.item.decision.to.length ≤ 100)) && decide (l.length ≤ 20)
theorem light29_c (l : List It.Entry) (hl : l.length ≤ 140737488351232) : AC Tryz.prog 68 [entriesV l] [] (.bo (light29 l)) [] := by
 refine AC.enter [] [] Tryz.func68 rfl (by decide) (by decide) (Nat.le_of_ble_eq_true rfl) (by kernel_rfl) ?_; simp only [eraseC, eraseO, List.map_cons, List.map_nil, List.map_toArray, List.getElem?_toArray, List.getElem?_cons_zero, List.getElem?_cons_succ, Option.bind_some, Option.bind_none, List.append_eq, List.cons_append, List.nil_append]
 unfold light29
 have hsz := entries_sz l
 obtain ⟨sh, hsh⟩ : ∃ sh : It.Entry → Bool, sh = fun e => decide (e.item.act.to.length ≤ 100) && decide (e.item.act.wraps.length ≤ 100) && decide (e.item.decision.to.length ≤ 100) := ⟨_, rfl⟩
 rw [← hsh]
 refine run ?_
 refine loop_mk (fun m e S => e 0 = entriesV l ∧ ∃ (k : Nat) (T : Store), e 3 = .it .i64 (k : Int) ∧ S = T ∧ k ≤ l.length ∧ (l.take k).all sh = true ∧ m = l.length - k) l.length
  ⟨(by first | rfl | (simp only [↓upd_apply, ↓put_some, ↓reduceIte, Nat.reduceEqDiff, ↓argEnv_zero, ↓argEnv_succ, *]; done)), 0, [], (by first | rfl | (simp only [↓upd_apply, ↓put_some, ↓reduceIte, Nat.reduceEqDiff, ↓argEnv_zero, ↓argEnv_succ, *]; done)), rfl, by omega, rfl, rfl⟩ ?_
 rintro m e S ⟨s0, k, T, s3, rfl, hk, hall, rfl⟩
 by_cases hlt : k < l.length
 rotate_left
 ·obtain rfl : k = l.length := by omega
  rw [List.take_length] at hall
  rw [hall]
  have hx : ¬ ((l.length : Nat) : Int) < (l.length : Int) := by omega
  by_cases c1 : l.length ≤ 20
  ·have c1' : (l.length : Int) ≤ 20 := by omega
   rw [decide_eq_true c1]
   refine runf (an @s0 (an @s3 (an @hx @c1'))) ?_
   exact er0
  ·have c1' : ¬ (l.length : Int) ≤ 20 := by omega
   rw [decide_eq_false c1]
   refine runf (an @s0 (an @s3 (an @hx @c1'))) ?_
   exact er0
 have hg : l[k]? = some l[k] := List.getElem?_eq_getElem hlt
 have hstep : l.take (k + 1) = l.take k ++ [l[k]] := List.take_succ_eq_append_getElem hlt
 have hbad : sh l[k] = false → l.all sh = false := fun h => List.all_eq_false.2 ⟨l[k], List.getElem_mem hlt, by simp [h]⟩
 generalize l[k] = x at *
 have hun : sh x = (decide (x.item.act.to.length ≤ 100) && decide (x.item.act.wraps.length ≤ 100) && decide (x.item.decision.to.length ≤ 100)) := by rw [hsh]
 by_cases d1 : x.item.act.to.length ≤ 100
 rotate_left
 ·have d1' : (100 : Int) < (x.item.act.to.length : Int) := by omega
  rw [hbad (by rw [hun, decide_eq_false d1]; simp), Bool.false_and]
  refine runf (an @s0 (an @s3 (an @hg (an @hsz (an @tl0 (an @tl0s @d1')))))) ?_
  exact er0
 have d1' : ¬ (100 : Int) < (x.item.act.to.length : Int) := by omega
 by_cases d2 : x.item.act.wraps.length ≤ 100
 rotate_left
 ·have d2' : (100 : Int) < (x.item.act.wraps.length : Int) := by omega
  rw [hbad (by rw [hun, decide_eq_false d2]; simp), Bool.false_and]
  refine runf (an @s0 (an @s3 (an @hg (an @hsz (an @tl0 (an @tl0s (an @d1' @d2'))))))) ?_
  exact er0
 have d2' : ¬ (100 : Int) < (x.item.act.wraps.length : Int) := by omega
 by_cases d3 : x.item.decision.to.length ≤ 100
 rotate_left
 ·have d3' : (100 : Int) < (x.item.decision.to.length : Int) := by omega
  rw [hbad (by rw [hun, decide_eq_false d3]; simp), Bool.false_and]
  refine runf (an @s0 (an @s3 (an @hg (an @hsz (an @tl0 (an @tl0s (an @d1' (an @d2' @d3')))))))) ?_
  exact er0
 have d3' : ¬ (100 : Int) < (x.item.decision.to.length : Int) := by omega
 have hs : sh x = true := by rw [hun, decide_eq_true d1, decide_eq_true d2, decide_eq_true d3]; rfl
 refine runf (an @s0 (an @s3 (an @hg (an @hsz (an @tl0 (an @tl0s (an @d1' (an @d2' @d3')))))))) ?_
 exact round_mk (l.length - (k + 1)) (by omega) ⟨(by first | rfl | (simp only [↓upd_apply, ↓put_some, ↓reduceIte, Nat.reduceEqDiff, ↓argEnv_zero, ↓argEnv_succ, *]; done)), k + 1, _, (by first | rfl | (simp only [↓upd_apply, ↓put_some, ↓reduceIte, Nat.reduceEqDiff, ↓argEnv_zero, ↓argEnv_succ, *]; done)), rfl, by omega, by rw [hstep, List.all_append, hall]; simp [hs], rfl⟩
end Go.Proofs.YtaphpbiaoofmkaaGreatDoor.Pe
end
section
namespace Go.Proofs.YtaphpbiaoofmkaaGreatDoor.Pe
open Go Go.RowKit Co Sg Ac It Sl
set_option maxRecDepth 100000
set_option maxHeartbeats 4000000
def sPost : By := Sm.sha [112, 111, 115, 116]
def sOther : By := Sm.sha [111, 116, 104, 101, 114]
theorem sNe : sOther ≠ sPost := by decide +kernel
def kA : Key := keySeed [97]
def kB : Key := keySeed [98]
def sL : List It.Entry := [delE sOther, delE sPost]
def sR : Receipt := mkRcpt kB 1 (mkHead kA 0 sL 5)
def sS29 : Receipt := mkRcpt kB 1 (mkHead kA 0 [delE sOther] 5)
theorem sPost_len : sPost.length = 32 := Mk.sha_len' _
theorem sOther_len : sOther.length = 32 := Mk.sha_len' _
theorem sR_hon : HonR kA kB 1 sL sR := honR (keySeed_right _) (keySeed_right _) ⟨by decide, by decide⟩ (by decide) ⟨by decide, by decide⟩
theorem sS_hon : HonR kA kB 1 (sL.take 1) sS29 := honR (keySeed_right _) (keySeed_right _) ⟨by decide, by decide⟩ (by decide) ⟨by decide, by decide⟩
theorem sR_hon2 : HonR kA kB 1 (sL.take 2) sR := sR_hon
def sPs : List Int := [kA.pub, kB.pub]
theorem sR_ver : verifyT sPs sR = true := sR_hon.ver sPs (by decide) (by decide) rfl rfl
theorem sS_ver : verifyT sPs sS29 = true := sS_hon.ver sPs (by decide) (by decide) rfl rfl
theorem sR_prove : (proveT sL 1 sR).2 = true := prove_honest sR_hon2 (by decide) 1
theorem sS_prove : (proveT sL 1 sS29).2 = false := prove_honest sS_hon (by decide) 1
theorem del_sL (id : By) : delL sL id = (decide (sOther = id) || decide (sPost = id)) := by
 unfold delL sL
 simp only [List.any_cons, List.any_nil, Bool.or_false]
 rw [delE_del sOther_len, delE_del sPost_len]
theorem sR_check : checkT sPs sPost (proveT sL 1 sR).1 = true := by
 rw [check_prove sR_prove, sR_ver, show sL.getD (1 : Int).toNat ⟨0, item0⟩ = delE sPost from rfl, delE_del sPost_len]
 simp
theorem sR_check2 : checkT sPs sOther (proveT sL 1 sR).1 = false := by
 rw [check_prove sR_prove, sR_ver, show sL.getD (1 : Int).toNat ⟨0, item0⟩ = delE sPost from rfl, delE_del sPost_len, decide_eq_false (Ne.symm sNe)]
 rfl
theorem ans_one {ps : List Int} {id : By} {l : List It.Entry} {log : Int} {r : Receipt} (hp : ps.length = 2) (hf : r.frm = 1) : answeredT ps id l log [r] = if holdsT ps id l log r then [1] else [] := by
 unfold answeredT
 rw [hp]
 have e : List.range 2 = [0, 1] := rfl
 rw [e]
 simp only [List.filter_cons, List.any_cons, List.any_nil, Bool.or_false, hf]
 cases holdsT ps id l log r <;> simp
theorem sR_ans : answeredT sPs sPost sL 0 [sR] = [1] := by
 rw [ans_one rfl sR_hon.frm, holds_honest sR_hon2 (by decide) sR_ver, show sL.take 2 = sL from rfl, del_sL]
 simp
theorem sS_ans : answeredT sPs sPost sL 0 [sS29] = [] := by
 rw [ans_one rfl sS_hon.frm, holds_honest sS_hon (by decide) sS_ver]
 have : delL (sL.take 1) sPost = false := by
  unfold delL sL
  simp only [List.take_succ_cons, List.take_zero, List.any_cons, List.any_nil, Bool.or_false]
  rw [delE_del sOther_len, decide_eq_false sNe]
 rw [this]
 rfl
theorem zero_rcpt (h : Head) : mkRcpt ⟨0, 0⟩ 1 h = rcpt0 := by
 unfold mkRcpt
 rw [Key.right_zero]
 rfl
theorem inR_mk (k : Key) (frm : Int) (h : Head) (hf : -9223372036854775808 ≤ frm ∧ frm ≤ 9223372036854775807) : InR (mkRcpt k frm h) := by
 unfold mkRcpt
 split
 ·refine ⟨hf, ?_⟩
  obtain ⟨h1, h2, h3, h4⟩ := sign_range k (msgT ⟨frm, h, sig0⟩)
  show -9223372036854775808 ≤ (sign k (msgT ⟨frm, h, sig0⟩)).e ∧ (sign k (msgT ⟨frm, h, sig0⟩)).e ≤ 9223372036854775807
  omega
 ·exact ⟨⟨by decide, by decide⟩, ⟨by decide, by decide⟩⟩
theorem iz_sL : ∀ e ∈ sL, Iz e.item := by
 intro e he
 unfold sL at he
 simp only [List.mem_cons, List.not_mem_nil, or_false] at he
 rcases he with rfl | rfl
 ·exact iz_right (delE_right sOther_len)
 ·exact iz_right (delE_right sPost_len)
theorem inL_sPs : InL sPs := ⟨by decide, fun i hi => by
 unfold sPs at hi
 simp only [List.mem_cons, List.not_mem_nil, or_false] at hi
 rcases hi with rfl | rfl
 ·exact pub_in (keySeed_right _)
 ·exact pub_in (keySeed_right _)⟩
theorem prove_eq {l : List It.Entry} {i : Int} {r : Receipt} (h : (proveT l i r).2 = true) : (proveT l i r).1 = ⟨i, l.getD i.toNat ⟨0, item0⟩, Mk.path ((l.take r.head.size.toNat).map leafE) i.toNat, r⟩ := by
 unfold proveT at h ⊢
 split at h
 ·cases h
 ·rename_i hc; rw [if_neg hc]
theorem checkg_c {ps : List Int} {id : By} {l : List It.Entry} {i : Int} {r : Receipt} (h : (proveT l i r).2 = true) (hp : InL ps) (hr : InR r) (hz : ∀ e ∈ l, Iz e.item) (hl : l.length ≤ 1000000) : AC Tryz.prog 72 [intsV ps, .st id, graveV (proveT l i r).1] [] (.bo (checkT ps id (proveT l i r).1)) [] := by
 obtain ⟨h1, h2, h3, h4⟩ := (proveT_ok l i r).1 h
 have e := prove_eq h
 have hpl := path_len ((l.take r.head.size.toNat).map leafE).length ((l.take r.head.size.toNat).map leafE) i.toNat (Nat.le_refl _)
 have hL : ((l.take r.head.size.toNat).map leafE).length ≤ l.length := by rw [List.length_map, List.length_take]; omega
 have hz' : Iz (l.getD i.toNat ⟨0, item0⟩).item := by
  rw [List.getD_eq_getElem?_getD, List.getElem?_eq_getElem (show i.toNat < l.length by omega)]
  exact hz _ (List.getElem_mem _)
 rw [e]
 exact tcheck_c ps id ⟨i, l.getD i.toNat ⟨0, item0⟩, Mk.path ((l.take r.head.size.toNat).map leafE) i.toNat, r⟩ hp hr hz' (by simp only; omega) (by simp only; omega) (by simp only; omega)
theorem small29_c : AC Tryz.prog 63 [] [] (.bo true) [] := by
 refine AC.enter [154, 145, 155, 78, 64, 69, 74, 72] [] Tryz.func63 rfl (by decide) (by decide) (Nat.le_of_ble_eq_true rfl) (by kernel_rfl) ?_; simp only [eraseC, eraseO, List.map_cons, List.map_nil, List.map_toArray, List.getElem?_toArray, List.getElem?_cons_zero, List.getElem?_cons_succ, Option.bind_some, Option.bind_none, List.append_eq, List.cons_append, List.nil_append]
 have ra := key_range [97]
 have rb := key_range [98]
 have iR : InR sR := inR_mk _ _ _ ⟨by decide, by decide⟩
 have iS : InR sS29 := inR_mk _ _ _ ⟨by decide, by decide⟩
 have kk1 : AC Tryz.prog 154 [.st [97]] [] (keyV kA) [] := keySeed_c [97] (by decide)
 have kk2 : AC Tryz.prog 154 [.st [98]] [] (keyV kB) [] := keySeed_c [98] (by decide)
 have ks1 : AC Tryz.prog 145 [.st [112, 111, 115, 116]] [] (.st sPost) [] := sha_c [112, 111, 115, 116] (by decide)
 have ks2 : AC Tryz.prog 145 [.st [111, 116, 104, 101, 114]] [] (.st sOther) [] := sha_c [111, 116, 104, 101, 114] (by decide)
 have kd1 := deletion29_c sOther
 have kd2 := deletion29_c sPost
 have kh1 : AC Tryz.prog 78 [keyV kA, .it .i64 0, entriesV [delE sOther, delE sPost], .it .i64 5] [] (headV (mkHead kA 0 sL 5)) [] := shead_c kA 0 sL 5 ra (by decide) iz_sL
 have kh2 : AC Tryz.prog 78 [keyV kA, .it .i64 0, entriesV [delE sOther], .it .i64 5] [] (headV (mkHead kA 0 [delE sOther] 5)) [] := shead_c kA 0 [delE sOther] 5 ra (by decide) (fun e he => iz_sL e (List.mem_of_mem_take (i := 1) he))
 have kr1 : AC Tryz.prog 64 [keyV kB, .it .i64 1, headV (mkHead kA 0 sL 5)] [] (rcptV sR) [] := treceipt_c kB 1 _ rb
 have kr2 : AC Tryz.prog 64 [keyV kB, .it .i64 1, headV (mkHead kA 0 [delE sOther] 5)] [] (rcptV sS29) [] := treceipt_c kB 1 _ rb
 have kp1 := tprove_c sL 1 sR (by decide) iz_sL
 have kp2 := tprove_c sL 1 sS29 (by decide) iz_sL
 rw [sR_prove] at kp1
 rw [sS_prove] at kp2
 have ka1 := tanswered_c sPs sPost sL 0 [sR] inL_sPs (by decide) (by decide) iz_sL (by decide) (fun r hr => by rw [List.mem_singleton] at hr; rw [hr]; exact iR)
 have ka2 := tanswered_c sPs sPost sL 0 [sS29] inL_sPs (by decide) (by decide) iz_sL (by decide) (fun r hr => by rw [List.mem_singleton] at hr; rw [hr]; exact iS)
 rw [sR_ans] at ka1
 rw [sS_ans] at ka2
 have kc1 := checkg_c (ps := sPs) (id := sPost) sR_prove inL_sPs iR iz_sL (by decide)
 have kc2 := checkg_c (ps := sPs) (id := sOther) sR_prove inL_sPs iR iz_sL (by decide)
 rw [sR_check] at kc1
 rw [sR_check2] at kc2
 have kz : AC Tryz.prog 64 [keyV ⟨0, 0⟩, .it .i64 1, headV sR.head] [] (rcptV rcpt0) [] := by
  have := treceipt_c ⟨0, 0⟩ 1 sR.head ⟨by decide, by decide⟩
  rwa [zero_rcpt] at this
 unfold sL at kp1 kp2 ka1 ka2 kc1 kc2
 unfold sPs at ka1 ka2 kc1 kc2
 generalize mkHead kA 0 sL 5 = h1 at *
 generalize mkHead kA 0 [delE sOther] 5 = h2 at *
 generalize (proveT [delE sOther, delE sPost] 1 sR).1 = g1 at *
 generalize (proveT [delE sOther, delE sPost] 1 sS29).1 = g2 at *
 generalize delE sOther = d1 at *
 generalize delE sPost = d2 at *
 generalize sR = r1 at *
 generalize sS29 = r2 at *
 generalize sPost = p at *
 generalize sOther = o at *
 generalize kA = a at *
 generalize kB = b at *
 clear iR iS ra rb
 refine run ?_
 refine cp kk1 ?_
 refine run ?_
 refine cp kk2 ?_
 refine run ?_
 refine cp ks1 ?_
 refine run ?_
 refine cp ks2 ?_
 refine run ?_
 refine cp kd1 ?_
 refine run ?_
 refine cp kd2 ?_
 refine run ?_
 refine cp kh1 ?_
 refine run ?_
 refine cp kr1 ?_
 refine run ?_
 refine cp kh2 ?_
 refine run ?_
 refine cp kr2 ?_
 refine run ?_
 refine cp kp1 ?_
 refine run ?_
 refine cp kp2 ?_
 refine run ?_
 refine cp ka1 ?_
 refine run ?_
 refine cp kc1 ?_
 refine run ?_
 refine cp ks2 ?_
 refine run ?_
 refine cp kc2 ?_
 refine run ?_
 refine cp ka2 ?_
 refine run ?_
 refine cp kz ?_
 refine run ?_
 exact er0
end Go.Proofs.YtaphpbiaoofmkaaGreatDoor.Pe
end
section
namespace Go.Proofs.YtaphpbiaoofmkaaGreatDoor.Pe
open Go Go.RowKit Co Sg Ac It Sl
set_option maxRecDepth 100000
set_option maxHeartbeats 4000000
theorem fright15_c (h : Head) : AC Tryz.prog 158 [headV h] [] (.bo (rightH h)) [] := by
 refine AC.enter [] [] Tryz.func158 rfl (by decide) (by decide) (Nat.le_of_ble_eq_true rfl) (by kernel_rfl) ?_; simp only [eraseC, eraseO, List.map_cons, List.map_nil, List.map_toArray, List.getElem?_toArray, List.getElem?_cons_zero, List.getElem?_cons_succ, Option.bind_some, Option.bind_none, List.append_eq, List.cons_append, List.nil_append]
 have hf : ¬ ((0 ≤ h.server ∧ h.server ≤ 19) ∧ (0 ≤ h.size ∧ h.size ≤ 1073741824) ∧ (0 ≤ h.time ∧ h.time ≤ 1099511627776) ∧ h.root.length = 32 ∧ (0 ≤ h.sig.e ∧ h.sig.e ≤ 2305843009213693949) ∧ (0 ≤ h.sig.s ∧ h.sig.s ≤ 2305843009213693949)) → rightH h = false := fun hn => Bool.eq_false_iff.2 fun r => hn (rightH_lin.1 r)
 by_cases h1 : 0 ≤ h.server
 rotate_left
 ·rw [hf (by omega)]
  refine run ?_
  exact er0
 by_cases h2 : h.server < 20
 rotate_left
 ·rw [hf (by omega)]
  refine run ?_
  exact er0
 by_cases h3 : 0 ≤ h.size
 rotate_left
 ·rw [hf (by omega)]
  refine run ?_
  exact er0
 by_cases h4 : h.size ≤ 1073741824
 rotate_left
 ·rw [hf (by omega)]
  refine run ?_
  exact er0
 by_cases h5 : 0 ≤ h.time
 rotate_left
 ·rw [hf (by omega)]
  refine run ?_
  exact er0
 by_cases h6 : h.time ≤ 1099511627776
 rotate_left
 ·rw [hf (by omega)]
  refine run ?_
  exact er0
 by_cases h7 : h.root.length = 32
 rotate_left
 ·have h7' : ¬ (h.root.length : Int) = 32 := by omega
  rw [hf (by omega)]
  refine runf @h7' ?_
  exact er0
 have h7' : (h.root.length : Int) = 32 := by omega
 by_cases h8 : 0 ≤ h.sig.e
 rotate_left
 ·rw [hf (by omega)]
  refine runf @h7' ?_
  exact er0
 by_cases h9 : h.sig.e ≤ 2305843009213693949
 rotate_left
 ·rw [hf (by omega)]
  refine runf @h7' ?_
  exact er0
 by_cases h10 : 0 ≤ h.sig.s
 rotate_left
 ·rw [hf (by omega)]
  refine runf @h7' ?_
  exact er0
 by_cases h11 : h.sig.s ≤ 2305843009213693949
 rotate_left
 ·rw [hf (by omega)]
  refine runf @h7' ?_
  exact er0
 rw [rightH_lin.2 (by omega)]
 refine runf @h7' ?_
 exact er0
theorem fcore15_c (h : Head) (hr : rightH h = true) : AC Tryz.prog 253 [headV h] [] (.st (coreH h)) [] := by
 refine AC.enter [119, 120] [] Tryz.func253 rfl (by decide) (by decide) (Nat.le_of_ble_eq_true rfl) (by kernel_rfl) ?_; simp only [eraseC, eraseO, List.map_cons, List.map_nil, List.map_toArray, List.getElem?_toArray, List.getElem?_cons_zero, List.getElem?_cons_succ, Option.bind_some, Option.bind_none, List.append_eq, List.cons_append, List.nil_append]
 have hh := rightH_lin.1 hr
 have n1 := numI_le h.server (by omega)
 have n2 := numI_le h.size (by omega)
 have n3 := numI_le h.time (by omega)
 have t1 := text_len (s := h.root) (by omega)
 have tw : (text wHead).length = 5 := rfl
 unfold coreH
 refine run ?_
 refine cp (ftext_c wHead (by simp)) ?_
 refine run ?_
 refine cp (fnum_c h.server (by omega)) ?_
 refine run ?_
 refine cp (fnum_c h.size (by omega)) ?_
 refine run ?_
 refine cp (ftext_c h.root (by omega)) ?_
 refine run ?_
 refine cp (fnum_c h.time (by omega)) ?_
 refine run ?_
 exact er0
theorem fheadBytes_c (h : Head) : AC Tryz.prog 252 [headV h] [] (.st (headB h)) [] := by
 refine AC.enter [158, 253, 120] [] Tryz.func252 rfl (by decide) (by decide) (Nat.le_of_ble_eq_true rfl) (by kernel_rfl) ?_; simp only [eraseC, eraseO, List.map_cons, List.map_nil, List.map_toArray, List.getElem?_toArray, List.getElem?_cons_zero, List.getElem?_cons_succ, Option.bind_some, Option.bind_none, List.append_eq, List.cons_append, List.nil_append]
 have kr := fright15_c h
 unfold headB
 cases hr : rightH h with
 | false =>
  rw [hr] at kr
  rw [if_neg (by simp)]
  refine run ?_
  refine cp kr ?_
  refine run ?_
  exact er0
 | true =>
  rw [hr] at kr
  rw [if_pos rfl]
  have hh := rightH_lin.1 hr
  have hc := coreR_lenH hr
  have kc := fcore15_c h hr
  have n1 := numI_le h.sig.e (by omega)
  have n2 := numI_le h.sig.s (by omega)
  generalize coreH h = c at *
  refine run ?_
  refine cp kr ?_
  refine run ?_
  refine cp kc ?_
  refine run ?_
  refine cp (fnum_c h.sig.e (by omega)) ?_
  refine run ?_
  refine cp (fnum_c h.sig.s (by omega)) ?_
  refine run ?_
  exact er0
theorem fdigests_c (l : List By) (hl : l.length ≤ 140737488355328) : AC Tryz.prog 261 [sls l] [] (.bo (l.all dig)) [] := by
 refine AC.enter2 [] [] Tryz.func261 rfl (by decide) (by decide) (Nat.le_of_ble_eq_true rfl) (by kernel_rfl) ?_; simp only [eraseC, eraseO, List.map_cons, List.map_nil, List.map_toArray, List.getElem?_toArray, List.getElem?_cons_zero, List.getElem?_cons_succ, Option.bind_some, Option.bind_none, List.append_eq, List.cons_append, List.nil_append]
 refine run ?_
 refine loop_mk (fun m e S => S = [] ∧ e 0 = sls l ∧ ∃ k : Nat, e 3 = .it .i64 (k : Int) ∧ k ≤ l.length ∧ (l.take k).all dig = true ∧ m = l.length - k) l.length
  ⟨rfl, (by first | rfl | (simp only [↓upd_apply, ↓put_some, ↓reduceIte, Nat.reduceEqDiff, ↓argEnv_zero, ↓argEnv_succ, *]; done)), 0, (by first | rfl | (simp only [↓upd_apply, ↓put_some, ↓reduceIte, Nat.reduceEqDiff, ↓argEnv_zero, ↓argEnv_succ, *]; done)), by omega, rfl, rfl⟩ ?_
 rintro m e S ⟨rfl, s0, k, s3, hk, hall, rfl⟩
 by_cases hlt : k < l.length
 ·have hg : l[k]? = some l[k] := List.getElem?_eq_getElem hlt
  have hstep : l.take (k + 1) = l.take k ++ [l[k]] := List.take_succ_eq_append_getElem hlt
  have hbad : dig l[k] = false → l.all dig = false := fun h => List.all_eq_false.2 ⟨l[k], List.getElem_mem hlt, by simp [h]⟩
  generalize l[k] = x at *
  by_cases hx : x.length = 32
  ·have hx' : ((x.length : Int) != 32) = false := bneF (by omega)
   have hd : dig x = true := decide_eq_true hx
   refine runf (an @s0 (an @s3 (an @hg @hx'))) ?_
   exact round_mk (l.length - (k + 1)) (by omega) ⟨rfl, (by first | rfl | (simp only [↓upd_apply, ↓put_some, ↓reduceIte, Nat.reduceEqDiff, ↓argEnv_zero, ↓argEnv_succ, *]; done)), k + 1, (by first | rfl | (simp only [↓upd_apply, ↓put_some, ↓reduceIte, Nat.reduceEqDiff, ↓argEnv_zero, ↓argEnv_succ, *]; done)), by omega, by rw [hstep, List.all_append, hall]; simp [hd], rfl⟩
  ·have hx' : ((x.length : Int) != 32) = true := bneT (by omega)
   rw [hbad (decide_eq_false hx)]
   refine runf (an @s0 (an @s3 (an @hg @hx'))) ?_
   exact er0
 ·obtain rfl : k = l.length := by omega
  rw [List.take_length] at hall
  rw [hall]
  have hx : ¬ ((l.length : Nat) : Int) < (l.length : Int) := by omega
  refine runf (an @s0 (an @s3 @hx)) ?_
  exact er0
theorem fverify15_c (p : Int) (h : Head) : AC Tryz.prog 161 [.it .i64 p, headV h] [] (.bo (verifyH p h)) [] := by
 refine AC.enter2 [158, 253, 107] [] Tryz.func161 rfl (by decide) (by decide) (Nat.le_of_ble_eq_true rfl) (by kernel_rfl) ?_; simp only [eraseC, eraseO, List.map_cons, List.map_nil, List.map_toArray, List.getElem?_toArray, List.getElem?_cons_zero, List.getElem?_cons_succ, Option.bind_some, Option.bind_none, List.append_eq, List.cons_append, List.nil_append]
 have k1 := fright15_c h
 unfold verifyH
 cases hr : rightH h with
 | false =>
  rw [hr] at k1
  refine run ?_
  refine cp k1 ?_
  refine run ?_
  exact er0
 | true =>
  rw [hr] at k1
  have k2 := fcore15_c h hr
  have k3 := rverify_c p (coreH h) h.sig (by have := coreR_lenH hr; omega)
  refine run ?_
  refine cp k1 ?_
  refine run ?_
  refine cp k2 ?_
  refine run ?_
  refine cp k3 ?_
  refine run ?_
  exact er0
end Go.Proofs.YtaphpbiaoofmkaaGreatDoor.Pe
end
section
namespace Go.Proofs.YtaphpbiaoofmkaaGreatDoor.Pe
open Go Go.RowKit Co Sg Ac It Sl
set_option maxRecDepth 100000
set_option maxHeartbeats 4000000
theorem fmsg29_c (r : Receipt) (h : -9223372036854775808 ≤ r.frm ∧ r.frm ≤ 9223372036854775807) : AC Tryz.prog 159 [rcptV r] [] (.st (msgT r)) [] := by
 refine AC.enter2 [119, 120, 252] [] Tryz.func159 rfl (by decide) (by decide) (Nat.le_of_ble_eq_true rfl) (by kernel_rfl) ?_; simp only [eraseC, eraseO, List.map_cons, List.map_nil, List.map_toArray, List.getElem?_toArray, List.getElem?_cons_zero, List.getElem?_cons_succ, Option.bind_some, Option.bind_none, List.append_eq, List.cons_append, List.nil_append]
 have h1 := headB_len r.head
 have n1 := numI_le r.frm (by omega)
 have tw : (text wRcpt).length = 8 := rfl
 have t1 : (text (headB r.head)).length ≤ 1000209 := by
  have := num_len9 (n := (headB r.head).length) (by omega)
  unfold text; rw [List.length_append]; omega
 unfold msgT
 refine run ?_
 refine cp (ftext_c wRcpt (by simp [wRcpt])) ?_
 refine run ?_
 refine cp (fnum_c r.frm (by omega)) ?_
 refine run ?_
 refine cp (fheadBytes_c r.head) ?_
 refine run ?_
 refine cp (ftext_c (headB r.head) (by omega)) ?_
 refine run ?_
 exact er0
theorem fverify29_c (ps : List Int) (r : Receipt) (hp : InL ps) (hr : InR r) : AC Tryz.prog 67 [intsV ps, rcptV r] [] (.bo (verifyT ps r)) [] := by
 refine AC.enter2 [161, 159, 107] [] Tryz.func67 rfl (by decide) (by decide) (Nat.le_of_ble_eq_true rfl) (by kernel_rfl) ?_; simp only [eraseC, eraseO, List.map_cons, List.map_nil, List.map_toArray, List.getElem?_toArray, List.getElem?_cons_zero, List.getElem?_cons_succ, Option.bind_some, Option.bind_none, List.append_eq, List.cons_append, List.nil_append]
 have hpl := hp.len
 have hszp : allSz 1 (ps.map (AV.it .i64)) = true := allSz_map 1 _ (fun _ => rfl) _
 have k3 := fmsg29_c r hr.frm
 have hl := msgT_len r (by have := hr.frm; omega)
 unfold verifyT
 by_cases c1 : r.frm < 0
 ·rw [decide_eq_false (show ¬ 0 ≤ r.frm by omega)]
  refine runf @c1 ?_
  exact er0
 by_cases c2 : (ps.length : Int) ≤ r.frm
 ·rw [decide_eq_true (show 0 ≤ r.frm by omega), decide_eq_false (show ¬ r.frm < (ps.length : Int) by omega)]
  refine runf (an @c1 @c2) ?_
  exact er0
 by_cases c3 : r.head.server < 0
 ·rw [decide_eq_true (show 0 ≤ r.frm by omega), decide_eq_true (show r.frm < (ps.length : Int) by omega), decide_eq_false (show ¬ 0 ≤ r.head.server by omega)]
  refine runf (an @c1 (an @c2 @c3)) ?_
  exact er0
 by_cases c4 : (ps.length : Int) ≤ r.head.server
 ·rw [decide_eq_true (show 0 ≤ r.frm by omega), decide_eq_true (show r.frm < (ps.length : Int) by omega), decide_eq_true (show 0 ≤ r.head.server by omega), decide_eq_false (show ¬ r.head.server < (ps.length : Int) by omega)]
  refine runf (an @c1 (an @c2 (an @c3 @c4))) ?_
  exact er0
 have d1 : 0 ≤ r.frm := by omega
 have d2 : r.frm < (ps.length : Int) := by omega
 have d3 : 0 ≤ r.head.server := by omega
 have d4 : r.head.server < (ps.length : Int) := by omega
 rw [decide_eq_true d1, decide_eq_true d2, decide_eq_true d3, decide_eq_true d4]
 obtain ⟨g1, w1⟩ := getD_of hp d1 d2
 obtain ⟨g2, w2⟩ := getD_of hp d3 d4
 generalize ps.getD r.frm.toNat 0 = p at *
 generalize ps.getD r.head.server.toNat 0 = q at *
 have k1 := fverify15_c q r.head
 have k2 := rverify_c p (msgT r) r.sig (by omega)
 generalize msgT r = c at *
 cases hv : verifyH q r.head with
 | false =>
  rw [hv] at k1
  refine runf (an @c1 (an @c2 (an @c3 (an @c4 (an @d3 (an @d4 (an @g2 @hszp))))))) ?_
  refine cp k1 ?_
  refine run ?_
  exact er0
 | true =>
 rw [hv] at k1
 refine runf (an @c1 (an @c2 (an @c3 (an @c4 (an @d3 (an @d4 (an @g2 @hszp))))))) ?_
 refine cp k1 ?_
 refine runf (an @d1 (an @d2 (an @g1 @hszp))) ?_
 refine cp k3 ?_
 refine run ?_
 refine cp k2 ?_
 refine run ?_
 exact er0
end Go.Proofs.YtaphpbiaoofmkaaGreatDoor.Pe
end
