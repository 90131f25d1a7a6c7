/- The reference of layer 12 on plain values: Right, Core, Bytes. Printed by tools/mkrfl.py. -/
import Derived.Test.YtaphpbiaoofmkaaGreatDoorRfK
import Derived.Test.YtaphpbiaoofmkaaGreatDoorRfW
set_option linter.unusedSectionVars false
set_option linter.unusedVariables false
set_option linter.unusedSimpArgs false
namespace Go.Proofs.YtaphpbiaoofmkaaGreatDoor.Pe
open Go Go.RowKit Co Sg Ac
set_option maxRecDepth 100000
set_option maxHeartbeats 4000000
theorem fright12_c (a : Ac.Act) (h : Sz a) : AC Tryz.prog 20 [actV a] [] (.bo (Ac.right a)) [] := by
 refine AC.enter2 [113, 114] [] Tryz.func20 rfl (by decide) (by decide) (Nat.le_of_ble_eq_true rfl) (by kernel_rfl) ?_; simp only [eraseC, eraseO, List.map_cons, List.map_nil, List.map_toArray, List.getElem?_toArray, List.getElem?_cons_zero, List.getElem?_cons_succ, Option.bind_some, Option.bind_none, List.append_eq, List.cons_append, List.nil_append]
 obtain ⟨q, hq⟩ : ∃ q, Ac.right a = q := ⟨_, rfl⟩
 rw [hq]
 rw [right_fits] at hq
 have hn := nilD
 refine run ?_
 refine cp (fidright_c a.author h.author) ?_
 cases c0 : idR a.author with
 | false =>
  obtain rfl : q = false := by rw [← hq, c0]; rfl
  refine run ?_
  exact er0
 | true =>
 by_cases s0 : 0 ≤ a.seq
 rotate_left
 ·obtain rfl : q = false := by
   rw [← hq]
   have hp : placed a = false := by unfold placed; split <;> simp [wi, dig] <;> omega
   rw [hp]; simp
  refine runf @hn ?_
  exact er0
 by_cases s1 : a.seq ≤ 1073741824
 rotate_left
 ·obtain rfl : q = false := by
   rw [← hq]
   have hp : placed a = false := by unfold placed; split <;> simp [wi, dig] <;> omega
   rw [hp]; simp
  refine runf @hn ?_
  exact er0
 by_cases t0 : 0 ≤ a.time
 rotate_left
 ·obtain rfl : q = false := by
   rw [← hq]
   have hp : wi a.time 0 1099511627776 = false := by simp [wi]; omega
   rw [hp]; simp
  refine runf @hn ?_
  exact er0
 by_cases t1 : a.time ≤ 1099511627776
 rotate_left
 ·obtain rfl : q = false := by
   rw [← hq]
   have hp : wi a.time 0 1099511627776 = false := by simp [wi]; omega
   rw [hp]; simp
  refine runf @hn ?_
  exact er0
 by_cases e0 : 0 ≤ a.sig.e
 rotate_left
 ·obtain rfl : q = false := by
   rw [← hq]
   have hp : sigR a.sig = false := by simp [sigR, wi]; omega
   rw [hp]; simp
  refine runf @hn ?_
  exact er0
 by_cases e1 : a.sig.e < 2305843009213693950
 rotate_left
 ·obtain rfl : q = false := by
   rw [← hq]
   have hp : sigR a.sig = false := by simp [sigR, wi]; omega
   rw [hp]; simp
  refine runf @hn ?_
  exact er0
 by_cases f0 : 0 ≤ a.sig.s
 rotate_left
 ·obtain rfl : q = false := by
   rw [← hq]
   have hp : sigR a.sig = false := by simp [sigR, wi]; omega
   rw [hp]; simp
  refine runf @hn ?_
  exact er0
 by_cases f1 : a.sig.s < 2305843009213693950
 rotate_left
 ·obtain rfl : q = false := by
   rw [← hq]
   have hp : sigR a.sig = false := by simp [sigR, wi]; omega
   rw [hp]; simp
  refine runf @hn ?_
  exact er0
 have htm : wi a.time 0 1099511627776 = true := wi_iff.2 ⟨t0, t1⟩
 have hsg : sigR a.sig = true := by simp [sigR, wi]; omega
 by_cases z : a.seq = 0
 ·cases cp0 : decide (a.prev = []) with
  | false =>
   obtain rfl : q = false := by
    have hp : placed a = false := by unfold placed; rw [if_pos z, cp0, Bool.and_false]
    rw [← hq, hp]; simp
   refine runf (an @hn @cp0) ?_
   exact er0
  | true =>
  by_cases kz : a.kind = 0
  rotate_left
  ·obtain rfl : q = false := by
    have hp : placed a = false := by unfold placed; rw [if_pos z, decide_eq_false kz]; rfl
    rw [← hq, hp]; simp
   refine runf (an @hn @cp0) ?_
   exact er0
  obtain rfl : q = fitsF a := by
   have hp : placed a = true := by unfold placed; rw [if_pos z, decide_eq_true kz, cp0]; rfl
   rw [← hq, hp, c0, htm, hsg]; rfl
  refine runf (an @hn @cp0) ?_
  refine cp (ffits_c a h) ?_
  refine run ?_
  exact er0
 ·have z' : 1 ≤ a.seq := by omega
  have hw1 : wi a.seq 1 1073741824 = true := wi_iff.2 ⟨z', s1⟩
  have hd := dig_eq a.prev
  cases cd : ((a.prev.length : Int) == 32) with
  | false =>
   have cd' : ((a.prev.length : Int) != 32) = true := by simpa [bne] using cd
   obtain rfl : q = false := by
    have hp : placed a = false := by unfold placed; rw [if_neg z, hd, cd, Bool.and_false]
    rw [← hq, hp]; simp
   refine runf @cd' ?_
   exact er0
  | true =>
  have cd' : ((a.prev.length : Int) != 32) = false := by simpa [bne] using cd
  by_cases kz : a.kind = 0
  ·obtain rfl : q = false := by
    have hp : placed a = false := by unfold placed; rw [if_neg z, hw1, decide_eq_false (show ¬ a.kind ≠ 0 from fun h => h kz)]; rfl
    rw [← hq, hp]; simp
   refine runf @cd' ?_
   exact er0
  obtain rfl : q = fitsF a := by
   have hp : placed a = true := by unfold placed; rw [if_neg z, hw1, decide_eq_true (show a.kind ≠ 0 from kz), hd, cd]; rfl
   rw [← hq, hp, c0, htm, hsg]; rfl
  refine runf @cd' ?_
  refine cp (ffits_c a h) ?_
  refine run ?_
  exact er0
theorem fbox_c (b : Box) (h : b.nonce.length ≤ 1000000 ∧ b.data.length ≤ 1000000 ∧ b.tag.length ≤ 1000000) : AC Tryz.prog 122 [boxV b] [] (.st (boxB b)) [] := by
 refine AC.enter2 [119] [] Tryz.func122 rfl (by decide) (by decide) (Nat.le_of_ble_eq_true rfl) (by kernel_rfl) ?_; simp only [eraseC, eraseO, List.map_cons, List.map_nil, List.map_toArray, List.getElem?_toArray, List.getElem?_cons_zero, List.getElem?_cons_succ, Option.bind_some, Option.bind_none, List.append_eq, List.cons_append, List.nil_append]
 have l1 := text_len h.1
 have l2 := text_len h.2.1
 have l3 := text_len h.2.2
 unfold boxB
 refine run ?_
 refine cp (ftext_c b.nonce (by omega)) ?_
 refine run ?_
 refine cp (ftext_c b.data (by omega)) ?_
 refine run ?_
 refine cp (ftext_c b.tag (by omega)) ?_
 refine run ?_
 exact er0
def preF (a : Ac.Act) : By :=
 text wAct ++ text a.author ++ numI a.seq ++ text a.prev ++ numI a.kind ++ numI a.time ++ text a.object ++ text a.target ++ numI a.scope ++ text a.group ++ list a.to ++ text a.text ++ boxB a.body ++ numI a.epoch ++ num a.wraps.length
theorem coreB_preF (a : Ac.Act) : coreB a = preF a ++ (a.wraps.map wrapB).flatten ++ numI a.n ++ numI a.m := by
 unfold coreB preF
 simp only [List.append_assoc]
theorem fcore12_c (a : Ac.Act) (h : Sz a) : AC Tryz.prog 24 [actV a] [] (.st (core a)) [] := by
 refine AC.enter2 [20, 119, 120, 121, 122] [] Tryz.func24 rfl (by decide) (by decide) (Nat.le_of_ble_eq_true rfl) (by kernel_rfl) ?_; simp only [eraseC, eraseO, List.map_cons, List.map_nil, List.map_toArray, List.getElem?_toArray, List.getElem?_cons_zero, List.getElem?_cons_succ, Option.bind_some, Option.bind_none, List.append_eq, List.cons_append, List.nil_append]
 unfold core
 refine run ?_
 refine cp (fright12_c a h) ?_
 cases hr : Ac.right a with
 | false => rw [if_neg (by simp)]; refine run ?_; exact er0
 | true =>
  rw [if_pos rfl]
  have sm := right_sm hr
  have hto : a.to.length ≤ 1000000 := by have := sm.to; omega
  have htx : ∀ x ∈ a.to, x.length ≤ 1000000 := fun x hx => by have := sm.to.2 x hx; omega
  have q1 := text_len (s := wAct) (by simp)
  have k1 := ftext_c wAct (by simp)
  have q2 := text_len (s := a.author) (by have := sm.author; omega)
  have k2 := ftext_c a.author (by have := sm.author; omega)
  have q3 := numI_le a.seq (by have := sm.seq; omega)
  have k3 := fnum_c a.seq (by have := sm.seq; omega)
  have q4 := text_len (s := a.prev) (by have := sm.prev; omega)
  have k4 := ftext_c a.prev (by have := sm.prev; omega)
  have q5 := numI_le a.kind (by have := sm.kind; omega)
  have k5 := fnum_c a.kind (by have := sm.kind; omega)
  have q6 := numI_le a.time (by have := sm.time; omega)
  have k6 := fnum_c a.time (by have := sm.time; omega)
  have q7 := text_len (s := a.object) (by have := sm.object; omega)
  have k7 := ftext_c a.object (by have := sm.object; omega)
  have q8 := text_len (s := a.target) (by have := sm.target; omega)
  have k8 := ftext_c a.target (by have := sm.target; omega)
  have q9 := numI_le a.scope (by have := sm.scope; omega)
  have k9 := fnum_c a.scope (by have := sm.scope; omega)
  have q10 := text_len (s := a.group) (by have := sm.group; omega)
  have k10 := ftext_c a.group (by have := sm.group; omega)
  have q11 := list_len (l := a.to) hto htx
  have k11 := flist_c a.to hto htx
  have q12 := text_len (s := a.text) (by have := sm.text; omega)
  have k12 := ftext_c a.text (by have := sm.text; omega)
  have q13 := boxB_len a.body (by have := sm.body; omega)
  have k13 := fbox_c a.body (by have := sm.body; omega)
  have q14 := numI_le a.epoch (by have := sm.epoch; omega)
  have k14 := fnum_c a.epoch (by have := sm.epoch; omega)
  have q15 := num_len9 (n := a.wraps.length) (by have := sm.wraps; omega)
  have k15 := fnum_c (a.wraps.length : Int) (by have := sm.wraps; omega)
  rw [numI_nat] at k15
  have q16 := numI_le a.n (by have := sm.n; omega)
  have k16 := fnum_c a.n (by have := sm.n; omega)
  have q17 := numI_le a.m (by have := sm.m; omega)
  have k17 := fnum_c a.m (by have := sm.m; omega)
  have hwr := sm.wraps
  have hlp : (preF a).length ≤ 2000000000000 := by
   unfold preF
   simp only [List.length_append]
   omega
  rw [coreB_preF]
  have hsz : allSz 5 (a.wraps.map wrapV) = true := allSz_map 5 wrapV (fun _ => rfl) _
  clear hr sm h
  refine run ?_
  refine cp k1 ?_
  refine run ?_
  refine cp k2 ?_
  refine run ?_
  refine cp k3 ?_
  refine run ?_
  refine cp k4 ?_
  refine run ?_
  refine cp k5 ?_
  refine run ?_
  refine cp k6 ?_
  refine run ?_
  refine cp k7 ?_
  refine run ?_
  refine cp k8 ?_
  refine run ?_
  refine cp k9 ?_
  refine run ?_
  refine cp k10 ?_
  refine run ?_
  refine cp k11 ?_
  refine run ?_
  refine cp k12 ?_
  refine run ?_
  refine cp k13 ?_
  refine run ?_
  refine cp k14 ?_
  refine run ?_
  refine cp k15 ?_
  refine run ?_
  refine loop_mk (fun m e S => e 1 = .ptr 0 0 ∧ ∃ (k : Nat), e 5 = .it .i64 (k : Int) ∧ e 4 = .st (preF a ++ ((a.wraps.take k).map wrapB).flatten) ∧ S = [.cells (actL a)] ∧ k ≤ a.wraps.length ∧ m = a.wraps.length - k) a.wraps.length
   ⟨(by first | rfl | (simp only [↓upd_apply, ↓put_some, ↓reduceIte, Nat.reduceEqDiff, ↓argEnv_zero, ↓argEnv_succ, *]; done)), 0, (by first | rfl | (simp only [↓upd_apply, ↓put_some, ↓reduceIte, Nat.reduceEqDiff, ↓argEnv_zero, ↓argEnv_succ, *]; done)), by rw [List.take_zero, List.map_nil, List.flatten_nil, List.append_nil]; exact (by first | rfl | (simp only [↓upd_apply, ↓put_some, ↓reduceIte, Nat.reduceEqDiff, ↓argEnv_zero, ↓argEnv_succ, *]; done)), rfl, by omega, rfl⟩ ?_
  clear k1 k2 k3 k4 k5 k6 k7 k8 k9 k10 k11 k12 k13 k14 k15
  clear q1 q2 q3 q4 q5 q6 q7 q8 q9 q10 q11 q12 q13 q14 q15
  rintro m e S ⟨s1, k, s5, s4, rfl, hk, rfl⟩
  have hlen := wraps_len hwr.2 hwr.1 k
  by_cases hlt : k < a.wraps.length
  rotate_left
  ·obtain rfl : k = a.wraps.length := by omega
   rw [List.take_length] at s4 hlen
   have hx : ¬ ((a.wraps.length : Nat) : Int) < (a.wraps.length : Int) := by omega
   generalize (a.wraps.map wrapB).flatten = z at *
   generalize preF a = p at *
   refine runf (an @s1 (an @s5 (an @s4 @hx))) ?_
   refine cp k16 ?_
   refine runf (an @s1 (an @s5 @s4)) ?_
   refine cp k17 ?_
   refine runf (an @s1 (an @s5 @s4)) ?_
   exact er0
  have hg : a.wraps[k]? = some a.wraps[k] := List.getElem?_eq_getElem hlt
  have hx := hwr.2 a.wraps[k] (List.getElem_mem hlt)
  have hstep : ((a.wraps.take (k + 1)).map wrapB).flatten = ((a.wraps.take k).map wrapB).flatten ++ wrapB a.wraps[k] := by
   rw [List.take_succ_eq_append_getElem hlt, List.map_append, List.flatten_append]
   congr 1
   exact List.append_nil _
  generalize a.wraps[k] = x at *
  have hx' := wrap_sm hx
  have hbl := boxB_len x.box hx'.2.2
  have hn1 := numI_le x.to (by omega)
  have hn2 := numI_le x.eph (by omega)
  generalize ((a.wraps.take k).map wrapB).flatten = z at *
  generalize preF a = p at *
  have hwl := hwr.1
  clear k16 k17 q16 q17 hwr
  refine runf (an @s1 (an @s5 (an @s4 (an @hg @hsz)))) ?_
  refine cp (fnum_c x.to (by omega)) ?_
  refine runf (an @s1 (an @s5 (an @s4 (an @hg @hsz)))) ?_
  refine cp (fnum_c x.eph (by omega)) ?_
  refine runf (an @s1 (an @s5 (an @s4 (an @hg @hsz)))) ?_
  refine cp (fbox_c x.box hx'.2.2) ?_
  refine runf (an @s1 (an @s5 @s4)) ?_
  exact round_mk (a.wraps.length - (k + 1)) (by omega) ⟨(by first | rfl | (simp only [↓upd_apply, ↓put_some, ↓reduceIte, Nat.reduceEqDiff, ↓argEnv_zero, ↓argEnv_succ, *]; done)), k + 1, (by first | rfl | (simp only [↓upd_apply, ↓put_some, ↓reduceIte, Nat.reduceEqDiff, ↓argEnv_zero, ↓argEnv_succ, *]; done)), by rw [hstep]; unfold wrapB; simp only [List.append_assoc]; exact (by first | rfl | (simp only [↓upd_apply, ↓put_some, ↓reduceIte, Nat.reduceEqDiff, ↓argEnv_zero, ↓argEnv_succ, *]; done)), rfl, by omega, rfl⟩
theorem core_ne (a : Ac.Act) (hr : Ac.right a = true) : core a ≠ [] := by
 unfold core coreB
 rw [if_pos hr]
 have : (text wAct).length = 4 := rfl
 intro e
 have := congrArg List.length e
 simp only [List.length_append, List.length_nil] at this
 omega
theorem fbytes12_c (a : Ac.Act) (h : Sz a) : AC Tryz.prog 26 [actV a] [] (.st (Ac.bytes a)) [] := by
 refine AC.enter2 [24, 120] [] Tryz.func26 rfl (by decide) (by decide) (Nat.le_of_ble_eq_true rfl) (by kernel_rfl) ?_; simp only [eraseC, eraseO, List.map_cons, List.map_nil, List.map_toArray, List.getElem?_toArray, List.getElem?_cons_zero, List.getElem?_cons_succ, Option.bind_some, Option.bind_none, List.append_eq, List.cons_append, List.nil_append]
 refine run ?_
 refine cp (fcore12_c a h) ?_
 cases hr : Ac.right a with
 | false =>
  have h0 : core a = [] := by unfold core; rw [hr]; rfl
  have h1 : Ac.bytes a = [] := by unfold Ac.bytes; rw [hr]; rfl
  rw [h1, h0]
  refine run ?_
  exact er0
 | true =>
  have hne := core_ne a hr
  have hl := core_len5 (a := a)
  have h1 : Ac.bytes a = core a ++ numI a.sig.e ++ numI a.sig.s := by unfold Ac.bytes core; rw [if_pos hr, if_pos hr]
  have sm := (right_sm hr).sig
  simp only [sigR, Bool.and_eq_true, wi_iff] at sm
  rw [h1]
  have hq : (core a == []) = false := by simpa using hne
  have n1 := numI_le a.sig.e (by omega)
  have n2 := numI_le a.sig.s (by omega)
  generalize core a = c at *
  refine runf @hq ?_
  refine cp (fnum_c a.sig.e (by omega)) ?_
  refine run ?_
  refine cp (fnum_c a.sig.s (by omega)) ?_
  refine run ?_
  exact er0
end Go.Proofs.YtaphpbiaoofmkaaGreatDoor.Pe
