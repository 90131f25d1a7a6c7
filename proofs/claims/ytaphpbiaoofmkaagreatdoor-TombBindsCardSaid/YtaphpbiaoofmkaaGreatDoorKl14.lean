/- Several texts in one, without what this claim does not use (tools/shake.py). -/
import Derived.Test.YtaphpbiaoofmkaaGreatDoorKl1
import Derived.Test.YtaphpbiaoofmkaaGreatDoorKl2
import Derived.Test.YtaphpbiaoofmkaaGreatDoorKl3
import Derived.Test.YtaphpbiaoofmkaaGreatDoorKl4
import Derived.Test.YtaphpbiaoofmkaaGreatDoorKl5
import Derived.Test.YtaphpbiaoofmkaaGreatDoorKl6
import Derived.Test.YtaphpbiaoofmkaaGreatDoorKl7
import Derived.Test.YtaphpbiaoofmkaaGreatDoorKl8
import Derived.Test.YtaphpbiaoofmkaaGreatDoorKl9
import Derived.Test.YtaphpbiaoofmkaaGreatDoorKl10
import Derived.Test.YtaphpbiaoofmkaaGreatDoorKl11
import Derived.Test.YtaphpbiaoofmkaaGreatDoorKl12
import Derived.Test.YtaphpbiaoofmkaaGreatDoorKl13
set_option linter.unusedSectionVars false
set_option linter.unusedVariables false
set_option linter.unusedSimpArgs false
section
namespace Go.Proofs.YtaphpbiaoofmkaaGreatDoor.Pe
open Go Go.RowKit Co Sg Ac
set_option maxRecDepth 100000
set_option maxHeartbeats 4000000
theorem pubF (n : Int) : pub n = (decide (1 ≤ n) && decide (n < 2305843009213693951)) := by
 unfold pub wi
 rw [show decide (n ≤ 2305843009213693950) = decide (n < 2305843009213693951) by rw [Bool.eq_iff_iff]; simp only [decide_eq_true_eq]; omega]
theorem fpub_c (n : Int) : AC Tryz.prog 227 [.it .i64 n] [] (.bo (pub n)) [] := by
 refine AC.enter2 [] [] Tryz.func227 rfl (by decide) (by decide) (Nat.le_of_ble_eq_true rfl) (by kernel_rfl) ?_; simp only [eraseC, eraseO, List.map_cons, List.map_nil, List.map_toArray, List.getElem?_toArray, List.getElem?_cons_zero, List.getElem?_cons_succ, Option.bind_some, Option.bind_none, List.append_eq, List.cons_append, List.nil_append]
 rw [pubF]
 by_cases h : 1 ≤ n
 ·rw [decide_eq_true h]
  refine run ?_
  exact er0
 ·rw [decide_eq_false h]
  refine run ?_
  exact er0
theorem fboxed_c (b : Box) : AC Tryz.prog 280 [boxV b] [] (.bo (sealedB b)) [] := by
 refine AC.enter2 [] [] Tryz.func280 rfl (by decide) (by decide) (Nat.le_of_ble_eq_true rfl) (by kernel_rfl) ?_; simp only [eraseC, eraseO, List.map_cons, List.map_nil, List.map_toArray, List.getElem?_toArray, List.getElem?_cons_zero, List.getElem?_cons_succ, Option.bind_some, Option.bind_none, List.append_eq, List.cons_append, List.nil_append]
 unfold sealedB
 rw [short_eq]
 by_cases h1 : b.nonce.length = 32
 ·rw [decide_eq_true h1]
  by_cases h2 : b.tag.length = 16
  ·rw [decide_eq_true h2]
   refine run ?_
   exact er0
  ·rw [decide_eq_false h2]
   refine run ?_
   exact er0
 ·rw [decide_eq_false h1]
  refine run ?_
  exact er0
theorem fempty_c (b : Box) : AC Tryz.prog 279 [boxV b] [] (.bo (decide (b = box0))) [] := by
 refine AC.enter2 [] [] Tryz.func279 rfl (by decide) (by decide) (Nat.le_of_ble_eq_true rfl) (by kernel_rfl) ?_; simp only [eraseC, eraseO, List.map_cons, List.map_nil, List.map_toArray, List.getElem?_toArray, List.getElem?_cons_zero, List.getElem?_cons_succ, Option.bind_some, Option.bind_none, List.append_eq, List.cons_append, List.nil_append]
 rw [box0_eq]
 cases h1 : (b.nonce == []) with
 | false =>
  refine runf @h1 ?_
  exact er0
 | true =>
  cases h2 : (b.data == []) with
  | false =>
   refine runf (an @h1 @h2) ?_
   exact er0
  | true =>
   refine runf (an @h1 @h2) ?_
   exact er0
theorem fwrapped_c (a : Ac.Act) (hw : a.wraps.length ≤ 140737488355328) : AC Tryz.prog 233 [actV a] [] (.bo (wrapped a)) [] := by
 refine AC.enter2 [227, 280] [] Tryz.func233 rfl (by decide) (by decide) (Nat.le_of_ble_eq_true rfl) (by kernel_rfl) ?_; simp only [eraseC, eraseO, List.map_cons, List.map_nil, List.map_toArray, List.getElem?_toArray, List.getElem?_cons_zero, List.getElem?_cons_succ, Option.bind_some, Option.bind_none, List.append_eq, List.cons_append, List.nil_append]
 unfold wrapped
 have hsz : allSz 5 (a.wraps.map wrapV) = true := allSz_map 5 wrapV (fun _ => rfl) _
 refine run ?_
 refine loop_mk (fun m e S => e 1 = .ptr 0 0 ∧ ∃ (k : Nat) (T : Store), e 3 = .it .i64 (k : Int) ∧ S = .cells (actL a) :: T ∧ k ≤ a.wraps.length ∧ (∀ j (h : j < a.wraps.length), j < k → wrapR a.wraps[j] = true) ∧ m = a.wraps.length - k) (a.wraps.length)
  ⟨(by first | rfl | (simp only [↓upd_apply, ↓put_some, ↓reduceIte, Nat.reduceEqDiff, ↓argEnv_zero, ↓argEnv_succ, *]; done)), 0, [], (by first | rfl | (simp only [↓upd_apply, ↓put_some, ↓reduceIte, Nat.reduceEqDiff, ↓argEnv_zero, ↓argEnv_succ, *]; done)), rfl, by omega, fun j _ h => absurd h (Nat.not_lt_zero _), rfl⟩ ?_
 rintro m e S ⟨s1, k, T, s3, rfl, hk, hall, rfl⟩
 by_cases hlt : k < a.wraps.length
 rotate_left
 ·obtain rfl : k = a.wraps.length := by omega
  have h1 : a.wraps.all wrapR = true := List.all_eq_true.2 fun x hx => by
   obtain ⟨j, hj, rfl⟩ := List.getElem_of_mem hx
   exact hall j hj hj
  have h2 : decide (a.wraps.length = a.to.length) = ((a.wraps.length : Int) == (a.to.length : Int)) := by
   rw [Bool.eq_iff_iff]
   simp only [decide_eq_true_eq, beq_iff_eq]
   omega
  rw [h1, h2]
  have hx : ¬ ((a.wraps.length : Nat) : Int) < (a.wraps.length : Int) := by omega
  refine runf (an @s1 (an @s3 @hx)) ?_
  exact er0
 have hg : a.wraps[k]? = some a.wraps[k] := List.getElem?_eq_getElem hlt
 have hbad : wrapR a.wraps[k] = false → a.wraps.all wrapR = false := fun h => List.all_eq_false.2 ⟨_, List.getElem_mem hlt, by simp [h]⟩
 have hnext : wrapR a.wraps[k] = true → ∀ j (h : j < a.wraps.length), j < k + 1 → wrapR a.wraps[j] = true := fun hb j h hj => by
  by_cases e : j = k
  ·subst e; exact hb
  ·exact hall j h (by omega)
 generalize a.wraps[k] = x at *
 have hT1 : ∀ y : SObj, (T ++ [y])[T.length]? = some y := fun y => by simp
 have hT2 : ∀ y z : SObj, (T ++ [y]).set T.length z = T ++ [z] := fun y z => by simp
 have hwx : wrapR x = (pub x.to && pub x.eph && sealedB x.box) := rfl
 rw [hwx] at hbad hnext
 refine runf (an @s1 (an @s3 (an @hg (an @hsz (an @hT1 @hT2))))) ?_
 refine cp (fpub_c x.to) ?_
 cases h1 : pub x.to with
 | false =>
  rw [h1] at hbad
  rw [hbad rfl]
  refine runf (an @s1 (an @s3 (an @hT1 @hT2))) ?_
  exact er0
 | true =>
  refine runf (an @s1 (an @s3 (an @hT1 @hT2))) ?_
  refine cp (fpub_c x.eph) ?_
  cases h2 : pub x.eph with
  | false =>
   rw [h1, h2] at hbad
   rw [hbad rfl]
   refine runf (an @s1 (an @s3 (an @hT1 @hT2))) ?_
   exact er0
  | true =>
   refine runf (an @s1 (an @s3 (an @hT1 @hT2))) ?_
   refine cp (fboxed_c x.box) ?_
   cases h3 : sealedB x.box with
   | false =>
    rw [h1, h2, h3] at hbad
    rw [hbad rfl]
    refine runf (an @s1 (an @s3 (an @hT1 @hT2))) ?_
    exact er0
   | true =>
    refine runf (an @s1 (an @s3 (an @hT1 @hT2))) ?_
    exact round_mk (a.wraps.length - (k + 1)) (by omega) ⟨(by first | rfl | (simp only [↓upd_apply, ↓put_some, ↓reduceIte, Nat.reduceEqDiff, ↓argEnv_zero, ↓argEnv_succ, *]; done)), k + 1, T ++ [.cells (wrapV x).cells], (by first | rfl | (simp only [↓upd_apply, ↓put_some, ↓reduceIte, Nat.reduceEqDiff, ↓argEnv_zero, ↓argEnv_succ, *]; done)), rfl, by omega, hnext (by rw [h1, h2, h3]; rfl), rfl⟩
def groupF (a : Ac.Act) : Bool := if a.scope = 2 then nameR a.group else decide (a.group = [])
theorem fgroup_c (a : Ac.Act) (h : a.group.length ≤ 140737488355328) : AC Tryz.prog 232 [actV a] [] (.bo (groupF a)) [] := by
 refine AC.enter2 [228] [] Tryz.func232 rfl (by decide) (by decide) (Nat.le_of_ble_eq_true rfl) (by kernel_rfl) ?_; simp only [eraseC, eraseO, List.map_cons, List.map_nil, List.map_toArray, List.getElem?_toArray, List.getElem?_cons_zero, List.getElem?_cons_succ, Option.bind_some, Option.bind_none, List.append_eq, List.cons_append, List.nil_append]
 unfold groupF
 have hn := nilD
 by_cases h2 : a.scope = 2
 ·rw [if_pos h2]
  refine run ?_
  refine cp (fname_c a.group h) ?_
  refine run ?_
  exact er0
 ·rw [if_neg h2]
  refine runf @hn ?_
  exact er0
def audF (a : Ac.Act) : Bool := idsR a.to && groupF a && (if a.scope = 0 then decide (a.epoch = 0) && short a.text && decide (a.body = box0)
 else if a.scope = 3 then wi a.epoch 0 1073741824 && decide (a.text = []) && sealedB a.body
 else if a.scope = 1 ∨ a.scope = 2 then wi a.epoch 0 1073741824 && decide (a.text = []) && sealedB a.body && decide (a.to = []) else false)
theorem audF_eq (a : Ac.Act) : audF a = audience a := by
 unfold audF audience groupF sealedSc
 by_cases h0 : a.scope = 0
 ·simp only [h0, if_true, show ¬ (0 : Int) = 2 by decide, if_false]
  rw [Bool.eq_iff_iff]; simp only [Bool.and_eq_true]; constructor <;> (intro h; simp only [h, and_self])
 by_cases h3 : a.scope = 3
 ·simp only [h3, show ¬ (3 : Int) = 0 by decide, show ¬ (3 : Int) = 2 by decide, if_false, if_true, or_true, decide_true, Bool.or_true, Bool.true_and]
  rw [Bool.eq_iff_iff]; simp only [Bool.and_eq_true]; constructor <;> (intro h; simp only [h, and_self])
 by_cases h1 : a.scope = 1
 ·simp only [h1, show ¬ (1 : Int) = 0 by decide, show ¬ (1 : Int) = 2 by decide, show ¬ (1 : Int) = 3 by decide, if_false, if_true, true_or, decide_false, Bool.or_false]
  rw [Bool.eq_iff_iff]; simp only [Bool.and_eq_true]; constructor <;> (intro h; simp only [h, and_self])
 by_cases h2 : a.scope = 2
 ·simp only [h2, show ¬ (2 : Int) = 0 by decide, show ¬ (2 : Int) = 3 by decide, if_false, if_true, or_true, decide_false, Bool.or_false]
  rw [Bool.eq_iff_iff]; simp only [Bool.and_eq_true]; constructor <;> (intro h; simp only [h, and_self])
 ·simp only [if_neg h0, if_neg h2, if_neg h3, if_neg (show ¬ (a.scope = 1 ∨ a.scope = 2) from fun h => h.elim h1 h2), if_neg (show ¬ (a.scope = 1 ∨ a.scope = 3) from fun h => h.elim h1 h3), Bool.and_false, Bool.false_and]
theorem faudience_c (a : Ac.Act) (h : Sz a) : AC Tryz.prog 229 [actV a] [] (.bo (audience a)) [] := by
 rw [← audF_eq]
 refine AC.enter2 [231, 232, 279, 280] [] Tryz.func229 rfl (by decide) (by decide) (Nat.le_of_ble_eq_true rfl) (by kernel_rfl) ?_; simp only [eraseC, eraseO, List.map_cons, List.map_nil, List.map_toArray, List.getElem?_toArray, List.getElem?_cons_zero, List.getElem?_cons_succ, Option.bind_some, Option.bind_none, List.append_eq, List.cons_append, List.nil_append]
 unfold audF
 have hn := nilD
 have hl := lenD a.to
 have hs := short_eq a.text
 refine run ?_
 refine cp (fids_c a.to h.tos h.to) ?_
 cases c1 : idsR a.to with
 | false =>
  refine run ?_
  exact er0
 | true =>
 refine run ?_
 refine cp (fgroup_c a h.group) ?_
 cases c2 : groupF a with
 | false =>
  refine run ?_
  exact er0
 | true =>
 by_cases h0 : a.scope = 0
 ·rw [if_pos h0]
  by_cases e1 : a.epoch = 0
  rotate_left
  ·rw [decide_eq_false e1]
   refine run ?_
   exact er0
  rw [decide_eq_true e1, hs]
  cases e2 : decide ((a.text.length : Int) ≤ 500) with
  | false =>
   refine runf @e2 ?_
   exact er0
  | true =>
  refine runf @e2 ?_
  refine cp (fempty_c a.body) ?_
  refine run ?_
  exact er0
 rw [if_neg h0]
 by_cases h3 : a.scope = 3
 ·rw [if_pos h3]
  by_cases e1 : 0 ≤ a.epoch
  rotate_left
  ·rw [show wi a.epoch 0 1073741824 = false by unfold wi; rw [decide_eq_false e1]; rfl]
   refine run ?_
   exact er0
  by_cases e2 : a.epoch ≤ 1073741824
  rotate_left
  ·rw [show wi a.epoch 0 1073741824 = false by unfold wi; rw [decide_eq_false e2, Bool.and_false]]
   refine run ?_
   exact er0
  rw [show wi a.epoch 0 1073741824 = true from wi_iff.2 ⟨e1, e2⟩]
  cases e3 : decide (a.text = []) with
  | false =>
   refine runf (an @hn @e3) ?_
   exact er0
  | true =>
  refine runf (an @hn @e3) ?_
  refine cp (fboxed_c a.body) ?_
  refine run ?_
  exact er0
 rw [if_neg h3]
 by_cases h12 : a.scope = 1 ∨ a.scope = 2
 rotate_left
 ·rw [if_neg h12]
  have n1 : ¬ a.scope = 1 := fun h => h12 (.inl h)
  have n2 : ¬ a.scope = 2 := fun h => h12 (.inr h)
  refine run ?_
  exact er0
 rw [if_pos h12]
 rcases h12 with h12 | h12
 ·skip
  by_cases e1 : 0 ≤ a.epoch
  rotate_left
  ·rw [show wi a.epoch 0 1073741824 = false by unfold wi; rw [decide_eq_false e1]; rfl]
   refine run ?_
   exact er0
  by_cases e2 : a.epoch ≤ 1073741824
  rotate_left
  ·rw [show wi a.epoch 0 1073741824 = false by unfold wi; rw [decide_eq_false e2, Bool.and_false]]
   refine run ?_
   exact er0
  rw [show wi a.epoch 0 1073741824 = true from wi_iff.2 ⟨e1, e2⟩]
  cases e3 : decide (a.text = []) with
  | false =>
   refine runf (an @hn @e3) ?_
   exact er0
  | true =>
  refine runf (an @hn @e3) ?_
  refine cp (fboxed_c a.body) ?_
  cases e4 : sealedB a.body with
  | false =>
   refine run ?_
   exact er0
  | true =>
  refine runf @hl ?_
  exact er0
 ·skip
  by_cases e1 : 0 ≤ a.epoch
  rotate_left
  ·rw [show wi a.epoch 0 1073741824 = false by unfold wi; rw [decide_eq_false e1]; rfl]
   refine run ?_
   exact er0
  by_cases e2 : a.epoch ≤ 1073741824
  rotate_left
  ·rw [show wi a.epoch 0 1073741824 = false by unfold wi; rw [decide_eq_false e2, Bool.and_false]]
   refine run ?_
   exact er0
  rw [show wi a.epoch 0 1073741824 = true from wi_iff.2 ⟨e1, e2⟩]
  cases e3 : decide (a.text = []) with
  | false =>
   refine runf (an @hn @e3) ?_
   exact er0
  | true =>
  refine runf (an @hn @e3) ?_
  refine cp (fboxed_c a.body) ?_
  cases e4 : sealedB a.body with
  | false =>
   refine run ?_
   exact er0
  | true =>
  refine runf @hl ?_
  exact er0
def bareA (a : Ac.Act) : Ac.Act := { a with scope := 0, group := [], to := [], text := [], body := box0, epoch := 0 }
theorem fbare_c (a : Ac.Act) : AC Tryz.prog 230 [actV a] [] (actV (bareA a)) [] := by
 refine AC.enter2 [] [] Tryz.func230 rfl (by decide) (by decide) (Nat.le_of_ble_eq_true rfl) (by kernel_rfl) ?_; simp only [eraseC, eraseO, List.map_cons, List.map_nil, List.map_toArray, List.getElem?_toArray, List.getElem?_cons_zero, List.getElem?_cons_succ, Option.bind_some, Option.bind_none, List.append_eq, List.cons_append, List.nil_append]
 refine run ?_
 exact er0w
def zeroF (a : Ac.Act) : Bool := decide (a.object = []) && decide (a.target = []) && decide (a.scope = 0) && decide (a.group = []) && decide (a.to = []) && decide (a.text = []) && decide (a.body = box0) && decide (a.epoch = 0) && decide (a.wraps = []) && decide (a.n = 0) && decide (a.m = 0)
theorem fzero_c (a : Ac.Act) : AC Tryz.prog 234 [actV a] [] (.bo (zeroF a)) [] := by
 refine AC.enter2 [279] [] Tryz.func234 rfl (by decide) (by decide) (Nat.le_of_ble_eq_true rfl) (by kernel_rfl) ?_; simp only [eraseC, eraseO, List.map_cons, List.map_nil, List.map_toArray, List.getElem?_toArray, List.getElem?_cons_zero, List.getElem?_cons_succ, Option.bind_some, Option.bind_none, List.append_eq, List.cons_append, List.nil_append]
 unfold zeroF
 have hn := nilD
 have hl1 := lenD a.to
 have hl2 := lenD a.wraps
 cases c0 : decide (a.object = []) with
 | false =>
  refine runf (an @hn (an @hl1 (an @hl2 @c0))) ?_
  exact er0
 | true =>
 cases c1 : decide (a.target = []) with
 | false =>
  refine runf (an @hn (an @hl1 (an @hl2 (an @c0 @c1)))) ?_
  exact er0
 | true =>
 by_cases p2 : a.scope = 0
 rotate_left
 ·rw [decide_eq_false p2]
  refine runf (an @hn (an @hl1 (an @hl2 (an @c0 @c1)))) ?_
  exact er0
 rw [decide_eq_true p2]
 cases c3 : decide (a.group = []) with
 | false =>
  refine runf (an @hn (an @hl1 (an @hl2 (an @c0 (an @c1 @c3))))) ?_
  exact er0
 | true =>
 cases c4 : decide (a.to = []) with
 | false =>
  refine runf (an @hn (an @hl1 (an @hl2 (an @c0 (an @c1 (an @c3 @c4)))))) ?_
  exact er0
 | true =>
 cases c5 : decide (a.text = []) with
 | false =>
  refine runf (an @hn (an @hl1 (an @hl2 (an @c0 (an @c1 (an @c3 (an @c4 @c5))))))) ?_
  exact er0
 | true =>
 refine runf (an @hn (an @hl1 (an @hl2 (an @c0 (an @c1 (an @c3 (an @c4 @c5))))))) ?_
 refine cp (fempty_c a.body) ?_
 cases c6 : decide (a.body = box0) with
 | false =>
  refine run ?_
  exact er0
 | true =>
 by_cases p7 : a.epoch = 0
 rotate_left
 ·rw [decide_eq_false p7]
  refine runf (an @hn (an @hl1 (an @hl2 (an @c0 (an @c1 (an @c3 (an @c4 @c5))))))) ?_
  exact er0
 rw [decide_eq_true p7]
 cases c8 : decide (a.wraps = []) with
 | false =>
  refine runf (an @hn (an @hl1 (an @hl2 (an @c0 (an @c1 (an @c3 (an @c4 (an @c5 @c8)))))))) ?_
  exact er0
 | true =>
 by_cases p9 : a.n = 0
 rotate_left
 ·rw [decide_eq_false p9]
  refine runf (an @hn (an @hl1 (an @hl2 (an @c0 (an @c1 (an @c3 (an @c4 (an @c5 @c8)))))))) ?_
  exact er0
 rw [decide_eq_true p9]
 by_cases p10 : a.m = 0
 rotate_left
 ·rw [decide_eq_false p10]
  refine runf (an @hn (an @hl1 (an @hl2 (an @c0 (an @c1 (an @c3 (an @c4 (an @c5 @c8)))))))) ?_
  exact er0
 rw [decide_eq_true p10]
 refine runf (an @hn (an @hl1 (an @hl2 (an @c0 (an @c1 (an @c3 (an @c4 (an @c5 @c8)))))))) ?_
 exact er0
def fitsF (a : Ac.Act) : Bool := match rule a.kind with
 | none => false
 | some r => out a r && r.ok a
theorem right_fits (a : Ac.Act) : Ac.right a = (idR a.author && placed a && wi a.time 0 1099511627776 && sigR a.sig && fitsF a) := by
 unfold Ac.right fitsF
 cases h : rule a.kind with
 | none => rfl
 | some r =>
  have e : decide (Go.bits .andNot .i64 (used a) r.mask = 0) = out a r := mask_eq r _ _ _ _ _ _ _ _ _ _ _
  simp only [e]
theorem wi19 (m : Int) : wi m 0 19 = (decide (0 ≤ m) && decide (m < 20)) := by
 unfold wi
 rw [show decide (m ≤ 19) = decide (m < 20) by rw [Bool.eq_iff_iff]; simp only [decide_eq_true_eq]; omega]
theorem scopeF (a : Ac.Act) : (decide (1 ≤ a.scope) && decide (a.scope ≤ 3) && groupF a) = sealedSc a.scope a.group := by
 unfold groupF sealedSc
 by_cases h2 : a.scope = 2
 ·rw [if_pos h2, if_pos h2, h2]; rfl
 rw [if_neg h2, if_neg h2]
 by_cases h13 : a.scope = 1 ∨ a.scope = 3
 ·rw [if_pos h13, decide_eq_true (show 1 ≤ a.scope by omega), decide_eq_true (show a.scope ≤ 3 by omega)]; rfl
 ·rw [if_neg h13]
  by_cases h1 : 1 ≤ a.scope
  ·rw [decide_eq_false (show ¬ a.scope ≤ 3 by omega), Bool.and_false]; rfl
  ·rw [decide_eq_false h1]; rfl
theorem ffits_c (a : Ac.Act) (h : Sz a) : AC Tryz.prog 114 [actV a] [] (.bo (fitsF a)) [] := by
 refine AC.enter2 [227, 228, 229, 230, 113, 231, 232, 233, 234] [] Tryz.func114 rfl (by decide) (by decide) (Nat.le_of_ble_eq_true rfl) (by kernel_rfl) ?_; simp only [eraseC, eraseO, List.map_cons, List.map_nil, List.map_toArray, List.getElem?_toArray, List.getElem?_cons_zero, List.getElem?_cons_succ, Option.bind_some, Option.bind_none, List.append_eq, List.cons_append, List.nil_append]
 have hn := nilD
 by_cases hr : 0 ≤ a.kind ∧ a.kind ≤ 23
 rotate_left
 ·have hv : fitsF a = false := by
   unfold fitsF
   rw [rule_none (by omega)]
  rw [hv]
  refine run ?_
  exact er0
 have hks : a.kind = 0 ∨ a.kind = 1 ∨ a.kind = 2 ∨ a.kind = 3 ∨ a.kind = 4 ∨ a.kind = 5 ∨ a.kind = 6 ∨ a.kind = 7 ∨ a.kind = 8 ∨ a.kind = 9 ∨ a.kind = 10 ∨ a.kind = 11 ∨ a.kind = 12 ∨ a.kind = 13 ∨ a.kind = 14 ∨ a.kind = 15 ∨ a.kind = 16 ∨ a.kind = 17 ∨ a.kind = 18 ∨ a.kind = 19 ∨ a.kind = 20 ∨ a.kind = 21 ∨ a.kind = 22 ∨ a.kind = 23 := by omega
 rcases hks with hk | hk | hk | hk | hk | hk | hk | hk | hk | hk | hk | hk | hk | hk | hk | hk | hk | hk | hk | hk | hk | hk | hk | hk
 ·have hv : fitsF a = (pub a.n && decide (0 ≤ a.m) && decide (a.m < 20) && nameR a.text && zeroF { a with text := [], n := 0, m := 0 }) := by
   unfold fitsF
   rw [hk]
   show (out a .begin && Ru.ok a .begin) = _
   simp only [out, outB, Ru.ok, home, Ac.grant, Ac.setup, ← scopeF, wi19, zeroF, bareA, decide_true, Bool.and_true, Bool.true_and]
   ac_rfl
  rw [hv]
  refine runf @hn ?_
  refine cp (fpub_c a.n) ?_
  cases c0 : pub a.n with
  | false =>
   refine runf @hn ?_
   refine cp (fname_c a.text h.text) ?_
   refine runf @hn ?_
   exact er0
  | true =>
  by_cases p1 : 0 ≤ a.m
  rotate_left
  ·rw [decide_eq_false p1]
   refine runf @hn ?_
   refine cp (fname_c a.text h.text) ?_
   refine runf @hn ?_
   exact er0
  rw [decide_eq_true p1]
  by_cases p2 : a.m < 20
  rotate_left
  ·rw [decide_eq_false p2]
   refine runf @hn ?_
   refine cp (fname_c a.text h.text) ?_
   refine runf @hn ?_
   exact er0
  rw [decide_eq_true p2]
  refine runf @hn ?_
  refine cp (fname_c a.text h.text) ?_
  cases c3 : nameR a.text with
  | false =>
   refine runf @hn ?_
   exact er0
  | true =>
  refine runf @hn ?_
  refine cp (fzero_c { a with text := [], n := 0, m := 0 }) ?_
  refine runf @hn ?_
  exact er0
 ·have hv : fitsF a = (audience a && zeroF (bareA a)) := by
   unfold fitsF
   rw [hk]
   show (out a .post && Ru.ok a .post) = _
   simp only [out, outB, Ru.ok, home, Ac.grant, Ac.setup, ← scopeF, wi19, wi, zeroF, bareA, decide_true, Bool.and_true, Bool.true_and]
   ac_rfl
  rw [hv]
  refine runf @hn ?_
  refine cp (faudience_c a h) ?_
  cases c0 : audience a with
  | false =>
   refine runf @hn ?_
   refine cp (fbare_c a) ?_
   refine runf @hn ?_
   exact er0
  | true =>
  refine runf @hn ?_
  refine cp (fbare_c a) ?_
  refine runf @hn ?_
  refine cp (fzero_c (bareA a)) ?_
  refine runf @hn ?_
  exact er0
 ·have hv : fitsF a = (audience a && dig a.object && zeroF { bareA a with object := [] }) := by
   unfold fitsF
   rw [hk]
   show (out a .reply && Ru.ok a .reply) = _
   simp only [out, outB, Ru.ok, home, Ac.grant, Ac.setup, ← scopeF, wi19, wi, zeroF, bareA, decide_true, Bool.and_true, Bool.true_and]
   ac_rfl
  rw [hv]
  refine runf @hn ?_
  refine cp (faudience_c a h) ?_
  cases c0 : audience a with
  | false =>
   refine runf @hn ?_
   refine cp (fbare_c a) ?_
   refine runf @hn ?_
   exact er0
  | true =>
  rw [dig_eq]
  cases c1 : ((a.object.length : Int) == 32) with
  | false =>
   refine runf (an @hn @c1) ?_
   refine cp (fbare_c a) ?_
   refine runf (an @hn @c1) ?_
   exact er0
  | true =>
  refine runf (an @hn @c1) ?_
  refine cp (fbare_c a) ?_
  refine runf (an @hn @c1) ?_
  refine cp (fzero_c { bareA a with object := [] }) ?_
  refine runf (an @hn @c1) ?_
  exact er0
 ·have hv : fitsF a = (audience a && dig a.object && zeroF { bareA a with object := [] }) := by
   unfold fitsF
   rw [hk]
   show (out a .reply && Ru.ok a .reply) = _
   simp only [out, outB, Ru.ok, home, Ac.grant, Ac.setup, ← scopeF, wi19, wi, zeroF, bareA, decide_true, Bool.and_true, Bool.true_and]
   ac_rfl
  rw [hv]
  refine runf @hn ?_
  refine cp (faudience_c a h) ?_
  cases c0 : audience a with
  | false =>
   refine runf @hn ?_
   refine cp (fbare_c a) ?_
   refine runf @hn ?_
   exact er0
  | true =>
  rw [dig_eq]
  cases c1 : ((a.object.length : Int) == 32) with
  | false =>
   refine runf (an @hn @c1) ?_
   refine cp (fbare_c a) ?_
   refine runf (an @hn @c1) ?_
   exact er0
  | true =>
  refine runf (an @hn @c1) ?_
  refine cp (fbare_c a) ?_
  refine runf (an @hn @c1) ?_
  refine cp (fzero_c { bareA a with object := [] }) ?_
  refine runf (an @hn @c1) ?_
  exact er0
 ·have hv : fitsF a = (dig a.object && zeroF { a with object := [] }) := by
   unfold fitsF
   rw [hk]
   show (out a .about && Ru.ok a .about) = _
   simp only [out, outB, Ru.ok, home, Ac.grant, Ac.setup, ← scopeF, wi19, wi, zeroF, bareA, decide_true, Bool.and_true, Bool.true_and]
   ac_rfl
  rw [hv]
  rw [dig_eq]
  cases c0 : ((a.object.length : Int) == 32) with
  | false =>
   refine runf (an @hn @c0) ?_
   exact er0
  | true =>
  refine runf (an @hn @c0) ?_
  refine cp (fzero_c { a with object := [] }) ?_
  refine runf (an @hn @c0) ?_
  exact er0
 ·have hv : fitsF a = (dig a.object && zeroF { a with object := [] }) := by
   unfold fitsF
   rw [hk]
   show (out a .about && Ru.ok a .about) = _
   simp only [out, outB, Ru.ok, home, Ac.grant, Ac.setup, ← scopeF, wi19, wi, zeroF, bareA, decide_true, Bool.and_true, Bool.true_and]
   ac_rfl
  rw [hv]
  rw [dig_eq]
  cases c0 : ((a.object.length : Int) == 32) with
  | false =>
   refine runf (an @hn @c0) ?_
   exact er0
  | true =>
  refine runf (an @hn @c0) ?_
  refine cp (fzero_c { a with object := [] }) ?_
  refine runf (an @hn @c0) ?_
  exact er0
 ·have hv : fitsF a = (dig a.object && zeroF { a with object := [] }) := by
   unfold fitsF
   rw [hk]
   show (out a .about && Ru.ok a .about) = _
   simp only [out, outB, Ru.ok, home, Ac.grant, Ac.setup, ← scopeF, wi19, wi, zeroF, bareA, decide_true, Bool.and_true, Bool.true_and]
   ac_rfl
  rw [hv]
  rw [dig_eq]
  cases c0 : ((a.object.length : Int) == 32) with
  | false =>
   refine runf (an @hn @c0) ?_
   exact er0
  | true =>
  refine runf (an @hn @c0) ?_
  refine cp (fzero_c { a with object := [] }) ?_
  refine runf (an @hn @c0) ?_
  exact er0
 ·have hv : fitsF a = (idR a.target && zeroF { a with target := [] }) := by
   unfold fitsF
   rw [hk]
   show (out a .tie && Ru.ok a .tie) = _
   simp only [out, outB, Ru.ok, home, Ac.grant, Ac.setup, ← scopeF, wi19, wi, zeroF, bareA, decide_true, Bool.and_true, Bool.true_and]
   ac_rfl
  rw [hv]
  refine runf @hn ?_
  refine cp (fidright_c a.target h.target) ?_
  cases c0 : idR a.target with
  | false =>
   refine runf @hn ?_
   exact er0
  | true =>
  refine runf @hn ?_
  refine cp (fzero_c { a with target := [] }) ?_
  refine runf @hn ?_
  exact er0
 ·have hv : fitsF a = (idR a.target && zeroF { a with target := [] }) := by
   unfold fitsF
   rw [hk]
   show (out a .tie && Ru.ok a .tie) = _
   simp only [out, outB, Ru.ok, home, Ac.grant, Ac.setup, ← scopeF, wi19, wi, zeroF, bareA, decide_true, Bool.and_true, Bool.true_and]
   ac_rfl
  rw [hv]
  refine runf @hn ?_
  refine cp (fidright_c a.target h.target) ?_
  cases c0 : idR a.target with
  | false =>
   refine runf @hn ?_
   exact er0
  | true =>
  refine runf @hn ?_
  refine cp (fzero_c { a with target := [] }) ?_
  refine runf @hn ?_
  exact er0
 ·have hv : fitsF a = (idR a.target && zeroF { a with target := [] }) := by
   unfold fitsF
   rw [hk]
   show (out a .tie && Ru.ok a .tie) = _
   simp only [out, outB, Ru.ok, home, Ac.grant, Ac.setup, ← scopeF, wi19, wi, zeroF, bareA, decide_true, Bool.and_true, Bool.true_and]
   ac_rfl
  rw [hv]
  refine runf @hn ?_
  refine cp (fidright_c a.target h.target) ?_
  cases c0 : idR a.target with
  | false =>
   refine runf @hn ?_
   exact er0
  | true =>
  refine runf @hn ?_
  refine cp (fzero_c { a with target := [] }) ?_
  refine runf @hn ?_
  exact er0
 ·have hv : fitsF a = (idR a.target && zeroF { a with target := [] }) := by
   unfold fitsF
   rw [hk]
   show (out a .tie && Ru.ok a .tie) = _
   simp only [out, outB, Ru.ok, home, Ac.grant, Ac.setup, ← scopeF, wi19, wi, zeroF, bareA, decide_true, Bool.and_true, Bool.true_and]
   ac_rfl
  rw [hv]
  refine runf @hn ?_
  refine cp (fidright_c a.target h.target) ?_
  cases c0 : idR a.target with
  | false =>
   refine runf @hn ?_
   exact er0
  | true =>
  refine runf @hn ?_
  refine cp (fzero_c { a with target := [] }) ?_
  refine runf @hn ?_
  exact er0
 ·have hv : fitsF a = (idR a.target && zeroF { a with target := [] }) := by
   unfold fitsF
   rw [hk]
   show (out a .tie && Ru.ok a .tie) = _
   simp only [out, outB, Ru.ok, home, Ac.grant, Ac.setup, ← scopeF, wi19, wi, zeroF, bareA, decide_true, Bool.and_true, Bool.true_and]
   ac_rfl
  rw [hv]
  refine runf @hn ?_
  refine cp (fidright_c a.target h.target) ?_
  cases c0 : idR a.target with
  | false =>
   refine runf @hn ?_
   exact er0
  | true =>
  refine runf @hn ?_
  refine cp (fzero_c { a with target := [] }) ?_
  refine runf @hn ?_
  exact er0
 ·have hv : fitsF a = (dig a.object && short a.text && zeroF { a with object := [], text := [] }) := by
   unfold fitsF
   rw [hk]
   show (out a .reason && Ru.ok a .reason) = _
   simp only [out, outB, Ru.ok, home, Ac.grant, Ac.setup, ← scopeF, wi19, wi, zeroF, bareA, decide_true, Bool.and_true, Bool.true_and]
   ac_rfl
  rw [hv]
  rw [dig_eq]
  cases c0 : ((a.object.length : Int) == 32) with
  | false =>
   refine runf (an @hn @c0) ?_
   exact er0
  | true =>
  rw [short_eq]
  cases c1 : decide ((a.text.length : Int) ≤ 500) with
  | false =>
   refine runf (an @hn (an @c0 @c1)) ?_
   exact er0
  | true =>
  refine runf (an @hn (an @c0 @c1)) ?_
  refine cp (fzero_c { a with object := [], text := [] }) ?_
  refine runf (an @hn (an @c0 @c1)) ?_
  exact er0
 ·have hv : fitsF a = (dig a.object && zeroF { a with object := [] }) := by
   unfold fitsF
   rw [hk]
   show (out a .about && Ru.ok a .about) = _
   simp only [out, outB, Ru.ok, home, Ac.grant, Ac.setup, ← scopeF, wi19, wi, zeroF, bareA, decide_true, Bool.and_true, Bool.true_and]
   ac_rfl
  rw [hv]
  rw [dig_eq]
  cases c0 : ((a.object.length : Int) == 32) with
  | false =>
   refine runf (an @hn @c0) ?_
   exact er0
  | true =>
  refine runf (an @hn @c0) ?_
  refine cp (fzero_c { a with object := [] }) ?_
  refine runf (an @hn @c0) ?_
  exact er0
 ·have hv : fitsF a = (audience a && dig a.object && zeroF { bareA a with object := [] }) := by
   unfold fitsF
   rw [hk]
   show (out a .reply && Ru.ok a .reply) = _
   simp only [out, outB, Ru.ok, home, Ac.grant, Ac.setup, ← scopeF, wi19, wi, zeroF, bareA, decide_true, Bool.and_true, Bool.true_and]
   ac_rfl
  rw [hv]
  refine runf @hn ?_
  refine cp (faudience_c a h) ?_
  cases c0 : audience a with
  | false =>
   refine runf @hn ?_
   refine cp (fbare_c a) ?_
   refine runf @hn ?_
   exact er0
  | true =>
  rw [dig_eq]
  cases c1 : ((a.object.length : Int) == 32) with
  | false =>
   refine runf (an @hn @c1) ?_
   refine cp (fbare_c a) ?_
   refine runf (an @hn @c1) ?_
   exact er0
  | true =>
  refine runf (an @hn @c1) ?_
  refine cp (fbare_c a) ?_
  refine runf (an @hn @c1) ?_
  refine cp (fzero_c { bareA a with object := [] }) ?_
  refine runf (an @hn @c1) ?_
  exact er0
 ·have hv : fitsF a = (idsR a.to && nameR a.group && zeroF { a with group := [], to := [] }) := by
   unfold fitsF
   rw [hk]
   show (out a .circle && Ru.ok a .circle) = _
   simp only [out, outB, Ru.ok, home, Ac.grant, Ac.setup, ← scopeF, wi19, wi, zeroF, bareA, decide_true, Bool.and_true, Bool.true_and]
   ac_rfl
  rw [hv]
  refine runf @hn ?_
  refine cp (fids_c a.to h.tos h.to) ?_
  cases c0 : idsR a.to with
  | false =>
   refine runf @hn ?_
   exact er0
  | true =>
  refine runf @hn ?_
  refine cp (fname_c a.group h.group) ?_
  cases c1 : nameR a.group with
  | false =>
   refine runf @hn ?_
   exact er0
  | true =>
  refine runf @hn ?_
  refine cp (fzero_c { a with group := [], to := [] }) ?_
  refine runf @hn ?_
  exact er0
 ·have hv : fitsF a = (idsR a.to && decide (1 ≤ a.scope) && decide (a.scope ≤ 3) && groupF a && decide (0 ≤ a.epoch) && decide (a.epoch ≤ 1073741824) && wrapped a && zeroF { a with scope := 0, group := [], to := [], epoch := 0, wraps := [] }) := by
   unfold fitsF
   rw [hk]
   show (out a .grant && Ru.ok a .grant) = _
   simp only [out, outB, Ru.ok, home, Ac.grant, Ac.setup, ← scopeF, wi19, wi, zeroF, bareA, decide_true, Bool.and_true, Bool.true_and]
   ac_rfl
  rw [hv]
  refine runf @hn ?_
  refine cp (fids_c a.to h.tos h.to) ?_
  cases c0 : idsR a.to with
  | false =>
   refine runf @hn ?_
   exact er0
  | true =>
  by_cases p1 : 1 ≤ a.scope
  rotate_left
  ·rw [decide_eq_false p1]
   refine runf @hn ?_
   exact er0
  rw [decide_eq_true p1]
  by_cases p2 : a.scope ≤ 3
  rotate_left
  ·rw [decide_eq_false p2]
   refine runf @hn ?_
   exact er0
  rw [decide_eq_true p2]
  refine runf @hn ?_
  refine cp (fgroup_c a h.group) ?_
  cases c3 : groupF a with
  | false =>
   refine runf @hn ?_
   exact er0
  | true =>
  by_cases p4 : 0 ≤ a.epoch
  rotate_left
  ·rw [decide_eq_false p4]
   refine runf @hn ?_
   exact er0
  rw [decide_eq_true p4]
  by_cases p5 : a.epoch ≤ 1073741824
  rotate_left
  ·rw [decide_eq_false p5]
   refine runf @hn ?_
   exact er0
  rw [decide_eq_true p5]
  refine runf @hn ?_
  refine cp (fwrapped_c a h.wraps) ?_
  cases c6 : wrapped a with
  | false =>
   refine runf @hn ?_
   exact er0
  | true =>
  refine runf @hn ?_
  refine cp (fzero_c { a with scope := 0, group := [], to := [], epoch := 0, wraps := [] }) ?_
  refine runf @hn ?_
  exact er0
 ·by_cases ho : a.object = []
  ·have hv : fitsF a = (nameR a.text && idR a.target && zeroF { a with text := [], object := [], target := [] }) := by
    unfold fitsF
    rw [hk]
    show (out a .label && Ru.ok a .label) = _
    have hd : dig a.object = false := by unfold dig; rw [ho]; rfl
    simp only [out, outB, Ru.ok, Ac.label, hd, ho, Bool.false_and, Bool.false_or, zeroF, bareA, decide_true, Bool.and_true, Bool.true_and]
    ac_rfl
   rw [hv]
   have hob : (a.object == []) = true := by rw [ho]; rfl
   refine runf (an @hn @hob) ?_
   refine cp (fname_c a.text h.text) ?_
   cases c0 : nameR a.text with
   | false =>
    refine runf (an @hn @hob) ?_
    refine cp (fidright_c a.target h.target) ?_
    refine runf (an @hn @hob) ?_
    exact er0
   | true =>
   refine runf (an @hn @hob) ?_
   refine cp (fidright_c a.target h.target) ?_
   cases c1 : idR a.target with
   | false =>
    refine runf (an @hn @hob) ?_
    exact er0
   | true =>
   refine runf (an @hn @hob) ?_
   refine cp (fzero_c { a with text := [], object := [], target := [] }) ?_
   refine runf (an @hn @hob) ?_
   exact er0
  ·have hv : fitsF a = (nameR a.text && dig a.object && decide (a.target = []) && zeroF { a with text := [], object := [], target := [] }) := by
    unfold fitsF
    rw [hk]
    show (out a .label && Ru.ok a .label) = _
    simp only [out, outB, Ru.ok, Ac.label, decide_eq_false ho, Bool.and_false, Bool.or_false, zeroF, bareA, decide_true, Bool.and_true, Bool.true_and]
    ac_rfl
   rw [hv]
   have hob : (a.object == []) = false := by simpa using ho
   refine runf (an @hn @hob) ?_
   refine cp (fname_c a.text h.text) ?_
   cases c0 : nameR a.text with
   | false =>
    refine runf (an @hn @hob) ?_
    exact er0
   | true =>
   rw [dig_eq]
   cases c1 : ((a.object.length : Int) == 32) with
   | false =>
    refine runf (an @hn (an @hob @c1)) ?_
    exact er0
   | true =>
   cases c2 : decide (a.target = []) with
   | false =>
    refine runf (an @hn (an @hob (an @c1 @c2))) ?_
    exact er0
   | true =>
   refine runf (an @hn (an @hob (an @c1 @c2))) ?_
   refine cp (fzero_c { a with text := [], object := [], target := [] }) ?_
   refine runf (an @hn (an @hob (an @c1 @c2))) ?_
   exact er0
 ·have hv : fitsF a = (pub a.n && decide (0 ≤ a.m) && decide (a.m < 20) && zeroF { a with n := 0, m := 0 }) := by
   unfold fitsF
   rw [hk]
   show (out a .move && Ru.ok a .move) = _
   simp only [out, outB, Ru.ok, home, Ac.grant, Ac.setup, ← scopeF, wi19, zeroF, bareA, decide_true, Bool.and_true, Bool.true_and]
   ac_rfl
  rw [hv]
  refine runf @hn ?_
  refine cp (fpub_c a.n) ?_
  cases c0 : pub a.n with
  | false =>
   refine runf @hn ?_
   exact er0
  | true =>
  by_cases p1 : 0 ≤ a.m
  rotate_left
  ·rw [decide_eq_false p1]
   refine runf @hn ?_
   exact er0
  rw [decide_eq_true p1]
  by_cases p2 : a.m < 20
  rotate_left
  ·rw [decide_eq_false p2]
   refine runf @hn ?_
   exact er0
  rw [decide_eq_true p2]
  refine runf @hn ?_
  refine cp (fzero_c { a with n := 0, m := 0 }) ?_
  refine runf @hn ?_
  exact er0
 ·have hv : fitsF a = (idsR a.to && decide (0 < a.to.length) && wrapped a && decide (1 ≤ a.n) && decide (a.n ≤ (a.to.length : Int)) && pub a.m && zeroF { a with to := [], wraps := [], n := 0, m := 0 }) := by
   unfold fitsF
   rw [hk]
   show (out a .setup && Ru.ok a .setup) = _
   simp only [out, outB, Ru.ok, home, Ac.grant, Ac.setup, ← scopeF, wi19, wi, zeroF, bareA, decide_true, Bool.and_true, Bool.true_and]
   ac_rfl
  rw [hv]
  refine runf @hn ?_
  refine cp (fids_c a.to h.tos h.to) ?_
  cases c0 : idsR a.to with
  | false =>
   refine runf @hn ?_
   exact er0
  | true =>
  by_cases p1 : 0 < a.to.length
  rotate_left
  ·rw [decide_eq_false p1]
   refine runf @hn ?_
   exact er0
  rw [decide_eq_true p1]
  refine runf @hn ?_
  refine cp (fwrapped_c a h.wraps) ?_
  cases c2 : wrapped a with
  | false =>
   refine runf @hn ?_
   exact er0
  | true =>
  by_cases p3 : 1 ≤ a.n
  rotate_left
  ·rw [decide_eq_false p3]
   refine runf @hn ?_
   exact er0
  rw [decide_eq_true p3]
  by_cases p4 : a.n ≤ (a.to.length : Int)
  rotate_left
  ·rw [decide_eq_false p4]
   refine runf @hn ?_
   exact er0
  rw [decide_eq_true p4]
  refine runf @hn ?_
  refine cp (fpub_c a.m) ?_
  cases c5 : pub a.m with
  | false =>
   refine runf @hn ?_
   exact er0
  | true =>
  refine runf @hn ?_
  refine cp (fzero_c { a with to := [], wraps := [], n := 0, m := 0 }) ?_
  refine runf @hn ?_
  exact er0
 ·have hv : fitsF a = (dig a.object && zeroF { a with object := [] }) := by
   unfold fitsF
   rw [hk]
   show (out a .about && Ru.ok a .about) = _
   simp only [out, outB, Ru.ok, home, Ac.grant, Ac.setup, ← scopeF, wi19, wi, zeroF, bareA, decide_true, Bool.and_true, Bool.true_and]
   ac_rfl
  rw [hv]
  rw [dig_eq]
  cases c0 : ((a.object.length : Int) == 32) with
  | false =>
   refine runf (an @hn @c0) ?_
   exact er0
  | true =>
  refine runf (an @hn @c0) ?_
  refine cp (fzero_c { a with object := [] }) ?_
  refine runf (an @hn @c0) ?_
  exact er0
 ·have hv : fitsF a = (dig a.object && short a.text && zeroF { a with object := [], text := [] }) := by
   unfold fitsF
   rw [hk]
   show (out a .reason && Ru.ok a .reason) = _
   simp only [out, outB, Ru.ok, home, Ac.grant, Ac.setup, ← scopeF, wi19, wi, zeroF, bareA, decide_true, Bool.and_true, Bool.true_and]
   ac_rfl
  rw [hv]
  rw [dig_eq]
  cases c0 : ((a.object.length : Int) == 32) with
  | false =>
   refine runf (an @hn @c0) ?_
   exact er0
  | true =>
  rw [short_eq]
  cases c1 : decide ((a.text.length : Int) ≤ 500) with
  | false =>
   refine runf (an @hn (an @c0 @c1)) ?_
   exact er0
  | true =>
  refine runf (an @hn (an @c0 @c1)) ?_
  refine cp (fzero_c { a with object := [], text := [] }) ?_
  refine runf (an @hn (an @c0 @c1)) ?_
  exact er0
 ·have hv : fitsF a = (dig a.object && decide (0 ≤ a.n) && decide (a.n ≤ 1) && zeroF { a with object := [], n := 0 }) := by
   unfold fitsF
   rw [hk]
   show (out a .judge && Ru.ok a .judge) = _
   simp only [out, outB, Ru.ok, home, Ac.grant, Ac.setup, ← scopeF, wi19, wi, zeroF, bareA, decide_true, Bool.and_true, Bool.true_and]
   ac_rfl
  rw [hv]
  rw [dig_eq]
  cases c0 : ((a.object.length : Int) == 32) with
  | false =>
   refine runf (an @hn @c0) ?_
   exact er0
  | true =>
  by_cases p1 : 0 ≤ a.n
  rotate_left
  ·rw [decide_eq_false p1]
   refine runf (an @hn @c0) ?_
   exact er0
  rw [decide_eq_true p1]
  by_cases p2 : a.n ≤ 1
  rotate_left
  ·rw [decide_eq_false p2]
   refine runf (an @hn @c0) ?_
   exact er0
  rw [decide_eq_true p2]
  refine runf (an @hn @c0) ?_
  refine cp (fzero_c { a with object := [], n := 0 }) ?_
  refine runf (an @hn @c0) ?_
  exact er0
 ·have hv : fitsF a = (idR a.target && short a.text && decide (0 ≤ a.n) && decide (a.n ≤ 1099511627776) && zeroF { a with target := [], text := [], n := 0 }) := by
   unfold fitsF
   rw [hk]
   show (out a .list && Ru.ok a .list) = _
   simp only [out, outB, Ru.ok, home, Ac.grant, Ac.setup, ← scopeF, wi19, wi, zeroF, bareA, decide_true, Bool.and_true, Bool.true_and]
   ac_rfl
  rw [hv]
  refine runf @hn ?_
  refine cp (fidright_c a.target h.target) ?_
  cases c0 : idR a.target with
  | false =>
   refine runf @hn ?_
   exact er0
  | true =>
  rw [short_eq]
  cases c1 : decide ((a.text.length : Int) ≤ 500) with
  | false =>
   refine runf (an @hn @c1) ?_
   exact er0
  | true =>
  by_cases p2 : 0 ≤ a.n
  rotate_left
  ·rw [decide_eq_false p2]
   refine runf (an @hn @c1) ?_
   exact er0
  rw [decide_eq_true p2]
  by_cases p3 : a.n ≤ 1099511627776
  rotate_left
  ·rw [decide_eq_false p3]
   refine runf (an @hn @c1) ?_
   exact er0
  rw [decide_eq_true p3]
  refine runf (an @hn @c1) ?_
  refine cp (fzero_c { a with target := [], text := [], n := 0 }) ?_
  refine runf (an @hn @c1) ?_
  exact er0
end Go.Proofs.YtaphpbiaoofmkaaGreatDoor.Pe
end
section
namespace Go.Proofs.YtaphpbiaoofmkaaGreatDoor.Pe
open Go Go.RowKit Co Sg Ac
set_option maxRecDepth 100000
set_option maxHeartbeats 4000000
theorem fright12_c (a : Ac.Act) (h : Sz a) : AC Tryz.prog 20 [actV a] [] (.bo (Ac.right a)) [] := by
 refine AC.enter2 [113, 114] [] Tryz.func20 rfl (by decide) (by decide) (Nat.le_of_ble_eq_true rfl) (by kernel_rfl) ?_; simp only [eraseC, eraseO, List.map_cons, List.map_nil, List.map_toArray, List.getElem?_toArray, List.getElem?_cons_zero, List.getElem?_cons_succ, Option.bind_some, Option.bind_none, List.append_eq, List.cons_append, List.nil_append]
 obtain ⟨q, hq⟩ : ∃ q, Ac.right a = q := ⟨_, rfl⟩
 rw [hq]
 rw [right_fits] at hq
 have hn := nilD
 refine run ?_
 refine cp (fidright_c a.author h.author) ?_
 cases c0 : idR a.author with
 | false =>
  obtain rfl : q = false := by rw [← hq, c0]; rfl
  refine run ?_
  exact er0
 | true =>
 by_cases s0 : 0 ≤ a.seq
 rotate_left
 ·obtain rfl : q = false := by
   rw [← hq]
   have hp : placed a = false := by unfold placed; split <;> simp [wi, dig] <;> omega
   rw [hp]; simp
  refine runf @hn ?_
  exact er0
 by_cases s1 : a.seq ≤ 1073741824
 rotate_left
 ·obtain rfl : q = false := by
   rw [← hq]
   have hp : placed a = false := by unfold placed; split <;> simp [wi, dig] <;> omega
   rw [hp]; simp
  refine runf @hn ?_
  exact er0
 by_cases t0 : 0 ≤ a.time
 rotate_left
 ·obtain rfl : q = false := by
   rw [← hq]
   have hp : wi a.time 0 1099511627776 = false := by simp [wi]; omega
   rw [hp]; simp
  refine runf @hn ?_
  exact er0
 by_cases t1 : a.time ≤ 1099511627776
 rotate_left
 ·obtain rfl : q = false := by
   rw [← hq]
   have hp : wi a.time 0 1099511627776 = false := by simp [wi]; omega
   rw [hp]; simp
  refine runf @hn ?_
  exact er0
 by_cases e0 : 0 ≤ a.sig.e
 rotate_left
 ·obtain rfl : q = false := by
   rw [← hq]
   have hp : sigR a.sig = false := by simp [sigR, wi]; omega
   rw [hp]; simp
  refine runf @hn ?_
  exact er0
 by_cases e1 : a.sig.e < 2305843009213693950
 rotate_left
 ·obtain rfl : q = false := by
   rw [← hq]
   have hp : sigR a.sig = false := by simp [sigR, wi]; omega
   rw [hp]; simp
  refine runf @hn ?_
  exact er0
 by_cases f0 : 0 ≤ a.sig.s
 rotate_left
 ·obtain rfl : q = false := by
   rw [← hq]
   have hp : sigR a.sig = false := by simp [sigR, wi]; omega
   rw [hp]; simp
  refine runf @hn ?_
  exact er0
 by_cases f1 : a.sig.s < 2305843009213693950
 rotate_left
 ·obtain rfl : q = false := by
   rw [← hq]
   have hp : sigR a.sig = false := by simp [sigR, wi]; omega
   rw [hp]; simp
  refine runf @hn ?_
  exact er0
 have htm : wi a.time 0 1099511627776 = true := wi_iff.2 ⟨t0, t1⟩
 have hsg : sigR a.sig = true := by simp [sigR, wi]; omega
 by_cases z : a.seq = 0
 ·cases cp0 : decide (a.prev = []) with
  | false =>
   obtain rfl : q = false := by
    have hp : placed a = false := by unfold placed; rw [if_pos z, cp0, Bool.and_false]
    rw [← hq, hp]; simp
   refine runf (an @hn @cp0) ?_
   exact er0
  | true =>
  by_cases kz : a.kind = 0
  rotate_left
  ·obtain rfl : q = false := by
    have hp : placed a = false := by unfold placed; rw [if_pos z, decide_eq_false kz]; rfl
    rw [← hq, hp]; simp
   refine runf (an @hn @cp0) ?_
   exact er0
  obtain rfl : q = fitsF a := by
   have hp : placed a = true := by unfold placed; rw [if_pos z, decide_eq_true kz, cp0]; rfl
   rw [← hq, hp, c0, htm, hsg]; rfl
  refine runf (an @hn @cp0) ?_
  refine cp (ffits_c a h) ?_
  refine run ?_
  exact er0
 ·have z' : 1 ≤ a.seq := by omega
  have hw1 : wi a.seq 1 1073741824 = true := wi_iff.2 ⟨z', s1⟩
  have hd := dig_eq a.prev
  cases cd : ((a.prev.length : Int) == 32) with
  | false =>
   have cd' : ((a.prev.length : Int) != 32) = true := by simpa [bne] using cd
   obtain rfl : q = false := by
    have hp : placed a = false := by unfold placed; rw [if_neg z, hd, cd, Bool.and_false]
    rw [← hq, hp]; simp
   refine runf @cd' ?_
   exact er0
  | true =>
  have cd' : ((a.prev.length : Int) != 32) = false := by simpa [bne] using cd
  by_cases kz : a.kind = 0
  ·obtain rfl : q = false := by
    have hp : placed a = false := by unfold placed; rw [if_neg z, hw1, decide_eq_false (show ¬ a.kind ≠ 0 from fun h => h kz)]; rfl
    rw [← hq, hp]; simp
   refine runf @cd' ?_
   exact er0
  obtain rfl : q = fitsF a := by
   have hp : placed a = true := by unfold placed; rw [if_neg z, hw1, decide_eq_true (show a.kind ≠ 0 from kz), hd, cd]; rfl
   rw [← hq, hp, c0, htm, hsg]; rfl
  refine runf @cd' ?_
  refine cp (ffits_c a h) ?_
  refine run ?_
  exact er0
theorem fbox_c (b : Box) (h : b.nonce.length ≤ 1000000 ∧ b.data.length ≤ 1000000 ∧ b.tag.length ≤ 1000000) : AC Tryz.prog 122 [boxV b] [] (.st (boxB b)) [] := by
 refine AC.enter2 [119] [] Tryz.func122 rfl (by decide) (by decide) (Nat.le_of_ble_eq_true rfl) (by kernel_rfl) ?_; simp only [eraseC, eraseO, List.map_cons, List.map_nil, List.map_toArray, List.getElem?_toArray, List.getElem?_cons_zero, List.getElem?_cons_succ, Option.bind_some, Option.bind_none, List.append_eq, List.cons_append, List.nil_append]
 have l1 := text_len h.1
 have l2 := text_len h.2.1
 have l3 := text_len h.2.2
 unfold boxB
 refine run ?_
 refine cp (ftext_c b.nonce (by omega)) ?_
 refine run ?_
 refine cp (ftext_c b.data (by omega)) ?_
 refine run ?_
 refine cp (ftext_c b.tag (by omega)) ?_
 refine run ?_
 exact er0
def preF (a : Ac.Act) : By :=
 text wAct ++ text a.author ++ numI a.seq ++ text a.prev ++ numI a.kind ++ numI a.time ++ text a.object ++ text a.target ++ numI a.scope ++ text a.group ++ list a.to ++ text a.text ++ boxB a.body ++ numI a.epoch ++ num a.wraps.length
theorem coreB_preF (a : Ac.Act) : coreB a = preF a ++ (a.wraps.map wrapB).flatten ++ numI a.n ++ numI a.m := by
 unfold coreB preF
 simp only [List.append_assoc]
theorem fcore12_c (a : Ac.Act) (h : Sz a) : AC Tryz.prog 24 [actV a] [] (.st (core a)) [] := by
 refine AC.enter2 [20, 119, 120, 121, 122] [] Tryz.func24 rfl (by decide) (by decide) (Nat.le_of_ble_eq_true rfl) (by kernel_rfl) ?_; simp only [eraseC, eraseO, List.map_cons, List.map_nil, List.map_toArray, List.getElem?_toArray, List.getElem?_cons_zero, List.getElem?_cons_succ, Option.bind_some, Option.bind_none, List.append_eq, List.cons_append, List.nil_append]
 unfold core
 refine run ?_
 refine cp (fright12_c a h) ?_
 cases hr : Ac.right a with
 | false => rw [if_neg (by simp)]; refine run ?_; exact er0
 | true =>
  rw [if_pos rfl]
  have sm := right_sm hr
  have hto : a.to.length ≤ 1000000 := by have := sm.to; omega
  have htx : ∀ x ∈ a.to, x.length ≤ 1000000 := fun x hx => by have := sm.to.2 x hx; omega
  have q1 := text_len (s := wAct) (by simp)
  have k1 := ftext_c wAct (by simp)
  have q2 := text_len (s := a.author) (by have := sm.author; omega)
  have k2 := ftext_c a.author (by have := sm.author; omega)
  have q3 := numI_le a.seq (by have := sm.seq; omega)
  have k3 := fnum_c a.seq (by have := sm.seq; omega)
  have q4 := text_len (s := a.prev) (by have := sm.prev; omega)
  have k4 := ftext_c a.prev (by have := sm.prev; omega)
  have q5 := numI_le a.kind (by have := sm.kind; omega)
  have k5 := fnum_c a.kind (by have := sm.kind; omega)
  have q6 := numI_le a.time (by have := sm.time; omega)
  have k6 := fnum_c a.time (by have := sm.time; omega)
  have q7 := text_len (s := a.object) (by have := sm.object; omega)
  have k7 := ftext_c a.object (by have := sm.object; omega)
  have q8 := text_len (s := a.target) (by have := sm.target; omega)
  have k8 := ftext_c a.target (by have := sm.target; omega)
  have q9 := numI_le a.scope (by have := sm.scope; omega)
  have k9 := fnum_c a.scope (by have := sm.scope; omega)
  have q10 := text_len (s := a.group) (by have := sm.group; omega)
  have k10 := ftext_c a.group (by have := sm.group; omega)
  have q11 := list_len (l := a.to) hto htx
  have k11 := flist_c a.to hto htx
  have q12 := text_len (s := a.text) (by have := sm.text; omega)
  have k12 := ftext_c a.text (by have := sm.text; omega)
  have q13 := boxB_len a.body (by have := sm.body; omega)
  have k13 := fbox_c a.body (by have := sm.body; omega)
  have q14 := numI_le a.epoch (by have := sm.epoch; omega)
  have k14 := fnum_c a.epoch (by have := sm.epoch; omega)
  have q15 := num_len9 (n := a.wraps.length) (by have := sm.wraps; omega)
  have k15 := fnum_c (a.wraps.length : Int) (by have := sm.wraps; omega)
  rw [numI_nat] at k15
  have q16 := numI_le a.n (by have := sm.n; omega)
  have k16 := fnum_c a.n (by have := sm.n; omega)
  have q17 := numI_le a.m (by have := sm.m; omega)
  have k17 := fnum_c a.m (by have := sm.m; omega)
  have hwr := sm.wraps
  have hlp : (preF a).length ≤ 2000000000000 := by
   unfold preF
   simp only [List.length_append]
   omega
  rw [coreB_preF]
  have hsz : allSz 5 (a.wraps.map wrapV) = true := allSz_map 5 wrapV (fun _ => rfl) _
  clear hr sm h
  refine run ?_
  refine cp k1 ?_
  refine run ?_
  refine cp k2 ?_
  refine run ?_
  refine cp k3 ?_
  refine run ?_
  refine cp k4 ?_
  refine run ?_
  refine cp k5 ?_
  refine run ?_
  refine cp k6 ?_
  refine run ?_
  refine cp k7 ?_
  refine run ?_
  refine cp k8 ?_
  refine run ?_
  refine cp k9 ?_
  refine run ?_
  refine cp k10 ?_
  refine run ?_
  refine cp k11 ?_
  refine run ?_
  refine cp k12 ?_
  refine run ?_
  refine cp k13 ?_
  refine run ?_
  refine cp k14 ?_
  refine run ?_
  refine cp k15 ?_
  refine run ?_
  refine loop_mk (fun m e S => e 1 = .ptr 0 0 ∧ ∃ (k : Nat), e 5 = .it .i64 (k : Int) ∧ e 4 = .st (preF a ++ ((a.wraps.take k).map wrapB).flatten) ∧ S = [.cells (actL a)] ∧ k ≤ a.wraps.length ∧ m = a.wraps.length - k) a.wraps.length
   ⟨(by first | rfl | (simp only [↓upd_apply, ↓put_some, ↓reduceIte, Nat.reduceEqDiff, ↓argEnv_zero, ↓argEnv_succ, *]; done)), 0, (by first | rfl | (simp only [↓upd_apply, ↓put_some, ↓reduceIte, Nat.reduceEqDiff, ↓argEnv_zero, ↓argEnv_succ, *]; done)), by rw [List.take_zero, List.map_nil, List.flatten_nil, List.append_nil]; exact (by first | rfl | (simp only [↓upd_apply, ↓put_some, ↓reduceIte, Nat.reduceEqDiff, ↓argEnv_zero, ↓argEnv_succ, *]; done)), rfl, by omega, rfl⟩ ?_
  clear k1 k2 k3 k4 k5 k6 k7 k8 k9 k10 k11 k12 k13 k14 k15
  clear q1 q2 q3 q4 q5 q6 q7 q8 q9 q10 q11 q12 q13 q14 q15
  rintro m e S ⟨s1, k, s5, s4, rfl, hk, rfl⟩
  have hlen := wraps_len hwr.2 hwr.1 k
  by_cases hlt : k < a.wraps.length
  rotate_left
  ·obtain rfl : k = a.wraps.length := by omega
   rw [List.take_length] at s4 hlen
   have hx : ¬ ((a.wraps.length : Nat) : Int) < (a.wraps.length : Int) := by omega
   generalize (a.wraps.map wrapB).flatten = z at *
   generalize preF a = p at *
   refine runf (an @s1 (an @s5 (an @s4 @hx))) ?_
   refine cp k16 ?_
   refine runf (an @s1 (an @s5 @s4)) ?_
   refine cp k17 ?_
   refine runf (an @s1 (an @s5 @s4)) ?_
   exact er0
  have hg : a.wraps[k]? = some a.wraps[k] := List.getElem?_eq_getElem hlt
  have hx := hwr.2 a.wraps[k] (List.getElem_mem hlt)
  have hstep : ((a.wraps.take (k + 1)).map wrapB).flatten = ((a.wraps.take k).map wrapB).flatten ++ wrapB a.wraps[k] := by
   rw [List.take_succ_eq_append_getElem hlt, List.map_append, List.flatten_append]
   congr 1
   exact List.append_nil _
  generalize a.wraps[k] = x at *
  have hx' := wrap_sm hx
  have hbl := boxB_len x.box hx'.2.2
  have hn1 := numI_le x.to (by omega)
  have hn2 := numI_le x.eph (by omega)
  generalize ((a.wraps.take k).map wrapB).flatten = z at *
  generalize preF a = p at *
  have hwl := hwr.1
  clear k16 k17 q16 q17 hwr
  refine runf (an @s1 (an @s5 (an @s4 (an @hg @hsz)))) ?_
  refine cp (fnum_c x.to (by omega)) ?_
  refine runf (an @s1 (an @s5 (an @s4 (an @hg @hsz)))) ?_
  refine cp (fnum_c x.eph (by omega)) ?_
  refine runf (an @s1 (an @s5 (an @s4 (an @hg @hsz)))) ?_
  refine cp (fbox_c x.box hx'.2.2) ?_
  refine runf (an @s1 (an @s5 @s4)) ?_
  exact round_mk (a.wraps.length - (k + 1)) (by omega) ⟨(by first | rfl | (simp only [↓upd_apply, ↓put_some, ↓reduceIte, Nat.reduceEqDiff, ↓argEnv_zero, ↓argEnv_succ, *]; done)), k + 1, (by first | rfl | (simp only [↓upd_apply, ↓put_some, ↓reduceIte, Nat.reduceEqDiff, ↓argEnv_zero, ↓argEnv_succ, *]; done)), by rw [hstep]; unfold wrapB; simp only [List.append_assoc]; exact (by first | rfl | (simp only [↓upd_apply, ↓put_some, ↓reduceIte, Nat.reduceEqDiff, ↓argEnv_zero, ↓argEnv_succ, *]; done)), rfl, by omega, rfl⟩
theorem core_ne (a : Ac.Act) (hr : Ac.right a = true) : core a ≠ [] := by
 unfold core coreB
 rw [if_pos hr]
 have : (text wAct).length = 4 := rfl
 intro e
 have := congrArg List.length e
 simp only [List.length_append, List.length_nil] at this
 omega
theorem fbytes12_c (a : Ac.Act) (h : Sz a) : AC Tryz.prog 26 [actV a] [] (.st (Ac.bytes a)) [] := by
 refine AC.enter2 [24, 120] [] Tryz.func26 rfl (by decide) (by decide) (Nat.le_of_ble_eq_true rfl) (by kernel_rfl) ?_; simp only [eraseC, eraseO, List.map_cons, List.map_nil, List.map_toArray, List.getElem?_toArray, List.getElem?_cons_zero, List.getElem?_cons_succ, Option.bind_some, Option.bind_none, List.append_eq, List.cons_append, List.nil_append]
 refine run ?_
 refine cp (fcore12_c a h) ?_
 cases hr : Ac.right a with
 | false =>
  have h0 : core a = [] := by unfold core; rw [hr]; rfl
  have h1 : Ac.bytes a = [] := by unfold Ac.bytes; rw [hr]; rfl
  rw [h1, h0]
  refine run ?_
  exact er0
 | true =>
  have hne := core_ne a hr
  have hl := core_len5 (a := a)
  have h1 : Ac.bytes a = core a ++ numI a.sig.e ++ numI a.sig.s := by unfold Ac.bytes core; rw [if_pos hr, if_pos hr]
  have sm := (right_sm hr).sig
  simp only [sigR, Bool.and_eq_true, wi_iff] at sm
  rw [h1]
  have hq : (core a == []) = false := by simpa using hne
  have n1 := numI_le a.sig.e (by omega)
  have n2 := numI_le a.sig.s (by omega)
  generalize core a = c at *
  refine runf @hq ?_
  refine cp (fnum_c a.sig.e (by omega)) ?_
  refine run ?_
  refine cp (fnum_c a.sig.s (by omega)) ?_
  refine run ?_
  exact er0
end Go.Proofs.YtaphpbiaoofmkaaGreatDoor.Pe
end
section
namespace Go.Proofs.YtaphpbiaoofmkaaGreatDoor.Pe
open Go Go.RowKit Co Sg Ac
set_option maxRecDepth 100000
set_option maxHeartbeats 4000000
theorem upd_selfT {e : Env} {d : Nat} {v : AV} (h : e d = v) : e = upd e d v := funext fun t => by
 by_cases ht : t = d
 ·subst ht; rw [upd_same]; exact h
 ·rw [upd_ne e ht]
end Go.Proofs.YtaphpbiaoofmkaaGreatDoor.Pe
end
section
namespace Go.Proofs.YtaphpbiaoofmkaaGreatDoor.Pe
open Go Go.RowKit Co Sg Ac It Sl
set_option maxRecDepth 100000
set_option maxHeartbeats 4000000
theorem tprove_c (l : List It.Entry) (i : Int) (r : Receipt) (hl : l.length ≤ 1000000) (hz : ∀ e ∈ l, Iz e.item) : AC Tryz.prog 69 [entriesV l, .it .i64 i, rcptV r] [] (.tup [graveV (proveT l i r).1, .bo (proveT l i r).2]) [] := by
 refine AC.enter4 [162, 163, 164] [] [(10, ([], [], []))] [] Tryz.func69 rfl (by decide) (by decide) (Nat.le_of_ble_eq_true rfl) (by kernel_rfl) ?_; simp only [eraseC, eraseO, List.map_cons, List.map_nil, List.map_toArray, List.getElem?_toArray, List.getElem?_cons_zero, List.getElem?_cons_succ, Option.bind_some, Option.bind_none, List.append_eq, List.cons_append, List.nil_append, eraseC4, eraseC3, hasSp, ordOf, List.isEmpty_nil, List.isEmpty_cons, Bool.and_true, Bool.and_false, Bool.and_self, Bool.false_and, Bool.true_and, List.lookup, Nat.reduceBEq, beq_self_eq_true, Option.isSome_some, Option.isSome_none, Bool.or_true, Bool.true_or, Bool.or_false, Bool.not_true, Bool.not_false, Bool.false_eq_true, if_true, if_false, ↓reduceIte, List.size_toArray, List.length_cons, List.length_nil, List.range_succ_eq_map, List.range_zero, Nat.reduceAdd, List.filterMap_cons, List.filterMap_nil]
 have hsz := entries_sz l
 unfold proveT
 by_cases c1 : i < 0
 ·rw [if_pos (.inl c1)]
  refine runf4 @c1 ?_
  exact er0w
 by_cases c2 : r.head.size ≤ i
 ·rw [if_pos (.inr (.inl c2))]
  refine runf4 (an @c1 @c2) ?_
  exact er0w
 by_cases c3 : (l.length : Int) < r.head.size
 ·rw [if_pos (.inr (.inr (.inl c3)))]
  refine runf4 (an @c1 (an @c2 @c3)) ?_
  exact er0w
 have d1 : 0 ≤ i := by omega
 have hs0 : (r.head.size = 0) = False := by simp; omega
 have d2 : 0 ≤ r.head.size := by omega
 have d2' : (0 < r.head.size) = True := by simp; omega
 have hnl : r.head.size.toNat ≤ l.length := by omega
 have hlt : i.toNat < l.length := by omega
 have kr := sroot_c (l.take r.head.size.toNat) (by rw [List.length_take]; omega) (fun e he => hz e (List.mem_of_mem_take he))
 have hg : l[i.toNat]? = some (l.getD i.toNat ⟨0, item0⟩) := by rw [List.getD_eq_getElem?_getD, List.getElem?_eq_getElem hlt]; rfl
 generalize l.getD i.toNat ⟨0, item0⟩ = x at *
 generalize rootE (l.take r.head.size.toNat) = rt at *
 have hlti : i < (l.length : Int) := by omega
 refine runf4 (an @c1 (an @c2 (an @c3 (an @d2 (an @hnl @hsz))))) ?_
 refine cp kr ?_
 by_cases c4 : rt = r.head.root
 rotate_left
 ·have q4 := nilI _ _ c4
  rw [if_pos (.inr (.inr (.inr c4)))]
  refine runf4 @q4 ?_
  exact er0w
 have q4 : (rt == r.head.root) = true := by rw [c4]; exact beq_self_eq_true _
 rw [if_neg (by rintro (h | h | h | h) <;> first | exact h | exact h c4 | omega)]
 have hfit : fits r.head.size.toNat 16 = true := by simp [fits]; omega
 refine runf4 (an @q4 (an @d2 (an @hnl (an @hsz (an @hs0 (an @d2' (an @hfit @Int.le_refl))))))) ?_
 have hLl : ((l.take r.head.size.toNat).map leafE).length = r.head.size.toNat := by rw [List.length_map, List.length_take]; omega
 have hzn : ∀ e ∈ l.take r.head.size.toNat, Iz e.item := fun e he => hz e (List.mem_of_mem_take he)
 have hszn := entries_sz (l.take r.head.size.toNat)
 have hln : (l.take r.head.size.toNat).length = r.head.size.toNat := by rw [List.length_take]; omega
 have hsize : ((r.head.size.toNat : Nat) : Int) = r.head.size := by omega
 generalize hM : l.take r.head.size.toNat = M at *
 generalize hN : r.head.size.toNat = n at *
 refine loop_mk (fun m e S => e 0 = entriesV l ∧ e 1 = .it .i64 i ∧ e 5 = .ptr 0 0 ∧ e 6 = .ptr 1 0 ∧ e 9 = .ws 2 0 n n ∧ e 45 = entriesV M ∧ e 46 = .it .i64 (M.length : Int) ∧ ∃ (k : Nat) (acc : List By) (T : Store), e 47 = .it .i64 (k : Int) ∧ S = .cells (rcptV r).cells :: .cells [.it .i64 0, .it .i64 0, .it .i64 0, .st [], .it .i64 0, .st [], .it .i64 0, .it .i64 0, .st [], .st [], .it .i64 0, .st [], .sl .full [], .st [], .st [], .st [], .st [], .it .i64 0, .sl .full [], .it .i64 0, .it .i64 0, .it .i64 0, .it .i64 0, .st [], .it .i64 0, .st [], .it .i64 0, .it .i64 0, .it .i64 0, .it .i64 0, .it .i64 0, .it .i64 0, .it .i64 0, .st [], .it .i64 0, .st [], .it .i64 0, .it .i64 0, .it .i64 0, .it .i64 0, .it .i64 0, .it .i64 0, .st [], .st [], .st [], .sl .full [], .it .i64 0, .it .i64 0, .it .i64 0, .it .i64 0, .it .i64 0, .sl .full [], .it .i64 0, .it .i64 0, .it .i64 0, .st [], .it .i64 0, .it .i64 0, .it .i64 0, .it .i64 0, .it .i64 0] :: .cells (acc.map .st) :: T ∧ acc.length = n ∧ acc.take k = (M.map leafE).take k ∧ k ≤ n ∧ m = n - k) n
  ⟨(by first | rfl | (simp only [↓upd_apply, ↓put_some, ↓reduceIte, Nat.reduceEqDiff, ↓argEnv_zero, ↓argEnv_succ, *]; done)), (by first | rfl | (simp only [↓upd_apply, ↓put_some, ↓reduceIte, Nat.reduceEqDiff, ↓argEnv_zero, ↓argEnv_succ, *]; done)), (by first | rfl | (simp only [↓upd_apply, ↓put_some, ↓reduceIte, Nat.reduceEqDiff, ↓argEnv_zero, ↓argEnv_succ, *]; done)), (by first | rfl | (simp only [↓upd_apply, ↓put_some, ↓reduceIte, Nat.reduceEqDiff, ↓argEnv_zero, ↓argEnv_succ, *]; done)), (by first | rfl | (simp only [↓upd_apply, ↓put_some, ↓reduceIte, Nat.reduceEqDiff, ↓argEnv_zero, ↓argEnv_succ, *]; done)), (by first | rfl | (simp only [↓upd_apply, ↓put_some, ↓reduceIte, Nat.reduceEqDiff, ↓argEnv_zero, ↓argEnv_succ, *]; done)), (by first | rfl | (simp only [↓upd_apply, ↓put_some, ↓reduceIte, Nat.reduceEqDiff, ↓argEnv_zero, ↓argEnv_succ, *]; done)), 0, List.replicate n [], [], (by first | rfl | (simp only [↓upd_apply, ↓put_some, ↓reduceIte, Nat.reduceEqDiff, ↓argEnv_zero, ↓argEnv_succ, *]; done)), by rw [List.map_replicate, Nat.mul_one]; rfl, List.length_replicate .., rfl, by omega, rfl⟩ ?_
 rintro m e S ⟨s0, s1, s5, s6, s9, s45, s46, k, acc, T, s47, rfl, hacc, hak, hk, rfl⟩
 by_cases hlk : k < n
 ·have hkM : k < M.length := by omega
  have hgk : M[k]? = some M[k] := List.getElem?_eq_getElem hkM
  have hzk := hzn M[k] (List.getElem_mem hkM)
  have hst : (acc.set k (leafE M[k])).take (k + 1) = (M.map leafE).take (k + 1) := by
   rw [List.take_succ_eq_append_getElem (by rw [List.length_set]; omega), List.take_succ_eq_append_getElem (by rw [List.length_map]; omega), List.getElem_set_self, List.getElem_map, List.take_set_of_le (Nat.le_refl _), hak]
  generalize M[k] = y at *
  have ky := sleaf_c y hzk
  have hset := aSet_map AV.st acc k (leafE y) (by omega)
  have hT1 : ∀ o : SObj, (T ++ [o])[T.length]? = some o := fun o => by simp
  have hT2 : ∀ o o' : SObj, (T ++ [o]).set T.length o' = T ++ [o'] := fun o o' => by simp
  have hlki : (k : Int) < (M.length : Int) := by omega
  have hlkn : (k : Int) < (n : Int) := by omega
  refine runf4 (an @s0 (an @s1 (an @s5 (an @s6 (an @s9 (an @s45 (an @s46 (an @s47 (an @hgk (an @hszn (an @hT1 (an @hT2 @hlki)))))))))))) ?_
  refine cp ky ?_
  refine runf4 (an @s0 (an @s1 (an @s5 (an @s6 (an @s9 (an @s45 (an @s46 (an @s47 (an @hset (an @hlkn @hacc)))))))))) ?_
  exact round_mk (n - (k + 1)) (by omega) ⟨(by first | rfl | (simp only [↓upd_apply, ↓put_some, ↓reduceIte, Nat.reduceEqDiff, ↓argEnv_zero, ↓argEnv_succ, *]; done)), (by first | rfl | (simp only [↓upd_apply, ↓put_some, ↓reduceIte, Nat.reduceEqDiff, ↓argEnv_zero, ↓argEnv_succ, *]; done)), (by first | rfl | (simp only [↓upd_apply, ↓put_some, ↓reduceIte, Nat.reduceEqDiff, ↓argEnv_zero, ↓argEnv_succ, *]; done)), (by first | rfl | (simp only [↓upd_apply, ↓put_some, ↓reduceIte, Nat.reduceEqDiff, ↓argEnv_zero, ↓argEnv_succ, *]; done)), (by first | rfl | (simp only [↓upd_apply, ↓put_some, ↓reduceIte, Nat.reduceEqDiff, ↓argEnv_zero, ↓argEnv_succ, *]; done)), (by first | rfl | (simp only [↓upd_apply, ↓put_some, ↓reduceIte, Nat.reduceEqDiff, ↓argEnv_zero, ↓argEnv_succ, *]; done)), (by first | rfl | (simp only [↓upd_apply, ↓put_some, ↓reduceIte, Nat.reduceEqDiff, ↓argEnv_zero, ↓argEnv_succ, *]; done)), k + 1, acc.set k (leafE y), _, (by first | rfl | (simp only [↓upd_apply, ↓put_some, ↓reduceIte, Nat.reduceEqDiff, ↓argEnv_zero, ↓argEnv_succ, *]; done)), by rw [Nat.mul_one], by rw [List.length_set, hacc], by first | exact hst | (rw [hst, List.map_take]), by omega, rfl⟩
 obtain rfl : k = n := by omega
 have hacM : acc = M.map leafE := by
  rw [List.take_of_length_le (by omega), List.take_of_length_le (by rw [List.length_map]; omega)] at hak
  exact hak
 have hlki : ¬ (k : Int) < (M.length : Int) := by omega
 rw [upd_selfT s6]
 refine runf4 (an @s0 (an @s1 (an @s5 (an @s6 (an @s9 (an @s45 (an @s46 (an @s47 @hlki)))))))) ?_
 have hfl : flat ((M.map leafE).map AV.st) = (M.map leafE).map AV.st := flat_sts _
 have hil : i.toNat < (M.map leafE).length := by rw [hLl]; omega
 have kp := path_c (M.map leafE) i.toNat hil (by omega) (fun x hx => by
  obtain ⟨e, _, rfl⟩ := List.mem_map.1 hx
  rw [leafE_len]; omega)
 have ei : ((i.toNat : Nat) : Int) = i := by omega
 rw [ei] at kp
 subst hacM
 have hszL : allSz 1 ((M.map leafE).map AV.st) = true := allSz_map 1 AV.st (fun _ => rfl) _
 have hokL : (((M.map leafE).map AV.st).all (AV.o1 0)) = true := by
  rw [List.all_eq_true]
  intro v hv
  obtain ⟨b, _, rfl⟩ := List.mem_map.1 hv
  rfl
 generalize M.map leafE = L at *
 generalize Mk.path L i.toNat = pth at *
 refine wkzW 9 2 (n := k) (c := k) (es := L.map AV.st) (tl := []) (sz := 1) (by rw [hfl, List.append_nil]) (by rw [List.length_map, hLl]) hszL (by rw [hfl]; exact hokL) ?_ (hd := (by first | rfl | (simp only [↓upd_apply, ↓put_some, ↓reduceIte, Nat.reduceEqDiff, ↓argEnv_zero, ↓argEnv_succ, *]; done))) (hS := by rfl)
 refine runf4 (an @s0 (an @s1 (an @s5 (an @s6 (an @s9 (an @s45 (an @s46 @s47))))))) ?_
 refine cp kp ?_
 refine runf4 (an @s0 (an @s1 (an @s5 (an @s6 (an @s9 (an @s45 (an @s46 (an @s47 (an @hg (an @hsz (an @hlti @d1))))))))))) ?_
 exact er0w
end Go.Proofs.YtaphpbiaoofmkaaGreatDoor.Pe
end
section
namespace Go.Proofs.YtaphpbiaoofmkaaGreatDoor.Pe
open Go Go.RowKit Co Sg Ac It Sl
set_option maxRecDepth 100000
set_option maxHeartbeats 4000000
abbrev rcptsV (l : List Receipt) : AV := .sl .ro (l.map rcptV)
theorem delc_c (e : It.Entry) (id : By) (h : Iz e.item) : AC Tryz.prog 173 [entryV e, .ptr 0 0] [.cells [.st id]] (.bo (delT e id)) [.cells [.st id]] := by
 refine AC.enter2 [168] [] Tryz.func173 rfl (by decide) (by decide) (Nat.le_of_ble_eq_true rfl) (by kernel_rfl) ?_; simp only [eraseC, eraseO, List.map_cons, List.map_nil, List.map_toArray, List.getElem?_toArray, List.getElem?_cons_zero, List.getElem?_cons_succ, Option.bind_some, Option.bind_none, List.append_eq, List.cons_append, List.nil_append]
 refine run ?_
 refine cp (tdel_c e id h) ?_
 refine run ?_
 exact er1
def FirstDel (l : List It.Entry) (id : By) (n : Int) : Prop :=
 (∃ c : Nat, c < l.length ∧ delT (l.getD c ⟨0, item0⟩) id = true ∧ (∀ j, j < c → delT (l.getD j ⟨0, item0⟩) id = false) ∧ n = (c : Int)) ∨ ((∀ j, j < l.length → delT (l.getD j ⟨0, item0⟩) id = false) ∧ n = -1)
theorem first_del (l : List It.Entry) (id : By) : ∃ n, FirstDel l id n := by
 by_cases h : ∃ c : Nat, c < l.length ∧ delT (l.getD c ⟨0, item0⟩) id = true
 ·have key : ∀ m : Nat, ∀ c, c ≤ m → c < l.length → delT (l.getD c ⟨0, item0⟩) id = true → ∃ n, FirstDel l id n := by
   intro m
   induction m with
   | zero =>
    intro c hc hl hd
    exact ⟨(c : Int), .inl ⟨c, hl, hd, fun j hj => by omega, rfl⟩⟩
   | succ m ih =>
    intro c hc hl hd
    by_cases hf : ∀ j, j < c → delT (l.getD j ⟨0, item0⟩) id = false
    ·exact ⟨(c : Int), .inl ⟨c, hl, hd, hf, rfl⟩⟩
    ·obtain ⟨j, hj⟩ := Classical.not_forall.1 hf
     obtain ⟨hj, hb⟩ := Classical.not_imp.1 hj
     exact ih j (by omega) (by omega) (by simpa using hb)
  obtain ⟨c, hl, hd⟩ := h
  exact key c c (Nat.le_refl _) hl hd
 ·exact ⟨-1, .inr ⟨fun j hj => by
   cases hb : delT (l.getD j ⟨0, item0⟩) id with
   | false => rfl
   | true => exact absurd ⟨j, hj, hb⟩ h, rfl⟩⟩
theorem indexFunc_c (l : List It.Entry) (id : By) (n : Int) (hn : FirstDel l id n) (hl : l.length ≤ 1000000) (hz : ∀ e ∈ l, Iz e.item) :
  AC Tryz.prog 172 [entriesV l, .fn (.func 173) [] [.ptr 0 0]] [.cells [.st id]] (.it .i64 n) [.cells [.st id]] := by
 refine AC.enter [] [] Tryz.func172 rfl (by decide) (by decide) (Nat.le_of_ble_eq_true rfl) (by kernel_rfl) ?_; simp only [eraseC, eraseO, List.map_cons, List.map_nil, List.map_toArray, List.getElem?_toArray, List.getElem?_cons_zero, List.getElem?_cons_succ, Option.bind_some, Option.bind_none, List.append_eq, List.cons_append, List.nil_append]
 have hsz := entries_sz l
 refine run ?_
 refine loop_mk (fun m e S => S = [.cells [.st id]] ∧ e 0 = entriesV l ∧ e 1 = .fn (.func 173) [] [.ptr 0 0] ∧ e 7 = .it .i64 (l.length : Int) ∧ ∃ k : Nat, e 8 = .it .i64 (k : Int) ∧ k ≤ l.length ∧ (∀ j, j < k → delT (l.getD j ⟨0, item0⟩) id = false) ∧ m = l.length - k) l.length
  ⟨rfl, (by first | rfl | (simp only [↓upd_apply, ↓put_some, ↓reduceIte, Nat.reduceEqDiff, ↓argEnv_zero, ↓argEnv_succ, *]; done)), (by first | rfl | (simp only [↓upd_apply, ↓put_some, ↓reduceIte, Nat.reduceEqDiff, ↓argEnv_zero, ↓argEnv_succ, *]; done)), by simp [↓upd_apply], 0, (by first | rfl | (simp only [↓upd_apply, ↓put_some, ↓reduceIte, Nat.reduceEqDiff, ↓argEnv_zero, ↓argEnv_succ, *]; done)), by omega, fun j hj => absurd hj (Nat.not_lt_zero _), rfl⟩ ?_
 rintro m e S ⟨rfl, s0, s1, s7, k, s8, hk, hf, rfl⟩
 by_cases hlt : k < l.length
 ·have hg : l[k]? = some (l.getD k ⟨0, item0⟩) := by rw [List.getD_eq_getElem?_getD, List.getElem?_eq_getElem hlt]; rfl
  have hzk : Iz (l.getD k ⟨0, item0⟩).item := by
   rw [List.getD_eq_getElem?_getD, List.getElem?_eq_getElem hlt]
   exact hz _ (List.getElem_mem hlt)
  have hd0 : ∀ b, delT (l.getD k ⟨0, item0⟩) id = b → delT (l.getD k ⟨0, item0⟩) id = b := fun b h => h
  generalize hx : l.getD k ⟨0, item0⟩ = x at *
  have kc := delc_c x id hzk
  have hlti : (k : Int) < (l.length : Int) := by omega
  refine runf (an @s0 (an @s1 (an @s7 (an @s8 (an @hg (an @hsz @hlti)))))) ?_
  refine call_mk kc ?_
  cases hd : delT x id with
  | true =>
   have e1 : n = (k : Int) := by
    rcases hn with ⟨c, hc, hd', hf', rfl⟩ | ⟨hf', rfl⟩
    ·have h1 : ¬ c < k := fun h => by rw [hf c h] at hd'; cases hd'
     have h2 : ¬ k < c := fun h => by have := hf' k h; rw [hx, hd] at this; cases this
     omega
    ·have := hf' k hlt
     rw [hx, hd] at this
     cases this
   subst e1
   refine runf (an @s0 (an @s1 (an @s7 @s8))) ?_
   exact er1
  | false =>
   refine runf (an @s0 (an @s1 (an @s7 @s8))) ?_
   refine round_mk (l.length - (k + 1)) (by omega) ⟨rfl, (by first | rfl | (simp only [↓upd_apply, ↓put_some, ↓reduceIte, Nat.reduceEqDiff, ↓argEnv_zero, ↓argEnv_succ, *]; done)), (by first | rfl | (simp only [↓upd_apply, ↓put_some, ↓reduceIte, Nat.reduceEqDiff, ↓argEnv_zero, ↓argEnv_succ, *]; done)), (by first | rfl | (simp only [↓upd_apply, ↓put_some, ↓reduceIte, Nat.reduceEqDiff, ↓argEnv_zero, ↓argEnv_succ, *]; done)), k + 1, (by first | rfl | (simp only [↓upd_apply, ↓put_some, ↓reduceIte, Nat.reduceEqDiff, ↓argEnv_zero, ↓argEnv_succ, *]; done)), by omega, fun j hj => ?_, rfl⟩
   by_cases hjk : j = k
   ·subst hjk; rw [hx]; exact hd
   ·exact hf j (by omega)
 ·have e1 : n = -1 := by
   rcases hn with ⟨c, hc, hd', hf', rfl⟩ | ⟨hf', rfl⟩
   ·have := hf c (by omega)
    rw [hd'] at this
    cases this
   ·rfl
  subst e1
  have hlti : ¬ (k : Int) < (l.length : Int) := by omega
  refine runf (an @s0 (an @s1 (an @s7 (an @s8 @hlti)))) ?_
  exact er1
theorem kfind_no (s : Int) : ∀ (acc : List Int) (i : Nat), s ∉ acc → kfind (.it .i64 s) (acc.map fun s => (.it .i64 s, .bo true)) i = some none
 | [], _, _ => rfl
 | x :: l, i, h => by
  rw [List.mem_cons, not_or] at h
  rw [List.map_cons]
  unfold kfind
  simp only [keq, if_true]
  rw [show (s == x) = false by simpa using h.1]
  exact kfind_no s l (i + 1) h.2
theorem kfind_yes (s : Int) : ∀ (acc : List Int) (i : Nat), s ∈ acc → ∃ j, kfind (.it .i64 s) (acc.map fun s => (.it .i64 s, .bo true)) i = some (some (j, .bo true))
 | x :: l, i, h => by
  rw [List.map_cons]
  unfold kfind
  simp only [keq, if_true]
  by_cases hx : s = x
  ·rw [show (s == x) = true by simpa using hx]
   exact ⟨i, rfl⟩
  ·rw [show (s == x) = false by simpa using hx]
   exact kfind_yes s l (i + 1) ((List.mem_cons.1 h).resolve_left hx)
theorem mem_no {ps : List Int} {l : List It.Entry} {log : Int} {i : Nat} {rs : List Receipt} {acc : List Int} {k : Nat} {r : Receipt} (hm : ∀ s, s ∈ acc ↔ ∃ r ∈ rs.take k, r.frm = s ∧ goodT ps l log i r = true) (hr : rs[k]? = some r) (hn : goodT ps l log i r = true → r.frm ∈ acc) :
  ∀ s, s ∈ acc ↔ ∃ r ∈ rs.take (k + 1), r.frm = s ∧ goodT ps l log i r = true := by
 intro s
 have hk := (List.getElem?_eq_some_iff.1 hr)
 obtain ⟨hk, hrk⟩ := hk
 rw [List.take_succ_eq_append_getElem hk, hrk]
 constructor
 ·intro h
  obtain ⟨q, hq, h1, h2⟩ := (hm s).1 h
  exact ⟨q, List.mem_append_left _ hq, h1, h2⟩
 ·rintro ⟨q, hq, rfl, h2⟩
  rcases List.mem_append.1 hq with hq | hq
  ·exact (hm _).2 ⟨q, hq, rfl, h2⟩
  ·rw [List.mem_singleton] at hq
   subst hq
   exact hn h2
theorem mem_yes {ps : List Int} {l : List It.Entry} {log : Int} {i : Nat} {rs : List Receipt} {acc : List Int} {k : Nat} {r : Receipt} (hm : ∀ s, s ∈ acc ↔ ∃ r ∈ rs.take k, r.frm = s ∧ goodT ps l log i r = true) (hr : rs[k]? = some r) (hy : goodT ps l log i r = true) :
  ∀ s, s ∈ acc ++ [r.frm] ↔ ∃ r ∈ rs.take (k + 1), r.frm = s ∧ goodT ps l log i r = true := by
 intro s
 obtain ⟨hk, hrk⟩ := (List.getElem?_eq_some_iff.1 hr)
 rw [List.take_succ_eq_append_getElem hk, hrk, List.mem_append, List.mem_singleton]
 constructor
 ·rintro (h | rfl)
  ·obtain ⟨q, hq, h1, h2⟩ := (hm s).1 h
   exact ⟨q, List.mem_append_left _ hq, h1, h2⟩
  ·exact ⟨r, List.mem_append_right _ (List.mem_singleton.2 rfl), rfl, hy⟩
 ·rintro ⟨q, hq, rfl, h2⟩
  rcases List.mem_append.1 hq with hq | hq
  ·exact .inl ((hm _).2 ⟨q, hq, rfl, h2⟩)
  ·rw [List.mem_singleton] at hq
   exact .inr (by rw [hq])
theorem tanswered_c (ps : List Int) (id : By) (l : List It.Entry) (log : Int) (rs : List Receipt) (hp : InL ps) (hpl : ps.length ≤ 1000000) (hl : l.length ≤ 1000000) (hz : ∀ e ∈ l, Iz e.item) (hrl : rs.length ≤ 1000000) (hrs : ∀ r ∈ rs, InR r) :
  AC Tryz.prog 74 [intsV ps, .st id, entriesV l, .it .i64 log, rcptsV rs] [] (intsV (answeredT ps id l log rs)) [] := by
 refine AC.enter2 [66, 69] [] Tryz.func74 rfl (by decide) (by decide) (Nat.le_of_ble_eq_true rfl) (by kernel_rfl) ?_; simp only [eraseC, eraseO, List.map_cons, List.map_nil, List.map_toArray, List.getElem?_toArray, List.getElem?_cons_zero, List.getElem?_cons_succ, Option.bind_some, Option.bind_none, List.append_eq, List.cons_append, List.nil_append]
 obtain ⟨n, hn⟩ := first_del l id
 have kx := indexFunc_c l id n hn hl hz
 have hszr : allSz 9 (rs.map rcptV) = true := allSz_map 9 _ (fun _ => rfl) _
 refine run ?_
 refine call_mk kx ?_
 rcases hn with ⟨i, hi, hd, hf, rfl⟩ | ⟨hf, rfl⟩
 rotate_left
 ·rw [answered_none hf]
  refine run ?_
  exact er0w
 have hi0 : ¬ (i : Int) < 0 := by omega
 refine runf @hi0 ?_
 refine loop_mk (fun m e S => e 0 = intsV ps ∧ e 2 = entriesV l ∧ e 3 = .it .i64 log ∧ e 11 = .it .i64 (i : Int) ∧ e 12 = .mp 1 ∧ e 23 = rcptsV rs ∧ e 24 = .it .i64 (rs.length : Int) ∧ ∃ (k : Nat) (acc : List Int) (T : Store), e 25 = .it .i64 (k : Int) ∧ S = .cells [.st id] :: keyM acc :: T ∧
   k ≤ rs.length ∧ acc.Nodup ∧ (∀ s, s ∈ acc ↔ ∃ r ∈ rs.take k, r.frm = s ∧ goodT ps l log i r = true) ∧ m = rs.length - k) rs.length
  ⟨(by first | rfl | (simp only [↓upd_apply, ↓put_some, ↓reduceIte, Nat.reduceEqDiff, ↓argEnv_zero, ↓argEnv_succ, *]; done)), (by first | rfl | (simp only [↓upd_apply, ↓put_some, ↓reduceIte, Nat.reduceEqDiff, ↓argEnv_zero, ↓argEnv_succ, *]; done)), (by first | rfl | (simp only [↓upd_apply, ↓put_some, ↓reduceIte, Nat.reduceEqDiff, ↓argEnv_zero, ↓argEnv_succ, *]; done)), (by first | rfl | (simp only [↓upd_apply, ↓put_some, ↓reduceIte, Nat.reduceEqDiff, ↓argEnv_zero, ↓argEnv_succ, *]; done)), (by first | rfl | (simp only [↓upd_apply, ↓put_some, ↓reduceIte, Nat.reduceEqDiff, ↓argEnv_zero, ↓argEnv_succ, *]; done)), (by first | rfl | (simp only [↓upd_apply, ↓put_some, ↓reduceIte, Nat.reduceEqDiff, ↓argEnv_zero, ↓argEnv_succ, *]; done)), by simp [↓upd_apply], 0, [], [], (by first | rfl | (simp only [↓upd_apply, ↓put_some, ↓reduceIte, Nat.reduceEqDiff, ↓argEnv_zero, ↓argEnv_succ, *]; done)), rfl, by omega, List.nodup_nil, fun s => by simp, rfl⟩ ?_
 rintro m e S ⟨s0, s2, s3, s11, s12, s23, s24, k, acc, T, s25, rfl, hk, hnd, hm, rfl⟩
 by_cases hlt : k < rs.length
 ·have hg : rs[k]? = some rs[k] := List.getElem?_eq_getElem hlt
  have hr := hrs rs[k] (List.getElem_mem hlt)
  generalize rs[k] = r at *
  have hlti : (k : Int) < (rs.length : Int) := by omega
  have hT1 : ∀ o : SObj, (T ++ [o])[T.length]? = some o := fun o => by simp
  have hT2 : ∀ o o' : SObj, (T ++ [o]).set T.length o' = T ++ [o'] := fun o o' => by simp
  have hT3 : ∀ o o' : SObj, (T ++ [o] ++ [o'])[T.length + 1]? = some o' := fun o o' => by simp
  have hT4 : ∀ o o' o'' : SObj, (T ++ [o] ++ [o']).set (T.length + 1) o'' = T ++ [o] ++ [o''] := fun o o' o'' => by simp
  have hT5 : ∀ o o' : SObj, (T ++ [o] ++ [o'])[T.length]? = some o := fun o o' => by simp
  have kv := tverify_c ps r hp hr
  have kp := tprove_c l (i : Int) r hl hz
  by_cases c1 : r.head.server = log
  rotate_left
  ·have q1 : (r.head.server != log) = true := bneT c1
   have hno : goodT ps l log i r = true → r.frm ∈ acc := fun h => by
    unfold goodT at h
    rw [decide_eq_false c1] at h
    cases h
   refine runf (an @s0 (an @s2 (an @s3 (an @s11 (an @s12 (an @s23 (an @s24 (an @s25 (an @hlti (an @hg (an @hszr (an @hT1 (an @hT2 @q1))))))))))))) ?_
   exact round_mk (rs.length - (k + 1)) (by omega) ⟨(by first | rfl | (simp only [↓upd_apply, ↓put_some, ↓reduceIte, Nat.reduceEqDiff, ↓argEnv_zero, ↓argEnv_succ, *]; done)), (by first | rfl | (simp only [↓upd_apply, ↓put_some, ↓reduceIte, Nat.reduceEqDiff, ↓argEnv_zero, ↓argEnv_succ, *]; done)), (by first | rfl | (simp only [↓upd_apply, ↓put_some, ↓reduceIte, Nat.reduceEqDiff, ↓argEnv_zero, ↓argEnv_succ, *]; done)), (by first | rfl | (simp only [↓upd_apply, ↓put_some, ↓reduceIte, Nat.reduceEqDiff, ↓argEnv_zero, ↓argEnv_succ, *]; done)), (by first | rfl | (simp only [↓upd_apply, ↓put_some, ↓reduceIte, Nat.reduceEqDiff, ↓argEnv_zero, ↓argEnv_succ, *]; done)), (by first | rfl | (simp only [↓upd_apply, ↓put_some, ↓reduceIte, Nat.reduceEqDiff, ↓argEnv_zero, ↓argEnv_succ, *]; done)), (by first | rfl | (simp only [↓upd_apply, ↓put_some, ↓reduceIte, Nat.reduceEqDiff, ↓argEnv_zero, ↓argEnv_succ, *]; done)), k + 1, acc, _, (by first | rfl | (simp only [↓upd_apply, ↓put_some, ↓reduceIte, Nat.reduceEqDiff, ↓argEnv_zero, ↓argEnv_succ, *]; done)), rfl, by omega, hnd, mem_no hm hg hno, rfl⟩
  have q1 : (r.head.server != log) = false := bneF c1
  by_cases c2 : r.frm ∈ acc
  ·obtain ⟨j, hj⟩ := kfind_yes r.frm acc 0 c2
   refine runf (an @s0 (an @s2 (an @s3 (an @s11 (an @s12 (an @s23 (an @s24 (an @s25 (an @hlti (an @hg (an @hszr (an @hT1 (an @hT2 (an @q1 @hj)))))))))))))) ?_
   exact round_mk (rs.length - (k + 1)) (by omega) ⟨(by first | rfl | (simp only [↓upd_apply, ↓put_some, ↓reduceIte, Nat.reduceEqDiff, ↓argEnv_zero, ↓argEnv_succ, *]; done)), (by first | rfl | (simp only [↓upd_apply, ↓put_some, ↓reduceIte, Nat.reduceEqDiff, ↓argEnv_zero, ↓argEnv_succ, *]; done)), (by first | rfl | (simp only [↓upd_apply, ↓put_some, ↓reduceIte, Nat.reduceEqDiff, ↓argEnv_zero, ↓argEnv_succ, *]; done)), (by first | rfl | (simp only [↓upd_apply, ↓put_some, ↓reduceIte, Nat.reduceEqDiff, ↓argEnv_zero, ↓argEnv_succ, *]; done)), (by first | rfl | (simp only [↓upd_apply, ↓put_some, ↓reduceIte, Nat.reduceEqDiff, ↓argEnv_zero, ↓argEnv_succ, *]; done)), (by first | rfl | (simp only [↓upd_apply, ↓put_some, ↓reduceIte, Nat.reduceEqDiff, ↓argEnv_zero, ↓argEnv_succ, *]; done)), (by first | rfl | (simp only [↓upd_apply, ↓put_some, ↓reduceIte, Nat.reduceEqDiff, ↓argEnv_zero, ↓argEnv_succ, *]; done)), k + 1, acc, _, (by first | rfl | (simp only [↓upd_apply, ↓put_some, ↓reduceIte, Nat.reduceEqDiff, ↓argEnv_zero, ↓argEnv_succ, *]; done)), rfl, by omega, hnd, mem_no hm hg (fun _ => c2), rfl⟩
  have hj := kfind_no r.frm acc 0 c2
  cases hv : verifyT ps r with
  | false =>
   have hno : goodT ps l log i r = true → r.frm ∈ acc := fun h => by
    unfold goodT at h
    rw [hv, Bool.and_false] at h
    cases h
   rw [hv] at kv
   refine runf (an @s0 (an @s2 (an @s3 (an @s11 (an @s12 (an @s23 (an @s24 (an @s25 (an @hlti (an @hg (an @hszr (an @hT1 (an @hT2 (an @q1 @hj)))))))))))))) ?_
   refine cp kv ?_
   refine runf (an @s0 (an @s2 (an @s3 (an @s11 (an @s12 (an @s23 (an @s24 @s25))))))) ?_
   exact round_mk (rs.length - (k + 1)) (by omega) ⟨(by first | rfl | (simp only [↓upd_apply, ↓put_some, ↓reduceIte, Nat.reduceEqDiff, ↓argEnv_zero, ↓argEnv_succ, *]; done)), (by first | rfl | (simp only [↓upd_apply, ↓put_some, ↓reduceIte, Nat.reduceEqDiff, ↓argEnv_zero, ↓argEnv_succ, *]; done)), (by first | rfl | (simp only [↓upd_apply, ↓put_some, ↓reduceIte, Nat.reduceEqDiff, ↓argEnv_zero, ↓argEnv_succ, *]; done)), (by first | rfl | (simp only [↓upd_apply, ↓put_some, ↓reduceIte, Nat.reduceEqDiff, ↓argEnv_zero, ↓argEnv_succ, *]; done)), (by first | rfl | (simp only [↓upd_apply, ↓put_some, ↓reduceIte, Nat.reduceEqDiff, ↓argEnv_zero, ↓argEnv_succ, *]; done)), (by first | rfl | (simp only [↓upd_apply, ↓put_some, ↓reduceIte, Nat.reduceEqDiff, ↓argEnv_zero, ↓argEnv_succ, *]; done)), (by first | rfl | (simp only [↓upd_apply, ↓put_some, ↓reduceIte, Nat.reduceEqDiff, ↓argEnv_zero, ↓argEnv_succ, *]; done)), k + 1, acc, _, (by first | rfl | (simp only [↓upd_apply, ↓put_some, ↓reduceIte, Nat.reduceEqDiff, ↓argEnv_zero, ↓argEnv_succ, *]; done)), rfl, by omega, hnd, mem_no hm hg hno, rfl⟩
  | true =>
  rw [hv] at kv
  cases hpr : (proveT l (i : Int) r).2 with
  | false =>
   have hno : goodT ps l log i r = true → r.frm ∈ acc := fun h => by
    unfold goodT at h
    rw [hpr, Bool.and_false] at h
    cases h
   rw [hpr] at kp
   generalize (proveT l (i : Int) r).1 = gr at *
   refine runf (an @s0 (an @s2 (an @s3 (an @s11 (an @s12 (an @s23 (an @s24 (an @s25 (an @hlti (an @hg (an @hszr (an @hT1 (an @hT2 (an @q1 @hj)))))))))))))) ?_
   refine cp kv ?_
   refine runf (an @s0 (an @s2 (an @s3 (an @s11 (an @s12 (an @s23 (an @s24 (an @s25 @hT1)))))))) ?_
   refine cp kp ?_
   refine runf (an @s0 (an @s2 (an @s3 (an @s11 (an @s12 (an @s23 (an @s24 (an @s25 (an @hT1 (an @hT2 (an @hT3 (an @hT4 @hT5)))))))))))) ?_
   exact round_mk (rs.length - (k + 1)) (by omega) ⟨(by first | rfl | (simp only [↓upd_apply, ↓put_some, ↓reduceIte, Nat.reduceEqDiff, ↓argEnv_zero, ↓argEnv_succ, *]; done)), (by first | rfl | (simp only [↓upd_apply, ↓put_some, ↓reduceIte, Nat.reduceEqDiff, ↓argEnv_zero, ↓argEnv_succ, *]; done)), (by first | rfl | (simp only [↓upd_apply, ↓put_some, ↓reduceIte, Nat.reduceEqDiff, ↓argEnv_zero, ↓argEnv_succ, *]; done)), (by first | rfl | (simp only [↓upd_apply, ↓put_some, ↓reduceIte, Nat.reduceEqDiff, ↓argEnv_zero, ↓argEnv_succ, *]; done)), (by first | rfl | (simp only [↓upd_apply, ↓put_some, ↓reduceIte, Nat.reduceEqDiff, ↓argEnv_zero, ↓argEnv_succ, *]; done)), (by first | rfl | (simp only [↓upd_apply, ↓put_some, ↓reduceIte, Nat.reduceEqDiff, ↓argEnv_zero, ↓argEnv_succ, *]; done)), (by first | rfl | (simp only [↓upd_apply, ↓put_some, ↓reduceIte, Nat.reduceEqDiff, ↓argEnv_zero, ↓argEnv_succ, *]; done)), k + 1, acc, _, (by first | rfl | (simp only [↓upd_apply, ↓put_some, ↓reduceIte, Nat.reduceEqDiff, ↓argEnv_zero, ↓argEnv_succ, *]; done)), rfl, by omega, hnd, mem_no hm hg hno, rfl⟩
  | true =>
   have hy : goodT ps l log i r = true := by
    unfold goodT
    rw [hpr, hv, decide_eq_true c1]
    rfl
   rw [hpr] at kp
   generalize (proveT l (i : Int) r).1 = gr at *
   refine runf (an @s0 (an @s2 (an @s3 (an @s11 (an @s12 (an @s23 (an @s24 (an @s25 (an @hlti (an @hg (an @hszr (an @hT1 (an @hT2 (an @q1 @hj)))))))))))))) ?_
   refine cp kv ?_
   refine runf (an @s0 (an @s2 (an @s3 (an @s11 (an @s12 (an @s23 (an @s24 (an @s25 @hT1)))))))) ?_
   refine cp kp ?_
   refine runf (an @s0 (an @s2 (an @s3 (an @s11 (an @s12 (an @s23 (an @s24 (an @s25 (an @hT1 (an @hT2 (an @hT3 (an @hT4 (an @hT5 @hj))))))))))))) ?_
   exact round_mk (rs.length - (k + 1)) (by omega) ⟨(by first | rfl | (simp only [↓upd_apply, ↓put_some, ↓reduceIte, Nat.reduceEqDiff, ↓argEnv_zero, ↓argEnv_succ, *]; done)), (by first | rfl | (simp only [↓upd_apply, ↓put_some, ↓reduceIte, Nat.reduceEqDiff, ↓argEnv_zero, ↓argEnv_succ, *]; done)), (by first | rfl | (simp only [↓upd_apply, ↓put_some, ↓reduceIte, Nat.reduceEqDiff, ↓argEnv_zero, ↓argEnv_succ, *]; done)), (by first | rfl | (simp only [↓upd_apply, ↓put_some, ↓reduceIte, Nat.reduceEqDiff, ↓argEnv_zero, ↓argEnv_succ, *]; done)), (by first | rfl | (simp only [↓upd_apply, ↓put_some, ↓reduceIte, Nat.reduceEqDiff, ↓argEnv_zero, ↓argEnv_succ, *]; done)), (by first | rfl | (simp only [↓upd_apply, ↓put_some, ↓reduceIte, Nat.reduceEqDiff, ↓argEnv_zero, ↓argEnv_succ, *]; done)), (by first | rfl | (simp only [↓upd_apply, ↓put_some, ↓reduceIte, Nat.reduceEqDiff, ↓argEnv_zero, ↓argEnv_succ, *]; done)), k + 1, acc ++ [r.frm], _, (by first | rfl | (simp only [↓upd_apply, ↓put_some, ↓reduceIte, Nat.reduceEqDiff, ↓argEnv_zero, ↓argEnv_succ, *]; done)), by rw [keyM, List.map_append]; rfl, by omega, by rw [List.nodup_append]; exact ⟨hnd, by simp, fun a ha b hb e => c2 (by rw [List.mem_singleton] at hb; rw [← hb, ← e]; exact ha)⟩, mem_yes hm hg hy, rfl⟩
 ·have hlti : ¬ (k : Int) < (rs.length : Int) := by omega
  have hkl : rs.take k = rs := List.take_of_length_le (by omega)
  rw [hkl] at hm
  have hrng : ∀ s ∈ acc, 0 ≤ s ∧ s < (ps.length : Int) := fun s hs => by
   obtain ⟨r, _, rfl, hg⟩ := (hm s).1 hs
   unfold goodT at hg
   simp only [Bool.and_eq_true] at hg
   exact verify_frm hg.1.2
  have hap := answered_perm hi hd hf hnd hm
  have hal : acc.length ≤ 1000000 := by
   have h1 := hap.1.length_eq
   have h2 := answered_le ps id l log rs
   omega
  rw [← answered_sorted hap]
  refine runf (an @s0 (an @s2 (an @s3 (an @s11 (an @s12 (an @s23 (an @s24 (an @s25 @hlti)))))))) ?_
  refine call_mk (keys_at (l := 1) (acc := acc) rfl) ?_
  refine run ?_
  refine call_mk (sorted_at 1 (T.length + 1 + 1) (by omega) hnd hal (fun s hs => by have := hrng s hs; omega) rfl (by simp)) ?_
  refine run ?_
  exact er0w
end Go.Proofs.YtaphpbiaoofmkaaGreatDoor.Pe
end
section
namespace Go.Proofs.YtaphpbiaoofmkaaGreatDoor.Pe
open Go Go.RowKit Co Sg Ac It Sl
set_option maxRecDepth 100000
set_option maxHeartbeats 4000000
theorem tl0 (T : Store) (o : SObj) : (T ++ [o])[T.length]? = some o := by simp
theorem tl0s (T : Store) (o o' : SObj) : (T ++ [o]).set T.length o' = T ++ [o'] := by simp
theorem key_range (s : By) : -9223372036854775808 ≤ (keySeed s).secret ∧ (keySeed s).secret ≤ 9223372036854775807 := by
 have := Key.right_iff.1 (keySeed_right s)
 omega
theorem pub_in {k : Key} (h : k.right = true) : -9223372036854775808 ≤ k.pub ∧ k.pub ≤ 9223372036854775807 := by
 have := pub_range h
 omega
theorem signA_lens2 (k : Key) (a : Ac.Act) : (signA k a).to.length ≤ a.to.length ∧ (signA k a).wraps.length ≤ a.wraps.length := by
 unfold signA
 simp only
 split
 ·exact ⟨Nat.le_refl _, Nat.le_refl _⟩
 ·exact ⟨Nat.zero_le _, Nat.zero_le _⟩
theorem szdel (id : By) : Sz (delA id) := ⟨by show (16 : Nat) ≤ _; decide, Nat.zero_le _, Nat.zero_le _, Nat.zero_le _, fun s hs => (by cases hs), Nat.zero_le _, Nat.zero_le _⟩
theorem deletion29_c (id : By) : AC Tryz.prog 155 [.st id] [] (entryV (delE id)) [] := by
 refine AC.enter2 [145, 154, 14, 57] [] Tryz.func155 rfl (by decide) (by decide) (Nat.le_of_ble_eq_true rfl) (by kernel_rfl) ?_; simp only [eraseC, eraseO, List.map_cons, List.map_nil, List.map_toArray, List.getElem?_toArray, List.getElem?_cons_zero, List.getElem?_cons_succ, Option.bind_some, Option.bind_none, List.append_eq, List.cons_append, List.nil_append]
 have k1 := sha_c [] (by decide)
 have k2 := keySeed_c [97] (by decide)
 have k3 := signA_c (keySeed [97]) (delA id) (szdel id) (key_range [97])
 have hl := signA_lens2 (keySeed [97]) (delA id)
 have k4' := ofAct_c (signA (keySeed [97]) (delA id)) (Nat.le_trans hl.1 (Nat.zero_le _)) (Nat.le_trans hl.2 (Nat.zero_le _))
 unfold delE
 generalize signA (keySeed [97]) (delA id) = a at *
 generalize keySeed [97] = k at *
 unfold delA at k3
 generalize Sm.sha [] = z at *
 refine run ?_
 refine cp k1 ?_
 refine run ?_
 refine cp k2 ?_
 refine run ?_
 refine cp k3 ?_
 refine run ?_
 refine cp k4' ?_
 refine run ?_
 exact er0w
def light29 (l : List It.Entry) : Bool := (l.all fun e => decide (e.item.act.to.length ≤ 100) && decide (e.item.act.wraps.length ≤ 100) && decide (e.item.decision.to.length ≤ 100)) && decide (l.length ≤ 20)
theorem light29_c (l : List It.Entry) (hl : l.length ≤ 140737488351232) : AC Tryz.prog 68 [entriesV l] [] (.bo (light29 l)) [] := by
 refine AC.enter [] [] Tryz.func68 rfl (by decide) (by decide) (Nat.le_of_ble_eq_true rfl) (by kernel_rfl) ?_; simp only [eraseC, eraseO, List.map_cons, List.map_nil, List.map_toArray, List.getElem?_toArray, List.getElem?_cons_zero, List.getElem?_cons_succ, Option.bind_some, Option.bind_none, List.append_eq, List.cons_append, List.nil_append]
 unfold light29
 have hsz := entries_sz l
 obtain ⟨sh, hsh⟩ : ∃ sh : It.Entry → Bool, sh = fun e => decide (e.item.act.to.length ≤ 100) && decide (e.item.act.wraps.length ≤ 100) && decide (e.item.decision.to.length ≤ 100) := ⟨_, rfl⟩
 rw [← hsh]
 refine run ?_
 refine loop_mk (fun m e S => e 0 = entriesV l ∧ ∃ (k : Nat) (T : Store), e 3 = .it .i64 (k : Int) ∧ S = T ∧ k ≤ l.length ∧ (l.take k).all sh = true ∧ m = l.length - k) l.length
  ⟨(by first | rfl | (simp only [↓upd_apply, ↓put_some, ↓reduceIte, Nat.reduceEqDiff, ↓argEnv_zero, ↓argEnv_succ, *]; done)), 0, [], (by first | rfl | (simp only [↓upd_apply, ↓put_some, ↓reduceIte, Nat.reduceEqDiff, ↓argEnv_zero, ↓argEnv_succ, *]; done)), rfl, by omega, rfl, rfl⟩ ?_
 rintro m e S ⟨s0, k, T, s3, rfl, hk, hall, rfl⟩
 by_cases hlt : k < l.length
 rotate_left
 ·obtain rfl : k = l.length := by omega
  rw [List.take_length] at hall
  rw [hall]
  have hx : ¬ ((l.length : Nat) : Int) < (l.length : Int) := by omega
  by_cases c1 : l.length ≤ 20
  ·have c1' : (l.length : Int) ≤ 20 := by omega
   rw [decide_eq_true c1]
   refine runf (an @s0 (an @s3 (an @hx @c1'))) ?_
   exact er0
  ·have c1' : ¬ (l.length : Int) ≤ 20 := by omega
   rw [decide_eq_false c1]
   refine runf (an @s0 (an @s3 (an @hx @c1'))) ?_
   exact er0
 have hg : l[k]? = some l[k] := List.getElem?_eq_getElem hlt
 have hstep : l.take (k + 1) = l.take k ++ [l[k]] := List.take_succ_eq_append_getElem hlt
 have hbad : sh l[k] = false → l.all sh = false := fun h => List.all_eq_false.2 ⟨l[k], List.getElem_mem hlt, by simp [h]⟩
 generalize l[k] = x at *
 have hun : sh x = (decide (x.item.act.to.length ≤ 100) && decide (x.item.act.wraps.length ≤ 100) && decide (x.item.decision.to.length ≤ 100)) := by rw [hsh]
 by_cases d1 : x.item.act.to.length ≤ 100
 rotate_left
 ·have d1' : (100 : Int) < (x.item.act.to.length : Int) := by omega
  rw [hbad (by rw [hun, decide_eq_false d1]; simp), Bool.false_and]
  refine runf (an @s0 (an @s3 (an @hg (an @hsz (an @tl0 (an @tl0s @d1')))))) ?_
  exact er0
 have d1' : ¬ (100 : Int) < (x.item.act.to.length : Int) := by omega
 by_cases d2 : x.item.act.wraps.length ≤ 100
 rotate_left
 ·have d2' : (100 : Int) < (x.item.act.wraps.length : Int) := by omega
  rw [hbad (by rw [hun, decide_eq_false d2]; simp), Bool.false_and]
  refine runf (an @s0 (an @s3 (an @hg (an @hsz (an @tl0 (an @tl0s (an @d1' @d2'))))))) ?_
  exact er0
 have d2' : ¬ (100 : Int) < (x.item.act.wraps.length : Int) := by omega
 by_cases d3 : x.item.decision.to.length ≤ 100
 rotate_left
 ·have d3' : (100 : Int) < (x.item.decision.to.length : Int) := by omega
  rw [hbad (by rw [hun, decide_eq_false d3]; simp), Bool.false_and]
  refine runf (an @s0 (an @s3 (an @hg (an @hsz (an @tl0 (an @tl0s (an @d1' (an @d2' @d3')))))))) ?_
  exact er0
 have d3' : ¬ (100 : Int) < (x.item.decision.to.length : Int) := by omega
 have hs : sh x = true := by rw [hun, decide_eq_true d1, decide_eq_true d2, decide_eq_true d3]; rfl
 refine runf (an @s0 (an @s3 (an @hg (an @hsz (an @tl0 (an @tl0s (an @d1' (an @d2' @d3')))))))) ?_
 exact round_mk (l.length - (k + 1)) (by omega) ⟨(by first | rfl | (simp only [↓upd_apply, ↓put_some, ↓reduceIte, Nat.reduceEqDiff, ↓argEnv_zero, ↓argEnv_succ, *]; done)), k + 1, _, (by first | rfl | (simp only [↓upd_apply, ↓put_some, ↓reduceIte, Nat.reduceEqDiff, ↓argEnv_zero, ↓argEnv_succ, *]; done)), rfl, by omega, by rw [hstep, List.all_append, hall]; simp [hs], rfl⟩
abbrev keysV (l : List Key) : AV := .sl .ro (l.map keyV)
def srv (seed : By) (c : UInt8) : Key := keySeed (seed ++ [c])
theorem servers29_c (seed : By) (hs : seed.length ≤ 100) : AC Tryz.prog 77 [.st seed] [] (.tup [keysV [srv seed 48, srv seed 49, srv seed 50], intsV [(srv seed 48).pub, (srv seed 49).pub, (srv seed 50).pub]]) [] := by
 refine AC.enter2 [154] [] Tryz.func77 rfl (by decide) (by decide) (Nat.le_of_ble_eq_true rfl) (by kernel_rfl) ?_; simp only [eraseC, eraseO, List.map_cons, List.map_nil, List.map_toArray, List.getElem?_toArray, List.getElem?_cons_zero, List.getElem?_cons_succ, Option.bind_some, Option.bind_none, List.append_eq, List.cons_append, List.nil_append]
 have hl : ∀ c, (seed ++ [c]).length ≤ 100000000 := fun c => by rw [List.length_append, List.length_singleton]; omega
 have k0 := keySeed_c (seed ++ [48]) (hl 48)
 have k1 := keySeed_c (seed ++ [49]) (hl 49)
 have k2 := keySeed_c (seed ++ [50]) (hl 50)
 unfold srv
 generalize keySeed (seed ++ [48]) = a at *
 generalize keySeed (seed ++ [49]) = b at *
 generalize keySeed (seed ++ [50]) = c at *
 refine run ?_
 refine cp k0 ?_
 refine run ?_
 refine cp k1 ?_
 refine run ?_
 refine cp k2 ?_
 refine run ?_
 exact er0w
theorem del_bytes (e : It.Entry) (id : By) : delT e id = (decide (entryB e ≠ []) && decide (e.item.kind = 0) && decide (e.item.act.kind = 13) && decide (e.item.act.object = id)) := by
 have hn := entryB_ne (e := e)
 unfold isTime at hn
 unfold delT
 by_cases hb : entryB e = []
 ·rw [decide_eq_false (show ¬ entryB e ≠ [] from fun h => h hb)]
  cases h1 : wi e.time 0 1099511627776
  ·simp
  ·cases h2 : It.right e.item
   ·simp
   ·exact absurd hb (hn.2 ⟨h1, h2⟩)
 ·obtain ⟨h1, h2⟩ := hn.1 hb
  rw [decide_eq_true (show entryB e ≠ [] from hb), h1, h2, Bool.and_true]
theorem deleted29_c (l : List It.Entry) (id : By) (hl : l.length ≤ 1000000) (hz : ∀ e ∈ l, Iz e.item) : AC Tryz.prog 79 [entriesV l, .st id] [] (.bo (delL l id)) [] := by
 refine AC.enter2 [45] [] Tryz.func79 rfl (by decide) (by decide) (Nat.le_of_ble_eq_true rfl) (by kernel_rfl) ?_; simp only [eraseC, eraseO, List.map_cons, List.map_nil, List.map_toArray, List.getElem?_toArray, List.getElem?_cons_zero, List.getElem?_cons_succ, Option.bind_some, Option.bind_none, List.append_eq, List.cons_append, List.nil_append]
 have hsz := entries_sz l
 obtain ⟨q, hq⟩ : ∃ q, delL l id = q := ⟨_, rfl⟩
 rw [hq]
 unfold delL at hq
 refine run ?_
 refine loop_mk (fun m e S => e 0 = entriesV l ∧ e 1 = .st id ∧ ∃ (k : Nat) (T : Store), e 5 = .it .i64 (k : Int) ∧ S = T ∧ k ≤ l.length ∧ (l.take k).any (fun e => delT e id) = false ∧ m = l.length - k) l.length
  ⟨(by first | rfl | (simp only [↓upd_apply, ↓put_some, ↓reduceIte, Nat.reduceEqDiff, ↓argEnv_zero, ↓argEnv_succ, *]; done)), (by first | rfl | (simp only [↓upd_apply, ↓put_some, ↓reduceIte, Nat.reduceEqDiff, ↓argEnv_zero, ↓argEnv_succ, *]; done)), 0, [], (by first | rfl | (simp only [↓upd_apply, ↓put_some, ↓reduceIte, Nat.reduceEqDiff, ↓argEnv_zero, ↓argEnv_succ, *]; done)), rfl, by omega, rfl, rfl⟩ ?_
 rintro m e S ⟨s0, s1, k, T, s5, rfl, hk, hall, rfl⟩
 by_cases hlt : k < l.length
 rotate_left
 ·have hlti : ¬ (k : Int) < (l.length : Int) := by omega
  rw [List.take_of_length_le (by omega), hq] at hall
  subst hall
  refine runf (an @s0 (an @s1 (an @s5 @hlti))) ?_
  exact er0
 have hlti : (k : Int) < (l.length : Int) := by omega
 have hg : l[k]? = some l[k] := List.getElem?_eq_getElem hlt
 have hstep : l.take (k + 1) = l.take k ++ [l[k]] := List.take_succ_eq_append_getElem hlt
 have hyes : delT l[k] id = true → q = true := fun h => by rw [← hq, List.any_eq_true]; exact ⟨l[k], List.getElem_mem hlt, h⟩
 have hzk := hz l[k] (List.getElem_mem hlt)
 generalize l[k] = x at *
 have kb := entryBytes_c x hzk
 have hun := del_bytes x id
 have hno : delT x id = false → (l.take (k + 1)).any (fun e => delT e id) = false := fun h => by rw [hstep, List.any_append, hall]; simp [h]
 generalize entryB x = b at *
 by_cases hb : b = []
 ·have hbq : (b == []) = true := by rw [hb]; rfl
  rw [decide_eq_false (show ¬ b ≠ [] from fun h => h hb)] at hun
  refine runf (an @s0 (an @s1 (an @s5 (an @hlti (an @hg (an @hsz (an @tl0 @tl0s))))))) ?_
  refine cp kb ?_
  refine runf (an @s0 (an @s1 (an @s5 @hbq))) ?_
  exact round_mk (l.length - (k + 1)) (by omega) ⟨(by first | rfl | (simp only [↓upd_apply, ↓put_some, ↓reduceIte, Nat.reduceEqDiff, ↓argEnv_zero, ↓argEnv_succ, *]; done)), (by first | rfl | (simp only [↓upd_apply, ↓put_some, ↓reduceIte, Nat.reduceEqDiff, ↓argEnv_zero, ↓argEnv_succ, *]; done)), k + 1, _, (by first | rfl | (simp only [↓upd_apply, ↓put_some, ↓reduceIte, Nat.reduceEqDiff, ↓argEnv_zero, ↓argEnv_succ, *]; done)), rfl, by omega, hno hun, rfl⟩
 have hbq : (b == []) = false := nilI b [] hb
 rw [decide_eq_true (show b ≠ [] from hb), Bool.true_and] at hun
 by_cases c3 : x.item.kind = 0
 rotate_left
 ·have q3 : (x.item.kind == 0) = false := beqF c3
  rw [decide_eq_false c3] at hun
  refine runf (an @s0 (an @s1 (an @s5 (an @hlti (an @hg (an @hsz (an @tl0 @tl0s))))))) ?_
  refine cp kb ?_
  refine runf (an @s0 (an @s1 (an @s5 (an @hbq (an @tl0 (an @tl0s @q3)))))) ?_
  exact round_mk (l.length - (k + 1)) (by omega) ⟨(by first | rfl | (simp only [↓upd_apply, ↓put_some, ↓reduceIte, Nat.reduceEqDiff, ↓argEnv_zero, ↓argEnv_succ, *]; done)), (by first | rfl | (simp only [↓upd_apply, ↓put_some, ↓reduceIte, Nat.reduceEqDiff, ↓argEnv_zero, ↓argEnv_succ, *]; done)), k + 1, _, (by first | rfl | (simp only [↓upd_apply, ↓put_some, ↓reduceIte, Nat.reduceEqDiff, ↓argEnv_zero, ↓argEnv_succ, *]; done)), rfl, by omega, hno hun, rfl⟩
 have q3 : (x.item.kind == 0) = true := by rw [c3]; rfl
 rw [decide_eq_true c3, Bool.true_and] at hun
 by_cases c4 : x.item.act.kind = 13
 rotate_left
 ·have q4 : (x.item.act.kind == 13) = false := beqF c4
  rw [decide_eq_false c4] at hun
  refine runf (an @s0 (an @s1 (an @s5 (an @hlti (an @hg (an @hsz (an @tl0 @tl0s))))))) ?_
  refine cp kb ?_
  refine runf (an @s0 (an @s1 (an @s5 (an @hbq (an @tl0 (an @tl0s (an @q3 @q4))))))) ?_
  exact round_mk (l.length - (k + 1)) (by omega) ⟨(by first | rfl | (simp only [↓upd_apply, ↓put_some, ↓reduceIte, Nat.reduceEqDiff, ↓argEnv_zero, ↓argEnv_succ, *]; done)), (by first | rfl | (simp only [↓upd_apply, ↓put_some, ↓reduceIte, Nat.reduceEqDiff, ↓argEnv_zero, ↓argEnv_succ, *]; done)), k + 1, _, (by first | rfl | (simp only [↓upd_apply, ↓put_some, ↓reduceIte, Nat.reduceEqDiff, ↓argEnv_zero, ↓argEnv_succ, *]; done)), rfl, by omega, hno hun, rfl⟩
 have q4 : (x.item.act.kind == 13) = true := by rw [c4]; rfl
 rw [decide_eq_true c4, Bool.true_and] at hun
 by_cases c5 : x.item.act.object = id
 rotate_left
 ·have q5 : (x.item.act.object == id) = false := nilI _ _ c5
  rw [decide_eq_false c5] at hun
  refine runf (an @s0 (an @s1 (an @s5 (an @hlti (an @hg (an @hsz (an @tl0 @tl0s))))))) ?_
  refine cp kb ?_
  refine runf (an @s0 (an @s1 (an @s5 (an @hbq (an @tl0 (an @tl0s (an @q3 (an @q4 @q5)))))))) ?_
  exact round_mk (l.length - (k + 1)) (by omega) ⟨(by first | rfl | (simp only [↓upd_apply, ↓put_some, ↓reduceIte, Nat.reduceEqDiff, ↓argEnv_zero, ↓argEnv_succ, *]; done)), (by first | rfl | (simp only [↓upd_apply, ↓put_some, ↓reduceIte, Nat.reduceEqDiff, ↓argEnv_zero, ↓argEnv_succ, *]; done)), k + 1, _, (by first | rfl | (simp only [↓upd_apply, ↓put_some, ↓reduceIte, Nat.reduceEqDiff, ↓argEnv_zero, ↓argEnv_succ, *]; done)), rfl, by omega, hno hun, rfl⟩
 have q5 : (x.item.act.object == id) = true := by rw [c5]; exact beq_self_eq_true _
 rw [decide_eq_true c5] at hun
 obtain rfl := hyes hun
 refine runf (an @s0 (an @s1 (an @s5 (an @hlti (an @hg (an @hsz (an @tl0 @tl0s))))))) ?_
 refine cp kb ?_
 refine runf (an @s0 (an @s1 (an @s5 (an @hbq (an @tl0 (an @tl0s (an @q3 (an @q4 @q5)))))))) ?_
 exact er0
end Go.Proofs.YtaphpbiaoofmkaaGreatDoor.Pe
end
