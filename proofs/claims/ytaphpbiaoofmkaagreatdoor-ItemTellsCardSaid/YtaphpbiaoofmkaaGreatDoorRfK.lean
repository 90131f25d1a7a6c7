/- The reference of layer 12 on plain values: which activities are right. Printed by tools/mkrfk.py. -/
import Derived.Test.YtaphpbiaoofmkaaGreatDoorAcW
import Derived.Test.YtaphpbiaoofmkaaGreatDoorRfF
import Derived.Test.YtaphpbiaoofmkaaGreatDoorPeX
set_option linter.unusedSectionVars false
set_option linter.unusedVariables false
set_option linter.unusedSimpArgs false
namespace Go.Proofs.YtaphpbiaoofmkaaGreatDoor.Pe
open Go Go.RowKit Co Sg Ac
set_option maxRecDepth 100000
set_option maxHeartbeats 4000000
theorem pubF (n : Int) : pub n = (decide (1 ≤ n) && decide (n < 2305843009213693951)) := by
 unfold pub wi
 rw [show decide (n ≤ 2305843009213693950) = decide (n < 2305843009213693951) by rw [Bool.eq_iff_iff]; simp only [decide_eq_true_eq]; omega]
theorem fpub_c (n : Int) : AC Tryz.prog 227 [.it .i64 n] [] (.bo (pub n)) [] := by
 refine AC.enter2 [] [] Tryz.func227 rfl (by decide) (by decide) (Nat.le_of_ble_eq_true rfl) (by kernel_rfl) ?_; simp only [eraseC, eraseO, List.map_cons, List.map_nil, List.map_toArray, List.getElem?_toArray, List.getElem?_cons_zero, List.getElem?_cons_succ, Option.bind_some, Option.bind_none, List.append_eq, List.cons_append, List.nil_append]
 rw [pubF]
 by_cases h : 1 ≤ n
 ·rw [decide_eq_true h]
  refine run ?_
  exact er0
 ·rw [decide_eq_false h]
  refine run ?_
  exact er0
theorem fboxed_c (b : Box) : AC Tryz.prog 280 [boxV b] [] (.bo (sealedB b)) [] := by
 refine AC.enter2 [] [] Tryz.func280 rfl (by decide) (by decide) (Nat.le_of_ble_eq_true rfl) (by kernel_rfl) ?_; simp only [eraseC, eraseO, List.map_cons, List.map_nil, List.map_toArray, List.getElem?_toArray, List.getElem?_cons_zero, List.getElem?_cons_succ, Option.bind_some, Option.bind_none, List.append_eq, List.cons_append, List.nil_append]
 unfold sealedB
 rw [short_eq]
 by_cases h1 : b.nonce.length = 32
 ·rw [decide_eq_true h1]
  by_cases h2 : b.tag.length = 16
  ·rw [decide_eq_true h2]
   refine run ?_
   exact er0
  ·rw [decide_eq_false h2]
   refine run ?_
   exact er0
 ·rw [decide_eq_false h1]
  refine run ?_
  exact er0
theorem fempty_c (b : Box) : AC Tryz.prog 279 [boxV b] [] (.bo (decide (b = box0))) [] := by
 refine AC.enter2 [] [] Tryz.func279 rfl (by decide) (by decide) (Nat.le_of_ble_eq_true rfl) (by kernel_rfl) ?_; simp only [eraseC, eraseO, List.map_cons, List.map_nil, List.map_toArray, List.getElem?_toArray, List.getElem?_cons_zero, List.getElem?_cons_succ, Option.bind_some, Option.bind_none, List.append_eq, List.cons_append, List.nil_append]
 rw [box0_eq]
 cases h1 : (b.nonce == []) with
 | false =>
  refine runf @h1 ?_
  exact er0
 | true =>
  cases h2 : (b.data == []) with
  | false =>
   refine runf (an @h1 @h2) ?_
   exact er0
  | true =>
   refine runf (an @h1 @h2) ?_
   exact er0
theorem fwrapped_c (a : Ac.Act) (hw : a.wraps.length ≤ 140737488355328) : AC Tryz.prog 233 [actV a] [] (.bo (wrapped a)) [] := by
 refine AC.enter2 [227, 280] [] Tryz.func233 rfl (by decide) (by decide) (Nat.le_of_ble_eq_true rfl) (by kernel_rfl) ?_; simp only [eraseC, eraseO, List.map_cons, List.map_nil, List.map_toArray, List.getElem?_toArray, List.getElem?_cons_zero, List.getElem?_cons_succ, Option.bind_some, Option.bind_none, List.append_eq, List.cons_append, List.nil_append]
 unfold wrapped
 have hsz : allSz 5 (a.wraps.map wrapV) = true := allSz_map 5 wrapV (fun _ => rfl) _
 refine run ?_
 refine loop_mk (fun m e S => e 1 = .ptr 0 0 ∧ ∃ (k : Nat) (T : Store), e 3 = .it .i64 (k : Int) ∧ S = .cells (actL a) :: T ∧ k ≤ a.wraps.length ∧ (∀ j (h : j < a.wraps.length), j < k → wrapR a.wraps[j] = true) ∧ m = a.wraps.length - k) (a.wraps.length)
  ⟨(by first | rfl | (simp only [↓upd_apply, ↓put_some, ↓reduceIte, Nat.reduceEqDiff, ↓argEnv_zero, ↓argEnv_succ, *]; done)), 0, [], (by first | rfl | (simp only [↓upd_apply, ↓put_some, ↓reduceIte, Nat.reduceEqDiff, ↓argEnv_zero, ↓argEnv_succ, *]; done)), rfl, by omega, fun j _ h => absurd h (Nat.not_lt_zero _), rfl⟩ ?_
 rintro m e S ⟨s1, k, T, s3, rfl, hk, hall, rfl⟩
 by_cases hlt : k < a.wraps.length
 rotate_left
 ·obtain rfl : k = a.wraps.length := by omega
  have h1 : a.wraps.all wrapR = true := List.all_eq_true.2 fun x hx => by
   obtain ⟨j, hj, rfl⟩ := List.getElem_of_mem hx
   exact hall j hj hj
  have h2 : decide (a.wraps.length = a.to.length) = ((a.wraps.length : Int) == (a.to.length : Int)) := by
   rw [Bool.eq_iff_iff]
   simp only [decide_eq_true_eq, beq_iff_eq]
   omega
  rw [h1, h2]
  have hx : ¬ ((a.wraps.length : Nat) : Int) < (a.wraps.length : Int) := by omega
  refine runf (an @s1 (an @s3 @hx)) ?_
  exact er0
 have hg : a.wraps[k]? = some a.wraps[k] := List.getElem?_eq_getElem hlt
 have hbad : wrapR a.wraps[k] = false → a.wraps.all wrapR = false := fun h => List.all_eq_false.2 ⟨_, List.getElem_mem hlt, by simp [h]⟩
 have hnext : wrapR a.wraps[k] = true → ∀ j (h : j < a.wraps.length), j < k + 1 → wrapR a.wraps[j] = true := fun hb j h hj => by
  by_cases e : j = k
  ·subst e; exact hb
  ·exact hall j h (by omega)
 generalize a.wraps[k] = x at *
 have hT1 : ∀ y : SObj, (T ++ [y])[T.length]? = some y := fun y => by simp
 have hT2 : ∀ y z : SObj, (T ++ [y]).set T.length z = T ++ [z] := fun y z => by simp
 have hwx : wrapR x = (pub x.to && pub x.eph && sealedB x.box) := rfl
 rw [hwx] at hbad hnext
 refine runf (an @s1 (an @s3 (an @hg (an @hsz (an @hT1 @hT2))))) ?_
 refine cp (fpub_c x.to) ?_
 cases h1 : pub x.to with
 | false =>
  rw [h1] at hbad
  rw [hbad rfl]
  refine runf (an @s1 (an @s3 (an @hT1 @hT2))) ?_
  exact er0
 | true =>
  refine runf (an @s1 (an @s3 (an @hT1 @hT2))) ?_
  refine cp (fpub_c x.eph) ?_
  cases h2 : pub x.eph with
  | false =>
   rw [h1, h2] at hbad
   rw [hbad rfl]
   refine runf (an @s1 (an @s3 (an @hT1 @hT2))) ?_
   exact er0
  | true =>
   refine runf (an @s1 (an @s3 (an @hT1 @hT2))) ?_
   refine cp (fboxed_c x.box) ?_
   cases h3 : sealedB x.box with
   | false =>
    rw [h1, h2, h3] at hbad
    rw [hbad rfl]
    refine runf (an @s1 (an @s3 (an @hT1 @hT2))) ?_
    exact er0
   | true =>
    refine runf (an @s1 (an @s3 (an @hT1 @hT2))) ?_
    exact round_mk (a.wraps.length - (k + 1)) (by omega) ⟨(by first | rfl | (simp only [↓upd_apply, ↓put_some, ↓reduceIte, Nat.reduceEqDiff, ↓argEnv_zero, ↓argEnv_succ, *]; done)), k + 1, T ++ [.cells (wrapV x).cells], (by first | rfl | (simp only [↓upd_apply, ↓put_some, ↓reduceIte, Nat.reduceEqDiff, ↓argEnv_zero, ↓argEnv_succ, *]; done)), rfl, by omega, hnext (by rw [h1, h2, h3]; rfl), rfl⟩
def groupF (a : Ac.Act) : Bool := if a.scope = 2 then nameR a.group else decide (a.group = [])
theorem fgroup_c (a : Ac.Act) (h : a.group.length ≤ 140737488355328) : AC Tryz.prog 232 [actV a] [] (.bo (groupF a)) [] := by
 refine AC.enter2 [228] [] Tryz.func232 rfl (by decide) (by decide) (Nat.le_of_ble_eq_true rfl) (by kernel_rfl) ?_; simp only [eraseC, eraseO, List.map_cons, List.map_nil, List.map_toArray, List.getElem?_toArray, List.getElem?_cons_zero, List.getElem?_cons_succ, Option.bind_some, Option.bind_none, List.append_eq, List.cons_append, List.nil_append]
 unfold groupF
 have hn := nilD
 by_cases h2 : a.scope = 2
 ·rw [if_pos h2]
  refine run ?_
  refine cp (fname_c a.group h) ?_
  refine run ?_
  exact er0
 ·rw [if_neg h2]
  refine runf @hn ?_
  exact er0
def audF (a : Ac.Act) : Bool := idsR a.to && groupF a && (if a.scope = 0 then decide (a.epoch = 0) && short a.text && decide (a.body = box0)
 else if a.scope = 3 then wi a.epoch 0 1073741824 && decide (a.text = []) && sealedB a.body
 else if a.scope = 1 ∨ a.scope = 2 then wi a.epoch 0 1073741824 && decide (a.text = []) && sealedB a.body && decide (a.to = []) else false)
theorem audF_eq (a : Ac.Act) : audF a = audience a := by
 unfold audF audience groupF sealedSc
 by_cases h0 : a.scope = 0
 ·simp only [h0, if_true, show ¬ (0 : Int) = 2 by decide, if_false]
  rw [Bool.eq_iff_iff]; simp only [Bool.and_eq_true]; constructor <;> (intro h; simp only [h, and_self])
 by_cases h3 : a.scope = 3
 ·simp only [h3, show ¬ (3 : Int) = 0 by decide, show ¬ (3 : Int) = 2 by decide, if_false, if_true, or_true, decide_true, Bool.or_true, Bool.true_and]
  rw [Bool.eq_iff_iff]; simp only [Bool.and_eq_true]; constructor <;> (intro h; simp only [h, and_self])
 by_cases h1 : a.scope = 1
 ·simp only [h1, show ¬ (1 : Int) = 0 by decide, show ¬ (1 : Int) = 2 by decide, show ¬ (1 : Int) = 3 by decide, if_false, if_true, true_or, decide_false, Bool.or_false]
  rw [Bool.eq_iff_iff]; simp only [Bool.and_eq_true]; constructor <;> (intro h; simp only [h, and_self])
 by_cases h2 : a.scope = 2
 ·simp only [h2, show ¬ (2 : Int) = 0 by decide, show ¬ (2 : Int) = 3 by decide, if_false, if_true, or_true, decide_false, Bool.or_false]
  rw [Bool.eq_iff_iff]; simp only [Bool.and_eq_true]; constructor <;> (intro h; simp only [h, and_self])
 ·simp only [if_neg h0, if_neg h2, if_neg h3, if_neg (show ¬ (a.scope = 1 ∨ a.scope = 2) from fun h => h.elim h1 h2), if_neg (show ¬ (a.scope = 1 ∨ a.scope = 3) from fun h => h.elim h1 h3), Bool.and_false, Bool.false_and]
theorem faudience_c (a : Ac.Act) (h : Sz a) : AC Tryz.prog 229 [actV a] [] (.bo (audience a)) [] := by
 rw [← audF_eq]
 refine AC.enter2 [231, 232, 279, 280] [] Tryz.func229 rfl (by decide) (by decide) (Nat.le_of_ble_eq_true rfl) (by kernel_rfl) ?_; simp only [eraseC, eraseO, List.map_cons, List.map_nil, List.map_toArray, List.getElem?_toArray, List.getElem?_cons_zero, List.getElem?_cons_succ, Option.bind_some, Option.bind_none, List.append_eq, List.cons_append, List.nil_append]
 unfold audF
 have hn := nilD
 have hl := lenD a.to
 have hs := short_eq a.text
 refine run ?_
 refine cp (fids_c a.to h.tos h.to) ?_
 cases c1 : idsR a.to with
 | false =>
  refine run ?_
  exact er0
 | true =>
 refine run ?_
 refine cp (fgroup_c a h.group) ?_
 cases c2 : groupF a with
 | false =>
  refine run ?_
  exact er0
 | true =>
 by_cases h0 : a.scope = 0
 ·rw [if_pos h0]
  by_cases e1 : a.epoch = 0
  rotate_left
  ·rw [decide_eq_false e1]
   refine run ?_
   exact er0
  rw [decide_eq_true e1, hs]
  cases e2 : decide ((a.text.length : Int) ≤ 500) with
  | false =>
   refine runf @e2 ?_
   exact er0
  | true =>
  refine runf @e2 ?_
  refine cp (fempty_c a.body) ?_
  refine run ?_
  exact er0
 rw [if_neg h0]
 by_cases h3 : a.scope = 3
 ·rw [if_pos h3]
  by_cases e1 : 0 ≤ a.epoch
  rotate_left
  ·rw [show wi a.epoch 0 1073741824 = false by unfold wi; rw [decide_eq_false e1]; rfl]
   refine run ?_
   exact er0
  by_cases e2 : a.epoch ≤ 1073741824
  rotate_left
  ·rw [show wi a.epoch 0 1073741824 = false by unfold wi; rw [decide_eq_false e2, Bool.and_false]]
   refine run ?_
   exact er0
  rw [show wi a.epoch 0 1073741824 = true from wi_iff.2 ⟨e1, e2⟩]
  cases e3 : decide (a.text = []) with
  | false =>
   refine runf (an @hn @e3) ?_
   exact er0
  | true =>
  refine runf (an @hn @e3) ?_
  refine cp (fboxed_c a.body) ?_
  refine run ?_
  exact er0
 rw [if_neg h3]
 by_cases h12 : a.scope = 1 ∨ a.scope = 2
 rotate_left
 ·rw [if_neg h12]
  have n1 : ¬ a.scope = 1 := fun h => h12 (.inl h)
  have n2 : ¬ a.scope = 2 := fun h => h12 (.inr h)
  refine run ?_
  exact er0
 rw [if_pos h12]
 rcases h12 with h12 | h12
 ·skip
  by_cases e1 : 0 ≤ a.epoch
  rotate_left
  ·rw [show wi a.epoch 0 1073741824 = false by unfold wi; rw [decide_eq_false e1]; rfl]
   refine run ?_
   exact er0
  by_cases e2 : a.epoch ≤ 1073741824
  rotate_left
  ·rw [show wi a.epoch 0 1073741824 = false by unfold wi; rw [decide_eq_false e2, Bool.and_false]]
   refine run ?_
   exact er0
  rw [show wi a.epoch 0 1073741824 = true from wi_iff.2 ⟨e1, e2⟩]
  cases e3 : decide (a.text = []) with
  | false =>
   refine runf (an @hn @e3) ?_
   exact er0
  | true =>
  refine runf (an @hn @e3) ?_
  refine cp (fboxed_c a.body) ?_
  cases e4 : sealedB a.body with
  | false =>
   refine run ?_
   exact er0
  | true =>
  refine runf @hl ?_
  exact er0
 ·skip
  by_cases e1 : 0 ≤ a.epoch
  rotate_left
  ·rw [show wi a.epoch 0 1073741824 = false by unfold wi; rw [decide_eq_false e1]; rfl]
   refine run ?_
   exact er0
  by_cases e2 : a.epoch ≤ 1073741824
  rotate_left
  ·rw [show wi a.epoch 0 1073741824 = false by unfold wi; rw [decide_eq_false e2, Bool.and_false]]
   refine run ?_
   exact er0
  rw [show wi a.epoch 0 1073741824 = true from wi_iff.2 ⟨e1, e2⟩]
  cases e3 : decide (a.text = []) with
  | false =>
   refine runf (an @hn @e3) ?_
   exact er0
  | true =>
  refine runf (an @hn @e3) ?_
  refine cp (fboxed_c a.body) ?_
  cases e4 : sealedB a.body with
  | false =>
   refine run ?_
   exact er0
  | true =>
  refine runf @hl ?_
  exact er0
def bareA (a : Ac.Act) : Ac.Act := { a with scope := 0, group := [], to := [], text := [], body := box0, epoch := 0 }
theorem fbare_c (a : Ac.Act) : AC Tryz.prog 230 [actV a] [] (actV (bareA a)) [] := by
 refine AC.enter2 [] [] Tryz.func230 rfl (by decide) (by decide) (Nat.le_of_ble_eq_true rfl) (by kernel_rfl) ?_; simp only [eraseC, eraseO, List.map_cons, List.map_nil, List.map_toArray, List.getElem?_toArray, List.getElem?_cons_zero, List.getElem?_cons_succ, Option.bind_some, Option.bind_none, List.append_eq, List.cons_append, List.nil_append]
 refine run ?_
 exact er0w
def zeroF (a : Ac.Act) : Bool := decide (a.object = []) && decide (a.target = []) && decide (a.scope = 0) && decide (a.group = []) && decide (a.to = []) && decide (a.text = []) && decide (a.body = box0) && decide (a.epoch = 0) && decide (a.wraps = []) && decide (a.n = 0) && decide (a.m = 0)
theorem fzero_c (a : Ac.Act) : AC Tryz.prog 234 [actV a] [] (.bo (zeroF a)) [] := by
 refine AC.enter2 [279] [] Tryz.func234 rfl (by decide) (by decide) (Nat.le_of_ble_eq_true rfl) (by kernel_rfl) ?_; simp only [eraseC, eraseO, List.map_cons, List.map_nil, List.map_toArray, List.getElem?_toArray, List.getElem?_cons_zero, List.getElem?_cons_succ, Option.bind_some, Option.bind_none, List.append_eq, List.cons_append, List.nil_append]
 unfold zeroF
 have hn := nilD
 have hl1 := lenD a.to
 have hl2 := lenD a.wraps
 cases c0 : decide (a.object = []) with
 | false =>
  refine runf (an @hn (an @hl1 (an @hl2 @c0))) ?_
  exact er0
 | true =>
 cases c1 : decide (a.target = []) with
 | false =>
  refine runf (an @hn (an @hl1 (an @hl2 (an @c0 @c1)))) ?_
  exact er0
 | true =>
 by_cases p2 : a.scope = 0
 rotate_left
 ·rw [decide_eq_false p2]
  refine runf (an @hn (an @hl1 (an @hl2 (an @c0 @c1)))) ?_
  exact er0
 rw [decide_eq_true p2]
 cases c3 : decide (a.group = []) with
 | false =>
  refine runf (an @hn (an @hl1 (an @hl2 (an @c0 (an @c1 @c3))))) ?_
  exact er0
 | true =>
 cases c4 : decide (a.to = []) with
 | false =>
  refine runf (an @hn (an @hl1 (an @hl2 (an @c0 (an @c1 (an @c3 @c4)))))) ?_
  exact er0
 | true =>
 cases c5 : decide (a.text = []) with
 | false =>
  refine runf (an @hn (an @hl1 (an @hl2 (an @c0 (an @c1 (an @c3 (an @c4 @c5))))))) ?_
  exact er0
 | true =>
 refine runf (an @hn (an @hl1 (an @hl2 (an @c0 (an @c1 (an @c3 (an @c4 @c5))))))) ?_
 refine cp (fempty_c a.body) ?_
 cases c6 : decide (a.body = box0) with
 | false =>
  refine run ?_
  exact er0
 | true =>
 by_cases p7 : a.epoch = 0
 rotate_left
 ·rw [decide_eq_false p7]
  refine runf (an @hn (an @hl1 (an @hl2 (an @c0 (an @c1 (an @c3 (an @c4 @c5))))))) ?_
  exact er0
 rw [decide_eq_true p7]
 cases c8 : decide (a.wraps = []) with
 | false =>
  refine runf (an @hn (an @hl1 (an @hl2 (an @c0 (an @c1 (an @c3 (an @c4 (an @c5 @c8)))))))) ?_
  exact er0
 | true =>
 by_cases p9 : a.n = 0
 rotate_left
 ·rw [decide_eq_false p9]
  refine runf (an @hn (an @hl1 (an @hl2 (an @c0 (an @c1 (an @c3 (an @c4 (an @c5 @c8)))))))) ?_
  exact er0
 rw [decide_eq_true p9]
 by_cases p10 : a.m = 0
 rotate_left
 ·rw [decide_eq_false p10]
  refine runf (an @hn (an @hl1 (an @hl2 (an @c0 (an @c1 (an @c3 (an @c4 (an @c5 @c8)))))))) ?_
  exact er0
 rw [decide_eq_true p10]
 refine runf (an @hn (an @hl1 (an @hl2 (an @c0 (an @c1 (an @c3 (an @c4 (an @c5 @c8)))))))) ?_
 exact er0
def fitsF (a : Ac.Act) : Bool := match rule a.kind with
 | none => false
 | some r => out a r && r.ok a
theorem right_fits (a : Ac.Act) : Ac.right a = (idR a.author && placed a && wi a.time 0 1099511627776 && sigR a.sig && fitsF a) := by
 unfold Ac.right fitsF
 cases h : rule a.kind with
 | none => rfl
 | some r =>
  have e : decide (Go.bits .andNot .i64 (used a) r.mask = 0) = out a r := mask_eq r _ _ _ _ _ _ _ _ _ _ _
  simp only [e]
theorem wi19 (m : Int) : wi m 0 19 = (decide (0 ≤ m) && decide (m < 20)) := by
 unfold wi
 rw [show decide (m ≤ 19) = decide (m < 20) by rw [Bool.eq_iff_iff]; simp only [decide_eq_true_eq]; omega]
theorem scopeF (a : Ac.Act) : (decide (1 ≤ a.scope) && decide (a.scope ≤ 3) && groupF a) = sealedSc a.scope a.group := by
 unfold groupF sealedSc
 by_cases h2 : a.scope = 2
 ·rw [if_pos h2, if_pos h2, h2]; rfl
 rw [if_neg h2, if_neg h2]
 by_cases h13 : a.scope = 1 ∨ a.scope = 3
 ·rw [if_pos h13, decide_eq_true (show 1 ≤ a.scope by omega), decide_eq_true (show a.scope ≤ 3 by omega)]; rfl
 ·rw [if_neg h13]
  by_cases h1 : 1 ≤ a.scope
  ·rw [decide_eq_false (show ¬ a.scope ≤ 3 by omega), Bool.and_false]; rfl
  ·rw [decide_eq_false h1]; rfl
theorem ffits_c (a : Ac.Act) (h : Sz a) : AC Tryz.prog 114 [actV a] [] (.bo (fitsF a)) [] := by
 refine AC.enter2 [227, 228, 229, 230, 113, 231, 232, 233, 234] [] Tryz.func114 rfl (by decide) (by decide) (Nat.le_of_ble_eq_true rfl) (by kernel_rfl) ?_; simp only [eraseC, eraseO, List.map_cons, List.map_nil, List.map_toArray, List.getElem?_toArray, List.getElem?_cons_zero, List.getElem?_cons_succ, Option.bind_some, Option.bind_none, List.append_eq, List.cons_append, List.nil_append]
 have hn := nilD
 by_cases hr : 0 ≤ a.kind ∧ a.kind ≤ 23
 rotate_left
 ·have hv : fitsF a = false := by
   unfold fitsF
   rw [rule_none (by omega)]
  rw [hv]
  refine run ?_
  exact er0
 have hks : a.kind = 0 ∨ a.kind = 1 ∨ a.kind = 2 ∨ a.kind = 3 ∨ a.kind = 4 ∨ a.kind = 5 ∨ a.kind = 6 ∨ a.kind = 7 ∨ a.kind = 8 ∨ a.kind = 9 ∨ a.kind = 10 ∨ a.kind = 11 ∨ a.kind = 12 ∨ a.kind = 13 ∨ a.kind = 14 ∨ a.kind = 15 ∨ a.kind = 16 ∨ a.kind = 17 ∨ a.kind = 18 ∨ a.kind = 19 ∨ a.kind = 20 ∨ a.kind = 21 ∨ a.kind = 22 ∨ a.kind = 23 := by omega
 rcases hks with hk | hk | hk | hk | hk | hk | hk | hk | hk | hk | hk | hk | hk | hk | hk | hk | hk | hk | hk | hk | hk | hk | hk | hk
 ·have hv : fitsF a = (pub a.n && decide (0 ≤ a.m) && decide (a.m < 20) && nameR a.text && zeroF { a with text := [], n := 0, m := 0 }) := by
   unfold fitsF
   rw [hk]
   show (out a .begin && Ru.ok a .begin) = _
   simp only [out, outB, Ru.ok, home, Ac.grant, Ac.setup, ← scopeF, wi19, zeroF, bareA, decide_true, Bool.and_true, Bool.true_and]
   ac_rfl
  rw [hv]
  refine runf @hn ?_
  refine cp (fpub_c a.n) ?_
  cases c0 : pub a.n with
  | false =>
   refine runf @hn ?_
   refine cp (fname_c a.text h.text) ?_
   refine runf @hn ?_
   exact er0
  | true =>
  by_cases p1 : 0 ≤ a.m
  rotate_left
  ·rw [decide_eq_false p1]
   refine runf @hn ?_
   refine cp (fname_c a.text h.text) ?_
   refine runf @hn ?_
   exact er0
  rw [decide_eq_true p1]
  by_cases p2 : a.m < 20
  rotate_left
  ·rw [decide_eq_false p2]
   refine runf @hn ?_
   refine cp (fname_c a.text h.text) ?_
   refine runf @hn ?_
   exact er0
  rw [decide_eq_true p2]
  refine runf @hn ?_
  refine cp (fname_c a.text h.text) ?_
  cases c3 : nameR a.text with
  | false =>
   refine runf @hn ?_
   exact er0
  | true =>
  refine runf @hn ?_
  refine cp (fzero_c { a with text := [], n := 0, m := 0 }) ?_
  refine runf @hn ?_
  exact er0
 ·have hv : fitsF a = (audience a && zeroF (bareA a)) := by
   unfold fitsF
   rw [hk]
   show (out a .post && Ru.ok a .post) = _
   simp only [out, outB, Ru.ok, home, Ac.grant, Ac.setup, ← scopeF, wi19, wi, zeroF, bareA, decide_true, Bool.and_true, Bool.true_and]
   ac_rfl
  rw [hv]
  refine runf @hn ?_
  refine cp (faudience_c a h) ?_
  cases c0 : audience a with
  | false =>
   refine runf @hn ?_
   refine cp (fbare_c a) ?_
   refine runf @hn ?_
   exact er0
  | true =>
  refine runf @hn ?_
  refine cp (fbare_c a) ?_
  refine runf @hn ?_
  refine cp (fzero_c (bareA a)) ?_
  refine runf @hn ?_
  exact er0
 ·have hv : fitsF a = (audience a && dig a.object && zeroF { bareA a with object := [] }) := by
   unfold fitsF
   rw [hk]
   show (out a .reply && Ru.ok a .reply) = _
   simp only [out, outB, Ru.ok, home, Ac.grant, Ac.setup, ← scopeF, wi19, wi, zeroF, bareA, decide_true, Bool.and_true, Bool.true_and]
   ac_rfl
  rw [hv]
  refine runf @hn ?_
  refine cp (faudience_c a h) ?_
  cases c0 : audience a with
  | false =>
   refine runf @hn ?_
   refine cp (fbare_c a) ?_
   refine runf @hn ?_
   exact er0
  | true =>
  rw [dig_eq]
  cases c1 : ((a.object.length : Int) == 32) with
  | false =>
   refine runf (an @hn @c1) ?_
   refine cp (fbare_c a) ?_
   refine runf (an @hn @c1) ?_
   exact er0
  | true =>
  refine runf (an @hn @c1) ?_
  refine cp (fbare_c a) ?_
  refine runf (an @hn @c1) ?_
  refine cp (fzero_c { bareA a with object := [] }) ?_
  refine runf (an @hn @c1) ?_
  exact er0
 ·have hv : fitsF a = (audience a && dig a.object && zeroF { bareA a with object := [] }) := by
   unfold fitsF
   rw [hk]
   show (out a .reply && Ru.ok a .reply) = _
   simp only [out, outB, Ru.ok, home, Ac.grant, Ac.setup, ← scopeF, wi19, wi, zeroF, bareA, decide_true, Bool.and_true, Bool.true_and]
   ac_rfl
  rw [hv]
  refine runf @hn ?_
  refine cp (faudience_c a h) ?_
  cases c0 : audience a with
  | false =>
   refine runf @hn ?_
   refine cp (fbare_c a) ?_
   refine runf @hn ?_
   exact er0
  | true =>
  rw [dig_eq]
  cases c1 : ((a.object.length : Int) == 32) with
  | false =>
   refine runf (an @hn @c1) ?_
   refine cp (fbare_c a) ?_
   refine runf (an @hn @c1) ?_
   exact er0
  | true =>
  refine runf (an @hn @c1) ?_
  refine cp (fbare_c a) ?_
  refine runf (an @hn @c1) ?_
  refine cp (fzero_c { bareA a with object := [] }) ?_
  refine runf (an @hn @c1) ?_
  exact er0
 ·have hv : fitsF a = (dig a.object && zeroF { a with object := [] }) := by
   unfold fitsF
   rw [hk]
   show (out a .about && Ru.ok a .about) = _
   simp only [out, outB, Ru.ok, home, Ac.grant, Ac.setup, ← scopeF, wi19, wi, zeroF, bareA, decide_true, Bool.and_true, Bool.true_and]
   ac_rfl
  rw [hv]
  rw [dig_eq]
  cases c0 : ((a.object.length : Int) == 32) with
  | false =>
   refine runf (an @hn @c0) ?_
   exact er0
  | true =>
  refine runf (an @hn @c0) ?_
  refine cp (fzero_c { a with object := [] }) ?_
  refine runf (an @hn @c0) ?_
  exact er0
 ·have hv : fitsF a = (dig a.object && zeroF { a with object := [] }) := by
   unfold fitsF
   rw [hk]
   show (out a .about && Ru.ok a .about) = _
   simp only [out, outB, Ru.ok, home, Ac.grant, Ac.setup, ← scopeF, wi19, wi, zeroF, bareA, decide_true, Bool.and_true, Bool.true_and]
   ac_rfl
  rw [hv]
  rw [dig_eq]
  cases c0 : ((a.object.length : Int) == 32) with
  | false =>
   refine runf (an @hn @c0) ?_
   exact er0
  | true =>
  refine runf (an @hn @c0) ?_
  refine cp (fzero_c { a with object := [] }) ?_
  refine runf (an @hn @c0) ?_
  exact er0
 ·have hv : fitsF a = (dig a.object && zeroF { a with object := [] }) := by
   unfold fitsF
   rw [hk]
   show (out a .about && Ru.ok a .about) = _
   simp only [out, outB, Ru.ok, home, Ac.grant, Ac.setup, ← scopeF, wi19, wi, zeroF, bareA, decide_true, Bool.and_true, Bool.true_and]
   ac_rfl
  rw [hv]
  rw [dig_eq]
  cases c0 : ((a.object.length : Int) == 32) with
  | false =>
   refine runf (an @hn @c0) ?_
   exact er0
  | true =>
  refine runf (an @hn @c0) ?_
  refine cp (fzero_c { a with object := [] }) ?_
  refine runf (an @hn @c0) ?_
  exact er0
 ·have hv : fitsF a = (idR a.target && zeroF { a with target := [] }) := by
   unfold fitsF
   rw [hk]
   show (out a .tie && Ru.ok a .tie) = _
   simp only [out, outB, Ru.ok, home, Ac.grant, Ac.setup, ← scopeF, wi19, wi, zeroF, bareA, decide_true, Bool.and_true, Bool.true_and]
   ac_rfl
  rw [hv]
  refine runf @hn ?_
  refine cp (fidright_c a.target h.target) ?_
  cases c0 : idR a.target with
  | false =>
   refine runf @hn ?_
   exact er0
  | true =>
  refine runf @hn ?_
  refine cp (fzero_c { a with target := [] }) ?_
  refine runf @hn ?_
  exact er0
 ·have hv : fitsF a = (idR a.target && zeroF { a with target := [] }) := by
   unfold fitsF
   rw [hk]
   show (out a .tie && Ru.ok a .tie) = _
   simp only [out, outB, Ru.ok, home, Ac.grant, Ac.setup, ← scopeF, wi19, wi, zeroF, bareA, decide_true, Bool.and_true, Bool.true_and]
   ac_rfl
  rw [hv]
  refine runf @hn ?_
  refine cp (fidright_c a.target h.target) ?_
  cases c0 : idR a.target with
  | false =>
   refine runf @hn ?_
   exact er0
  | true =>
  refine runf @hn ?_
  refine cp (fzero_c { a with target := [] }) ?_
  refine runf @hn ?_
  exact er0
 ·have hv : fitsF a = (idR a.target && zeroF { a with target := [] }) := by
   unfold fitsF
   rw [hk]
   show (out a .tie && Ru.ok a .tie) = _
   simp only [out, outB, Ru.ok, home, Ac.grant, Ac.setup, ← scopeF, wi19, wi, zeroF, bareA, decide_true, Bool.and_true, Bool.true_and]
   ac_rfl
  rw [hv]
  refine runf @hn ?_
  refine cp (fidright_c a.target h.target) ?_
  cases c0 : idR a.target with
  | false =>
   refine runf @hn ?_
   exact er0
  | true =>
  refine runf @hn ?_
  refine cp (fzero_c { a with target := [] }) ?_
  refine runf @hn ?_
  exact er0
 ·have hv : fitsF a = (idR a.target && zeroF { a with target := [] }) := by
   unfold fitsF
   rw [hk]
   show (out a .tie && Ru.ok a .tie) = _
   simp only [out, outB, Ru.ok, home, Ac.grant, Ac.setup, ← scopeF, wi19, wi, zeroF, bareA, decide_true, Bool.and_true, Bool.true_and]
   ac_rfl
  rw [hv]
  refine runf @hn ?_
  refine cp (fidright_c a.target h.target) ?_
  cases c0 : idR a.target with
  | false =>
   refine runf @hn ?_
   exact er0
  | true =>
  refine runf @hn ?_
  refine cp (fzero_c { a with target := [] }) ?_
  refine runf @hn ?_
  exact er0
 ·have hv : fitsF a = (idR a.target && zeroF { a with target := [] }) := by
   unfold fitsF
   rw [hk]
   show (out a .tie && Ru.ok a .tie) = _
   simp only [out, outB, Ru.ok, home, Ac.grant, Ac.setup, ← scopeF, wi19, wi, zeroF, bareA, decide_true, Bool.and_true, Bool.true_and]
   ac_rfl
  rw [hv]
  refine runf @hn ?_
  refine cp (fidright_c a.target h.target) ?_
  cases c0 : idR a.target with
  | false =>
   refine runf @hn ?_
   exact er0
  | true =>
  refine runf @hn ?_
  refine cp (fzero_c { a with target := [] }) ?_
  refine runf @hn ?_
  exact er0
 ·have hv : fitsF a = (dig a.object && short a.text && zeroF { a with object := [], text := [] }) := by
   unfold fitsF
   rw [hk]
   show (out a .reason && Ru.ok a .reason) = _
   simp only [out, outB, Ru.ok, home, Ac.grant, Ac.setup, ← scopeF, wi19, wi, zeroF, bareA, decide_true, Bool.and_true, Bool.true_and]
   ac_rfl
  rw [hv]
  rw [dig_eq]
  cases c0 : ((a.object.length : Int) == 32) with
  | false =>
   refine runf (an @hn @c0) ?_
   exact er0
  | true =>
  rw [short_eq]
  cases c1 : decide ((a.text.length : Int) ≤ 500) with
  | false =>
   refine runf (an @hn (an @c0 @c1)) ?_
   exact er0
  | true =>
  refine runf (an @hn (an @c0 @c1)) ?_
  refine cp (fzero_c { a with object := [], text := [] }) ?_
  refine runf (an @hn (an @c0 @c1)) ?_
  exact er0
 ·have hv : fitsF a = (dig a.object && zeroF { a with object := [] }) := by
   unfold fitsF
   rw [hk]
   show (out a .about && Ru.ok a .about) = _
   simp only [out, outB, Ru.ok, home, Ac.grant, Ac.setup, ← scopeF, wi19, wi, zeroF, bareA, decide_true, Bool.and_true, Bool.true_and]
   ac_rfl
  rw [hv]
  rw [dig_eq]
  cases c0 : ((a.object.length : Int) == 32) with
  | false =>
   refine runf (an @hn @c0) ?_
   exact er0
  | true =>
  refine runf (an @hn @c0) ?_
  refine cp (fzero_c { a with object := [] }) ?_
  refine runf (an @hn @c0) ?_
  exact er0
 ·have hv : fitsF a = (audience a && dig a.object && zeroF { bareA a with object := [] }) := by
   unfold fitsF
   rw [hk]
   show (out a .reply && Ru.ok a .reply) = _
   simp only [out, outB, Ru.ok, home, Ac.grant, Ac.setup, ← scopeF, wi19, wi, zeroF, bareA, decide_true, Bool.and_true, Bool.true_and]
   ac_rfl
  rw [hv]
  refine runf @hn ?_
  refine cp (faudience_c a h) ?_
  cases c0 : audience a with
  | false =>
   refine runf @hn ?_
   refine cp (fbare_c a) ?_
   refine runf @hn ?_
   exact er0
  | true =>
  rw [dig_eq]
  cases c1 : ((a.object.length : Int) == 32) with
  | false =>
   refine runf (an @hn @c1) ?_
   refine cp (fbare_c a) ?_
   refine runf (an @hn @c1) ?_
   exact er0
  | true =>
  refine runf (an @hn @c1) ?_
  refine cp (fbare_c a) ?_
  refine runf (an @hn @c1) ?_
  refine cp (fzero_c { bareA a with object := [] }) ?_
  refine runf (an @hn @c1) ?_
  exact er0
 ·have hv : fitsF a = (idsR a.to && nameR a.group && zeroF { a with group := [], to := [] }) := by
   unfold fitsF
   rw [hk]
   show (out a .circle && Ru.ok a .circle) = _
   simp only [out, outB, Ru.ok, home, Ac.grant, Ac.setup, ← scopeF, wi19, wi, zeroF, bareA, decide_true, Bool.and_true, Bool.true_and]
   ac_rfl
  rw [hv]
  refine runf @hn ?_
  refine cp (fids_c a.to h.tos h.to) ?_
  cases c0 : idsR a.to with
  | false =>
   refine runf @hn ?_
   exact er0
  | true =>
  refine runf @hn ?_
  refine cp (fname_c a.group h.group) ?_
  cases c1 : nameR a.group with
  | false =>
   refine runf @hn ?_
   exact er0
  | true =>
  refine runf @hn ?_
  refine cp (fzero_c { a with group := [], to := [] }) ?_
  refine runf @hn ?_
  exact er0
 ·have hv : fitsF a = (idsR a.to && decide (1 ≤ a.scope) && decide (a.scope ≤ 3) && groupF a && decide (0 ≤ a.epoch) && decide (a.epoch ≤ 1073741824) && wrapped a && zeroF { a with scope := 0, group := [], to := [], epoch := 0, wraps := [] }) := by
   unfold fitsF
   rw [hk]
   show (out a .grant && Ru.ok a .grant) = _
   simp only [out, outB, Ru.ok, home, Ac.grant, Ac.setup, ← scopeF, wi19, wi, zeroF, bareA, decide_true, Bool.and_true, Bool.true_and]
   ac_rfl
  rw [hv]
  refine runf @hn ?_
  refine cp (fids_c a.to h.tos h.to) ?_
  cases c0 : idsR a.to with
  | false =>
   refine runf @hn ?_
   exact er0
  | true =>
  by_cases p1 : 1 ≤ a.scope
  rotate_left
  ·rw [decide_eq_false p1]
   refine runf @hn ?_
   exact er0
  rw [decide_eq_true p1]
  by_cases p2 : a.scope ≤ 3
  rotate_left
  ·rw [decide_eq_false p2]
   refine runf @hn ?_
   exact er0
  rw [decide_eq_true p2]
  refine runf @hn ?_
  refine cp (fgroup_c a h.group) ?_
  cases c3 : groupF a with
  | false =>
   refine runf @hn ?_
   exact er0
  | true =>
  by_cases p4 : 0 ≤ a.epoch
  rotate_left
  ·rw [decide_eq_false p4]
   refine runf @hn ?_
   exact er0
  rw [decide_eq_true p4]
  by_cases p5 : a.epoch ≤ 1073741824
  rotate_left
  ·rw [decide_eq_false p5]
   refine runf @hn ?_
   exact er0
  rw [decide_eq_true p5]
  refine runf @hn ?_
  refine cp (fwrapped_c a h.wraps) ?_
  cases c6 : wrapped a with
  | false =>
   refine runf @hn ?_
   exact er0
  | true =>
  refine runf @hn ?_
  refine cp (fzero_c { a with scope := 0, group := [], to := [], epoch := 0, wraps := [] }) ?_
  refine runf @hn ?_
  exact er0
 ·by_cases ho : a.object = []
  ·have hv : fitsF a = (nameR a.text && idR a.target && zeroF { a with text := [], object := [], target := [] }) := by
    unfold fitsF
    rw [hk]
    show (out a .label && Ru.ok a .label) = _
    have hd : dig a.object = false := by unfold dig; rw [ho]; rfl
    simp only [out, outB, Ru.ok, Ac.label, hd, ho, Bool.false_and, Bool.false_or, zeroF, bareA, decide_true, Bool.and_true, Bool.true_and]
    ac_rfl
   rw [hv]
   have hob : (a.object == []) = true := by rw [ho]; rfl
   refine runf (an @hn @hob) ?_
   refine cp (fname_c a.text h.text) ?_
   cases c0 : nameR a.text with
   | false =>
    refine runf (an @hn @hob) ?_
    refine cp (fidright_c a.target h.target) ?_
    refine runf (an @hn @hob) ?_
    exact er0
   | true =>
   refine runf (an @hn @hob) ?_
   refine cp (fidright_c a.target h.target) ?_
   cases c1 : idR a.target with
   | false =>
    refine runf (an @hn @hob) ?_
    exact er0
   | true =>
   refine runf (an @hn @hob) ?_
   refine cp (fzero_c { a with text := [], object := [], target := [] }) ?_
   refine runf (an @hn @hob) ?_
   exact er0
  ·have hv : fitsF a = (nameR a.text && dig a.object && decide (a.target = []) && zeroF { a with text := [], object := [], target := [] }) := by
    unfold fitsF
    rw [hk]
    show (out a .label && Ru.ok a .label) = _
    simp only [out, outB, Ru.ok, Ac.label, decide_eq_false ho, Bool.and_false, Bool.or_false, zeroF, bareA, decide_true, Bool.and_true, Bool.true_and]
    ac_rfl
   rw [hv]
   have hob : (a.object == []) = false := by simpa using ho
   refine runf (an @hn @hob) ?_
   refine cp (fname_c a.text h.text) ?_
   cases c0 : nameR a.text with
   | false =>
    refine runf (an @hn @hob) ?_
    exact er0
   | true =>
   rw [dig_eq]
   cases c1 : ((a.object.length : Int) == 32) with
   | false =>
    refine runf (an @hn (an @hob @c1)) ?_
    exact er0
   | true =>
   cases c2 : decide (a.target = []) with
   | false =>
    refine runf (an @hn (an @hob (an @c1 @c2))) ?_
    exact er0
   | true =>
   refine runf (an @hn (an @hob (an @c1 @c2))) ?_
   refine cp (fzero_c { a with text := [], object := [], target := [] }) ?_
   refine runf (an @hn (an @hob (an @c1 @c2))) ?_
   exact er0
 ·have hv : fitsF a = (pub a.n && decide (0 ≤ a.m) && decide (a.m < 20) && zeroF { a with n := 0, m := 0 }) := by
   unfold fitsF
   rw [hk]
   show (out a .move && Ru.ok a .move) = _
   simp only [out, outB, Ru.ok, home, Ac.grant, Ac.setup, ← scopeF, wi19, zeroF, bareA, decide_true, Bool.and_true, Bool.true_and]
   ac_rfl
  rw [hv]
  refine runf @hn ?_
  refine cp (fpub_c a.n) ?_
  cases c0 : pub a.n with
  | false =>
   refine runf @hn ?_
   exact er0
  | true =>
  by_cases p1 : 0 ≤ a.m
  rotate_left
  ·rw [decide_eq_false p1]
   refine runf @hn ?_
   exact er0
  rw [decide_eq_true p1]
  by_cases p2 : a.m < 20
  rotate_left
  ·rw [decide_eq_false p2]
   refine runf @hn ?_
   exact er0
  rw [decide_eq_true p2]
  refine runf @hn ?_
  refine cp (fzero_c { a with n := 0, m := 0 }) ?_
  refine runf @hn ?_
  exact er0
 ·have hv : fitsF a = (idsR a.to && decide (0 < a.to.length) && wrapped a && decide (1 ≤ a.n) && decide (a.n ≤ (a.to.length : Int)) && pub a.m && zeroF { a with to := [], wraps := [], n := 0, m := 0 }) := by
   unfold fitsF
   rw [hk]
   show (out a .setup && Ru.ok a .setup) = _
   simp only [out, outB, Ru.ok, home, Ac.grant, Ac.setup, ← scopeF, wi19, wi, zeroF, bareA, decide_true, Bool.and_true, Bool.true_and]
   ac_rfl
  rw [hv]
  refine runf @hn ?_
  refine cp (fids_c a.to h.tos h.to) ?_
  cases c0 : idsR a.to with
  | false =>
   refine runf @hn ?_
   exact er0
  | true =>
  by_cases p1 : 0 < a.to.length
  rotate_left
  ·rw [decide_eq_false p1]
   refine runf @hn ?_
   exact er0
  rw [decide_eq_true p1]
  refine runf @hn ?_
  refine cp (fwrapped_c a h.wraps) ?_
  cases c2 : wrapped a with
  | false =>
   refine runf @hn ?_
   exact er0
  | true =>
  by_cases p3 : 1 ≤ a.n
  rotate_left
  ·rw [decide_eq_false p3]
   refine runf @hn ?_
   exact er0
  rw [decide_eq_true p3]
  by_cases p4 : a.n ≤ (a.to.length : Int)
  rotate_left
  ·rw [decide_eq_false p4]
   refine runf @hn ?_
   exact er0
  rw [decide_eq_true p4]
  refine runf @hn ?_
  refine cp (fpub_c a.m) ?_
  cases c5 : pub a.m with
  | false =>
   refine runf @hn ?_
   exact er0
  | true =>
  refine runf @hn ?_
  refine cp (fzero_c { a with to := [], wraps := [], n := 0, m := 0 }) ?_
  refine runf @hn ?_
  exact er0
 ·have hv : fitsF a = (dig a.object && zeroF { a with object := [] }) := by
   unfold fitsF
   rw [hk]
   show (out a .about && Ru.ok a .about) = _
   simp only [out, outB, Ru.ok, home, Ac.grant, Ac.setup, ← scopeF, wi19, wi, zeroF, bareA, decide_true, Bool.and_true, Bool.true_and]
   ac_rfl
  rw [hv]
  rw [dig_eq]
  cases c0 : ((a.object.length : Int) == 32) with
  | false =>
   refine runf (an @hn @c0) ?_
   exact er0
  | true =>
  refine runf (an @hn @c0) ?_
  refine cp (fzero_c { a with object := [] }) ?_
  refine runf (an @hn @c0) ?_
  exact er0
 ·have hv : fitsF a = (dig a.object && short a.text && zeroF { a with object := [], text := [] }) := by
   unfold fitsF
   rw [hk]
   show (out a .reason && Ru.ok a .reason) = _
   simp only [out, outB, Ru.ok, home, Ac.grant, Ac.setup, ← scopeF, wi19, wi, zeroF, bareA, decide_true, Bool.and_true, Bool.true_and]
   ac_rfl
  rw [hv]
  rw [dig_eq]
  cases c0 : ((a.object.length : Int) == 32) with
  | false =>
   refine runf (an @hn @c0) ?_
   exact er0
  | true =>
  rw [short_eq]
  cases c1 : decide ((a.text.length : Int) ≤ 500) with
  | false =>
   refine runf (an @hn (an @c0 @c1)) ?_
   exact er0
  | true =>
  refine runf (an @hn (an @c0 @c1)) ?_
  refine cp (fzero_c { a with object := [], text := [] }) ?_
  refine runf (an @hn (an @c0 @c1)) ?_
  exact er0
 ·have hv : fitsF a = (dig a.object && decide (0 ≤ a.n) && decide (a.n ≤ 1) && zeroF { a with object := [], n := 0 }) := by
   unfold fitsF
   rw [hk]
   show (out a .judge && Ru.ok a .judge) = _
   simp only [out, outB, Ru.ok, home, Ac.grant, Ac.setup, ← scopeF, wi19, wi, zeroF, bareA, decide_true, Bool.and_true, Bool.true_and]
   ac_rfl
  rw [hv]
  rw [dig_eq]
  cases c0 : ((a.object.length : Int) == 32) with
  | false =>
   refine runf (an @hn @c0) ?_
   exact er0
  | true =>
  by_cases p1 : 0 ≤ a.n
  rotate_left
  ·rw [decide_eq_false p1]
   refine runf (an @hn @c0) ?_
   exact er0
  rw [decide_eq_true p1]
  by_cases p2 : a.n ≤ 1
  rotate_left
  ·rw [decide_eq_false p2]
   refine runf (an @hn @c0) ?_
   exact er0
  rw [decide_eq_true p2]
  refine runf (an @hn @c0) ?_
  refine cp (fzero_c { a with object := [], n := 0 }) ?_
  refine runf (an @hn @c0) ?_
  exact er0
 ·have hv : fitsF a = (idR a.target && short a.text && decide (0 ≤ a.n) && decide (a.n ≤ 1099511627776) && zeroF { a with target := [], text := [], n := 0 }) := by
   unfold fitsF
   rw [hk]
   show (out a .list && Ru.ok a .list) = _
   simp only [out, outB, Ru.ok, home, Ac.grant, Ac.setup, ← scopeF, wi19, wi, zeroF, bareA, decide_true, Bool.and_true, Bool.true_and]
   ac_rfl
  rw [hv]
  refine runf @hn ?_
  refine cp (fidright_c a.target h.target) ?_
  cases c0 : idR a.target with
  | false =>
   refine runf @hn ?_
   exact er0
  | true =>
  rw [short_eq]
  cases c1 : decide ((a.text.length : Int) ≤ 500) with
  | false =>
   refine runf (an @hn @c1) ?_
   exact er0
  | true =>
  by_cases p2 : 0 ≤ a.n
  rotate_left
  ·rw [decide_eq_false p2]
   refine runf (an @hn @c1) ?_
   exact er0
  rw [decide_eq_true p2]
  by_cases p3 : a.n ≤ 1099511627776
  rotate_left
  ·rw [decide_eq_false p3]
   refine runf (an @hn @c1) ?_
   exact er0
  rw [decide_eq_true p3]
  refine runf (an @hn @c1) ?_
  refine cp (fzero_c { a with target := [], text := [], n := 0 }) ?_
  refine runf (an @hn @c1) ?_
  exact er0
end Go.Proofs.YtaphpbiaoofmkaaGreatDoor.Pe
