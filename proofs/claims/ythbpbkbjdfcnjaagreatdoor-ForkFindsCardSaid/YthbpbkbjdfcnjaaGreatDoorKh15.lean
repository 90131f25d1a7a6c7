/- Several texts in one, without what this claim does not use (tools/shake.py). -/
import Derived.Test.YthbpbkbjdfcnjaaGreatDoorKh1
import Derived.Test.YthbpbkbjdfcnjaaGreatDoorKh2
import Derived.Test.YthbpbkbjdfcnjaaGreatDoorKh3
import Derived.Test.YthbpbkbjdfcnjaaGreatDoorKh4
import Derived.Test.YthbpbkbjdfcnjaaGreatDoorKh5
import Derived.Test.YthbpbkbjdfcnjaaGreatDoorKh6
import Derived.Test.YthbpbkbjdfcnjaaGreatDoorKh7
import Derived.Test.YthbpbkbjdfcnjaaGreatDoorKh8
import Derived.Test.YthbpbkbjdfcnjaaGreatDoorKh9
import Derived.Test.YthbpbkbjdfcnjaaGreatDoorKh10
import Derived.Test.YthbpbkbjdfcnjaaGreatDoorKh11
import Derived.Test.YthbpbkbjdfcnjaaGreatDoorKh12
import Derived.Test.YthbpbkbjdfcnjaaGreatDoorKh14
set_option linter.unusedSectionVars false
set_option linter.unusedVariables false
set_option linter.unusedSimpArgs false
section
namespace Go.Proofs.YthbpbkbjdfcnjaaGreatDoor.Pe
open Go Go.RowKit Co Sg Ac
set_option maxRecDepth 100000
set_option maxHeartbeats 4000000
theorem pubF (n : Int) : pub n = (decide (1 ≤ n) && decide (n < 2305843009213693951)) := by
 unfold pub wi
 rw [show decide (n ≤ 2305843009213693950) = decide (n < 2305843009213693951) by rw [Bool.eq_iff_iff]; simp only [decide_eq_true_eq]; omega]
theorem fpub_c (n : Int) : AC Tryz.prog 254 [.it .i64 n] [] (.bo (pub n)) [] := by
 refine AC.enter2 [] [] Tryz.func254 rfl (by decide) (by decide) (Nat.le_of_ble_eq_true rfl) (by kernel_rfl) ?_; simp only [eraseC, eraseO, List.map_cons, List.map_nil, List.map_toArray, List.getElem?_toArray, List.getElem?_cons_zero, List.getElem?_cons_succ, Option.bind_some, Option.bind_none, List.append_eq, List.cons_append, List.nil_append]
 rw [pubF]
 by_cases h : 1 ≤ n
 ·rw [decide_eq_true h]
  refine run ?_
  exact er0
 ·rw [decide_eq_false h]
  refine run ?_
  exact er0
theorem fboxed_c (b : Box) : AC Tryz.prog 262 [boxV b] [] (.bo (sealedB b)) [] := by
 refine AC.enter2 [] [] Tryz.func262 rfl (by decide) (by decide) (Nat.le_of_ble_eq_true rfl) (by kernel_rfl) ?_; simp only [eraseC, eraseO, List.map_cons, List.map_nil, List.map_toArray, List.getElem?_toArray, List.getElem?_cons_zero, List.getElem?_cons_succ, Option.bind_some, Option.bind_none, List.append_eq, List.cons_append, List.nil_append]
 unfold sealedB
 rw [short_eq]
 by_cases h1 : b.nonce.length = 32
 ·rw [decide_eq_true h1]
  by_cases h2 : b.tag.length = 16
  ·rw [decide_eq_true h2]
   refine run ?_
   exact er0
  ·rw [decide_eq_false h2]
   refine run ?_
   exact er0
 ·rw [decide_eq_false h1]
  refine run ?_
  exact er0
theorem fempty_c (b : Box) : AC Tryz.prog 261 [boxV b] [] (.bo (decide (b = box0))) [] := by
 refine AC.enter2 [] [] Tryz.func261 rfl (by decide) (by decide) (Nat.le_of_ble_eq_true rfl) (by kernel_rfl) ?_; simp only [eraseC, eraseO, List.map_cons, List.map_nil, List.map_toArray, List.getElem?_toArray, List.getElem?_cons_zero, List.getElem?_cons_succ, Option.bind_some, Option.bind_none, List.append_eq, List.cons_append, List.nil_append]
 rw [box0_eq]
 cases h1 : (b.nonce == []) with
 | false =>
  refine runf @h1 ?_
  exact er0
 | true =>
  cases h2 : (b.data == []) with
  | false =>
   refine runf (an @h1 @h2) ?_
   exact er0
  | true =>
   refine runf (an @h1 @h2) ?_
   exact er0
theorem fwrapped_c (a : Ac.Act) (hw : a.wraps.length ≤ 140737488355328) : AC Tryz.prog 259 [actV a] [] (.bo (wrapped a)) [] := by
 refine AC.enter2 [254, 262] [] Tryz.func259 rfl (by decide) (by decide) (Nat.le_of_ble_eq_true rfl) (by kernel_rfl) ?_; simp only [eraseC, eraseO, List.map_cons, List.map_nil, List.map_toArray, List.getElem?_toArray, List.getElem?_cons_zero, List.getElem?_cons_succ, Option.bind_some, Option.bind_none, List.append_eq, List.cons_append, List.nil_append]
 unfold wrapped
 have hsz : allSz 5 (a.wraps.map wrapV) = true := allSz_map 5 wrapV (fun _ => rfl) _
 refine run ?_
 refine loop_mk (fun m e S => e 1 = .ptr 0 0 ∧ ∃ (k : Nat) (T : Store), e 3 = .it .i64 (k : Int) ∧ S = .cells (actL a) :: T ∧ k ≤ a.wraps.length ∧ (∀ j (h : j < a.wraps.length), j < k → wrapR a.wraps[j] = true) ∧ m = a.wraps.length - k) (a.wraps.length)
  ⟨(by first | rfl | (simp only [↓upd_apply, ↓put_some, ↓reduceIte, Nat.reduceEqDiff, ↓argEnv_zero, ↓argEnv_succ, *]; done)), 0, [], (by first | rfl | (simp only [↓upd_apply, ↓put_some, ↓reduceIte, Nat.reduceEqDiff, ↓argEnv_zero, ↓argEnv_succ, *]; done)), rfl, by omega, fun j _ h => absurd h (Nat.not_lt_zero _), rfl⟩ ?_
 rintro m e S ⟨s1, k, T, s3, rfl, hk, hall, rfl⟩
 by_cases hlt : k < a.wraps.length
 rotate_left
 ·obtain rfl : k = a.wraps.length := by omega
  have h1 : a.wraps.all wrapR = true := List.all_eq_true.2 fun x hx => by
   obtain ⟨j, hj, rfl⟩ := List.getElem_of_mem hx
   exact hall j hj hj
  have h2 : decide (a.wraps.length = a.to.length) = ((a.wraps.length : Int) == (a.to.length : Int)) := by
   rw [Bool.eq_iff_iff]
   simp only [decide_eq_true_eq, beq_iff_eq]
   omega
  rw [h1, h2]
  have hx : ¬ ((a.wraps.length : Nat) : Int) < (a.wraps.length : Int) := by omega
  refine runf (an @s1 (an @s3 @hx)) ?_
  exact er0
 have hg : a.wraps[k]? = some a.wraps[k] := List.getElem?_eq_getElem hlt
 have hbad : wrapR a.wraps[k] = false → a.wraps.all wrapR = false := fun h => List.all_eq_false.2 ⟨_, List.getElem_mem hlt, by simp [h]⟩
 have hnext : wrapR a.wraps[k] = true → ∀ j (h : j < a.wraps.length), j < k + 1 → wrapR a.wraps[j] = true := fun hb j h hj => by
  by_cases e : j = k
  ·subst e; exact hb
  ·exact hall j h (by omega)
 generalize a.wraps[k] = x at *
 have hT1 : ∀ y : SObj, (T ++ [y])[T.length]? = some y := fun y => by simp
 have hT2 : ∀ y z : SObj, (T ++ [y]).set T.length z = T ++ [z] := fun y z => by simp
 have hwx : wrapR x = (pub x.to && pub x.eph && sealedB x.box) := rfl
 rw [hwx] at hbad hnext
 refine runf (an @s1 (an @s3 (an @hg (an @hsz (an @hT1 @hT2))))) ?_
 refine cp (fpub_c x.to) ?_
 cases h1 : pub x.to with
 | false =>
  rw [h1] at hbad
  rw [hbad rfl]
  refine runf (an @s1 (an @s3 (an @hT1 @hT2))) ?_
  exact er0
 | true =>
  refine runf (an @s1 (an @s3 (an @hT1 @hT2))) ?_
  refine cp (fpub_c x.eph) ?_
  cases h2 : pub x.eph with
  | false =>
   rw [h1, h2] at hbad
   rw [hbad rfl]
   refine runf (an @s1 (an @s3 (an @hT1 @hT2))) ?_
   exact er0
  | true =>
   refine runf (an @s1 (an @s3 (an @hT1 @hT2))) ?_
   refine cp (fboxed_c x.box) ?_
   cases h3 : sealedB x.box with
   | false =>
    rw [h1, h2, h3] at hbad
    rw [hbad rfl]
    refine runf (an @s1 (an @s3 (an @hT1 @hT2))) ?_
    exact er0
   | true =>
    refine runf (an @s1 (an @s3 (an @hT1 @hT2))) ?_
    exact round_mk (a.wraps.length - (k + 1)) (by omega) ⟨(by first | rfl | (simp only [↓upd_apply, ↓put_some, ↓reduceIte, Nat.reduceEqDiff, ↓argEnv_zero, ↓argEnv_succ, *]; done)), k + 1, T ++ [.cells (wrapV x).cells], (by first | rfl | (simp only [↓upd_apply, ↓put_some, ↓reduceIte, Nat.reduceEqDiff, ↓argEnv_zero, ↓argEnv_succ, *]; done)), rfl, by omega, hnext (by rw [h1, h2, h3]; rfl), rfl⟩
def groupF (a : Ac.Act) : Bool := if a.scope = 2 then nameR a.group else decide (a.group = [])
theorem fgroup_c (a : Ac.Act) (h : a.group.length ≤ 140737488355328) : AC Tryz.prog 258 [actV a] [] (.bo (groupF a)) [] := by
 refine AC.enter2 [255] [] Tryz.func258 rfl (by decide) (by decide) (Nat.le_of_ble_eq_true rfl) (by kernel_rfl) ?_; simp only [eraseC, eraseO, List.map_cons, List.map_nil, List.map_toArray, List.getElem?_toArray, List.getElem?_cons_zero, List.getElem?_cons_succ, Option.bind_some, Option.bind_none, List.append_eq, List.cons_append, List.nil_append]
 unfold groupF
 have hn := nilD
 by_cases h2 : a.scope = 2
 ·rw [if_pos h2]
  refine run ?_
  refine cp (fname_c a.group h) ?_
  refine run ?_
  exact er0
 ·rw [if_neg h2]
  refine runf @hn ?_
  exact er0
def audF (a : Ac.Act) : Bool := idsR a.to && groupF a && (if a.scope = 0 then decide (a.epoch = 0) && short a.text && decide (a.body = box0)
 else if a.scope = 3 then wi a.epoch 0 1073741824 && decide (a.text = []) && sealedB a.body
 else if a.scope = 1 ∨ a.scope = 2 then wi a.epoch 0 1073741824 && decide (a.text = []) && sealedB a.body && decide (a.to = []) else false)
theorem audF_eq (a : Ac.Act) : audF a = audience a := by
 unfold audF audience groupF sealedSc
 by_cases h0 : a.scope = 0
 ·simp only [h0, if_true, show ¬ (0 : Int) = 2 by decide, if_false]
  rw [Bool.eq_iff_iff]; simp only [Bool.and_eq_true]; constructor <;> (intro h; simp only [h, and_self])
 by_cases h3 : a.scope = 3
 ·simp only [h3, show ¬ (3 : Int) = 0 by decide, show ¬ (3 : Int) = 2 by decide, if_false, if_true, or_true, decide_true, Bool.or_true, Bool.true_and]
  rw [Bool.eq_iff_iff]; simp only [Bool.and_eq_true]; constructor <;> (intro h; simp only [h, and_self])
 by_cases h1 : a.scope = 1
 ·simp only [h1, show ¬ (1 : Int) = 0 by decide, show ¬ (1 : Int) = 2 by decide, show ¬ (1 : Int) = 3 by decide, if_false, if_true, true_or, decide_false, Bool.or_false]
  rw [Bool.eq_iff_iff]; simp only [Bool.and_eq_true]; constructor <;> (intro h; simp only [h, and_self])
 by_cases h2 : a.scope = 2
 ·simp only [h2, show ¬ (2 : Int) = 0 by decide, show ¬ (2 : Int) = 3 by decide, if_false, if_true, or_true, decide_false, Bool.or_false]
  rw [Bool.eq_iff_iff]; simp only [Bool.and_eq_true]; constructor <;> (intro h; simp only [h, and_self])
 ·simp only [if_neg h0, if_neg h2, if_neg h3, if_neg (show ¬ (a.scope = 1 ∨ a.scope = 2) from fun h => h.elim h1 h2), if_neg (show ¬ (a.scope = 1 ∨ a.scope = 3) from fun h => h.elim h1 h3), Bool.and_false, Bool.false_and]
theorem faudience_c (a : Ac.Act) (h : Sz a) : AC Tryz.prog 256 [actV a] [] (.bo (audience a)) [] := by
 rw [← audF_eq]
 refine AC.enter2 [251, 258, 261, 262] [] Tryz.func256 rfl (by decide) (by decide) (Nat.le_of_ble_eq_true rfl) (by kernel_rfl) ?_; simp only [eraseC, eraseO, List.map_cons, List.map_nil, List.map_toArray, List.getElem?_toArray, List.getElem?_cons_zero, List.getElem?_cons_succ, Option.bind_some, Option.bind_none, List.append_eq, List.cons_append, List.nil_append]
 unfold audF
 have hn := nilD
 have hl := lenD a.to
 have hs := short_eq a.text
 refine run ?_
 refine cp (fids_c a.to h.tos h.to) ?_
 cases c1 : idsR a.to with
 | false =>
  refine run ?_
  exact er0
 | true =>
 refine run ?_
 refine cp (fgroup_c a h.group) ?_
 cases c2 : groupF a with
 | false =>
  refine run ?_
  exact er0
 | true =>
 by_cases h0 : a.scope = 0
 ·rw [if_pos h0]
  by_cases e1 : a.epoch = 0
  rotate_left
  ·rw [decide_eq_false e1]
   refine run ?_
   exact er0
  rw [decide_eq_true e1, hs]
  cases e2 : decide ((a.text.length : Int) ≤ 500) with
  | false =>
   refine runf @e2 ?_
   exact er0
  | true =>
  refine runf @e2 ?_
  refine cp (fempty_c a.body) ?_
  refine run ?_
  exact er0
 rw [if_neg h0]
 by_cases h3 : a.scope = 3
 ·rw [if_pos h3]
  by_cases e1 : 0 ≤ a.epoch
  rotate_left
  ·rw [show wi a.epoch 0 1073741824 = false by unfold wi; rw [decide_eq_false e1]; rfl]
   refine run ?_
   exact er0
  by_cases e2 : a.epoch ≤ 1073741824
  rotate_left
  ·rw [show wi a.epoch 0 1073741824 = false by unfold wi; rw [decide_eq_false e2, Bool.and_false]]
   refine run ?_
   exact er0
  rw [show wi a.epoch 0 1073741824 = true from wi_iff.2 ⟨e1, e2⟩]
  cases e3 : decide (a.text = []) with
  | false =>
   refine runf (an @hn @e3) ?_
   exact er0
  | true =>
  refine runf (an @hn @e3) ?_
  refine cp (fboxed_c a.body) ?_
  refine run ?_
  exact er0
 rw [if_neg h3]
 by_cases h12 : a.scope = 1 ∨ a.scope = 2
 rotate_left
 ·rw [if_neg h12]
  have n1 : ¬ a.scope = 1 := fun h => h12 (.inl h)
  have n2 : ¬ a.scope = 2 := fun h => h12 (.inr h)
  refine run ?_
  exact er0
 rw [if_pos h12]
 rcases h12 with h12 | h12
 ·skip
  by_cases e1 : 0 ≤ a.epoch
  rotate_left
  ·rw [show wi a.epoch 0 1073741824 = false by unfold wi; rw [decide_eq_false e1]; rfl]
   refine run ?_
   exact er0
  by_cases e2 : a.epoch ≤ 1073741824
  rotate_left
  ·rw [show wi a.epoch 0 1073741824 = false by unfold wi; rw [decide_eq_false e2, Bool.and_false]]
   refine run ?_
   exact er0
  rw [show wi a.epoch 0 1073741824 = true from wi_iff.2 ⟨e1, e2⟩]
  cases e3 : decide (a.text = []) with
  | false =>
   refine runf (an @hn @e3) ?_
   exact er0
  | true =>
  refine runf (an @hn @e3) ?_
  refine cp (fboxed_c a.body) ?_
  cases e4 : sealedB a.body with
  | false =>
   refine run ?_
   exact er0
  | true =>
  refine runf @hl ?_
  exact er0
 ·skip
  by_cases e1 : 0 ≤ a.epoch
  rotate_left
  ·rw [show wi a.epoch 0 1073741824 = false by unfold wi; rw [decide_eq_false e1]; rfl]
   refine run ?_
   exact er0
  by_cases e2 : a.epoch ≤ 1073741824
  rotate_left
  ·rw [show wi a.epoch 0 1073741824 = false by unfold wi; rw [decide_eq_false e2, Bool.and_false]]
   refine run ?_
   exact er0
  rw [show wi a.epoch 0 1073741824 = true from wi_iff.2 ⟨e1, e2⟩]
  cases e3 : decide (a.text = []) with
  | false =>
   refine runf (an @hn @e3) ?_
   exact er0
  | true =>
  refine runf (an @hn @e3) ?_
  refine cp (fboxed_c a.body) ?_
  cases e4 : sealedB a.body with
  | false =>
   refine run ?_
   exact er0
  | true =>
  refine runf @hl ?_
  exact er0
def bareA (a : Ac.Act) : Ac.Act := { a with scope := 0, group := [], to := [], text := [], body := box0, epoch := 0 }
theorem fbare_c (a : Ac.Act) : AC Tryz.prog 257 [actV a] [] (actV (bareA a)) [] := by
 refine AC.enter2 [] [] Tryz.func257 rfl (by decide) (by decide) (Nat.le_of_ble_eq_true rfl) (by kernel_rfl) ?_; simp only [eraseC, eraseO, List.map_cons, List.map_nil, List.map_toArray, List.getElem?_toArray, List.getElem?_cons_zero, List.getElem?_cons_succ, Option.bind_some, Option.bind_none, List.append_eq, List.cons_append, List.nil_append]
 refine run ?_
 exact er0w
def zeroF (a : Ac.Act) : Bool := decide (a.object = []) && decide (a.target = []) && decide (a.scope = 0) && decide (a.group = []) && decide (a.to = []) && decide (a.text = []) && decide (a.body = box0) && decide (a.epoch = 0) && decide (a.wraps = []) && decide (a.n = 0) && decide (a.m = 0)
theorem fzero_c (a : Ac.Act) : AC Tryz.prog 260 [actV a] [] (.bo (zeroF a)) [] := by
 refine AC.enter2 [261] [] Tryz.func260 rfl (by decide) (by decide) (Nat.le_of_ble_eq_true rfl) (by kernel_rfl) ?_; simp only [eraseC, eraseO, List.map_cons, List.map_nil, List.map_toArray, List.getElem?_toArray, List.getElem?_cons_zero, List.getElem?_cons_succ, Option.bind_some, Option.bind_none, List.append_eq, List.cons_append, List.nil_append]
 unfold zeroF
 have hn := nilD
 have hl1 := lenD a.to
 have hl2 := lenD a.wraps
 cases c0 : decide (a.object = []) with
 | false =>
  refine runf (an @hn (an @hl1 (an @hl2 @c0))) ?_
  exact er0
 | true =>
 cases c1 : decide (a.target = []) with
 | false =>
  refine runf (an @hn (an @hl1 (an @hl2 (an @c0 @c1)))) ?_
  exact er0
 | true =>
 by_cases p2 : a.scope = 0
 rotate_left
 ·rw [decide_eq_false p2]
  refine runf (an @hn (an @hl1 (an @hl2 (an @c0 @c1)))) ?_
  exact er0
 rw [decide_eq_true p2]
 cases c3 : decide (a.group = []) with
 | false =>
  refine runf (an @hn (an @hl1 (an @hl2 (an @c0 (an @c1 @c3))))) ?_
  exact er0
 | true =>
 cases c4 : decide (a.to = []) with
 | false =>
  refine runf (an @hn (an @hl1 (an @hl2 (an @c0 (an @c1 (an @c3 @c4)))))) ?_
  exact er0
 | true =>
 cases c5 : decide (a.text = []) with
 | false =>
  refine runf (an @hn (an @hl1 (an @hl2 (an @c0 (an @c1 (an @c3 (an @c4 @c5))))))) ?_
  exact er0
 | true =>
 refine runf (an @hn (an @hl1 (an @hl2 (an @c0 (an @c1 (an @c3 (an @c4 @c5))))))) ?_
 refine cp (fempty_c a.body) ?_
 cases c6 : decide (a.body = box0) with
 | false =>
  refine run ?_
  exact er0
 | true =>
 by_cases p7 : a.epoch = 0
 rotate_left
 ·rw [decide_eq_false p7]
  refine runf (an @hn (an @hl1 (an @hl2 (an @c0 (an @c1 (an @c3 (an @c4 @c5))))))) ?_
  exact er0
 rw [decide_eq_true p7]
 cases c8 : decide (a.wraps = []) with
 | false =>
  refine runf (an @hn (an @hl1 (an @hl2 (an @c0 (an @c1 (an @c3 (an @c4 (an @c5 @c8)))))))) ?_
  exact er0
 | true =>
 by_cases p9 : a.n = 0
 rotate_left
 ·rw [decide_eq_false p9]
  refine runf (an @hn (an @hl1 (an @hl2 (an @c0 (an @c1 (an @c3 (an @c4 (an @c5 @c8)))))))) ?_
  exact er0
 rw [decide_eq_true p9]
 by_cases p10 : a.m = 0
 rotate_left
 ·rw [decide_eq_false p10]
  refine runf (an @hn (an @hl1 (an @hl2 (an @c0 (an @c1 (an @c3 (an @c4 (an @c5 @c8)))))))) ?_
  exact er0
 rw [decide_eq_true p10]
 refine runf (an @hn (an @hl1 (an @hl2 (an @c0 (an @c1 (an @c3 (an @c4 (an @c5 @c8)))))))) ?_
 exact er0
def fitsF (a : Ac.Act) : Bool := match rule a.kind with
 | none => false
 | some r => out a r && r.ok a
theorem right_fits (a : Ac.Act) : Ac.right a = (idR a.author && placed a && wi a.time 0 1099511627776 && sigR a.sig && fitsF a) := by
 unfold Ac.right fitsF
 cases h : rule a.kind with
 | none => rfl
 | some r =>
  have e : decide (Go.bits .andNot .i64 (used a) r.mask = 0) = out a r := mask_eq r _ _ _ _ _ _ _ _ _ _ _
  simp only [e]
theorem wi19 (m : Int) : wi m 0 19 = (decide (0 ≤ m) && decide (m < 20)) := by
 unfold wi
 rw [show decide (m ≤ 19) = decide (m < 20) by rw [Bool.eq_iff_iff]; simp only [decide_eq_true_eq]; omega]
theorem scopeF (a : Ac.Act) : (decide (1 ≤ a.scope) && decide (a.scope ≤ 3) && groupF a) = sealedSc a.scope a.group := by
 unfold groupF sealedSc
 by_cases h2 : a.scope = 2
 ·rw [if_pos h2, if_pos h2, h2]; rfl
 rw [if_neg h2, if_neg h2]
 by_cases h13 : a.scope = 1 ∨ a.scope = 3
 ·rw [if_pos h13, decide_eq_true (show 1 ≤ a.scope by omega), decide_eq_true (show a.scope ≤ 3 by omega)]; rfl
 ·rw [if_neg h13]
  by_cases h1 : 1 ≤ a.scope
  ·rw [decide_eq_false (show ¬ a.scope ≤ 3 by omega), Bool.and_false]; rfl
  ·rw [decide_eq_false h1]; rfl
theorem ffits_c (a : Ac.Act) (h : Sz a) : AC Tryz.prog 249 [actV a] [] (.bo (fitsF a)) [] := by
 refine AC.enter2 [254, 255, 256, 257, 248, 251, 258, 259, 260] [] Tryz.func249 rfl (by decide) (by decide) (Nat.le_of_ble_eq_true rfl) (by kernel_rfl) ?_; simp only [eraseC, eraseO, List.map_cons, List.map_nil, List.map_toArray, List.getElem?_toArray, List.getElem?_cons_zero, List.getElem?_cons_succ, Option.bind_some, Option.bind_none, List.append_eq, List.cons_append, List.nil_append]
 have hn := nilD
 by_cases hr : 0 ≤ a.kind ∧ a.kind ≤ 23
 rotate_left
 ·have hv : fitsF a = false := by
   unfold fitsF
   rw [rule_none (by omega)]
  rw [hv]
  refine run ?_
  exact er0
 have hks : a.kind = 0 ∨ a.kind = 1 ∨ a.kind = 2 ∨ a.kind = 3 ∨ a.kind = 4 ∨ a.kind = 5 ∨ a.kind = 6 ∨ a.kind = 7 ∨ a.kind = 8 ∨ a.kind = 9 ∨ a.kind = 10 ∨ a.kind = 11 ∨ a.kind = 12 ∨ a.kind = 13 ∨ a.kind = 14 ∨ a.kind = 15 ∨ a.kind = 16 ∨ a.kind = 17 ∨ a.kind = 18 ∨ a.kind = 19 ∨ a.kind = 20 ∨ a.kind = 21 ∨ a.kind = 22 ∨ a.kind = 23 := by omega
 rcases hks with hk | hk | hk | hk | hk | hk | hk | hk | hk | hk | hk | hk | hk | hk | hk | hk | hk | hk | hk | hk | hk | hk | hk | hk
 ·have hv : fitsF a = (pub a.n && decide (0 ≤ a.m) && decide (a.m < 20) && nameR a.text && zeroF { a with text := [], n := 0, m := 0 }) := by
   unfold fitsF
   rw [hk]
   show (out a .begin && Ru.ok a .begin) = _
   simp only [out, outB, Ru.ok, home, Ac.grant, Ac.setup, ← scopeF, wi19, zeroF, bareA, decide_true, Bool.and_true, Bool.true_and]
   ac_rfl
  rw [hv]
  refine runf @hn ?_
  refine cp (fpub_c a.n) ?_
  cases c0 : pub a.n with
  | false =>
   refine runf @hn ?_
   refine cp (fname_c a.text h.text) ?_
   refine runf @hn ?_
   exact er0
  | true =>
  by_cases p1 : 0 ≤ a.m
  rotate_left
  ·rw [decide_eq_false p1]
   refine runf @hn ?_
   refine cp (fname_c a.text h.text) ?_
   refine runf @hn ?_
   exact er0
  rw [decide_eq_true p1]
  by_cases p2 : a.m < 20
  rotate_left
  ·rw [decide_eq_false p2]
   refine runf @hn ?_
   refine cp (fname_c a.text h.text) ?_
   refine runf @hn ?_
   exact er0
  rw [decide_eq_true p2]
  refine runf @hn ?_
  refine cp (fname_c a.text h.text) ?_
  cases c3 : nameR a.text with
  | false =>
   refine runf @hn ?_
   exact er0
  | true =>
  refine runf @hn ?_
  refine cp (fzero_c { a with text := [], n := 0, m := 0 }) ?_
  refine runf @hn ?_
  exact er0
 ·have hv : fitsF a = (audience a && zeroF (bareA a)) := by
   unfold fitsF
   rw [hk]
   show (out a .post && Ru.ok a .post) = _
   simp only [out, outB, Ru.ok, home, Ac.grant, Ac.setup, ← scopeF, wi19, wi, zeroF, bareA, decide_true, Bool.and_true, Bool.true_and]
   ac_rfl
  rw [hv]
  refine runf @hn ?_
  refine cp (faudience_c a h) ?_
  cases c0 : audience a with
  | false =>
   refine runf @hn ?_
   refine cp (fbare_c a) ?_
   refine runf @hn ?_
   exact er0
  | true =>
  refine runf @hn ?_
  refine cp (fbare_c a) ?_
  refine runf @hn ?_
  refine cp (fzero_c (bareA a)) ?_
  refine runf @hn ?_
  exact er0
 ·have hv : fitsF a = (audience a && dig a.object && zeroF { bareA a with object := [] }) := by
   unfold fitsF
   rw [hk]
   show (out a .reply && Ru.ok a .reply) = _
   simp only [out, outB, Ru.ok, home, Ac.grant, Ac.setup, ← scopeF, wi19, wi, zeroF, bareA, decide_true, Bool.and_true, Bool.true_and]
   ac_rfl
  rw [hv]
  refine runf @hn ?_
  refine cp (faudience_c a h) ?_
  cases c0 : audience a with
  | false =>
   refine runf @hn ?_
   refine cp (fbare_c a) ?_
   refine runf @hn ?_
   exact er0
  | true =>
  rw [dig_eq]
  cases c1 : ((a.object.length : Int) == 32) with
  | false =>
   refine runf (an @hn @c1) ?_
   refine cp (fbare_c a) ?_
   refine runf (an @hn @c1) ?_
   exact er0
  | true =>
  refine runf (an @hn @c1) ?_
  refine cp (fbare_c a) ?_
  refine runf (an @hn @c1) ?_
  refine cp (fzero_c { bareA a with object := [] }) ?_
  refine runf (an @hn @c1) ?_
  exact er0
 ·have hv : fitsF a = (audience a && dig a.object && zeroF { bareA a with object := [] }) := by
   unfold fitsF
   rw [hk]
   show (out a .reply && Ru.ok a .reply) = _
   simp only [out, outB, Ru.ok, home, Ac.grant, Ac.setup, ← scopeF, wi19, wi, zeroF, bareA, decide_true, Bool.and_true, Bool.true_and]
   ac_rfl
  rw [hv]
  refine runf @hn ?_
  refine cp (faudience_c a h) ?_
  cases c0 : audience a with
  | false =>
   refine runf @hn ?_
   refine cp (fbare_c a) ?_
   refine runf @hn ?_
   exact er0
  | true =>
  rw [dig_eq]
  cases c1 : ((a.object.length : Int) == 32) with
  | false =>
   refine runf (an @hn @c1) ?_
   refine cp (fbare_c a) ?_
   refine runf (an @hn @c1) ?_
   exact er0
  | true =>
  refine runf (an @hn @c1) ?_
  refine cp (fbare_c a) ?_
  refine runf (an @hn @c1) ?_
  refine cp (fzero_c { bareA a with object := [] }) ?_
  refine runf (an @hn @c1) ?_
  exact er0
 ·have hv : fitsF a = (dig a.object && zeroF { a with object := [] }) := by
   unfold fitsF
   rw [hk]
   show (out a .about && Ru.ok a .about) = _
   simp only [out, outB, Ru.ok, home, Ac.grant, Ac.setup, ← scopeF, wi19, wi, zeroF, bareA, decide_true, Bool.and_true, Bool.true_and]
   ac_rfl
  rw [hv]
  rw [dig_eq]
  cases c0 : ((a.object.length : Int) == 32) with
  | false =>
   refine runf (an @hn @c0) ?_
   exact er0
  | true =>
  refine runf (an @hn @c0) ?_
  refine cp (fzero_c { a with object := [] }) ?_
  refine runf (an @hn @c0) ?_
  exact er0
 ·have hv : fitsF a = (dig a.object && zeroF { a with object := [] }) := by
   unfold fitsF
   rw [hk]
   show (out a .about && Ru.ok a .about) = _
   simp only [out, outB, Ru.ok, home, Ac.grant, Ac.setup, ← scopeF, wi19, wi, zeroF, bareA, decide_true, Bool.and_true, Bool.true_and]
   ac_rfl
  rw [hv]
  rw [dig_eq]
  cases c0 : ((a.object.length : Int) == 32) with
  | false =>
   refine runf (an @hn @c0) ?_
   exact er0
  | true =>
  refine runf (an @hn @c0) ?_
  refine cp (fzero_c { a with object := [] }) ?_
  refine runf (an @hn @c0) ?_
  exact er0
 ·have hv : fitsF a = (dig a.object && zeroF { a with object := [] }) := by
   unfold fitsF
   rw [hk]
   show (out a .about && Ru.ok a .about) = _
   simp only [out, outB, Ru.ok, home, Ac.grant, Ac.setup, ← scopeF, wi19, wi, zeroF, bareA, decide_true, Bool.and_true, Bool.true_and]
   ac_rfl
  rw [hv]
  rw [dig_eq]
  cases c0 : ((a.object.length : Int) == 32) with
  | false =>
   refine runf (an @hn @c0) ?_
   exact er0
  | true =>
  refine runf (an @hn @c0) ?_
  refine cp (fzero_c { a with object := [] }) ?_
  refine runf (an @hn @c0) ?_
  exact er0
 ·have hv : fitsF a = (idR a.target && zeroF { a with target := [] }) := by
   unfold fitsF
   rw [hk]
   show (out a .tie && Ru.ok a .tie) = _
   simp only [out, outB, Ru.ok, home, Ac.grant, Ac.setup, ← scopeF, wi19, wi, zeroF, bareA, decide_true, Bool.and_true, Bool.true_and]
   ac_rfl
  rw [hv]
  refine runf @hn ?_
  refine cp (fidright_c a.target h.target) ?_
  cases c0 : idR a.target with
  | false =>
   refine runf @hn ?_
   exact er0
  | true =>
  refine runf @hn ?_
  refine cp (fzero_c { a with target := [] }) ?_
  refine runf @hn ?_
  exact er0
 ·have hv : fitsF a = (idR a.target && zeroF { a with target := [] }) := by
   unfold fitsF
   rw [hk]
   show (out a .tie && Ru.ok a .tie) = _
   simp only [out, outB, Ru.ok, home, Ac.grant, Ac.setup, ← scopeF, wi19, wi, zeroF, bareA, decide_true, Bool.and_true, Bool.true_and]
   ac_rfl
  rw [hv]
  refine runf @hn ?_
  refine cp (fidright_c a.target h.target) ?_
  cases c0 : idR a.target with
  | false =>
   refine runf @hn ?_
   exact er0
  | true =>
  refine runf @hn ?_
  refine cp (fzero_c { a with target := [] }) ?_
  refine runf @hn ?_
  exact er0
 ·have hv : fitsF a = (idR a.target && zeroF { a with target := [] }) := by
   unfold fitsF
   rw [hk]
   show (out a .tie && Ru.ok a .tie) = _
   simp only [out, outB, Ru.ok, home, Ac.grant, Ac.setup, ← scopeF, wi19, wi, zeroF, bareA, decide_true, Bool.and_true, Bool.true_and]
   ac_rfl
  rw [hv]
  refine runf @hn ?_
  refine cp (fidright_c a.target h.target) ?_
  cases c0 : idR a.target with
  | false =>
   refine runf @hn ?_
   exact er0
  | true =>
  refine runf @hn ?_
  refine cp (fzero_c { a with target := [] }) ?_
  refine runf @hn ?_
  exact er0
 ·have hv : fitsF a = (idR a.target && zeroF { a with target := [] }) := by
   unfold fitsF
   rw [hk]
   show (out a .tie && Ru.ok a .tie) = _
   simp only [out, outB, Ru.ok, home, Ac.grant, Ac.setup, ← scopeF, wi19, wi, zeroF, bareA, decide_true, Bool.and_true, Bool.true_and]
   ac_rfl
  rw [hv]
  refine runf @hn ?_
  refine cp (fidright_c a.target h.target) ?_
  cases c0 : idR a.target with
  | false =>
   refine runf @hn ?_
   exact er0
  | true =>
  refine runf @hn ?_
  refine cp (fzero_c { a with target := [] }) ?_
  refine runf @hn ?_
  exact er0
 ·have hv : fitsF a = (idR a.target && zeroF { a with target := [] }) := by
   unfold fitsF
   rw [hk]
   show (out a .tie && Ru.ok a .tie) = _
   simp only [out, outB, Ru.ok, home, Ac.grant, Ac.setup, ← scopeF, wi19, wi, zeroF, bareA, decide_true, Bool.and_true, Bool.true_and]
   ac_rfl
  rw [hv]
  refine runf @hn ?_
  refine cp (fidright_c a.target h.target) ?_
  cases c0 : idR a.target with
  | false =>
   refine runf @hn ?_
   exact er0
  | true =>
  refine runf @hn ?_
  refine cp (fzero_c { a with target := [] }) ?_
  refine runf @hn ?_
  exact er0
 ·have hv : fitsF a = (dig a.object && short a.text && zeroF { a with object := [], text := [] }) := by
   unfold fitsF
   rw [hk]
   show (out a .reason && Ru.ok a .reason) = _
   simp only [out, outB, Ru.ok, home, Ac.grant, Ac.setup, ← scopeF, wi19, wi, zeroF, bareA, decide_true, Bool.and_true, Bool.true_and]
   ac_rfl
  rw [hv]
  rw [dig_eq]
  cases c0 : ((a.object.length : Int) == 32) with
  | false =>
   refine runf (an @hn @c0) ?_
   exact er0
  | true =>
  rw [short_eq]
  cases c1 : decide ((a.text.length : Int) ≤ 500) with
  | false =>
   refine runf (an @hn (an @c0 @c1)) ?_
   exact er0
  | true =>
  refine runf (an @hn (an @c0 @c1)) ?_
  refine cp (fzero_c { a with object := [], text := [] }) ?_
  refine runf (an @hn (an @c0 @c1)) ?_
  exact er0
 ·have hv : fitsF a = (dig a.object && zeroF { a with object := [] }) := by
   unfold fitsF
   rw [hk]
   show (out a .about && Ru.ok a .about) = _
   simp only [out, outB, Ru.ok, home, Ac.grant, Ac.setup, ← scopeF, wi19, wi, zeroF, bareA, decide_true, Bool.and_true, Bool.true_and]
   ac_rfl
  rw [hv]
  rw [dig_eq]
  cases c0 : ((a.object.length : Int) == 32) with
  | false =>
   refine runf (an @hn @c0) ?_
   exact er0
  | true =>
  refine runf (an @hn @c0) ?_
  refine cp (fzero_c { a with object := [] }) ?_
  refine runf (an @hn @c0) ?_
  exact er0
 ·have hv : fitsF a = (audience a && dig a.object && zeroF { bareA a with object := [] }) := by
   unfold fitsF
   rw [hk]
   show (out a .reply && Ru.ok a .reply) = _
   simp only [out, outB, Ru.ok, home, Ac.grant, Ac.setup, ← scopeF, wi19, wi, zeroF, bareA, decide_true, Bool.and_true, Bool.true_and]
   ac_rfl
  rw [hv]
  refine runf @hn ?_
  refine cp (faudience_c a h) ?_
  cases c0 : audience a with
  | false =>
   refine runf @hn ?_
   refine cp (fbare_c a) ?_
   refine runf @hn ?_
   exact er0
  | true =>
  rw [dig_eq]
  cases c1 : ((a.object.length : Int) == 32) with
  | false =>
   refine runf (an @hn @c1) ?_
   refine cp (fbare_c a) ?_
   refine runf (an @hn @c1) ?_
   exact er0
  | true =>
  refine runf (an @hn @c1) ?_
  refine cp (fbare_c a) ?_
  refine runf (an @hn @c1) ?_
  refine cp (fzero_c { bareA a with object := [] }) ?_
  refine runf (an @hn @c1) ?_
  exact er0
 ·have hv : fitsF a = (idsR a.to && nameR a.group && zeroF { a with group := [], to := [] }) := by
   unfold fitsF
   rw [hk]
   show (out a .circle && Ru.ok a .circle) = _
   simp only [out, outB, Ru.ok, home, Ac.grant, Ac.setup, ← scopeF, wi19, wi, zeroF, bareA, decide_true, Bool.and_true, Bool.true_and]
   ac_rfl
  rw [hv]
  refine runf @hn ?_
  refine cp (fids_c a.to h.tos h.to) ?_
  cases c0 : idsR a.to with
  | false =>
   refine runf @hn ?_
   exact er0
  | true =>
  refine runf @hn ?_
  refine cp (fname_c a.group h.group) ?_
  cases c1 : nameR a.group with
  | false =>
   refine runf @hn ?_
   exact er0
  | true =>
  refine runf @hn ?_
  refine cp (fzero_c { a with group := [], to := [] }) ?_
  refine runf @hn ?_
  exact er0
 ·have hv : fitsF a = (idsR a.to && decide (1 ≤ a.scope) && decide (a.scope ≤ 3) && groupF a && decide (0 ≤ a.epoch) && decide (a.epoch ≤ 1073741824) && wrapped a && zeroF { a with scope := 0, group := [], to := [], epoch := 0, wraps := [] }) := by
   unfold fitsF
   rw [hk]
   show (out a .grant && Ru.ok a .grant) = _
   simp only [out, outB, Ru.ok, home, Ac.grant, Ac.setup, ← scopeF, wi19, wi, zeroF, bareA, decide_true, Bool.and_true, Bool.true_and]
   ac_rfl
  rw [hv]
  refine runf @hn ?_
  refine cp (fids_c a.to h.tos h.to) ?_
  cases c0 : idsR a.to with
  | false =>
   refine runf @hn ?_
   exact er0
  | true =>
  by_cases p1 : 1 ≤ a.scope
  rotate_left
  ·rw [decide_eq_false p1]
   refine runf @hn ?_
   exact er0
  rw [decide_eq_true p1]
  by_cases p2 : a.scope ≤ 3
  rotate_left
  ·rw [decide_eq_false p2]
   refine runf @hn ?_
   exact er0
  rw [decide_eq_true p2]
  refine runf @hn ?_
  refine cp (fgroup_c a h.group) ?_
  cases c3 : groupF a with
  | false =>
   refine runf @hn ?_
   exact er0
  | true =>
  by_cases p4 : 0 ≤ a.epoch
  rotate_left
  ·rw [decide_eq_false p4]
   refine runf @hn ?_
   exact er0
  rw [decide_eq_true p4]
  by_cases p5 : a.epoch ≤ 1073741824
  rotate_left
  ·rw [decide_eq_false p5]
   refine runf @hn ?_
   exact er0
  rw [decide_eq_true p5]
  refine runf @hn ?_
  refine cp (fwrapped_c a h.wraps) ?_
  cases c6 : wrapped a with
  | false =>
   refine runf @hn ?_
   exact er0
  | true =>
  refine runf @hn ?_
  refine cp (fzero_c { a with scope := 0, group := [], to := [], epoch := 0, wraps := [] }) ?_
  refine runf @hn ?_
  exact er0
 ·by_cases ho : a.object = []
  ·have hv : fitsF a = (nameR a.text && idR a.target && zeroF { a with text := [], object := [], target := [] }) := by
    unfold fitsF
    rw [hk]
    show (out a .label && Ru.ok a .label) = _
    have hd : dig a.object = false := by unfold dig; rw [ho]; rfl
    simp only [out, outB, Ru.ok, Ac.label, hd, ho, Bool.false_and, Bool.false_or, zeroF, bareA, decide_true, Bool.and_true, Bool.true_and]
    ac_rfl
   rw [hv]
   have hob : (a.object == []) = true := by rw [ho]; rfl
   refine runf (an @hn @hob) ?_
   refine cp (fname_c a.text h.text) ?_
   cases c0 : nameR a.text with
   | false =>
    refine runf (an @hn @hob) ?_
    refine cp (fidright_c a.target h.target) ?_
    refine runf (an @hn @hob) ?_
    exact er0
   | true =>
   refine runf (an @hn @hob) ?_
   refine cp (fidright_c a.target h.target) ?_
   cases c1 : idR a.target with
   | false =>
    refine runf (an @hn @hob) ?_
    exact er0
   | true =>
   refine runf (an @hn @hob) ?_
   refine cp (fzero_c { a with text := [], object := [], target := [] }) ?_
   refine runf (an @hn @hob) ?_
   exact er0
  ·have hv : fitsF a = (nameR a.text && dig a.object && decide (a.target = []) && zeroF { a with text := [], object := [], target := [] }) := by
    unfold fitsF
    rw [hk]
    show (out a .label && Ru.ok a .label) = _
    simp only [out, outB, Ru.ok, Ac.label, decide_eq_false ho, Bool.and_false, Bool.or_false, zeroF, bareA, decide_true, Bool.and_true, Bool.true_and]
    ac_rfl
   rw [hv]
   have hob : (a.object == []) = false := by simpa using ho
   refine runf (an @hn @hob) ?_
   refine cp (fname_c a.text h.text) ?_
   cases c0 : nameR a.text with
   | false =>
    refine runf (an @hn @hob) ?_
    exact er0
   | true =>
   rw [dig_eq]
   cases c1 : ((a.object.length : Int) == 32) with
   | false =>
    refine runf (an @hn (an @hob @c1)) ?_
    exact er0
   | true =>
   cases c2 : decide (a.target = []) with
   | false =>
    refine runf (an @hn (an @hob (an @c1 @c2))) ?_
    exact er0
   | true =>
   refine runf (an @hn (an @hob (an @c1 @c2))) ?_
   refine cp (fzero_c { a with text := [], object := [], target := [] }) ?_
   refine runf (an @hn (an @hob (an @c1 @c2))) ?_
   exact er0
 ·have hv : fitsF a = (pub a.n && decide (0 ≤ a.m) && decide (a.m < 20) && zeroF { a with n := 0, m := 0 }) := by
   unfold fitsF
   rw [hk]
   show (out a .move && Ru.ok a .move) = _
   simp only [out, outB, Ru.ok, home, Ac.grant, Ac.setup, ← scopeF, wi19, zeroF, bareA, decide_true, Bool.and_true, Bool.true_and]
   ac_rfl
  rw [hv]
  refine runf @hn ?_
  refine cp (fpub_c a.n) ?_
  cases c0 : pub a.n with
  | false =>
   refine runf @hn ?_
   exact er0
  | true =>
  by_cases p1 : 0 ≤ a.m
  rotate_left
  ·rw [decide_eq_false p1]
   refine runf @hn ?_
   exact er0
  rw [decide_eq_true p1]
  by_cases p2 : a.m < 20
  rotate_left
  ·rw [decide_eq_false p2]
   refine runf @hn ?_
   exact er0
  rw [decide_eq_true p2]
  refine runf @hn ?_
  refine cp (fzero_c { a with n := 0, m := 0 }) ?_
  refine runf @hn ?_
  exact er0
 ·have hv : fitsF a = (idsR a.to && decide (0 < a.to.length) && wrapped a && decide (1 ≤ a.n) && decide (a.n ≤ (a.to.length : Int)) && pub a.m && zeroF { a with to := [], wraps := [], n := 0, m := 0 }) := by
   unfold fitsF
   rw [hk]
   show (out a .setup && Ru.ok a .setup) = _
   simp only [out, outB, Ru.ok, home, Ac.grant, Ac.setup, ← scopeF, wi19, wi, zeroF, bareA, decide_true, Bool.and_true, Bool.true_and]
   ac_rfl
  rw [hv]
  refine runf @hn ?_
  refine cp (fids_c a.to h.tos h.to) ?_
  cases c0 : idsR a.to with
  | false =>
   refine runf @hn ?_
   exact er0
  | true =>
  by_cases p1 : 0 < a.to.length
  rotate_left
  ·rw [decide_eq_false p1]
   refine runf @hn ?_
   exact er0
  rw [decide_eq_true p1]
  refine runf @hn ?_
  refine cp (fwrapped_c a h.wraps) ?_
  cases c2 : wrapped a with
  | false =>
   refine runf @hn ?_
   exact er0
  | true =>
  by_cases p3 : 1 ≤ a.n
  rotate_left
  ·rw [decide_eq_false p3]
   refine runf @hn ?_
   exact er0
  rw [decide_eq_true p3]
  by_cases p4 : a.n ≤ (a.to.length : Int)
  rotate_left
  ·rw [decide_eq_false p4]
   refine runf @hn ?_
   exact er0
  rw [decide_eq_true p4]
  refine runf @hn ?_
  refine cp (fpub_c a.m) ?_
  cases c5 : pub a.m with
  | false =>
   refine runf @hn ?_
   exact er0
  | true =>
  refine runf @hn ?_
  refine cp (fzero_c { a with to := [], wraps := [], n := 0, m := 0 }) ?_
  refine runf @hn ?_
  exact er0
 ·have hv : fitsF a = (dig a.object && zeroF { a with object := [] }) := by
   unfold fitsF
   rw [hk]
   show (out a .about && Ru.ok a .about) = _
   simp only [out, outB, Ru.ok, home, Ac.grant, Ac.setup, ← scopeF, wi19, wi, zeroF, bareA, decide_true, Bool.and_true, Bool.true_and]
   ac_rfl
  rw [hv]
  rw [dig_eq]
  cases c0 : ((a.object.length : Int) == 32) with
  | false =>
   refine runf (an @hn @c0) ?_
   exact er0
  | true =>
  refine runf (an @hn @c0) ?_
  refine cp (fzero_c { a with object := [] }) ?_
  refine runf (an @hn @c0) ?_
  exact er0
 ·have hv : fitsF a = (dig a.object && short a.text && zeroF { a with object := [], text := [] }) := by
   unfold fitsF
   rw [hk]
   show (out a .reason && Ru.ok a .reason) = _
   simp only [out, outB, Ru.ok, home, Ac.grant, Ac.setup, ← scopeF, wi19, wi, zeroF, bareA, decide_true, Bool.and_true, Bool.true_and]
   ac_rfl
  rw [hv]
  rw [dig_eq]
  cases c0 : ((a.object.length : Int) == 32) with
  | false =>
   refine runf (an @hn @c0) ?_
   exact er0
  | true =>
  rw [short_eq]
  cases c1 : decide ((a.text.length : Int) ≤ 500) with
  | false =>
   refine runf (an @hn (an @c0 @c1)) ?_
   exact er0
  | true =>
  refine runf (an @hn (an @c0 @c1)) ?_
  refine cp (fzero_c { a with object := [], text := [] }) ?_
  refine runf (an @hn (an @c0 @c1)) ?_
  exact er0
 ·have hv : fitsF a = (dig a.object && decide (0 ≤ a.n) && decide (a.n ≤ 1) && zeroF { a with object := [], n := 0 }) := by
   unfold fitsF
   rw [hk]
   show (out a .judge && Ru.ok a .judge) = _
   simp only [out, outB, Ru.ok, home, Ac.grant, Ac.setup, ← scopeF, wi19, wi, zeroF, bareA, decide_true, Bool.and_true, Bool.true_and]
   ac_rfl
  rw [hv]
  rw [dig_eq]
  cases c0 : ((a.object.length : Int) == 32) with
  | false =>
   refine runf (an @hn @c0) ?_
   exact er0
  | true =>
  by_cases p1 : 0 ≤ a.n
  rotate_left
  ·rw [decide_eq_false p1]
   refine runf (an @hn @c0) ?_
   exact er0
  rw [decide_eq_true p1]
  by_cases p2 : a.n ≤ 1
  rotate_left
  ·rw [decide_eq_false p2]
   refine runf (an @hn @c0) ?_
   exact er0
  rw [decide_eq_true p2]
  refine runf (an @hn @c0) ?_
  refine cp (fzero_c { a with object := [], n := 0 }) ?_
  refine runf (an @hn @c0) ?_
  exact er0
 ·have hv : fitsF a = (idR a.target && short a.text && decide (0 ≤ a.n) && decide (a.n ≤ 1099511627776) && zeroF { a with target := [], text := [], n := 0 }) := by
   unfold fitsF
   rw [hk]
   show (out a .list && Ru.ok a .list) = _
   simp only [out, outB, Ru.ok, home, Ac.grant, Ac.setup, ← scopeF, wi19, wi, zeroF, bareA, decide_true, Bool.and_true, Bool.true_and]
   ac_rfl
  rw [hv]
  refine runf @hn ?_
  refine cp (fidright_c a.target h.target) ?_
  cases c0 : idR a.target with
  | false =>
   refine runf @hn ?_
   exact er0
  | true =>
  rw [short_eq]
  cases c1 : decide ((a.text.length : Int) ≤ 500) with
  | false =>
   refine runf (an @hn @c1) ?_
   exact er0
  | true =>
  by_cases p2 : 0 ≤ a.n
  rotate_left
  ·rw [decide_eq_false p2]
   refine runf (an @hn @c1) ?_
   exact er0
  rw [decide_eq_true p2]
  by_cases p3 : a.n ≤ 1099511627776
  rotate_left
  ·rw [decide_eq_false p3]
   refine runf (an @hn @c1) ?_
   exact er0
  rw [decide_eq_true p3]
  refine runf (an @hn @c1) ?_
  refine cp (fzero_c { a with target := [], text := [], n := 0 }) ?_
  refine runf (an @hn @c1) ?_
  exact er0
end Go.Proofs.YthbpbkbjdfcnjaaGreatDoor.Pe
end
section
namespace Go.Proofs.YthbpbkbjdfcnjaaGreatDoor.Pe
open Go Go.RowKit Co Sg Ac
set_option maxRecDepth 100000
set_option maxHeartbeats 4000000
theorem fright12_c (a : Ac.Act) (h : Sz a) : AC Tryz.prog 238 [actV a] [] (.bo (Ac.right a)) [] := by
 refine AC.enter2 [248, 249] [] Tryz.func238 rfl (by decide) (by decide) (Nat.le_of_ble_eq_true rfl) (by kernel_rfl) ?_; simp only [eraseC, eraseO, List.map_cons, List.map_nil, List.map_toArray, List.getElem?_toArray, List.getElem?_cons_zero, List.getElem?_cons_succ, Option.bind_some, Option.bind_none, List.append_eq, List.cons_append, List.nil_append]
 obtain ⟨q, hq⟩ : ∃ q, Ac.right a = q := ⟨_, rfl⟩
 rw [hq]
 rw [right_fits] at hq
 have hn := nilD
 refine run ?_
 refine cp (fidright_c a.author h.author) ?_
 cases c0 : idR a.author with
 | false =>
  obtain rfl : q = false := by rw [← hq, c0]; rfl
  refine run ?_
  exact er0
 | true =>
 by_cases s0 : 0 ≤ a.seq
 rotate_left
 ·obtain rfl : q = false := by
   rw [← hq]
   have hp : placed a = false := by unfold placed; split <;> simp [wi, dig] <;> omega
   rw [hp]; simp
  refine runf @hn ?_
  exact er0
 by_cases s1 : a.seq ≤ 1073741824
 rotate_left
 ·obtain rfl : q = false := by
   rw [← hq]
   have hp : placed a = false := by unfold placed; split <;> simp [wi, dig] <;> omega
   rw [hp]; simp
  refine runf @hn ?_
  exact er0
 by_cases t0 : 0 ≤ a.time
 rotate_left
 ·obtain rfl : q = false := by
   rw [← hq]
   have hp : wi a.time 0 1099511627776 = false := by simp [wi]; omega
   rw [hp]; simp
  refine runf @hn ?_
  exact er0
 by_cases t1 : a.time ≤ 1099511627776
 rotate_left
 ·obtain rfl : q = false := by
   rw [← hq]
   have hp : wi a.time 0 1099511627776 = false := by simp [wi]; omega
   rw [hp]; simp
  refine runf @hn ?_
  exact er0
 by_cases e0 : 0 ≤ a.sig.e
 rotate_left
 ·obtain rfl : q = false := by
   rw [← hq]
   have hp : sigR a.sig = false := by simp [sigR, wi]; omega
   rw [hp]; simp
  refine runf @hn ?_
  exact er0
 by_cases e1 : a.sig.e < 2305843009213693950
 rotate_left
 ·obtain rfl : q = false := by
   rw [← hq]
   have hp : sigR a.sig = false := by simp [sigR, wi]; omega
   rw [hp]; simp
  refine runf @hn ?_
  exact er0
 by_cases f0 : 0 ≤ a.sig.s
 rotate_left
 ·obtain rfl : q = false := by
   rw [← hq]
   have hp : sigR a.sig = false := by simp [sigR, wi]; omega
   rw [hp]; simp
  refine runf @hn ?_
  exact er0
 by_cases f1 : a.sig.s < 2305843009213693950
 rotate_left
 ·obtain rfl : q = false := by
   rw [← hq]
   have hp : sigR a.sig = false := by simp [sigR, wi]; omega
   rw [hp]; simp
  refine runf @hn ?_
  exact er0
 have htm : wi a.time 0 1099511627776 = true := wi_iff.2 ⟨t0, t1⟩
 have hsg : sigR a.sig = true := by simp [sigR, wi]; omega
 by_cases z : a.seq = 0
 ·cases cp0 : decide (a.prev = []) with
  | false =>
   obtain rfl : q = false := by
    have hp : placed a = false := by unfold placed; rw [if_pos z, cp0, Bool.and_false]
    rw [← hq, hp]; simp
   refine runf (an @hn @cp0) ?_
   exact er0
  | true =>
  by_cases kz : a.kind = 0
  rotate_left
  ·obtain rfl : q = false := by
    have hp : placed a = false := by unfold placed; rw [if_pos z, decide_eq_false kz]; rfl
    rw [← hq, hp]; simp
   refine runf (an @hn @cp0) ?_
   exact er0
  obtain rfl : q = fitsF a := by
   have hp : placed a = true := by unfold placed; rw [if_pos z, decide_eq_true kz, cp0]; rfl
   rw [← hq, hp, c0, htm, hsg]; rfl
  refine runf (an @hn @cp0) ?_
  refine cp (ffits_c a h) ?_
  refine run ?_
  exact er0
 ·have z' : 1 ≤ a.seq := by omega
  have hw1 : wi a.seq 1 1073741824 = true := wi_iff.2 ⟨z', s1⟩
  have hd := dig_eq a.prev
  cases cd : ((a.prev.length : Int) == 32) with
  | false =>
   have cd' : ((a.prev.length : Int) != 32) = true := by simpa [bne] using cd
   obtain rfl : q = false := by
    have hp : placed a = false := by unfold placed; rw [if_neg z, hd, cd, Bool.and_false]
    rw [← hq, hp]; simp
   refine runf @cd' ?_
   exact er0
  | true =>
  have cd' : ((a.prev.length : Int) != 32) = false := by simpa [bne] using cd
  by_cases kz : a.kind = 0
  ·obtain rfl : q = false := by
    have hp : placed a = false := by unfold placed; rw [if_neg z, hw1, decide_eq_false (show ¬ a.kind ≠ 0 from fun h => h kz)]; rfl
    rw [← hq, hp]; simp
   refine runf @cd' ?_
   exact er0
  obtain rfl : q = fitsF a := by
   have hp : placed a = true := by unfold placed; rw [if_neg z, hw1, decide_eq_true (show a.kind ≠ 0 from kz), hd, cd]; rfl
   rw [← hq, hp, c0, htm, hsg]; rfl
  refine runf @cd' ?_
  refine cp (ffits_c a h) ?_
  refine run ?_
  exact er0
theorem fbox_c (b : Box) (h : b.nonce.length ≤ 1000000 ∧ b.data.length ≤ 1000000 ∧ b.tag.length ≤ 1000000) : AC Tryz.prog 252 [boxV b] [] (.st (boxB b)) [] := by
 refine AC.enter2 [78] [] Tryz.func252 rfl (by decide) (by decide) (Nat.le_of_ble_eq_true rfl) (by kernel_rfl) ?_; simp only [eraseC, eraseO, List.map_cons, List.map_nil, List.map_toArray, List.getElem?_toArray, List.getElem?_cons_zero, List.getElem?_cons_succ, Option.bind_some, Option.bind_none, List.append_eq, List.cons_append, List.nil_append]
 have l1 := text_len h.1
 have l2 := text_len h.2.1
 have l3 := text_len h.2.2
 unfold boxB
 refine run ?_
 refine cp (ftext_c b.nonce (by omega)) ?_
 refine run ?_
 refine cp (ftext_c b.data (by omega)) ?_
 refine run ?_
 refine cp (ftext_c b.tag (by omega)) ?_
 refine run ?_
 exact er0
def preF (a : Ac.Act) : By :=
 text wAct ++ text a.author ++ numI a.seq ++ text a.prev ++ numI a.kind ++ numI a.time ++ text a.object ++ text a.target ++ numI a.scope ++ text a.group ++ list a.to ++ text a.text ++ boxB a.body ++ numI a.epoch ++ num a.wraps.length
theorem coreB_preF (a : Ac.Act) : coreB a = preF a ++ (a.wraps.map wrapB).flatten ++ numI a.n ++ numI a.m := by
 unfold coreB preF
 simp only [List.append_assoc]
theorem fcore12_c (a : Ac.Act) (h : Sz a) : AC Tryz.prog 242 [actV a] [] (.st (core a)) [] := by
 refine AC.enter2 [238, 78, 128, 80, 252] [] Tryz.func242 rfl (by decide) (by decide) (Nat.le_of_ble_eq_true rfl) (by kernel_rfl) ?_; simp only [eraseC, eraseO, List.map_cons, List.map_nil, List.map_toArray, List.getElem?_toArray, List.getElem?_cons_zero, List.getElem?_cons_succ, Option.bind_some, Option.bind_none, List.append_eq, List.cons_append, List.nil_append]
 unfold core
 refine run ?_
 refine cp (fright12_c a h) ?_
 cases hr : Ac.right a with
 | false => rw [if_neg (by simp)]; refine run ?_; exact er0
 | true =>
  rw [if_pos rfl]
  have sm := right_sm hr
  have hto : a.to.length ≤ 1000000 := by have := sm.to; omega
  have htx : ∀ x ∈ a.to, x.length ≤ 1000000 := fun x hx => by have := sm.to.2 x hx; omega
  have q1 := text_len (s := wAct) (by simp)
  have k1 := ftext_c wAct (by simp)
  have q2 := text_len (s := a.author) (by have := sm.author; omega)
  have k2 := ftext_c a.author (by have := sm.author; omega)
  have q3 := numI_le a.seq (by have := sm.seq; omega)
  have k3 := fnum_c a.seq (by have := sm.seq; omega)
  have q4 := text_len (s := a.prev) (by have := sm.prev; omega)
  have k4 := ftext_c a.prev (by have := sm.prev; omega)
  have q5 := numI_le a.kind (by have := sm.kind; omega)
  have k5 := fnum_c a.kind (by have := sm.kind; omega)
  have q6 := numI_le a.time (by have := sm.time; omega)
  have k6 := fnum_c a.time (by have := sm.time; omega)
  have q7 := text_len (s := a.object) (by have := sm.object; omega)
  have k7 := ftext_c a.object (by have := sm.object; omega)
  have q8 := text_len (s := a.target) (by have := sm.target; omega)
  have k8 := ftext_c a.target (by have := sm.target; omega)
  have q9 := numI_le a.scope (by have := sm.scope; omega)
  have k9 := fnum_c a.scope (by have := sm.scope; omega)
  have q10 := text_len (s := a.group) (by have := sm.group; omega)
  have k10 := ftext_c a.group (by have := sm.group; omega)
  have q11 := list_len (l := a.to) hto htx
  have k11 := flist_c a.to hto htx
  have q12 := text_len (s := a.text) (by have := sm.text; omega)
  have k12 := ftext_c a.text (by have := sm.text; omega)
  have q13 := boxB_len a.body (by have := sm.body; omega)
  have k13 := fbox_c a.body (by have := sm.body; omega)
  have q14 := numI_le a.epoch (by have := sm.epoch; omega)
  have k14 := fnum_c a.epoch (by have := sm.epoch; omega)
  have q15 := num_len9 (n := a.wraps.length) (by have := sm.wraps; omega)
  have k15 := fnum_c (a.wraps.length : Int) (by have := sm.wraps; omega)
  rw [numI_nat] at k15
  have q16 := numI_le a.n (by have := sm.n; omega)
  have k16 := fnum_c a.n (by have := sm.n; omega)
  have q17 := numI_le a.m (by have := sm.m; omega)
  have k17 := fnum_c a.m (by have := sm.m; omega)
  have hwr := sm.wraps
  have hlp : (preF a).length ≤ 2000000000000 := by
   unfold preF
   simp only [List.length_append]
   omega
  rw [coreB_preF]
  have hsz : allSz 5 (a.wraps.map wrapV) = true := allSz_map 5 wrapV (fun _ => rfl) _
  clear hr sm h
  refine run ?_
  refine cp k1 ?_
  refine run ?_
  refine cp k2 ?_
  refine run ?_
  refine cp k3 ?_
  refine run ?_
  refine cp k4 ?_
  refine run ?_
  refine cp k5 ?_
  refine run ?_
  refine cp k6 ?_
  refine run ?_
  refine cp k7 ?_
  refine run ?_
  refine cp k8 ?_
  refine run ?_
  refine cp k9 ?_
  refine run ?_
  refine cp k10 ?_
  refine run ?_
  refine cp k11 ?_
  refine run ?_
  refine cp k12 ?_
  refine run ?_
  refine cp k13 ?_
  refine run ?_
  refine cp k14 ?_
  refine run ?_
  refine cp k15 ?_
  refine run ?_
  refine loop_mk (fun m e S => e 1 = .ptr 0 0 ∧ ∃ (k : Nat), e 5 = .it .i64 (k : Int) ∧ e 4 = .st (preF a ++ ((a.wraps.take k).map wrapB).flatten) ∧ S = [.cells (actL a)] ∧ k ≤ a.wraps.length ∧ m = a.wraps.length - k) a.wraps.length
   ⟨(by first | rfl | (simp only [↓upd_apply, ↓put_some, ↓reduceIte, Nat.reduceEqDiff, ↓argEnv_zero, ↓argEnv_succ, *]; done)), 0, (by first | rfl | (simp only [↓upd_apply, ↓put_some, ↓reduceIte, Nat.reduceEqDiff, ↓argEnv_zero, ↓argEnv_succ, *]; done)), by rw [List.take_zero, List.map_nil, List.flatten_nil, List.append_nil]; exact (by first | rfl | (simp only [↓upd_apply, ↓put_some, ↓reduceIte, Nat.reduceEqDiff, ↓argEnv_zero, ↓argEnv_succ, *]; done)), rfl, by omega, rfl⟩ ?_
  clear k1 k2 k3 k4 k5 k6 k7 k8 k9 k10 k11 k12 k13 k14 k15
  clear q1 q2 q3 q4 q5 q6 q7 q8 q9 q10 q11 q12 q13 q14 q15
  rintro m e S ⟨s1, k, s5, s4, rfl, hk, rfl⟩
  have hlen := wraps_len hwr.2 hwr.1 k
  by_cases hlt : k < a.wraps.length
  rotate_left
  ·obtain rfl : k = a.wraps.length := by omega
   rw [List.take_length] at s4 hlen
   have hx : ¬ ((a.wraps.length : Nat) : Int) < (a.wraps.length : Int) := by omega
   generalize (a.wraps.map wrapB).flatten = z at *
   generalize preF a = p at *
   refine runf (an @s1 (an @s5 (an @s4 @hx))) ?_
   refine cp k16 ?_
   refine runf (an @s1 (an @s5 @s4)) ?_
   refine cp k17 ?_
   refine runf (an @s1 (an @s5 @s4)) ?_
   exact er0
  have hg : a.wraps[k]? = some a.wraps[k] := List.getElem?_eq_getElem hlt
  have hx := hwr.2 a.wraps[k] (List.getElem_mem hlt)
  have hstep : ((a.wraps.take (k + 1)).map wrapB).flatten = ((a.wraps.take k).map wrapB).flatten ++ wrapB a.wraps[k] := by
   rw [List.take_succ_eq_append_getElem hlt, List.map_append, List.flatten_append]
   congr 1
   exact List.append_nil _
  generalize a.wraps[k] = x at *
  have hx' := wrap_sm hx
  have hbl := boxB_len x.box hx'.2.2
  have hn1 := numI_le x.to (by omega)
  have hn2 := numI_le x.eph (by omega)
  generalize ((a.wraps.take k).map wrapB).flatten = z at *
  generalize preF a = p at *
  have hwl := hwr.1
  clear k16 k17 q16 q17 hwr
  refine runf (an @s1 (an @s5 (an @s4 (an @hg @hsz)))) ?_
  refine cp (fnum_c x.to (by omega)) ?_
  refine runf (an @s1 (an @s5 (an @s4 (an @hg @hsz)))) ?_
  refine cp (fnum_c x.eph (by omega)) ?_
  refine runf (an @s1 (an @s5 (an @s4 (an @hg @hsz)))) ?_
  refine cp (fbox_c x.box hx'.2.2) ?_
  refine runf (an @s1 (an @s5 @s4)) ?_
  exact round_mk (a.wraps.length - (k + 1)) (by omega) ⟨(by first | rfl | (simp only [↓upd_apply, ↓put_some, ↓reduceIte, Nat.reduceEqDiff, ↓argEnv_zero, ↓argEnv_succ, *]; done)), k + 1, (by first | rfl | (simp only [↓upd_apply, ↓put_some, ↓reduceIte, Nat.reduceEqDiff, ↓argEnv_zero, ↓argEnv_succ, *]; done)), by rw [hstep]; unfold wrapB; simp only [List.append_assoc]; exact (by first | rfl | (simp only [↓upd_apply, ↓put_some, ↓reduceIte, Nat.reduceEqDiff, ↓argEnv_zero, ↓argEnv_succ, *]; done)), rfl, by omega, rfl⟩
theorem core_ne (a : Ac.Act) (hr : Ac.right a = true) : core a ≠ [] := by
 unfold core coreB
 rw [if_pos hr]
 have : (text wAct).length = 4 := rfl
 intro e
 have := congrArg List.length e
 simp only [List.length_append, List.length_nil] at this
 omega
theorem fbytes12_c (a : Ac.Act) (h : Sz a) : AC Tryz.prog 208 [actV a] [] (.st (Ac.bytes a)) [] := by
 refine AC.enter2 [242, 128] [] Tryz.func208 rfl (by decide) (by decide) (Nat.le_of_ble_eq_true rfl) (by kernel_rfl) ?_; simp only [eraseC, eraseO, List.map_cons, List.map_nil, List.map_toArray, List.getElem?_toArray, List.getElem?_cons_zero, List.getElem?_cons_succ, Option.bind_some, Option.bind_none, List.append_eq, List.cons_append, List.nil_append]
 refine run ?_
 refine cp (fcore12_c a h) ?_
 cases hr : Ac.right a with
 | false =>
  have h0 : core a = [] := by unfold core; rw [hr]; rfl
  have h1 : Ac.bytes a = [] := by unfold Ac.bytes; rw [hr]; rfl
  rw [h1, h0]
  refine run ?_
  exact er0
 | true =>
  have hne := core_ne a hr
  have hl := core_len5 (a := a)
  have h1 : Ac.bytes a = core a ++ numI a.sig.e ++ numI a.sig.s := by unfold Ac.bytes core; rw [if_pos hr, if_pos hr]
  have sm := (right_sm hr).sig
  simp only [sigR, Bool.and_eq_true, wi_iff] at sm
  rw [h1]
  have hq : (core a == []) = false := by simpa using hne
  have n1 := numI_le a.sig.e (by omega)
  have n2 := numI_le a.sig.s (by omega)
  generalize core a = c at *
  refine runf @hq ?_
  refine cp (fnum_c a.sig.e (by omega)) ?_
  refine run ?_
  refine cp (fnum_c a.sig.s (by omega)) ?_
  refine run ?_
  exact er0
end Go.Proofs.YthbpbkbjdfcnjaaGreatDoor.Pe
end
section
namespace Go.Proofs.YthbpbkbjdfcnjaaGreatDoor.Pe
open Go Go.RowKit Co Sg Ac It
set_option maxRecDepth 100000
set_option maxHeartbeats 4000000
theorem wrap_eqb (x y : Wrap) : ((x.to == y.to) && ((x.eph == y.eph) && ((x.box.nonce == y.box.nonce) && ((x.box.data == y.box.data) && (x.box.tag == y.box.tag))))) = decide (x = y) := by
 obtain ⟨x1, x2, ⟨x3, x4, x5⟩⟩ := x
 obtain ⟨y1, y2, ⟨y3, y4, y5⟩⟩ := y
 rw [Bool.eq_iff_iff]
 simp
theorem act_ext {a b : Ac.Act} (h : a.author = b.author ∧ a.seq = b.seq ∧ a.prev = b.prev ∧ a.kind = b.kind ∧ a.time = b.time ∧ a.object = b.object ∧ a.target = b.target ∧ a.scope = b.scope ∧ a.group = b.group ∧ a.to = b.to ∧ a.text = b.text ∧ a.body.nonce = b.body.nonce ∧ a.body.data = b.body.data ∧ a.body.tag = b.body.tag ∧ a.epoch = b.epoch ∧ a.wraps = b.wraps ∧ a.n = b.n ∧ a.m = b.m ∧ a.sig.e = b.sig.e ∧ a.sig.s = b.sig.s) : a = b := by
 obtain ⟨x1, x2, x3, x4, x5, x6, x7, x8, x9, x10, x11, ⟨x12, x13, x14⟩, x15, x16, x17, x18, ⟨x19, x20⟩⟩ := a
 obtain ⟨y1, y2, y3, y4, y5, y6, y7, y8, y9, y10, y11, ⟨y12, y13, y14⟩, y15, y16, y17, y18, ⟨y19, y20⟩⟩ := b
 simp only at h
 obtain ⟨rfl, rfl, rfl, rfl, rfl, rfl, rfl, rfl, rfl, rfl, rfl, rfl, rfl, rfl, rfl, rfl, rfl, rfl, rfl, rfl⟩ := h
 rfl
theorem list_eq_of {α : Type} {a b : List α} (hl : a.length = b.length) (h : ∀ j (h1 : j < a.length) (h2 : j < b.length), a[j] = b[j]) : a = b := List.ext_getElem hl h
theorem fsame12_c (a b : Ac.Act) (ha : a.to.length ≤ 140737488355328 ∧ a.wraps.length ≤ 140737488355328) (hb : b.to.length ≤ 140737488355328 ∧ b.wraps.length ≤ 140737488355328) : AC Tryz.prog 112 [actV a, actV b] [] (.bo (decide (a = b))) [] := by
 refine AC.enter2 [] [] Tryz.func112 rfl (by decide) (by decide) (Nat.le_of_ble_eq_true rfl) (by kernel_rfl) ?_; simp only [eraseC, eraseO, List.map_cons, List.map_nil, List.map_toArray, List.getElem?_toArray, List.getElem?_cons_zero, List.getElem?_cons_succ, Option.bind_some, Option.bind_none, List.append_eq, List.cons_append, List.nil_append]
 obtain ⟨q, hq⟩ : ∃ q, decide (a = b) = q := ⟨_, rfl⟩
 rw [hq]
 have hsa : allSz 5 (a.wraps.map wrapV) = true := allSz_map 5 wrapV (fun _ => rfl) _
 have hsb : allSz 5 (b.wraps.map wrapV) = true := allSz_map 5 wrapV (fun _ => rfl) _
 by_cases l1 : a.to.length = b.to.length
 rotate_left
 ·obtain rfl : q = false := by rw [← hq]; exact decide_eq_false (fun e => l1 (by rw [e]))
  refine run ?_
  exact er0
 by_cases l2 : a.wraps.length = b.wraps.length
 rotate_left
 ·obtain rfl : q = false := by rw [← hq]; exact decide_eq_false (fun e => l2 (by rw [e]))
  refine run ?_
  exact er0
 refine run ?_
 refine loop_mk (fun m e S => e 2 = .ptr 0 0 ∧ e 3 = .ptr 1 0 ∧ S = [.cells (actL a), .cells (actL b)] ∧ ∃ k : Nat, e 5 = .it .i64 (k : Int) ∧ k ≤ a.to.length ∧ (∀ j (h1 : j < a.to.length) (h2 : j < b.to.length), j < k → a.to[j] = b.to[j]) ∧ m = a.to.length - k) a.to.length
  ⟨(by first | rfl | (simp only [↓upd_apply, ↓put_some, ↓reduceIte, Nat.reduceEqDiff, ↓argEnv_zero, ↓argEnv_succ, *]; done)), (by first | rfl | (simp only [↓upd_apply, ↓put_some, ↓reduceIte, Nat.reduceEqDiff, ↓argEnv_zero, ↓argEnv_succ, *]; done)), rfl, 0, (by first | rfl | (simp only [↓upd_apply, ↓put_some, ↓reduceIte, Nat.reduceEqDiff, ↓argEnv_zero, ↓argEnv_succ, *]; done)), by omega, fun j _ _ h => absurd h (Nat.not_lt_zero _), rfl⟩ ?_
 rintro m e S ⟨s2, s3, rfl, k, s5, hk, hall, rfl⟩
 by_cases hlt : k < a.to.length
 focus
  have hga : a.to[k]? = some a.to[k] := List.getElem?_eq_getElem hlt
  have hgb : b.to[k]? = some (b.to[k]'(by omega)) := List.getElem?_eq_getElem (by omega)
  have hlb : k < b.to.length := by omega
  by_cases he : a.to[k] = b.to[k]
  ·have qe : (a.to[k] == b.to[k]) = true := by rw [he]; exact beq_self_eq_true _
   refine runf (an @s2 (an @s3 (an @s5 (an @hga (an @hgb @qe))))) ?_
   exact round_mk (a.to.length - (k + 1)) (by omega) ⟨(by first | rfl | (simp only [↓upd_apply, ↓put_some, ↓reduceIte, Nat.reduceEqDiff, ↓argEnv_zero, ↓argEnv_succ, *]; done)), (by first | rfl | (simp only [↓upd_apply, ↓put_some, ↓reduceIte, Nat.reduceEqDiff, ↓argEnv_zero, ↓argEnv_succ, *]; done)), rfl, k + 1, (by first | rfl | (simp only [↓upd_apply, ↓put_some, ↓reduceIte, Nat.reduceEqDiff, ↓argEnv_zero, ↓argEnv_succ, *]; done)), by omega, (fun j h1 h2 hj => by
    by_cases ej : j = k
    ·subst ej; exact he
    ·exact hall j h1 h2 (by omega)), rfl⟩
  ·have qe : (a.to[k] == b.to[k]) = false := by simpa using he
   obtain rfl : q = false := by rw [← hq]; exact decide_eq_false (fun e => he (by subst e; rfl))
   refine runf (an @s2 (an @s3 (an @s5 (an @hga (an @hgb @qe))))) ?_
   exact er0
 have e_to : a.to = b.to := list_eq_of l1 fun j h1 h2 => hall j h1 h2 (by omega)
 refine runf (an @s2 (an @s3 @s5)) ?_
 refine loop_mk (fun m e S => e 2 = .ptr 0 0 ∧ e 3 = .ptr 1 0 ∧ S = [.cells (actL a), .cells (actL b)] ∧ ∃ k : Nat, e 6 = .it .i64 (k : Int) ∧ k ≤ a.wraps.length ∧ (∀ j (h1 : j < a.wraps.length) (h2 : j < b.wraps.length), j < k → a.wraps[j] = b.wraps[j]) ∧ m = a.wraps.length - k) a.wraps.length
  ⟨(by first | rfl | (simp only [↓upd_apply, ↓put_some, ↓reduceIte, Nat.reduceEqDiff, ↓argEnv_zero, ↓argEnv_succ, *]; done)), (by first | rfl | (simp only [↓upd_apply, ↓put_some, ↓reduceIte, Nat.reduceEqDiff, ↓argEnv_zero, ↓argEnv_succ, *]; done)), rfl, 0, (by first | rfl | (simp only [↓upd_apply, ↓put_some, ↓reduceIte, Nat.reduceEqDiff, ↓argEnv_zero, ↓argEnv_succ, *]; done)), by omega, fun j _ _ h => absurd h (Nat.not_lt_zero _), rfl⟩ ?_
 clear s2 s3 s5 hall hlt
 rintro m e S ⟨s2, s3, rfl, k, s6, hk, hall, rfl⟩
 by_cases hlt : k < a.wraps.length
 focus
  have hga : a.wraps[k]? = some a.wraps[k] := List.getElem?_eq_getElem hlt
  have hgb : b.wraps[k]? = some (b.wraps[k]'(by omega)) := List.getElem?_eq_getElem (by omega)
  have hlb : k < b.wraps.length := by omega
  have hw := wrap_eqb a.wraps[k] b.wraps[k]
  by_cases he : a.wraps[k] = b.wraps[k]
  ·rw [decide_eq_true he] at hw
   refine runf (an @s2 (an @s3 (an @s6 (an @hga (an @hgb (an @hsa (an @hsb @hw))))))) ?_
   exact round_mk (a.wraps.length - (k + 1)) (by omega) ⟨(by first | rfl | (simp only [↓upd_apply, ↓put_some, ↓reduceIte, Nat.reduceEqDiff, ↓argEnv_zero, ↓argEnv_succ, *]; done)), (by first | rfl | (simp only [↓upd_apply, ↓put_some, ↓reduceIte, Nat.reduceEqDiff, ↓argEnv_zero, ↓argEnv_succ, *]; done)), rfl, k + 1, (by first | rfl | (simp only [↓upd_apply, ↓put_some, ↓reduceIte, Nat.reduceEqDiff, ↓argEnv_zero, ↓argEnv_succ, *]; done)), by omega, (fun j h1 h2 hj => by
    by_cases ej : j = k
    ·subst ej; exact he
    ·exact hall j h1 h2 (by omega)), rfl⟩
  ·rw [decide_eq_false he] at hw
   obtain rfl : q = false := by rw [← hq]; exact decide_eq_false (fun e => he (by subst e; rfl))
   refine runf (an @s2 (an @s3 (an @s6 (an @hga (an @hgb (an @hsa (an @hsb @hw))))))) ?_
   exact er0
 have e_wraps : a.wraps = b.wraps := list_eq_of l2 fun j h1 h2 => hall j h1 h2 (by omega)
 by_cases h_author : a.author = b.author
 rotate_left
 ·have q_author : (a.author == b.author) = false := by simpa using h_author
  obtain rfl : q = false := by rw [← hq]; exact decide_eq_false (fun e => h_author (by rw [e]))
  refine runf (an @s2 (an @s3 (an @s6 @q_author))) ?_
  exact er0
 have q_author : (a.author == b.author) = true := by rw [h_author]; exact beq_self_eq_true _
 by_cases h_seq : a.seq = b.seq
 rotate_left
 ·have q_seq : (a.seq == b.seq) = false := by simpa using h_seq
  obtain rfl : q = false := by rw [← hq]; exact decide_eq_false (fun e => h_seq (by rw [e]))
  refine runf (an @s2 (an @s3 (an @s6 (an @q_author @q_seq)))) ?_
  exact er0
 have q_seq : (a.seq == b.seq) = true := by rw [h_seq]; exact beq_self_eq_true _
 by_cases h_prev : a.prev = b.prev
 rotate_left
 ·have q_prev : (a.prev == b.prev) = false := by simpa using h_prev
  obtain rfl : q = false := by rw [← hq]; exact decide_eq_false (fun e => h_prev (by rw [e]))
  refine runf (an @s2 (an @s3 (an @s6 (an @q_author (an @q_seq @q_prev))))) ?_
  exact er0
 have q_prev : (a.prev == b.prev) = true := by rw [h_prev]; exact beq_self_eq_true _
 by_cases h_kind : a.kind = b.kind
 rotate_left
 ·have q_kind : (a.kind == b.kind) = false := by simpa using h_kind
  obtain rfl : q = false := by rw [← hq]; exact decide_eq_false (fun e => h_kind (by rw [e]))
  refine runf (an @s2 (an @s3 (an @s6 (an @q_author (an @q_seq (an @q_prev @q_kind)))))) ?_
  exact er0
 have q_kind : (a.kind == b.kind) = true := by rw [h_kind]; exact beq_self_eq_true _
 by_cases h_time : a.time = b.time
 rotate_left
 ·have q_time : (a.time == b.time) = false := by simpa using h_time
  obtain rfl : q = false := by rw [← hq]; exact decide_eq_false (fun e => h_time (by rw [e]))
  refine runf (an @s2 (an @s3 (an @s6 (an @q_author (an @q_seq (an @q_prev (an @q_kind @q_time))))))) ?_
  exact er0
 have q_time : (a.time == b.time) = true := by rw [h_time]; exact beq_self_eq_true _
 by_cases h_object : a.object = b.object
 rotate_left
 ·have q_object : (a.object == b.object) = false := by simpa using h_object
  obtain rfl : q = false := by rw [← hq]; exact decide_eq_false (fun e => h_object (by rw [e]))
  refine runf (an @s2 (an @s3 (an @s6 (an @q_author (an @q_seq (an @q_prev (an @q_kind (an @q_time @q_object)))))))) ?_
  exact er0
 have q_object : (a.object == b.object) = true := by rw [h_object]; exact beq_self_eq_true _
 by_cases h_target : a.target = b.target
 rotate_left
 ·have q_target : (a.target == b.target) = false := by simpa using h_target
  obtain rfl : q = false := by rw [← hq]; exact decide_eq_false (fun e => h_target (by rw [e]))
  refine runf (an @s2 (an @s3 (an @s6 (an @q_author (an @q_seq (an @q_prev (an @q_kind (an @q_time (an @q_object @q_target))))))))) ?_
  exact er0
 have q_target : (a.target == b.target) = true := by rw [h_target]; exact beq_self_eq_true _
 by_cases h_scope : a.scope = b.scope
 rotate_left
 ·have q_scope : (a.scope == b.scope) = false := by simpa using h_scope
  obtain rfl : q = false := by rw [← hq]; exact decide_eq_false (fun e => h_scope (by rw [e]))
  refine runf (an @s2 (an @s3 (an @s6 (an @q_author (an @q_seq (an @q_prev (an @q_kind (an @q_time (an @q_object (an @q_target @q_scope)))))))))) ?_
  exact er0
 have q_scope : (a.scope == b.scope) = true := by rw [h_scope]; exact beq_self_eq_true _
 by_cases h_group : a.group = b.group
 rotate_left
 ·have q_group : (a.group == b.group) = false := by simpa using h_group
  obtain rfl : q = false := by rw [← hq]; exact decide_eq_false (fun e => h_group (by rw [e]))
  refine runf (an @s2 (an @s3 (an @s6 (an @q_author (an @q_seq (an @q_prev (an @q_kind (an @q_time (an @q_object (an @q_target (an @q_scope @q_group))))))))))) ?_
  exact er0
 have q_group : (a.group == b.group) = true := by rw [h_group]; exact beq_self_eq_true _
 by_cases h_text : a.text = b.text
 rotate_left
 ·have q_text : (a.text == b.text) = false := by simpa using h_text
  obtain rfl : q = false := by rw [← hq]; exact decide_eq_false (fun e => h_text (by rw [e]))
  refine runf (an @s2 (an @s3 (an @s6 (an @q_author (an @q_seq (an @q_prev (an @q_kind (an @q_time (an @q_object (an @q_target (an @q_scope (an @q_group @q_text)))))))))))) ?_
  exact er0
 have q_text : (a.text == b.text) = true := by rw [h_text]; exact beq_self_eq_true _
 by_cases h_body_nonce : a.body.nonce = b.body.nonce
 rotate_left
 ·have q_body_nonce : (a.body.nonce == b.body.nonce) = false := by simpa using h_body_nonce
  obtain rfl : q = false := by rw [← hq]; exact decide_eq_false (fun e => h_body_nonce (by rw [e]))
  refine runf (an @s2 (an @s3 (an @s6 (an @q_author (an @q_seq (an @q_prev (an @q_kind (an @q_time (an @q_object (an @q_target (an @q_scope (an @q_group (an @q_text @q_body_nonce))))))))))))) ?_
  exact er0
 have q_body_nonce : (a.body.nonce == b.body.nonce) = true := by rw [h_body_nonce]; exact beq_self_eq_true _
 by_cases h_body_data : a.body.data = b.body.data
 rotate_left
 ·have q_body_data : (a.body.data == b.body.data) = false := by simpa using h_body_data
  obtain rfl : q = false := by rw [← hq]; exact decide_eq_false (fun e => h_body_data (by rw [e]))
  refine runf (an @s2 (an @s3 (an @s6 (an @q_author (an @q_seq (an @q_prev (an @q_kind (an @q_time (an @q_object (an @q_target (an @q_scope (an @q_group (an @q_text (an @q_body_nonce @q_body_data)))))))))))))) ?_
  exact er0
 have q_body_data : (a.body.data == b.body.data) = true := by rw [h_body_data]; exact beq_self_eq_true _
 by_cases h_body_tag : a.body.tag = b.body.tag
 rotate_left
 ·have q_body_tag : (a.body.tag == b.body.tag) = false := by simpa using h_body_tag
  obtain rfl : q = false := by rw [← hq]; exact decide_eq_false (fun e => h_body_tag (by rw [e]))
  refine runf (an @s2 (an @s3 (an @s6 (an @q_author (an @q_seq (an @q_prev (an @q_kind (an @q_time (an @q_object (an @q_target (an @q_scope (an @q_group (an @q_text (an @q_body_nonce (an @q_body_data @q_body_tag))))))))))))))) ?_
  exact er0
 have q_body_tag : (a.body.tag == b.body.tag) = true := by rw [h_body_tag]; exact beq_self_eq_true _
 by_cases h_epoch : a.epoch = b.epoch
 rotate_left
 ·have q_epoch : (a.epoch == b.epoch) = false := by simpa using h_epoch
  obtain rfl : q = false := by rw [← hq]; exact decide_eq_false (fun e => h_epoch (by rw [e]))
  refine runf (an @s2 (an @s3 (an @s6 (an @q_author (an @q_seq (an @q_prev (an @q_kind (an @q_time (an @q_object (an @q_target (an @q_scope (an @q_group (an @q_text (an @q_body_nonce (an @q_body_data (an @q_body_tag @q_epoch)))))))))))))))) ?_
  exact er0
 have q_epoch : (a.epoch == b.epoch) = true := by rw [h_epoch]; exact beq_self_eq_true _
 by_cases h_n : a.n = b.n
 rotate_left
 ·have q_n : (a.n == b.n) = false := by simpa using h_n
  obtain rfl : q = false := by rw [← hq]; exact decide_eq_false (fun e => h_n (by rw [e]))
  refine runf (an @s2 (an @s3 (an @s6 (an @q_author (an @q_seq (an @q_prev (an @q_kind (an @q_time (an @q_object (an @q_target (an @q_scope (an @q_group (an @q_text (an @q_body_nonce (an @q_body_data (an @q_body_tag (an @q_epoch @q_n))))))))))))))))) ?_
  exact er0
 have q_n : (a.n == b.n) = true := by rw [h_n]; exact beq_self_eq_true _
 by_cases h_m : a.m = b.m
 rotate_left
 ·have q_m : (a.m == b.m) = false := by simpa using h_m
  obtain rfl : q = false := by rw [← hq]; exact decide_eq_false (fun e => h_m (by rw [e]))
  refine runf (an @s2 (an @s3 (an @s6 (an @q_author (an @q_seq (an @q_prev (an @q_kind (an @q_time (an @q_object (an @q_target (an @q_scope (an @q_group (an @q_text (an @q_body_nonce (an @q_body_data (an @q_body_tag (an @q_epoch (an @q_n @q_m)))))))))))))))))) ?_
  exact er0
 have q_m : (a.m == b.m) = true := by rw [h_m]; exact beq_self_eq_true _
 by_cases h_sig_e : a.sig.e = b.sig.e
 rotate_left
 ·have q_sig_e : (a.sig.e == b.sig.e) = false := by simpa using h_sig_e
  obtain rfl : q = false := by rw [← hq]; exact decide_eq_false (fun e => h_sig_e (by rw [e]))
  refine runf (an @s2 (an @s3 (an @s6 (an @q_author (an @q_seq (an @q_prev (an @q_kind (an @q_time (an @q_object (an @q_target (an @q_scope (an @q_group (an @q_text (an @q_body_nonce (an @q_body_data (an @q_body_tag (an @q_epoch (an @q_n (an @q_m @q_sig_e))))))))))))))))))) ?_
  exact er0
 have q_sig_e : (a.sig.e == b.sig.e) = true := by rw [h_sig_e]; exact beq_self_eq_true _
 by_cases h_sig_s : a.sig.s = b.sig.s
 rotate_left
 ·have q_sig_s : (a.sig.s == b.sig.s) = false := by simpa using h_sig_s
  obtain rfl : q = false := by rw [← hq]; exact decide_eq_false (fun e => h_sig_s (by rw [e]))
  refine runf (an @s2 (an @s3 (an @s6 (an @q_author (an @q_seq (an @q_prev (an @q_kind (an @q_time (an @q_object (an @q_target (an @q_scope (an @q_group (an @q_text (an @q_body_nonce (an @q_body_data (an @q_body_tag (an @q_epoch (an @q_n (an @q_m (an @q_sig_e @q_sig_s)))))))))))))))))))) ?_
  exact er0
 have q_sig_s : (a.sig.s == b.sig.s) = true := by rw [h_sig_s]; exact beq_self_eq_true _
 obtain rfl : q = true := by
  rw [← hq]
  exact decide_eq_true (act_ext ⟨h_author, h_seq, h_prev, h_kind, h_time, h_object, h_target, h_scope, h_group, e_to, h_text, h_body_nonce, h_body_data, h_body_tag, h_epoch, e_wraps, h_n, h_m, h_sig_e, h_sig_s⟩)
 refine runf (an @s2 (an @s3 (an @s6 (an @q_author (an @q_seq (an @q_prev (an @q_kind (an @q_time (an @q_object (an @q_target (an @q_scope (an @q_group (an @q_text (an @q_body_nonce (an @q_body_data (an @q_body_tag (an @q_epoch (an @q_n (an @q_m (an @q_sig_e @q_sig_s)))))))))))))))))))) ?_
 exact er0
theorem fsameDecision_c (a b : It.Decision) (ha : a.to.length ≤ 140737488355328) (hb : b.to.length ≤ 140737488355328) : AC Tryz.prog 113 [decisionV a, decisionV b] [] (.bo (decide (a = b))) [] := by
 refine AC.enter2 [] [] Tryz.func113 rfl (by decide) (by decide) (Nat.le_of_ble_eq_true rfl) (by kernel_rfl) ?_; simp only [eraseC, eraseO, List.map_cons, List.map_nil, List.map_toArray, List.getElem?_toArray, List.getElem?_cons_zero, List.getElem?_cons_succ, Option.bind_some, Option.bind_none, List.append_eq, List.cons_append, List.nil_append]
 obtain ⟨q, hq⟩ : ∃ q, decide (a = b) = q := ⟨_, rfl⟩
 rw [hq]
 by_cases l1 : a.to.length = b.to.length
 rotate_left
 ·obtain rfl : q = false := by rw [← hq]; exact decide_eq_false (fun e => l1 (by rw [e]))
  refine run ?_
  exact er0
 refine run ?_
 refine loop_mk (fun m e S => e 2 = .ptr 0 0 ∧ e 3 = .ptr 1 0 ∧ S = [.cells (decL a), .cells (decL b)] ∧ ∃ k : Nat, e 5 = .it .i64 (k : Int) ∧ k ≤ a.to.length ∧ (∀ j (h1 : j < a.to.length) (h2 : j < b.to.length), j < k → a.to[j] = b.to[j]) ∧ m = a.to.length - k) a.to.length
  ⟨(by first | rfl | (simp only [↓upd_apply, ↓put_some, ↓reduceIte, Nat.reduceEqDiff, ↓argEnv_zero, ↓argEnv_succ, *]; done)), (by first | rfl | (simp only [↓upd_apply, ↓put_some, ↓reduceIte, Nat.reduceEqDiff, ↓argEnv_zero, ↓argEnv_succ, *]; done)), rfl, 0, (by first | rfl | (simp only [↓upd_apply, ↓put_some, ↓reduceIte, Nat.reduceEqDiff, ↓argEnv_zero, ↓argEnv_succ, *]; done)), by omega, fun j _ _ h => absurd h (Nat.not_lt_zero _), rfl⟩ ?_
 rintro m e S ⟨s2, s3, rfl, k, s5, hk, hall, rfl⟩
 by_cases hlt : k < a.to.length
 focus
  have hga : a.to[k]? = some a.to[k] := List.getElem?_eq_getElem hlt
  have hgb : b.to[k]? = some (b.to[k]'(by omega)) := List.getElem?_eq_getElem (by omega)
  have hlb : k < b.to.length := by omega
  by_cases he : a.to[k] = b.to[k]
  ·have qe : (a.to[k] == b.to[k]) = true := by rw [he]; exact beq_self_eq_true _
   refine runf (an @s2 (an @s3 (an @s5 (an @hga (an @hgb @qe))))) ?_
   exact round_mk (a.to.length - (k + 1)) (by omega) ⟨(by first | rfl | (simp only [↓upd_apply, ↓put_some, ↓reduceIte, Nat.reduceEqDiff, ↓argEnv_zero, ↓argEnv_succ, *]; done)), (by first | rfl | (simp only [↓upd_apply, ↓put_some, ↓reduceIte, Nat.reduceEqDiff, ↓argEnv_zero, ↓argEnv_succ, *]; done)), rfl, k + 1, (by first | rfl | (simp only [↓upd_apply, ↓put_some, ↓reduceIte, Nat.reduceEqDiff, ↓argEnv_zero, ↓argEnv_succ, *]; done)), by omega, (fun j h1 h2 hj => by
    by_cases ej : j = k
    ·subst ej; exact he
    ·exact hall j h1 h2 (by omega)), rfl⟩
  ·have qe : (a.to[k] == b.to[k]) = false := by simpa using he
   obtain rfl : q = false := by rw [← hq]; exact decide_eq_false (fun e => he (by subst e; rfl))
   refine runf (an @s2 (an @s3 (an @s5 (an @hga (an @hgb @qe))))) ?_
   exact er0
 have e_to : a.to = b.to := list_eq_of l1 fun j h1 h2 => hall j h1 h2 (by omega)
 by_cases h_server : a.server = b.server
 rotate_left
 ·have q_server : (a.server == b.server) = false := by simpa using h_server
  obtain rfl : q = false := by rw [← hq]; exact decide_eq_false (fun e => h_server (by rw [e]))
  refine runf (an @s2 (an @s3 (an @s5 @q_server))) ?_
  exact er0
 have q_server : (a.server == b.server) = true := by rw [h_server]; exact beq_self_eq_true _
 by_cases h_number : a.number = b.number
 rotate_left
 ·have q_number : (a.number == b.number) = false := by simpa using h_number
  obtain rfl : q = false := by rw [← hq]; exact decide_eq_false (fun e => h_number (by rw [e]))
  refine runf (an @s2 (an @s3 (an @s5 (an @q_server @q_number)))) ?_
  exact er0
 have q_number : (a.number == b.number) = true := by rw [h_number]; exact beq_self_eq_true _
 by_cases h_kind : a.kind = b.kind
 rotate_left
 ·have q_kind : (a.kind == b.kind) = false := by simpa using h_kind
  obtain rfl : q = false := by rw [← hq]; exact decide_eq_false (fun e => h_kind (by rw [e]))
  refine runf (an @s2 (an @s3 (an @s5 (an @q_server (an @q_number @q_kind))))) ?_
  exact er0
 have q_kind : (a.kind == b.kind) = true := by rw [h_kind]; exact beq_self_eq_true _
 by_cases h_actor : a.actor = b.actor
 rotate_left
 ·have q_actor : (a.actor == b.actor) = false := by simpa using h_actor
  obtain rfl : q = false := by rw [← hq]; exact decide_eq_false (fun e => h_actor (by rw [e]))
  refine runf (an @s2 (an @s3 (an @s5 (an @q_server (an @q_number (an @q_kind @q_actor)))))) ?_
  exact er0
 have q_actor : (a.actor == b.actor) = true := by rw [h_actor]; exact beq_self_eq_true _
 by_cases h_object : a.object = b.object
 rotate_left
 ·have q_object : (a.object == b.object) = false := by simpa using h_object
  obtain rfl : q = false := by rw [← hq]; exact decide_eq_false (fun e => h_object (by rw [e]))
  refine runf (an @s2 (an @s3 (an @s5 (an @q_server (an @q_number (an @q_kind (an @q_actor @q_object))))))) ?_
  exact er0
 have q_object : (a.object == b.object) = true := by rw [h_object]; exact beq_self_eq_true _
 by_cases h_text : a.text = b.text
 rotate_left
 ·have q_text : (a.text == b.text) = false := by simpa using h_text
  obtain rfl : q = false := by rw [← hq]; exact decide_eq_false (fun e => h_text (by rw [e]))
  refine runf (an @s2 (an @s3 (an @s5 (an @q_server (an @q_number (an @q_kind (an @q_actor (an @q_object @q_text)))))))) ?_
  exact er0
 have q_text : (a.text == b.text) = true := by rw [h_text]; exact beq_self_eq_true _
 by_cases h_n : a.n = b.n
 rotate_left
 ·have q_n : (a.n == b.n) = false := by simpa using h_n
  obtain rfl : q = false := by rw [← hq]; exact decide_eq_false (fun e => h_n (by rw [e]))
  refine runf (an @s2 (an @s3 (an @s5 (an @q_server (an @q_number (an @q_kind (an @q_actor (an @q_object (an @q_text @q_n))))))))) ?_
  exact er0
 have q_n : (a.n == b.n) = true := by rw [h_n]; exact beq_self_eq_true _
 by_cases h_frm : a.frm = b.frm
 rotate_left
 ·have q_frm : (a.frm == b.frm) = false := by simpa using h_frm
  obtain rfl : q = false := by rw [← hq]; exact decide_eq_false (fun e => h_frm (by rw [e]))
  refine runf (an @s2 (an @s3 (an @s5 (an @q_server (an @q_number (an @q_kind (an @q_actor (an @q_object (an @q_text (an @q_n @q_frm)))))))))) ?_
  exact er0
 have q_frm : (a.frm == b.frm) = true := by rw [h_frm]; exact beq_self_eq_true _
 by_cases h_til : a.til = b.til
 rotate_left
 ·have q_til : (a.til == b.til) = false := by simpa using h_til
  obtain rfl : q = false := by rw [← hq]; exact decide_eq_false (fun e => h_til (by rw [e]))
  refine runf (an @s2 (an @s3 (an @s5 (an @q_server (an @q_number (an @q_kind (an @q_actor (an @q_object (an @q_text (an @q_n (an @q_frm @q_til))))))))))) ?_
  exact er0
 have q_til : (a.til == b.til) = true := by rw [h_til]; exact beq_self_eq_true _
 by_cases h_sig_e : a.sig.e = b.sig.e
 rotate_left
 ·have q_sig_e : (a.sig.e == b.sig.e) = false := by simpa using h_sig_e
  obtain rfl : q = false := by rw [← hq]; exact decide_eq_false (fun e => h_sig_e (by rw [e]))
  refine runf (an @s2 (an @s3 (an @s5 (an @q_server (an @q_number (an @q_kind (an @q_actor (an @q_object (an @q_text (an @q_n (an @q_frm (an @q_til @q_sig_e)))))))))))) ?_
  exact er0
 have q_sig_e : (a.sig.e == b.sig.e) = true := by rw [h_sig_e]; exact beq_self_eq_true _
 by_cases h_sig_s : a.sig.s = b.sig.s
 rotate_left
 ·have q_sig_s : (a.sig.s == b.sig.s) = false := by simpa using h_sig_s
  obtain rfl : q = false := by rw [← hq]; exact decide_eq_false (fun e => h_sig_s (by rw [e]))
  refine runf (an @s2 (an @s3 (an @s5 (an @q_server (an @q_number (an @q_kind (an @q_actor (an @q_object (an @q_text (an @q_n (an @q_frm (an @q_til (an @q_sig_e @q_sig_s))))))))))))) ?_
  exact er0
 have q_sig_s : (a.sig.s == b.sig.s) = true := by rw [h_sig_s]; exact beq_self_eq_true _
 obtain rfl : q = true := by
  rw [← hq]
  refine decide_eq_true ?_
  cases a; cases b
  rename_i x1 x2 x3 x4 x5 x6 x7 x8 x9 x10 x11 y1 y2 y3 y4 y5 y6 y7 y8 y9 y10 y11
  cases x11; cases y11
  simp only at *
  simp only [*]
 refine runf (an @s2 (an @s3 (an @s5 (an @q_server (an @q_number (an @q_kind (an @q_actor (an @q_object (an @q_text (an @q_n (an @q_frm (an @q_til (an @q_sig_e @q_sig_s))))))))))))) ?_
 exact er0
end Go.Proofs.YthbpbkbjdfcnjaaGreatDoor.Pe
end
