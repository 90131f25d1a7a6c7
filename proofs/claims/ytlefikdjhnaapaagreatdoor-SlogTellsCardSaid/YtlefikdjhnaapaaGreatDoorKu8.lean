/- Several texts of this claim in one. -/
import Derived.Test.YtlefikdjhnaapaaGreatDoorKu7
import Derived.Below
import Derived.ChangeSame
import Derived.Test.YtlefikdjhnaapaaGreatDoorCards
import Derived.Test.YtlefikdjhnaapaaGreatDoorTie
import Derived.WalkKit
import Derived.ProofKit
import Derived.OpenShut
import Derived.Deep.DeepHandedRow
import Derived.Lib.LaidTab
import Derived.Stop.LaidErr
import Derived.ShutString
set_option linter.unusedSectionVars false
set_option linter.unusedVariables false
set_option linter.unusedSimpArgs false
section
namespace Go.Proofs.YtlefikdjhnaapaaGreatDoor.Pe
open Go Go.RowKit Co Sg Ac
set_option maxRecDepth 100000
set_option maxHeartbeats 4000000
theorem pubF (n : Int) : pub n = (decide (1 ≤ n) && decide (n < 2305843009213693951)) := by
 unfold pub wi
 rw [show decide (n ≤ 2305843009213693950) = decide (n < 2305843009213693951) by rw [Bool.eq_iff_iff]; simp only [decide_eq_true_eq]; omega]
theorem fpub_c (n : Int) : AC Tryz.prog 273 [.it .i64 n] [] (.bo (pub n)) [] := by
 refine AC.enter2 [] [] Tryz.func273 rfl (by decide) (by decide) znl (by kernel_rfl) ?_; refine zev ?_
 rw [pubF]
 by_cases h : 1 ≤ n
 ·rw [decide_eq_true h]
  refine run ?_
  exact er0
 ·rw [decide_eq_false h]
  refine run ?_
  exact er0
theorem fboxed_c (b : Box) : AC Tryz.prog 297 [boxV b] [] (.bo (sealedB b)) [] := by
 refine AC.enter2 [] [] Tryz.func297 rfl (by decide) (by decide) znl (by kernel_rfl) ?_; refine zev ?_
 unfold sealedB
 rw [short_eq]
 by_cases h1 : b.nonce.length = 32
 ·rw [decide_eq_true h1]
  by_cases h2 : b.tag.length = 16
  ·rw [decide_eq_true h2]
   refine run ?_
   exact er0
  ·rw [decide_eq_false h2]
   refine run ?_
   exact er0
 ·rw [decide_eq_false h1]
  refine run ?_
  exact er0
theorem fempty_c (b : Box) : AC Tryz.prog 296 [boxV b] [] (.bo (decide (b = box0))) [] := by
 refine AC.enter2 [] [] Tryz.func296 rfl (by decide) (by decide) znl (by kernel_rfl) ?_; refine zev ?_
 rw [box0_eq]
 cases h1 : (b.nonce == []) with
 | false =>
  refine runf @h1 ?_
  exact er0
 | true =>
  cases h2 : (b.data == []) with
  | false =>
   refine runf (an @h1 @h2) ?_
   exact er0
  | true =>
   refine runf (an @h1 @h2) ?_
   exact er0
theorem fwrapped_c (a : Ac.Act) (hw : a.wraps.length ≤ 140737488355328) : AC Tryz.prog 278 [actV a] [] (.bo (wrapped a)) [] := by
 refine AC.enter2 [273, 297] [] Tryz.func278 rfl (by decide) (by decide) znl (by kernel_rfl) ?_; refine zev ?_
 unfold wrapped
 have hsz : allSz 5 (a.wraps.map wrapV) = true := allSz_map 5 wrapV (fun _ => rfl) _
 refine run ?_
 refine loop_mk (fun m e S => e 1 = .ptr 0 0 ∧ ∃ (k : Nat) (T : Store), e 3 = .it .i64 (k : Int) ∧ S = .cells (actL a) :: T ∧ k ≤ a.wraps.length ∧ (∀ j (h : j < a.wraps.length), j < k → wrapR a.wraps[j] = true) ∧ m = a.wraps.length - k) (a.wraps.length)
  ⟨zsl, 0, [], zsl, rfl, by omega, fun j _ h => absurd h (Nat.not_lt_zero _), rfl⟩ ?_
 rintro m e S ⟨s1, k, T, s3, rfl, hk, hall, rfl⟩
 by_cases hlt : k < a.wraps.length
 rotate_left
 ·obtain rfl : k = a.wraps.length := by omega
  have h1 : a.wraps.all wrapR = true := List.all_eq_true.2 fun x hx => by
   obtain ⟨j, hj, rfl⟩ := List.getElem_of_mem hx
   exact hall j hj hj
  have h2 : decide (a.wraps.length = a.to.length) = ((a.wraps.length : Int) == (a.to.length : Int)) := by
   rw [Bool.eq_iff_iff]
   simp only [decide_eq_true_eq, beq_iff_eq]
   omega
  rw [h1, h2]
  have hx : ¬ ((a.wraps.length : Nat) : Int) < (a.wraps.length : Int) := by omega
  refine runf (an @s1 (an @s3 @hx)) ?_
  exact er0
 have hg : a.wraps[k]? = some a.wraps[k] := List.getElem?_eq_getElem hlt
 have hbad : wrapR a.wraps[k] = false → a.wraps.all wrapR = false := fun h => List.all_eq_false.2 ⟨_, List.getElem_mem hlt, by simp [h]⟩
 have hnext : wrapR a.wraps[k] = true → ∀ j (h : j < a.wraps.length), j < k + 1 → wrapR a.wraps[j] = true := fun hb j h hj => by
  by_cases e : j = k
  ·subst e; exact hb
  ·exact hall j h (by omega)
 generalize a.wraps[k] = x at *
 have hT1 : ∀ y : SObj, (T ++ [y])[T.length]? = some y := fun y => by simp
 have hT2 : ∀ y z : SObj, (T ++ [y]).set T.length z = T ++ [z] := fun y z => by simp
 have hwx : wrapR x = (pub x.to && pub x.eph && sealedB x.box) := rfl
 rw [hwx] at hbad hnext
 refine runf (an @s1 (an @s3 (an @hg (an @hsz (an @hT1 @hT2))))) ?_
 refine cp (fpub_c x.to) ?_
 cases h1 : pub x.to with
 | false =>
  rw [h1] at hbad
  rw [hbad rfl]
  refine runf (an @s1 (an @s3 (an @hT1 @hT2))) ?_
  exact er0
 | true =>
  refine runf (an @s1 (an @s3 (an @hT1 @hT2))) ?_
  refine cp (fpub_c x.eph) ?_
  cases h2 : pub x.eph with
  | false =>
   rw [h1, h2] at hbad
   rw [hbad rfl]
   refine runf (an @s1 (an @s3 (an @hT1 @hT2))) ?_
   exact er0
  | true =>
   refine runf (an @s1 (an @s3 (an @hT1 @hT2))) ?_
   refine cp (fboxed_c x.box) ?_
   cases h3 : sealedB x.box with
   | false =>
    rw [h1, h2, h3] at hbad
    rw [hbad rfl]
    refine runf (an @s1 (an @s3 (an @hT1 @hT2))) ?_
    exact er0
   | true =>
    refine runf (an @s1 (an @s3 (an @hT1 @hT2))) ?_
    exact round_mk (a.wraps.length - (k + 1)) (by omega) ⟨zsl, k + 1, T ++ [.cells (wrapV x).cells], zsl, rfl, by omega, hnext (by rw [h1, h2, h3]; rfl), rfl⟩
def groupF (a : Ac.Act) : Bool := if a.scope = 2 then nameR a.group else decide (a.group = [])
theorem fgroup_c (a : Ac.Act) (h : a.group.length ≤ 140737488355328) : AC Tryz.prog 277 [actV a] [] (.bo (groupF a)) [] := by
 refine AC.enter2 [274] [] Tryz.func277 rfl (by decide) (by decide) znl (by kernel_rfl) ?_; refine zev ?_
 unfold groupF
 have hn := nilD
 by_cases h2 : a.scope = 2
 ·rw [if_pos h2]
  refine run ?_
  refine cp (fname_c a.group h) ?_
  refine run ?_
  exact er0
 ·rw [if_neg h2]
  refine runf @hn ?_
  exact er0
def audF (a : Ac.Act) : Bool := idsR a.to && groupF a && (if a.scope = 0 then decide (a.epoch = 0) && short a.text && decide (a.body = box0)
 else if a.scope = 3 then wi a.epoch 0 1073741824 && decide (a.text = []) && sealedB a.body
 else if a.scope = 1 ∨ a.scope = 2 then wi a.epoch 0 1073741824 && decide (a.text = []) && sealedB a.body && decide (a.to = []) else false)
theorem audF_eq (a : Ac.Act) : audF a = audience a := by
 unfold audF audience groupF sealedSc
 by_cases h0 : a.scope = 0
 ·simp only [h0, if_true, show ¬ (0 : Int) = 2 by decide, if_false]
  rw [Bool.eq_iff_iff]; simp only [Bool.and_eq_true]; constructor <;> (intro h; simp only [h, and_self])
 by_cases h3 : a.scope = 3
 ·simp only [h3, show ¬ (3 : Int) = 0 by decide, show ¬ (3 : Int) = 2 by decide, if_false, if_true, or_true, decide_true, Bool.or_true, Bool.true_and]
  rw [Bool.eq_iff_iff]; simp only [Bool.and_eq_true]; constructor <;> (intro h; simp only [h, and_self])
 by_cases h1 : a.scope = 1
 ·simp only [h1, show ¬ (1 : Int) = 0 by decide, show ¬ (1 : Int) = 2 by decide, show ¬ (1 : Int) = 3 by decide, if_false, if_true, true_or, decide_false, Bool.or_false]
  rw [Bool.eq_iff_iff]; simp only [Bool.and_eq_true]; constructor <;> (intro h; simp only [h, and_self])
 by_cases h2 : a.scope = 2
 ·simp only [h2, show ¬ (2 : Int) = 0 by decide, show ¬ (2 : Int) = 3 by decide, if_false, if_true, or_true, decide_false, Bool.or_false]
  rw [Bool.eq_iff_iff]; simp only [Bool.and_eq_true]; constructor <;> (intro h; simp only [h, and_self])
 ·simp only [if_neg h0, if_neg h2, if_neg h3, if_neg (show ¬ (a.scope = 1 ∨ a.scope = 2) from fun h => h.elim h1 h2), if_neg (show ¬ (a.scope = 1 ∨ a.scope = 3) from fun h => h.elim h1 h3), Bool.and_false, Bool.false_and]
theorem faudience_c (a : Ac.Act) (h : Sz a) : AC Tryz.prog 275 [actV a] [] (.bo (audience a)) [] := by
 rw [← audF_eq]
 refine AC.enter2 [223, 277, 296, 297] [] Tryz.func275 rfl (by decide) (by decide) znl (by kernel_rfl) ?_; refine zev ?_
 unfold audF
 have hn := nilD
 have hl := lenD a.to
 have hs := short_eq a.text
 refine run ?_
 refine cp (fids_c a.to h.tos h.to) ?_
 cases c1 : idsR a.to with
 | false =>
  refine run ?_
  exact er0
 | true =>
 refine run ?_
 refine cp (fgroup_c a h.group) ?_
 cases c2 : groupF a with
 | false =>
  refine run ?_
  exact er0
 | true =>
 by_cases h0 : a.scope = 0
 ·rw [if_pos h0]
  by_cases e1 : a.epoch = 0
  rotate_left
  ·rw [decide_eq_false e1]
   refine run ?_
   exact er0
  rw [decide_eq_true e1, hs]
  cases e2 : decide ((a.text.length : Int) ≤ 500) with
  | false =>
   refine runf @e2 ?_
   exact er0
  | true =>
  refine runf @e2 ?_
  refine cp (fempty_c a.body) ?_
  refine run ?_
  exact er0
 rw [if_neg h0]
 by_cases h3 : a.scope = 3
 ·rw [if_pos h3]
  by_cases e1 : 0 ≤ a.epoch
  rotate_left
  ·rw [show wi a.epoch 0 1073741824 = false by unfold wi; rw [decide_eq_false e1]; rfl]
   refine run ?_
   exact er0
  by_cases e2 : a.epoch ≤ 1073741824
  rotate_left
  ·rw [show wi a.epoch 0 1073741824 = false by unfold wi; rw [decide_eq_false e2, Bool.and_false]]
   refine run ?_
   exact er0
  rw [show wi a.epoch 0 1073741824 = true from wi_iff.2 ⟨e1, e2⟩]
  cases e3 : decide (a.text = []) with
  | false =>
   refine runf (an @hn @e3) ?_
   exact er0
  | true =>
  refine runf (an @hn @e3) ?_
  refine cp (fboxed_c a.body) ?_
  refine run ?_
  exact er0
 rw [if_neg h3]
 by_cases h12 : a.scope = 1 ∨ a.scope = 2
 rotate_left
 ·rw [if_neg h12]
  have n1 : ¬ a.scope = 1 := fun h => h12 (.inl h)
  have n2 : ¬ a.scope = 2 := fun h => h12 (.inr h)
  refine run ?_
  exact er0
 rw [if_pos h12]
 rcases h12 with h12 | h12
 ·skip
  by_cases e1 : 0 ≤ a.epoch
  rotate_left
  ·rw [show wi a.epoch 0 1073741824 = false by unfold wi; rw [decide_eq_false e1]; rfl]
   refine run ?_
   exact er0
  by_cases e2 : a.epoch ≤ 1073741824
  rotate_left
  ·rw [show wi a.epoch 0 1073741824 = false by unfold wi; rw [decide_eq_false e2, Bool.and_false]]
   refine run ?_
   exact er0
  rw [show wi a.epoch 0 1073741824 = true from wi_iff.2 ⟨e1, e2⟩]
  cases e3 : decide (a.text = []) with
  | false =>
   refine runf (an @hn @e3) ?_
   exact er0
  | true =>
  refine runf (an @hn @e3) ?_
  refine cp (fboxed_c a.body) ?_
  cases e4 : sealedB a.body with
  | false =>
   refine run ?_
   exact er0
  | true =>
  refine runf @hl ?_
  exact er0
 ·skip
  by_cases e1 : 0 ≤ a.epoch
  rotate_left
  ·rw [show wi a.epoch 0 1073741824 = false by unfold wi; rw [decide_eq_false e1]; rfl]
   refine run ?_
   exact er0
  by_cases e2 : a.epoch ≤ 1073741824
  rotate_left
  ·rw [show wi a.epoch 0 1073741824 = false by unfold wi; rw [decide_eq_false e2, Bool.and_false]]
   refine run ?_
   exact er0
  rw [show wi a.epoch 0 1073741824 = true from wi_iff.2 ⟨e1, e2⟩]
  cases e3 : decide (a.text = []) with
  | false =>
   refine runf (an @hn @e3) ?_
   exact er0
  | true =>
  refine runf (an @hn @e3) ?_
  refine cp (fboxed_c a.body) ?_
  cases e4 : sealedB a.body with
  | false =>
   refine run ?_
   exact er0
  | true =>
  refine runf @hl ?_
  exact er0
def bareA (a : Ac.Act) : Ac.Act := { a with scope := 0, group := [], to := [], text := [], body := box0, epoch := 0 }
theorem fbare_c (a : Ac.Act) : AC Tryz.prog 276 [actV a] [] (actV (bareA a)) [] := by
 refine AC.enter2 [] [] Tryz.func276 rfl (by decide) (by decide) znl (by kernel_rfl) ?_; refine zev ?_
 refine run ?_
 exact er0w
def zeroF (a : Ac.Act) : Bool := decide (a.object = []) && decide (a.target = []) && decide (a.scope = 0) && decide (a.group = []) && decide (a.to = []) && decide (a.text = []) && decide (a.body = box0) && decide (a.epoch = 0) && decide (a.wraps = []) && decide (a.n = 0) && decide (a.m = 0)
theorem fzero_c (a : Ac.Act) : AC Tryz.prog 279 [actV a] [] (.bo (zeroF a)) [] := by
 refine AC.enter2 [296] [] Tryz.func279 rfl (by decide) (by decide) znl (by kernel_rfl) ?_; refine zev ?_
 unfold zeroF
 have hn := nilD
 have hl1 := lenD a.to
 have hl2 := lenD a.wraps
 cases c0 : decide (a.object = []) with
 | false =>
  refine runf (an @hn (an @hl1 (an @hl2 @c0))) ?_
  exact er0
 | true =>
 cases c1 : decide (a.target = []) with
 | false =>
  refine runf (an @hn (an @hl1 (an @hl2 (an @c0 @c1)))) ?_
  exact er0
 | true =>
 by_cases p2 : a.scope = 0
 rotate_left
 ·rw [decide_eq_false p2]
  refine runf (an @hn (an @hl1 (an @hl2 (an @c0 @c1)))) ?_
  exact er0
 rw [decide_eq_true p2]
 cases c3 : decide (a.group = []) with
 | false =>
  refine runf (an @hn (an @hl1 (an @hl2 (an @c0 (an @c1 @c3))))) ?_
  exact er0
 | true =>
 cases c4 : decide (a.to = []) with
 | false =>
  refine runf (an @hn (an @hl1 (an @hl2 (an @c0 (an @c1 (an @c3 @c4)))))) ?_
  exact er0
 | true =>
 cases c5 : decide (a.text = []) with
 | false =>
  refine runf (an @hn (an @hl1 (an @hl2 (an @c0 (an @c1 (an @c3 (an @c4 @c5))))))) ?_
  exact er0
 | true =>
 refine runf (an @hn (an @hl1 (an @hl2 (an @c0 (an @c1 (an @c3 (an @c4 @c5))))))) ?_
 refine cp (fempty_c a.body) ?_
 cases c6 : decide (a.body = box0) with
 | false =>
  refine run ?_
  exact er0
 | true =>
 by_cases p7 : a.epoch = 0
 rotate_left
 ·rw [decide_eq_false p7]
  refine runf (an @hn (an @hl1 (an @hl2 (an @c0 (an @c1 (an @c3 (an @c4 @c5))))))) ?_
  exact er0
 rw [decide_eq_true p7]
 cases c8 : decide (a.wraps = []) with
 | false =>
  refine runf (an @hn (an @hl1 (an @hl2 (an @c0 (an @c1 (an @c3 (an @c4 (an @c5 @c8)))))))) ?_
  exact er0
 | true =>
 by_cases p9 : a.n = 0
 rotate_left
 ·rw [decide_eq_false p9]
  refine runf (an @hn (an @hl1 (an @hl2 (an @c0 (an @c1 (an @c3 (an @c4 (an @c5 @c8)))))))) ?_
  exact er0
 rw [decide_eq_true p9]
 by_cases p10 : a.m = 0
 rotate_left
 ·rw [decide_eq_false p10]
  refine runf (an @hn (an @hl1 (an @hl2 (an @c0 (an @c1 (an @c3 (an @c4 (an @c5 @c8)))))))) ?_
  exact er0
 rw [decide_eq_true p10]
 refine runf (an @hn (an @hl1 (an @hl2 (an @c0 (an @c1 (an @c3 (an @c4 (an @c5 @c8)))))))) ?_
 exact er0
def fitsF (a : Ac.Act) : Bool := match rule a.kind with
 | none => false
 | some r => out a r && r.ok a
theorem right_fits (a : Ac.Act) : Ac.right a = (idR a.author && placed a && wi a.time 0 1099511627776 && sigR a.sig && fitsF a) := by
 unfold Ac.right fitsF
 cases h : rule a.kind with
 | none => rfl
 | some r =>
  have e : decide (Go.bits .andNot .i64 (used a) r.mask = 0) = out a r := mask_eq r _ _ _ _ _ _ _ _ _ _ _
  simp only [e]
theorem wi19 (m : Int) : wi m 0 19 = (decide (0 ≤ m) && decide (m < 20)) := by
 unfold wi
 rw [show decide (m ≤ 19) = decide (m < 20) by rw [Bool.eq_iff_iff]; simp only [decide_eq_true_eq]; omega]
theorem scopeF (a : Ac.Act) : (decide (1 ≤ a.scope) && decide (a.scope ≤ 3) && groupF a) = sealedSc a.scope a.group := by
 unfold groupF sealedSc
 by_cases h2 : a.scope = 2
 ·rw [if_pos h2, if_pos h2, h2]; rfl
 rw [if_neg h2, if_neg h2]
 by_cases h13 : a.scope = 1 ∨ a.scope = 3
 ·rw [if_pos h13, decide_eq_true (show 1 ≤ a.scope by omega), decide_eq_true (show a.scope ≤ 3 by omega)]; rfl
 ·rw [if_neg h13]
  by_cases h1 : 1 ≤ a.scope
  ·rw [decide_eq_false (show ¬ a.scope ≤ 3 by omega), Bool.and_false]; rfl
  ·rw [decide_eq_false h1]; rfl
theorem ffits_c (a : Ac.Act) (h : Sz a) : AC Tryz.prog 221 [actV a] [] (.bo (fitsF a)) [] := by
 refine AC.enter2 [273, 274, 275, 276, 220, 223, 277, 278, 279] [] Tryz.func221 rfl (by decide) (by decide) znl (by kernel_rfl) ?_; refine zev ?_
 have hn := nilD
 by_cases hr : 0 ≤ a.kind ∧ a.kind ≤ 23
 rotate_left
 ·have hv : fitsF a = false := by
   unfold fitsF
   rw [rule_none (by omega)]
  rw [hv]
  refine run ?_
  exact er0
 have hks : a.kind = 0 ∨ a.kind = 1 ∨ a.kind = 2 ∨ a.kind = 3 ∨ a.kind = 4 ∨ a.kind = 5 ∨ a.kind = 6 ∨ a.kind = 7 ∨ a.kind = 8 ∨ a.kind = 9 ∨ a.kind = 10 ∨ a.kind = 11 ∨ a.kind = 12 ∨ a.kind = 13 ∨ a.kind = 14 ∨ a.kind = 15 ∨ a.kind = 16 ∨ a.kind = 17 ∨ a.kind = 18 ∨ a.kind = 19 ∨ a.kind = 20 ∨ a.kind = 21 ∨ a.kind = 22 ∨ a.kind = 23 := by omega
 rcases hks with hk | hk | hk | hk | hk | hk | hk | hk | hk | hk | hk | hk | hk | hk | hk | hk | hk | hk | hk | hk | hk | hk | hk | hk
 ·have hv : fitsF a = (pub a.n && decide (0 ≤ a.m) && decide (a.m < 20) && nameR a.text && zeroF { a with text := [], n := 0, m := 0 }) := by
   unfold fitsF
   rw [hk]
   show (out a .begin && Ru.ok a .begin) = _
   simp only [out, outB, Ru.ok, home, Ac.grant, Ac.setup, ← scopeF, wi19, zeroF, bareA, decide_true, Bool.and_true, Bool.true_and]
   ac_rfl
  rw [hv]
  refine runf @hn ?_
  refine cp (fpub_c a.n) ?_
  cases c0 : pub a.n with
  | false =>
   refine runf @hn ?_
   refine cp (fname_c a.text h.text) ?_
   refine runf @hn ?_
   exact er0
  | true =>
  by_cases p1 : 0 ≤ a.m
  rotate_left
  ·rw [decide_eq_false p1]
   refine runf @hn ?_
   refine cp (fname_c a.text h.text) ?_
   refine runf @hn ?_
   exact er0
  rw [decide_eq_true p1]
  by_cases p2 : a.m < 20
  rotate_left
  ·rw [decide_eq_false p2]
   refine runf @hn ?_
   refine cp (fname_c a.text h.text) ?_
   refine runf @hn ?_
   exact er0
  rw [decide_eq_true p2]
  refine runf @hn ?_
  refine cp (fname_c a.text h.text) ?_
  cases c3 : nameR a.text with
  | false =>
   refine runf @hn ?_
   exact er0
  | true =>
  refine runf @hn ?_
  refine cp (fzero_c { a with text := [], n := 0, m := 0 }) ?_
  refine runf @hn ?_
  exact er0
 ·have hv : fitsF a = (audience a && zeroF (bareA a)) := by
   unfold fitsF
   rw [hk]
   show (out a .post && Ru.ok a .post) = _
   simp only [out, outB, Ru.ok, home, Ac.grant, Ac.setup, ← scopeF, wi19, wi, zeroF, bareA, decide_true, Bool.and_true, Bool.true_and]
   ac_rfl
  rw [hv]
  refine runf @hn ?_
  refine cp (faudience_c a h) ?_
  cases c0 : audience a with
  | false =>
   refine runf @hn ?_
   refine cp (fbare_c a) ?_
   refine runf @hn ?_
   exact er0
  | true =>
  refine runf @hn ?_
  refine cp (fbare_c a) ?_
  refine runf @hn ?_
  refine cp (fzero_c (bareA a)) ?_
  refine runf @hn ?_
  exact er0
 ·have hv : fitsF a = (audience a && dig a.object && zeroF { bareA a with object := [] }) := by
   unfold fitsF
   rw [hk]
   show (out a .reply && Ru.ok a .reply) = _
   simp only [out, outB, Ru.ok, home, Ac.grant, Ac.setup, ← scopeF, wi19, wi, zeroF, bareA, decide_true, Bool.and_true, Bool.true_and]
   ac_rfl
  rw [hv]
  refine runf @hn ?_
  refine cp (faudience_c a h) ?_
  cases c0 : audience a with
  | false =>
   refine runf @hn ?_
   refine cp (fbare_c a) ?_
   refine runf @hn ?_
   exact er0
  | true =>
  rw [dig_eq]
  cases c1 : ((a.object.length : Int) == 32) with
  | false =>
   refine runf (an @hn @c1) ?_
   refine cp (fbare_c a) ?_
   refine runf (an @hn @c1) ?_
   exact er0
  | true =>
  refine runf (an @hn @c1) ?_
  refine cp (fbare_c a) ?_
  refine runf (an @hn @c1) ?_
  refine cp (fzero_c { bareA a with object := [] }) ?_
  refine runf (an @hn @c1) ?_
  exact er0
 ·have hv : fitsF a = (audience a && dig a.object && zeroF { bareA a with object := [] }) := by
   unfold fitsF
   rw [hk]
   show (out a .reply && Ru.ok a .reply) = _
   simp only [out, outB, Ru.ok, home, Ac.grant, Ac.setup, ← scopeF, wi19, wi, zeroF, bareA, decide_true, Bool.and_true, Bool.true_and]
   ac_rfl
  rw [hv]
  refine runf @hn ?_
  refine cp (faudience_c a h) ?_
  cases c0 : audience a with
  | false =>
   refine runf @hn ?_
   refine cp (fbare_c a) ?_
   refine runf @hn ?_
   exact er0
  | true =>
  rw [dig_eq]
  cases c1 : ((a.object.length : Int) == 32) with
  | false =>
   refine runf (an @hn @c1) ?_
   refine cp (fbare_c a) ?_
   refine runf (an @hn @c1) ?_
   exact er0
  | true =>
  refine runf (an @hn @c1) ?_
  refine cp (fbare_c a) ?_
  refine runf (an @hn @c1) ?_
  refine cp (fzero_c { bareA a with object := [] }) ?_
  refine runf (an @hn @c1) ?_
  exact er0
 ·have hv : fitsF a = (dig a.object && zeroF { a with object := [] }) := by
   unfold fitsF
   rw [hk]
   show (out a .about && Ru.ok a .about) = _
   simp only [out, outB, Ru.ok, home, Ac.grant, Ac.setup, ← scopeF, wi19, wi, zeroF, bareA, decide_true, Bool.and_true, Bool.true_and]
   ac_rfl
  rw [hv]
  rw [dig_eq]
  cases c0 : ((a.object.length : Int) == 32) with
  | false =>
   refine runf (an @hn @c0) ?_
   exact er0
  | true =>
  refine runf (an @hn @c0) ?_
  refine cp (fzero_c { a with object := [] }) ?_
  refine runf (an @hn @c0) ?_
  exact er0
 ·have hv : fitsF a = (dig a.object && zeroF { a with object := [] }) := by
   unfold fitsF
   rw [hk]
   show (out a .about && Ru.ok a .about) = _
   simp only [out, outB, Ru.ok, home, Ac.grant, Ac.setup, ← scopeF, wi19, wi, zeroF, bareA, decide_true, Bool.and_true, Bool.true_and]
   ac_rfl
  rw [hv]
  rw [dig_eq]
  cases c0 : ((a.object.length : Int) == 32) with
  | false =>
   refine runf (an @hn @c0) ?_
   exact er0
  | true =>
  refine runf (an @hn @c0) ?_
  refine cp (fzero_c { a with object := [] }) ?_
  refine runf (an @hn @c0) ?_
  exact er0
 ·have hv : fitsF a = (dig a.object && zeroF { a with object := [] }) := by
   unfold fitsF
   rw [hk]
   show (out a .about && Ru.ok a .about) = _
   simp only [out, outB, Ru.ok, home, Ac.grant, Ac.setup, ← scopeF, wi19, wi, zeroF, bareA, decide_true, Bool.and_true, Bool.true_and]
   ac_rfl
  rw [hv]
  rw [dig_eq]
  cases c0 : ((a.object.length : Int) == 32) with
  | false =>
   refine runf (an @hn @c0) ?_
   exact er0
  | true =>
  refine runf (an @hn @c0) ?_
  refine cp (fzero_c { a with object := [] }) ?_
  refine runf (an @hn @c0) ?_
  exact er0
 ·have hv : fitsF a = (idR a.target && zeroF { a with target := [] }) := by
   unfold fitsF
   rw [hk]
   show (out a .tie && Ru.ok a .tie) = _
   simp only [out, outB, Ru.ok, home, Ac.grant, Ac.setup, ← scopeF, wi19, wi, zeroF, bareA, decide_true, Bool.and_true, Bool.true_and]
   ac_rfl
  rw [hv]
  refine runf @hn ?_
  refine cp (fidright_c a.target h.target) ?_
  cases c0 : idR a.target with
  | false =>
   refine runf @hn ?_
   exact er0
  | true =>
  refine runf @hn ?_
  refine cp (fzero_c { a with target := [] }) ?_
  refine runf @hn ?_
  exact er0
 ·have hv : fitsF a = (idR a.target && zeroF { a with target := [] }) := by
   unfold fitsF
   rw [hk]
   show (out a .tie && Ru.ok a .tie) = _
   simp only [out, outB, Ru.ok, home, Ac.grant, Ac.setup, ← scopeF, wi19, wi, zeroF, bareA, decide_true, Bool.and_true, Bool.true_and]
   ac_rfl
  rw [hv]
  refine runf @hn ?_
  refine cp (fidright_c a.target h.target) ?_
  cases c0 : idR a.target with
  | false =>
   refine runf @hn ?_
   exact er0
  | true =>
  refine runf @hn ?_
  refine cp (fzero_c { a with target := [] }) ?_
  refine runf @hn ?_
  exact er0
 ·have hv : fitsF a = (idR a.target && zeroF { a with target := [] }) := by
   unfold fitsF
   rw [hk]
   show (out a .tie && Ru.ok a .tie) = _
   simp only [out, outB, Ru.ok, home, Ac.grant, Ac.setup, ← scopeF, wi19, wi, zeroF, bareA, decide_true, Bool.and_true, Bool.true_and]
   ac_rfl
  rw [hv]
  refine runf @hn ?_
  refine cp (fidright_c a.target h.target) ?_
  cases c0 : idR a.target with
  | false =>
   refine runf @hn ?_
   exact er0
  | true =>
  refine runf @hn ?_
  refine cp (fzero_c { a with target := [] }) ?_
  refine runf @hn ?_
  exact er0
 ·have hv : fitsF a = (idR a.target && zeroF { a with target := [] }) := by
   unfold fitsF
   rw [hk]
   show (out a .tie && Ru.ok a .tie) = _
   simp only [out, outB, Ru.ok, home, Ac.grant, Ac.setup, ← scopeF, wi19, wi, zeroF, bareA, decide_true, Bool.and_true, Bool.true_and]
   ac_rfl
  rw [hv]
  refine runf @hn ?_
  refine cp (fidright_c a.target h.target) ?_
  cases c0 : idR a.target with
  | false =>
   refine runf @hn ?_
   exact er0
  | true =>
  refine runf @hn ?_
  refine cp (fzero_c { a with target := [] }) ?_
  refine runf @hn ?_
  exact er0
 ·have hv : fitsF a = (idR a.target && zeroF { a with target := [] }) := by
   unfold fitsF
   rw [hk]
   show (out a .tie && Ru.ok a .tie) = _
   simp only [out, outB, Ru.ok, home, Ac.grant, Ac.setup, ← scopeF, wi19, wi, zeroF, bareA, decide_true, Bool.and_true, Bool.true_and]
   ac_rfl
  rw [hv]
  refine runf @hn ?_
  refine cp (fidright_c a.target h.target) ?_
  cases c0 : idR a.target with
  | false =>
   refine runf @hn ?_
   exact er0
  | true =>
  refine runf @hn ?_
  refine cp (fzero_c { a with target := [] }) ?_
  refine runf @hn ?_
  exact er0
 ·have hv : fitsF a = (dig a.object && short a.text && zeroF { a with object := [], text := [] }) := by
   unfold fitsF
   rw [hk]
   show (out a .reason && Ru.ok a .reason) = _
   simp only [out, outB, Ru.ok, home, Ac.grant, Ac.setup, ← scopeF, wi19, wi, zeroF, bareA, decide_true, Bool.and_true, Bool.true_and]
   ac_rfl
  rw [hv]
  rw [dig_eq]
  cases c0 : ((a.object.length : Int) == 32) with
  | false =>
   refine runf (an @hn @c0) ?_
   exact er0
  | true =>
  rw [short_eq]
  cases c1 : decide ((a.text.length : Int) ≤ 500) with
  | false =>
   refine runf (an @hn (an @c0 @c1)) ?_
   exact er0
  | true =>
  refine runf (an @hn (an @c0 @c1)) ?_
  refine cp (fzero_c { a with object := [], text := [] }) ?_
  refine runf (an @hn (an @c0 @c1)) ?_
  exact er0
 ·have hv : fitsF a = (dig a.object && zeroF { a with object := [] }) := by
   unfold fitsF
   rw [hk]
   show (out a .about && Ru.ok a .about) = _
   simp only [out, outB, Ru.ok, home, Ac.grant, Ac.setup, ← scopeF, wi19, wi, zeroF, bareA, decide_true, Bool.and_true, Bool.true_and]
   ac_rfl
  rw [hv]
  rw [dig_eq]
  cases c0 : ((a.object.length : Int) == 32) with
  | false =>
   refine runf (an @hn @c0) ?_
   exact er0
  | true =>
  refine runf (an @hn @c0) ?_
  refine cp (fzero_c { a with object := [] }) ?_
  refine runf (an @hn @c0) ?_
  exact er0
 ·have hv : fitsF a = (audience a && dig a.object && zeroF { bareA a with object := [] }) := by
   unfold fitsF
   rw [hk]
   show (out a .reply && Ru.ok a .reply) = _
   simp only [out, outB, Ru.ok, home, Ac.grant, Ac.setup, ← scopeF, wi19, wi, zeroF, bareA, decide_true, Bool.and_true, Bool.true_and]
   ac_rfl
  rw [hv]
  refine runf @hn ?_
  refine cp (faudience_c a h) ?_
  cases c0 : audience a with
  | false =>
   refine runf @hn ?_
   refine cp (fbare_c a) ?_
   refine runf @hn ?_
   exact er0
  | true =>
  rw [dig_eq]
  cases c1 : ((a.object.length : Int) == 32) with
  | false =>
   refine runf (an @hn @c1) ?_
   refine cp (fbare_c a) ?_
   refine runf (an @hn @c1) ?_
   exact er0
  | true =>
  refine runf (an @hn @c1) ?_
  refine cp (fbare_c a) ?_
  refine runf (an @hn @c1) ?_
  refine cp (fzero_c { bareA a with object := [] }) ?_
  refine runf (an @hn @c1) ?_
  exact er0
 ·have hv : fitsF a = (idsR a.to && nameR a.group && zeroF { a with group := [], to := [] }) := by
   unfold fitsF
   rw [hk]
   show (out a .circle && Ru.ok a .circle) = _
   simp only [out, outB, Ru.ok, home, Ac.grant, Ac.setup, ← scopeF, wi19, wi, zeroF, bareA, decide_true, Bool.and_true, Bool.true_and]
   ac_rfl
  rw [hv]
  refine runf @hn ?_
  refine cp (fids_c a.to h.tos h.to) ?_
  cases c0 : idsR a.to with
  | false =>
   refine runf @hn ?_
   exact er0
  | true =>
  refine runf @hn ?_
  refine cp (fname_c a.group h.group) ?_
  cases c1 : nameR a.group with
  | false =>
   refine runf @hn ?_
   exact er0
  | true =>
  refine runf @hn ?_
  refine cp (fzero_c { a with group := [], to := [] }) ?_
  refine runf @hn ?_
  exact er0
 ·have hv : fitsF a = (idsR a.to && decide (1 ≤ a.scope) && decide (a.scope ≤ 3) && groupF a && decide (0 ≤ a.epoch) && decide (a.epoch ≤ 1073741824) && wrapped a && zeroF { a with scope := 0, group := [], to := [], epoch := 0, wraps := [] }) := by
   unfold fitsF
   rw [hk]
   show (out a .grant && Ru.ok a .grant) = _
   simp only [out, outB, Ru.ok, home, Ac.grant, Ac.setup, ← scopeF, wi19, wi, zeroF, bareA, decide_true, Bool.and_true, Bool.true_and]
   ac_rfl
  rw [hv]
  refine runf @hn ?_
  refine cp (fids_c a.to h.tos h.to) ?_
  cases c0 : idsR a.to with
  | false =>
   refine runf @hn ?_
   exact er0
  | true =>
  by_cases p1 : 1 ≤ a.scope
  rotate_left
  ·rw [decide_eq_false p1]
   refine runf @hn ?_
   exact er0
  rw [decide_eq_true p1]
  by_cases p2 : a.scope ≤ 3
  rotate_left
  ·rw [decide_eq_false p2]
   refine runf @hn ?_
   exact er0
  rw [decide_eq_true p2]
  refine runf @hn ?_
  refine cp (fgroup_c a h.group) ?_
  cases c3 : groupF a with
  | false =>
   refine runf @hn ?_
   exact er0
  | true =>
  by_cases p4 : 0 ≤ a.epoch
  rotate_left
  ·rw [decide_eq_false p4]
   refine runf @hn ?_
   exact er0
  rw [decide_eq_true p4]
  by_cases p5 : a.epoch ≤ 1073741824
  rotate_left
  ·rw [decide_eq_false p5]
   refine runf @hn ?_
   exact er0
  rw [decide_eq_true p5]
  refine runf @hn ?_
  refine cp (fwrapped_c a h.wraps) ?_
  cases c6 : wrapped a with
  | false =>
   refine runf @hn ?_
   exact er0
  | true =>
  refine runf @hn ?_
  refine cp (fzero_c { a with scope := 0, group := [], to := [], epoch := 0, wraps := [] }) ?_
  refine runf @hn ?_
  exact er0
 ·by_cases ho : a.object = []
  ·have hv : fitsF a = (nameR a.text && idR a.target && zeroF { a with text := [], object := [], target := [] }) := by
    unfold fitsF
    rw [hk]
    show (out a .label && Ru.ok a .label) = _
    have hd : dig a.object = false := by unfold dig; rw [ho]; rfl
    simp only [out, outB, Ru.ok, Ac.label, hd, ho, Bool.false_and, Bool.false_or, zeroF, bareA, decide_true, Bool.and_true, Bool.true_and]
    ac_rfl
   rw [hv]
   have hob : (a.object == []) = true := by rw [ho]; rfl
   refine runf (an @hn @hob) ?_
   refine cp (fname_c a.text h.text) ?_
   cases c0 : nameR a.text with
   | false =>
    refine runf (an @hn @hob) ?_
    refine cp (fidright_c a.target h.target) ?_
    refine runf (an @hn @hob) ?_
    exact er0
   | true =>
   refine runf (an @hn @hob) ?_
   refine cp (fidright_c a.target h.target) ?_
   cases c1 : idR a.target with
   | false =>
    refine runf (an @hn @hob) ?_
    exact er0
   | true =>
   refine runf (an @hn @hob) ?_
   refine cp (fzero_c { a with text := [], object := [], target := [] }) ?_
   refine runf (an @hn @hob) ?_
   exact er0
  ·have hv : fitsF a = (nameR a.text && dig a.object && decide (a.target = []) && zeroF { a with text := [], object := [], target := [] }) := by
    unfold fitsF
    rw [hk]
    show (out a .label && Ru.ok a .label) = _
    simp only [out, outB, Ru.ok, Ac.label, decide_eq_false ho, Bool.and_false, Bool.or_false, zeroF, bareA, decide_true, Bool.and_true, Bool.true_and]
    ac_rfl
   rw [hv]
   have hob : (a.object == []) = false := by simpa using ho
   refine runf (an @hn @hob) ?_
   refine cp (fname_c a.text h.text) ?_
   cases c0 : nameR a.text with
   | false =>
    refine runf (an @hn @hob) ?_
    exact er0
   | true =>
   rw [dig_eq]
   cases c1 : ((a.object.length : Int) == 32) with
   | false =>
    refine runf (an @hn (an @hob @c1)) ?_
    exact er0
   | true =>
   cases c2 : decide (a.target = []) with
   | false =>
    refine runf (an @hn (an @hob (an @c1 @c2))) ?_
    exact er0
   | true =>
   refine runf (an @hn (an @hob (an @c1 @c2))) ?_
   refine cp (fzero_c { a with text := [], object := [], target := [] }) ?_
   refine runf (an @hn (an @hob (an @c1 @c2))) ?_
   exact er0
 ·have hv : fitsF a = (pub a.n && decide (0 ≤ a.m) && decide (a.m < 20) && zeroF { a with n := 0, m := 0 }) := by
   unfold fitsF
   rw [hk]
   show (out a .move && Ru.ok a .move) = _
   simp only [out, outB, Ru.ok, home, Ac.grant, Ac.setup, ← scopeF, wi19, zeroF, bareA, decide_true, Bool.and_true, Bool.true_and]
   ac_rfl
  rw [hv]
  refine runf @hn ?_
  refine cp (fpub_c a.n) ?_
  cases c0 : pub a.n with
  | false =>
   refine runf @hn ?_
   exact er0
  | true =>
  by_cases p1 : 0 ≤ a.m
  rotate_left
  ·rw [decide_eq_false p1]
   refine runf @hn ?_
   exact er0
  rw [decide_eq_true p1]
  by_cases p2 : a.m < 20
  rotate_left
  ·rw [decide_eq_false p2]
   refine runf @hn ?_
   exact er0
  rw [decide_eq_true p2]
  refine runf @hn ?_
  refine cp (fzero_c { a with n := 0, m := 0 }) ?_
  refine runf @hn ?_
  exact er0
 ·have hv : fitsF a = (idsR a.to && decide (0 < a.to.length) && wrapped a && decide (1 ≤ a.n) && decide (a.n ≤ (a.to.length : Int)) && pub a.m && zeroF { a with to := [], wraps := [], n := 0, m := 0 }) := by
   unfold fitsF
   rw [hk]
   show (out a .setup && Ru.ok a .setup) = _
   simp only [out, outB, Ru.ok, home, Ac.grant, Ac.setup, ← scopeF, wi19, wi, zeroF, bareA, decide_true, Bool.and_true, Bool.true_and]
   ac_rfl
  rw [hv]
  refine runf @hn ?_
  refine cp (fids_c a.to h.tos h.to) ?_
  cases c0 : idsR a.to with
  | false =>
   refine runf @hn ?_
   exact er0
  | true =>
  by_cases p1 : 0 < a.to.length
  rotate_left
  ·rw [decide_eq_false p1]
   refine runf @hn ?_
   exact er0
  rw [decide_eq_true p1]
  refine runf @hn ?_
  refine cp (fwrapped_c a h.wraps) ?_
  cases c2 : wrapped a with
  | false =>
   refine runf @hn ?_
   exact er0
  | true =>
  by_cases p3 : 1 ≤ a.n
  rotate_left
  ·rw [decide_eq_false p3]
   refine runf @hn ?_
   exact er0
  rw [decide_eq_true p3]
  by_cases p4 : a.n ≤ (a.to.length : Int)
  rotate_left
  ·rw [decide_eq_false p4]
   refine runf @hn ?_
   exact er0
  rw [decide_eq_true p4]
  refine runf @hn ?_
  refine cp (fpub_c a.m) ?_
  cases c5 : pub a.m with
  | false =>
   refine runf @hn ?_
   exact er0
  | true =>
  refine runf @hn ?_
  refine cp (fzero_c { a with to := [], wraps := [], n := 0, m := 0 }) ?_
  refine runf @hn ?_
  exact er0
 ·have hv : fitsF a = (dig a.object && zeroF { a with object := [] }) := by
   unfold fitsF
   rw [hk]
   show (out a .about && Ru.ok a .about) = _
   simp only [out, outB, Ru.ok, home, Ac.grant, Ac.setup, ← scopeF, wi19, wi, zeroF, bareA, decide_true, Bool.and_true, Bool.true_and]
   ac_rfl
  rw [hv]
  rw [dig_eq]
  cases c0 : ((a.object.length : Int) == 32) with
  | false =>
   refine runf (an @hn @c0) ?_
   exact er0
  | true =>
  refine runf (an @hn @c0) ?_
  refine cp (fzero_c { a with object := [] }) ?_
  refine runf (an @hn @c0) ?_
  exact er0
 ·have hv : fitsF a = (dig a.object && short a.text && zeroF { a with object := [], text := [] }) := by
   unfold fitsF
   rw [hk]
   show (out a .reason && Ru.ok a .reason) = _
   simp only [out, outB, Ru.ok, home, Ac.grant, Ac.setup, ← scopeF, wi19, wi, zeroF, bareA, decide_true, Bool.and_true, Bool.true_and]
   ac_rfl
  rw [hv]
  rw [dig_eq]
  cases c0 : ((a.object.length : Int) == 32) with
  | false =>
   refine runf (an @hn @c0) ?_
   exact er0
  | true =>
  rw [short_eq]
  cases c1 : decide ((a.text.length : Int) ≤ 500) with
  | false =>
   refine runf (an @hn (an @c0 @c1)) ?_
   exact er0
  | true =>
  refine runf (an @hn (an @c0 @c1)) ?_
  refine cp (fzero_c { a with object := [], text := [] }) ?_
  refine runf (an @hn (an @c0 @c1)) ?_
  exact er0
 ·have hv : fitsF a = (dig a.object && decide (0 ≤ a.n) && decide (a.n ≤ 1) && zeroF { a with object := [], n := 0 }) := by
   unfold fitsF
   rw [hk]
   show (out a .judge && Ru.ok a .judge) = _
   simp only [out, outB, Ru.ok, home, Ac.grant, Ac.setup, ← scopeF, wi19, wi, zeroF, bareA, decide_true, Bool.and_true, Bool.true_and]
   ac_rfl
  rw [hv]
  rw [dig_eq]
  cases c0 : ((a.object.length : Int) == 32) with
  | false =>
   refine runf (an @hn @c0) ?_
   exact er0
  | true =>
  by_cases p1 : 0 ≤ a.n
  rotate_left
  ·rw [decide_eq_false p1]
   refine runf (an @hn @c0) ?_
   exact er0
  rw [decide_eq_true p1]
  by_cases p2 : a.n ≤ 1
  rotate_left
  ·rw [decide_eq_false p2]
   refine runf (an @hn @c0) ?_
   exact er0
  rw [decide_eq_true p2]
  refine runf (an @hn @c0) ?_
  refine cp (fzero_c { a with object := [], n := 0 }) ?_
  refine runf (an @hn @c0) ?_
  exact er0
 ·have hv : fitsF a = (idR a.target && short a.text && decide (0 ≤ a.n) && decide (a.n ≤ 1099511627776) && zeroF { a with target := [], text := [], n := 0 }) := by
   unfold fitsF
   rw [hk]
   show (out a .list && Ru.ok a .list) = _
   simp only [out, outB, Ru.ok, home, Ac.grant, Ac.setup, ← scopeF, wi19, wi, zeroF, bareA, decide_true, Bool.and_true, Bool.true_and]
   ac_rfl
  rw [hv]
  refine runf @hn ?_
  refine cp (fidright_c a.target h.target) ?_
  cases c0 : idR a.target with
  | false =>
   refine runf @hn ?_
   exact er0
  | true =>
  rw [short_eq]
  cases c1 : decide ((a.text.length : Int) ≤ 500) with
  | false =>
   refine runf (an @hn @c1) ?_
   exact er0
  | true =>
  by_cases p2 : 0 ≤ a.n
  rotate_left
  ·rw [decide_eq_false p2]
   refine runf (an @hn @c1) ?_
   exact er0
  rw [decide_eq_true p2]
  by_cases p3 : a.n ≤ 1099511627776
  rotate_left
  ·rw [decide_eq_false p3]
   refine runf (an @hn @c1) ?_
   exact er0
  rw [decide_eq_true p3]
  refine runf (an @hn @c1) ?_
  refine cp (fzero_c { a with target := [], text := [], n := 0 }) ?_
  refine runf (an @hn @c1) ?_
  exact er0
end Go.Proofs.YtlefikdjhnaapaaGreatDoor.Pe
end
section
namespace Go.Proofs.YtlefikdjhnaapaaGreatDoor.Pe
open Go Go.RowKit Co Sg Ac
set_option maxRecDepth 100000
set_option maxHeartbeats 4000000
theorem fright12_c (a : Ac.Act) (h : Sz a) : AC Tryz.prog 151 [actV a] [] (.bo (Ac.right a)) [] := by
 refine AC.enter2 [220, 221] [] Tryz.func151 rfl (by decide) (by decide) znl (by kernel_rfl) ?_; refine zev ?_
 obtain ⟨q, hq⟩ : ∃ q, Ac.right a = q := ⟨_, rfl⟩
 rw [hq]
 rw [right_fits] at hq
 have hn := nilD
 refine run ?_
 refine cp (fidright_c a.author h.author) ?_
 cases c0 : idR a.author with
 | false =>
  obtain rfl : q = false := by rw [← hq, c0]; rfl
  refine run ?_
  exact er0
 | true =>
 by_cases s0 : 0 ≤ a.seq
 rotate_left
 ·obtain rfl : q = false := by
   rw [← hq]
   have hp : placed a = false := by unfold placed; split <;> simp [wi, dig] <;> omega
   rw [hp]; simp
  refine runf @hn ?_
  exact er0
 by_cases s1 : a.seq ≤ 1073741824
 rotate_left
 ·obtain rfl : q = false := by
   rw [← hq]
   have hp : placed a = false := by unfold placed; split <;> simp [wi, dig] <;> omega
   rw [hp]; simp
  refine runf @hn ?_
  exact er0
 by_cases t0 : 0 ≤ a.time
 rotate_left
 ·obtain rfl : q = false := by
   rw [← hq]
   have hp : wi a.time 0 1099511627776 = false := by simp [wi]; omega
   rw [hp]; simp
  refine runf @hn ?_
  exact er0
 by_cases t1 : a.time ≤ 1099511627776
 rotate_left
 ·obtain rfl : q = false := by
   rw [← hq]
   have hp : wi a.time 0 1099511627776 = false := by simp [wi]; omega
   rw [hp]; simp
  refine runf @hn ?_
  exact er0
 by_cases e0 : 0 ≤ a.sig.e
 rotate_left
 ·obtain rfl : q = false := by
   rw [← hq]
   have hp : sigR a.sig = false := by simp [sigR, wi]; omega
   rw [hp]; simp
  refine runf @hn ?_
  exact er0
 by_cases e1 : a.sig.e < 2305843009213693950
 rotate_left
 ·obtain rfl : q = false := by
   rw [← hq]
   have hp : sigR a.sig = false := by simp [sigR, wi]; omega
   rw [hp]; simp
  refine runf @hn ?_
  exact er0
 by_cases f0 : 0 ≤ a.sig.s
 rotate_left
 ·obtain rfl : q = false := by
   rw [← hq]
   have hp : sigR a.sig = false := by simp [sigR, wi]; omega
   rw [hp]; simp
  refine runf @hn ?_
  exact er0
 by_cases f1 : a.sig.s < 2305843009213693950
 rotate_left
 ·obtain rfl : q = false := by
   rw [← hq]
   have hp : sigR a.sig = false := by simp [sigR, wi]; omega
   rw [hp]; simp
  refine runf @hn ?_
  exact er0
 have htm : wi a.time 0 1099511627776 = true := wi_iff.2 ⟨t0, t1⟩
 have hsg : sigR a.sig = true := by simp [sigR, wi]; omega
 by_cases z : a.seq = 0
 ·cases cp0 : decide (a.prev = []) with
  | false =>
   obtain rfl : q = false := by
    have hp : placed a = false := by unfold placed; rw [if_pos z, cp0, Bool.and_false]
    rw [← hq, hp]; simp
   refine runf (an @hn @cp0) ?_
   exact er0
  | true =>
  by_cases kz : a.kind = 0
  rotate_left
  ·obtain rfl : q = false := by
    have hp : placed a = false := by unfold placed; rw [if_pos z, decide_eq_false kz]; rfl
    rw [← hq, hp]; simp
   refine runf (an @hn @cp0) ?_
   exact er0
  obtain rfl : q = fitsF a := by
   have hp : placed a = true := by unfold placed; rw [if_pos z, decide_eq_true kz, cp0]; rfl
   rw [← hq, hp, c0, htm, hsg]; rfl
  refine runf (an @hn @cp0) ?_
  refine cp (ffits_c a h) ?_
  refine run ?_
  exact er0
 ·have z' : 1 ≤ a.seq := by omega
  have hw1 : wi a.seq 1 1073741824 = true := wi_iff.2 ⟨z', s1⟩
  have hd := dig_eq a.prev
  cases cd : ((a.prev.length : Int) == 32) with
  | false =>
   have cd' : ((a.prev.length : Int) != 32) = true := by simpa [bne] using cd
   obtain rfl : q = false := by
    have hp : placed a = false := by unfold placed; rw [if_neg z, hd, cd, Bool.and_false]
    rw [← hq, hp]; simp
   refine runf @cd' ?_
   exact er0
  | true =>
  have cd' : ((a.prev.length : Int) != 32) = false := by simpa [bne] using cd
  by_cases kz : a.kind = 0
  ·obtain rfl : q = false := by
    have hp : placed a = false := by unfold placed; rw [if_neg z, hw1, decide_eq_false (show ¬ a.kind ≠ 0 from fun h => h kz)]; rfl
    rw [← hq, hp]; simp
   refine runf @cd' ?_
   exact er0
  obtain rfl : q = fitsF a := by
   have hp : placed a = true := by unfold placed; rw [if_neg z, hw1, decide_eq_true (show a.kind ≠ 0 from kz), hd, cd]; rfl
   rw [← hq, hp, c0, htm, hsg]; rfl
  refine runf @cd' ?_
  refine cp (ffits_c a h) ?_
  refine run ?_
  exact er0
theorem fbox_c (b : Box) (h : b.nonce.length ≤ 1000000 ∧ b.data.length ≤ 1000000 ∧ b.tag.length ≤ 1000000) : AC Tryz.prog 295 [boxV b] [] (.st (boxB b)) [] := by
 refine AC.enter2 [183] [] Tryz.func295 rfl (by decide) (by decide) znl (by kernel_rfl) ?_; refine zev ?_
 have l1 := text_len h.1
 have l2 := text_len h.2.1
 have l3 := text_len h.2.2
 unfold boxB
 refine run ?_
 refine cp (ftext_c b.nonce (by omega)) ?_
 refine run ?_
 refine cp (ftext_c b.data (by omega)) ?_
 refine run ?_
 refine cp (ftext_c b.tag (by omega)) ?_
 refine run ?_
 exact er0
def preF (a : Ac.Act) : By :=
 text wAct ++ text a.author ++ numI a.seq ++ text a.prev ++ numI a.kind ++ numI a.time ++ text a.object ++ text a.target ++ numI a.scope ++ text a.group ++ list a.to ++ text a.text ++ boxB a.body ++ numI a.epoch ++ num a.wraps.length
theorem coreB_preF (a : Ac.Act) : coreB a = preF a ++ (a.wraps.map wrapB).flatten ++ numI a.n ++ numI a.m := by
 unfold coreB preF
 simp only [List.append_assoc]
theorem fcore12_c (a : Ac.Act) (h : Sz a) : AC Tryz.prog 267 [actV a] [] (.st (core a)) [] := by
 refine AC.enter2 [151, 183, 110, 268, 295] [] Tryz.func267 rfl (by decide) (by decide) znl (by kernel_rfl) ?_; refine zev ?_
 unfold core
 refine run ?_
 refine cp (fright12_c a h) ?_
 cases hr : Ac.right a with
 | false => rw [if_neg (by simp)]; refine run ?_; exact er0
 | true =>
  rw [if_pos rfl]
  have sm := right_sm hr
  have hto : a.to.length ≤ 1000000 := by have := sm.to; omega
  have htx : ∀ x ∈ a.to, x.length ≤ 1000000 := fun x hx => by have := sm.to.2 x hx; omega
  have q1 := text_len (s := wAct) (by simp)
  have k1 := ftext_c wAct (by simp)
  have q2 := text_len (s := a.author) (by have := sm.author; omega)
  have k2 := ftext_c a.author (by have := sm.author; omega)
  have q3 := numI_le a.seq (by have := sm.seq; omega)
  have k3 := fnum_c a.seq (by have := sm.seq; omega)
  have q4 := text_len (s := a.prev) (by have := sm.prev; omega)
  have k4 := ftext_c a.prev (by have := sm.prev; omega)
  have q5 := numI_le a.kind (by have := sm.kind; omega)
  have k5 := fnum_c a.kind (by have := sm.kind; omega)
  have q6 := numI_le a.time (by have := sm.time; omega)
  have k6 := fnum_c a.time (by have := sm.time; omega)
  have q7 := text_len (s := a.object) (by have := sm.object; omega)
  have k7 := ftext_c a.object (by have := sm.object; omega)
  have q8 := text_len (s := a.target) (by have := sm.target; omega)
  have k8 := ftext_c a.target (by have := sm.target; omega)
  have q9 := numI_le a.scope (by have := sm.scope; omega)
  have k9 := fnum_c a.scope (by have := sm.scope; omega)
  have q10 := text_len (s := a.group) (by have := sm.group; omega)
  have k10 := ftext_c a.group (by have := sm.group; omega)
  have q11 := list_len (l := a.to) hto htx
  have k11 := flist_c a.to hto htx
  have q12 := text_len (s := a.text) (by have := sm.text; omega)
  have k12 := ftext_c a.text (by have := sm.text; omega)
  have q13 := boxB_len a.body (by have := sm.body; omega)
  have k13 := fbox_c a.body (by have := sm.body; omega)
  have q14 := numI_le a.epoch (by have := sm.epoch; omega)
  have k14 := fnum_c a.epoch (by have := sm.epoch; omega)
  have q15 := num_len9 (n := a.wraps.length) (by have := sm.wraps; omega)
  have k15 := fnum_c (a.wraps.length : Int) (by have := sm.wraps; omega)
  rw [numI_nat] at k15
  have q16 := numI_le a.n (by have := sm.n; omega)
  have k16 := fnum_c a.n (by have := sm.n; omega)
  have q17 := numI_le a.m (by have := sm.m; omega)
  have k17 := fnum_c a.m (by have := sm.m; omega)
  have hwr := sm.wraps
  have hlp : (preF a).length ≤ 2000000000000 := by
   unfold preF
   simp only [List.length_append]
   omega
  rw [coreB_preF]
  have hsz : allSz 5 (a.wraps.map wrapV) = true := allSz_map 5 wrapV (fun _ => rfl) _
  clear hr sm h
  refine run ?_
  refine cp k1 ?_
  refine run ?_
  refine cp k2 ?_
  refine run ?_
  refine cp k3 ?_
  refine run ?_
  refine cp k4 ?_
  refine run ?_
  refine cp k5 ?_
  refine run ?_
  refine cp k6 ?_
  refine run ?_
  refine cp k7 ?_
  refine run ?_
  refine cp k8 ?_
  refine run ?_
  refine cp k9 ?_
  refine run ?_
  refine cp k10 ?_
  refine run ?_
  refine cp k11 ?_
  refine run ?_
  refine cp k12 ?_
  refine run ?_
  refine cp k13 ?_
  refine run ?_
  refine cp k14 ?_
  refine run ?_
  refine cp k15 ?_
  refine run ?_
  refine loop_mk (fun m e S => e 1 = .ptr 0 0 ∧ ∃ (k : Nat), e 5 = .it .i64 (k : Int) ∧ e 4 = .st (preF a ++ ((a.wraps.take k).map wrapB).flatten) ∧ S = [.cells (actL a)] ∧ k ≤ a.wraps.length ∧ m = a.wraps.length - k) a.wraps.length
   ⟨zsl, 0, zsl, by rw [List.take_zero, List.map_nil, List.flatten_nil, List.append_nil]; exact zsl, rfl, by omega, rfl⟩ ?_
  clear k1 k2 k3 k4 k5 k6 k7 k8 k9 k10 k11 k12 k13 k14 k15
  clear q1 q2 q3 q4 q5 q6 q7 q8 q9 q10 q11 q12 q13 q14 q15
  rintro m e S ⟨s1, k, s5, s4, rfl, hk, rfl⟩
  have hlen := wraps_len hwr.2 hwr.1 k
  by_cases hlt : k < a.wraps.length
  rotate_left
  ·obtain rfl : k = a.wraps.length := by omega
   rw [List.take_length] at s4 hlen
   have hx : ¬ ((a.wraps.length : Nat) : Int) < (a.wraps.length : Int) := by omega
   generalize (a.wraps.map wrapB).flatten = z at *
   generalize preF a = p at *
   refine runf (an @s1 (an @s5 (an @s4 @hx))) ?_
   refine cp k16 ?_
   refine runf (an @s1 (an @s5 @s4)) ?_
   refine cp k17 ?_
   refine runf (an @s1 (an @s5 @s4)) ?_
   exact er0
  have hg : a.wraps[k]? = some a.wraps[k] := List.getElem?_eq_getElem hlt
  have hx := hwr.2 a.wraps[k] (List.getElem_mem hlt)
  have hstep : ((a.wraps.take (k + 1)).map wrapB).flatten = ((a.wraps.take k).map wrapB).flatten ++ wrapB a.wraps[k] := by
   rw [List.take_succ_eq_append_getElem hlt, List.map_append, List.flatten_append]
   congr 1
   exact List.append_nil _
  generalize a.wraps[k] = x at *
  have hx' := wrap_sm hx
  have hbl := boxB_len x.box hx'.2.2
  have hn1 := numI_le x.to (by omega)
  have hn2 := numI_le x.eph (by omega)
  generalize ((a.wraps.take k).map wrapB).flatten = z at *
  generalize preF a = p at *
  have hwl := hwr.1
  clear k16 k17 q16 q17 hwr
  refine runf (an @s1 (an @s5 (an @s4 (an @hg @hsz)))) ?_
  refine cp (fnum_c x.to (by omega)) ?_
  refine runf (an @s1 (an @s5 (an @s4 (an @hg @hsz)))) ?_
  refine cp (fnum_c x.eph (by omega)) ?_
  refine runf (an @s1 (an @s5 (an @s4 (an @hg @hsz)))) ?_
  refine cp (fbox_c x.box hx'.2.2) ?_
  refine runf (an @s1 (an @s5 @s4)) ?_
  exact round_mk (a.wraps.length - (k + 1)) (by omega) ⟨zsl, k + 1, zsl, by rw [hstep]; unfold wrapB; simp only [List.append_assoc]; exact zsl, rfl, by omega, rfl⟩
theorem core_ne (a : Ac.Act) (hr : Ac.right a = true) : core a ≠ [] := by
 unfold core coreB
 rw [if_pos hr]
 have : (text wAct).length = 4 := rfl
 intro e
 have := congrArg List.length e
 simp only [List.length_append, List.length_nil] at this
 omega
theorem fbytes12_c (a : Ac.Act) (h : Sz a) : AC Tryz.prog 212 [actV a] [] (.st (Ac.bytes a)) [] := by
 refine AC.enter2 [267, 110] [] Tryz.func212 rfl (by decide) (by decide) znl (by kernel_rfl) ?_; refine zev ?_
 refine run ?_
 refine cp (fcore12_c a h) ?_
 cases hr : Ac.right a with
 | false =>
  have h0 : core a = [] := by unfold core; rw [hr]; rfl
  have h1 : Ac.bytes a = [] := by unfold Ac.bytes; rw [hr]; rfl
  rw [h1, h0]
  refine run ?_
  exact er0
 | true =>
  have hne := core_ne a hr
  have hl := core_len5 (a := a)
  have h1 : Ac.bytes a = core a ++ numI a.sig.e ++ numI a.sig.s := by unfold Ac.bytes core; rw [if_pos hr, if_pos hr]
  have sm := (right_sm hr).sig
  simp only [sigR, Bool.and_eq_true, wi_iff] at sm
  rw [h1]
  have hq : (core a == []) = false := by simpa using hne
  have n1 := numI_le a.sig.e (by omega)
  have n2 := numI_le a.sig.s (by omega)
  generalize core a = c at *
  refine runf @hq ?_
  refine cp (fnum_c a.sig.e (by omega)) ?_
  refine run ?_
  refine cp (fnum_c a.sig.s (by omega)) ?_
  refine run ?_
  exact er0
end Go.Proofs.YtlefikdjhnaapaaGreatDoor.Pe
end
section
namespace Go.Proofs.YtlefikdjhnaapaaGreatDoor.Pe
open Go Go.RowKit Co Sg Ac It
set_option maxRecDepth 100000
set_option maxHeartbeats 4000000
theorem wrap_eqb (x y : Wrap) : ((x.to == y.to) && ((x.eph == y.eph) && ((x.box.nonce == y.box.nonce) && ((x.box.data == y.box.data) && (x.box.tag == y.box.tag))))) = decide (x = y) := by
 obtain ⟨x1, x2, ⟨x3, x4, x5⟩⟩ := x
 obtain ⟨y1, y2, ⟨y3, y4, y5⟩⟩ := y
 rw [Bool.eq_iff_iff]
 simp
theorem act_ext {a b : Ac.Act} (h : a.author = b.author ∧ a.seq = b.seq ∧ a.prev = b.prev ∧ a.kind = b.kind ∧ a.time = b.time ∧ a.object = b.object ∧ a.target = b.target ∧ a.scope = b.scope ∧ a.group = b.group ∧ a.to = b.to ∧ a.text = b.text ∧ a.body.nonce = b.body.nonce ∧ a.body.data = b.body.data ∧ a.body.tag = b.body.tag ∧ a.epoch = b.epoch ∧ a.wraps = b.wraps ∧ a.n = b.n ∧ a.m = b.m ∧ a.sig.e = b.sig.e ∧ a.sig.s = b.sig.s) : a = b := by
 obtain ⟨x1, x2, x3, x4, x5, x6, x7, x8, x9, x10, x11, ⟨x12, x13, x14⟩, x15, x16, x17, x18, ⟨x19, x20⟩⟩ := a
 obtain ⟨y1, y2, y3, y4, y5, y6, y7, y8, y9, y10, y11, ⟨y12, y13, y14⟩, y15, y16, y17, y18, ⟨y19, y20⟩⟩ := b
 simp only at h
 obtain ⟨rfl, rfl, rfl, rfl, rfl, rfl, rfl, rfl, rfl, rfl, rfl, rfl, rfl, rfl, rfl, rfl, rfl, rfl, rfl, rfl⟩ := h
 rfl
theorem list_eq_of {α : Type} {a b : List α} (hl : a.length = b.length) (h : ∀ j (h1 : j < a.length) (h2 : j < b.length), a[j] = b[j]) : a = b := List.ext_getElem hl h
theorem fsame12_c (a b : Ac.Act) (ha : a.to.length ≤ 140737488355328 ∧ a.wraps.length ≤ 140737488355328) (hb : b.to.length ≤ 140737488355328 ∧ b.wraps.length ≤ 140737488355328) : AC Tryz.prog 149 [actV a, actV b] [] (.bo (decide (a = b))) [] := by
 refine AC.enter2 [] [] Tryz.func149 rfl (by decide) (by decide) znl (by kernel_rfl) ?_; refine zev ?_
 obtain ⟨q, hq⟩ : ∃ q, decide (a = b) = q := ⟨_, rfl⟩
 rw [hq]
 have hsa : allSz 5 (a.wraps.map wrapV) = true := allSz_map 5 wrapV (fun _ => rfl) _
 have hsb : allSz 5 (b.wraps.map wrapV) = true := allSz_map 5 wrapV (fun _ => rfl) _
 by_cases l1 : a.to.length = b.to.length
 rotate_left
 ·obtain rfl : q = false := by rw [← hq]; exact decide_eq_false (fun e => l1 (by rw [e]))
  refine run ?_
  exact er0
 by_cases l2 : a.wraps.length = b.wraps.length
 rotate_left
 ·obtain rfl : q = false := by rw [← hq]; exact decide_eq_false (fun e => l2 (by rw [e]))
  refine run ?_
  exact er0
 refine run ?_
 refine loop_mk (fun m e S => e 2 = .ptr 0 0 ∧ e 3 = .ptr 1 0 ∧ S = [.cells (actL a), .cells (actL b)] ∧ ∃ k : Nat, e 5 = .it .i64 (k : Int) ∧ k ≤ a.to.length ∧ (∀ j (h1 : j < a.to.length) (h2 : j < b.to.length), j < k → a.to[j] = b.to[j]) ∧ m = a.to.length - k) a.to.length
  ⟨zsl, zsl, rfl, 0, zsl, by omega, fun j _ _ h => absurd h (Nat.not_lt_zero _), rfl⟩ ?_
 rintro m e S ⟨s2, s3, rfl, k, s5, hk, hall, rfl⟩
 by_cases hlt : k < a.to.length
 focus
  have hga : a.to[k]? = some a.to[k] := List.getElem?_eq_getElem hlt
  have hgb : b.to[k]? = some (b.to[k]'(by omega)) := List.getElem?_eq_getElem (by omega)
  have hlb : k < b.to.length := by omega
  by_cases he : a.to[k] = b.to[k]
  ·have qe : (a.to[k] == b.to[k]) = true := by rw [he]; exact beq_self_eq_true _
   refine runf (an @s2 (an @s3 (an @s5 (an @hga (an @hgb @qe))))) ?_
   exact round_mk (a.to.length - (k + 1)) (by omega) ⟨zsl, zsl, rfl, k + 1, zsl, by omega, (fun j h1 h2 hj => by
    by_cases ej : j = k
    ·subst ej; exact he
    ·exact hall j h1 h2 (by omega)), rfl⟩
  ·have qe : (a.to[k] == b.to[k]) = false := by simpa using he
   obtain rfl : q = false := by rw [← hq]; exact decide_eq_false (fun e => he (by subst e; rfl))
   refine runf (an @s2 (an @s3 (an @s5 (an @hga (an @hgb @qe))))) ?_
   exact er0
 have e_to : a.to = b.to := list_eq_of l1 fun j h1 h2 => hall j h1 h2 (by omega)
 refine runf (an @s2 (an @s3 @s5)) ?_
 refine loop_mk (fun m e S => e 2 = .ptr 0 0 ∧ e 3 = .ptr 1 0 ∧ S = [.cells (actL a), .cells (actL b)] ∧ ∃ k : Nat, e 6 = .it .i64 (k : Int) ∧ k ≤ a.wraps.length ∧ (∀ j (h1 : j < a.wraps.length) (h2 : j < b.wraps.length), j < k → a.wraps[j] = b.wraps[j]) ∧ m = a.wraps.length - k) a.wraps.length
  ⟨zsl, zsl, rfl, 0, zsl, by omega, fun j _ _ h => absurd h (Nat.not_lt_zero _), rfl⟩ ?_
 clear s2 s3 s5 hall hlt
 rintro m e S ⟨s2, s3, rfl, k, s6, hk, hall, rfl⟩
 by_cases hlt : k < a.wraps.length
 focus
  have hga : a.wraps[k]? = some a.wraps[k] := List.getElem?_eq_getElem hlt
  have hgb : b.wraps[k]? = some (b.wraps[k]'(by omega)) := List.getElem?_eq_getElem (by omega)
  have hlb : k < b.wraps.length := by omega
  have hw := wrap_eqb a.wraps[k] b.wraps[k]
  by_cases he : a.wraps[k] = b.wraps[k]
  ·rw [decide_eq_true he] at hw
   refine runf (an @s2 (an @s3 (an @s6 (an @hga (an @hgb (an @hsa (an @hsb @hw))))))) ?_
   exact round_mk (a.wraps.length - (k + 1)) (by omega) ⟨zsl, zsl, rfl, k + 1, zsl, by omega, (fun j h1 h2 hj => by
    by_cases ej : j = k
    ·subst ej; exact he
    ·exact hall j h1 h2 (by omega)), rfl⟩
  ·rw [decide_eq_false he] at hw
   obtain rfl : q = false := by rw [← hq]; exact decide_eq_false (fun e => he (by subst e; rfl))
   refine runf (an @s2 (an @s3 (an @s6 (an @hga (an @hgb (an @hsa (an @hsb @hw))))))) ?_
   exact er0
 have e_wraps : a.wraps = b.wraps := list_eq_of l2 fun j h1 h2 => hall j h1 h2 (by omega)
 by_cases h_author : a.author = b.author
 rotate_left
 ·have q_author : (a.author == b.author) = false := by simpa using h_author
  obtain rfl : q = false := by rw [← hq]; exact decide_eq_false (fun e => h_author (by rw [e]))
  refine runf (an @s2 (an @s3 (an @s6 @q_author))) ?_
  exact er0
 have q_author : (a.author == b.author) = true := by rw [h_author]; exact beq_self_eq_true _
 by_cases h_seq : a.seq = b.seq
 rotate_left
 ·have q_seq : (a.seq == b.seq) = false := by simpa using h_seq
  obtain rfl : q = false := by rw [← hq]; exact decide_eq_false (fun e => h_seq (by rw [e]))
  refine runf (an @s2 (an @s3 (an @s6 (an @q_author @q_seq)))) ?_
  exact er0
 have q_seq : (a.seq == b.seq) = true := by rw [h_seq]; exact beq_self_eq_true _
 by_cases h_prev : a.prev = b.prev
 rotate_left
 ·have q_prev : (a.prev == b.prev) = false := by simpa using h_prev
  obtain rfl : q = false := by rw [← hq]; exact decide_eq_false (fun e => h_prev (by rw [e]))
  refine runf (an @s2 (an @s3 (an @s6 (an @q_author (an @q_seq @q_prev))))) ?_
  exact er0
 have q_prev : (a.prev == b.prev) = true := by rw [h_prev]; exact beq_self_eq_true _
 by_cases h_kind : a.kind = b.kind
 rotate_left
 ·have q_kind : (a.kind == b.kind) = false := by simpa using h_kind
  obtain rfl : q = false := by rw [← hq]; exact decide_eq_false (fun e => h_kind (by rw [e]))
  refine runf (an @s2 (an @s3 (an @s6 (an @q_author (an @q_seq (an @q_prev @q_kind)))))) ?_
  exact er0
 have q_kind : (a.kind == b.kind) = true := by rw [h_kind]; exact beq_self_eq_true _
 by_cases h_time : a.time = b.time
 rotate_left
 ·have q_time : (a.time == b.time) = false := by simpa using h_time
  obtain rfl : q = false := by rw [← hq]; exact decide_eq_false (fun e => h_time (by rw [e]))
  refine runf (an @s2 (an @s3 (an @s6 (an @q_author (an @q_seq (an @q_prev (an @q_kind @q_time))))))) ?_
  exact er0
 have q_time : (a.time == b.time) = true := by rw [h_time]; exact beq_self_eq_true _
 by_cases h_object : a.object = b.object
 rotate_left
 ·have q_object : (a.object == b.object) = false := by simpa using h_object
  obtain rfl : q = false := by rw [← hq]; exact decide_eq_false (fun e => h_object (by rw [e]))
  refine runf (an @s2 (an @s3 (an @s6 (an @q_author (an @q_seq (an @q_prev (an @q_kind (an @q_time @q_object)))))))) ?_
  exact er0
 have q_object : (a.object == b.object) = true := by rw [h_object]; exact beq_self_eq_true _
 by_cases h_target : a.target = b.target
 rotate_left
 ·have q_target : (a.target == b.target) = false := by simpa using h_target
  obtain rfl : q = false := by rw [← hq]; exact decide_eq_false (fun e => h_target (by rw [e]))
  refine runf (an @s2 (an @s3 (an @s6 (an @q_author (an @q_seq (an @q_prev (an @q_kind (an @q_time (an @q_object @q_target))))))))) ?_
  exact er0
 have q_target : (a.target == b.target) = true := by rw [h_target]; exact beq_self_eq_true _
 by_cases h_scope : a.scope = b.scope
 rotate_left
 ·have q_scope : (a.scope == b.scope) = false := by simpa using h_scope
  obtain rfl : q = false := by rw [← hq]; exact decide_eq_false (fun e => h_scope (by rw [e]))
  refine runf (an @s2 (an @s3 (an @s6 (an @q_author (an @q_seq (an @q_prev (an @q_kind (an @q_time (an @q_object (an @q_target @q_scope)))))))))) ?_
  exact er0
 have q_scope : (a.scope == b.scope) = true := by rw [h_scope]; exact beq_self_eq_true _
 by_cases h_group : a.group = b.group
 rotate_left
 ·have q_group : (a.group == b.group) = false := by simpa using h_group
  obtain rfl : q = false := by rw [← hq]; exact decide_eq_false (fun e => h_group (by rw [e]))
  refine runf (an @s2 (an @s3 (an @s6 (an @q_author (an @q_seq (an @q_prev (an @q_kind (an @q_time (an @q_object (an @q_target (an @q_scope @q_group))))))))))) ?_
  exact er0
 have q_group : (a.group == b.group) = true := by rw [h_group]; exact beq_self_eq_true _
 by_cases h_text : a.text = b.text
 rotate_left
 ·have q_text : (a.text == b.text) = false := by simpa using h_text
  obtain rfl : q = false := by rw [← hq]; exact decide_eq_false (fun e => h_text (by rw [e]))
  refine runf (an @s2 (an @s3 (an @s6 (an @q_author (an @q_seq (an @q_prev (an @q_kind (an @q_time (an @q_object (an @q_target (an @q_scope (an @q_group @q_text)))))))))))) ?_
  exact er0
 have q_text : (a.text == b.text) = true := by rw [h_text]; exact beq_self_eq_true _
 by_cases h_body_nonce : a.body.nonce = b.body.nonce
 rotate_left
 ·have q_body_nonce : (a.body.nonce == b.body.nonce) = false := by simpa using h_body_nonce
  obtain rfl : q = false := by rw [← hq]; exact decide_eq_false (fun e => h_body_nonce (by rw [e]))
  refine runf (an @s2 (an @s3 (an @s6 (an @q_author (an @q_seq (an @q_prev (an @q_kind (an @q_time (an @q_object (an @q_target (an @q_scope (an @q_group (an @q_text @q_body_nonce))))))))))))) ?_
  exact er0
 have q_body_nonce : (a.body.nonce == b.body.nonce) = true := by rw [h_body_nonce]; exact beq_self_eq_true _
 by_cases h_body_data : a.body.data = b.body.data
 rotate_left
 ·have q_body_data : (a.body.data == b.body.data) = false := by simpa using h_body_data
  obtain rfl : q = false := by rw [← hq]; exact decide_eq_false (fun e => h_body_data (by rw [e]))
  refine runf (an @s2 (an @s3 (an @s6 (an @q_author (an @q_seq (an @q_prev (an @q_kind (an @q_time (an @q_object (an @q_target (an @q_scope (an @q_group (an @q_text (an @q_body_nonce @q_body_data)))))))))))))) ?_
  exact er0
 have q_body_data : (a.body.data == b.body.data) = true := by rw [h_body_data]; exact beq_self_eq_true _
 by_cases h_body_tag : a.body.tag = b.body.tag
 rotate_left
 ·have q_body_tag : (a.body.tag == b.body.tag) = false := by simpa using h_body_tag
  obtain rfl : q = false := by rw [← hq]; exact decide_eq_false (fun e => h_body_tag (by rw [e]))
  refine runf (an @s2 (an @s3 (an @s6 (an @q_author (an @q_seq (an @q_prev (an @q_kind (an @q_time (an @q_object (an @q_target (an @q_scope (an @q_group (an @q_text (an @q_body_nonce (an @q_body_data @q_body_tag))))))))))))))) ?_
  exact er0
 have q_body_tag : (a.body.tag == b.body.tag) = true := by rw [h_body_tag]; exact beq_self_eq_true _
 by_cases h_epoch : a.epoch = b.epoch
 rotate_left
 ·have q_epoch : (a.epoch == b.epoch) = false := by simpa using h_epoch
  obtain rfl : q = false := by rw [← hq]; exact decide_eq_false (fun e => h_epoch (by rw [e]))
  refine runf (an @s2 (an @s3 (an @s6 (an @q_author (an @q_seq (an @q_prev (an @q_kind (an @q_time (an @q_object (an @q_target (an @q_scope (an @q_group (an @q_text (an @q_body_nonce (an @q_body_data (an @q_body_tag @q_epoch)))))))))))))))) ?_
  exact er0
 have q_epoch : (a.epoch == b.epoch) = true := by rw [h_epoch]; exact beq_self_eq_true _
 by_cases h_n : a.n = b.n
 rotate_left
 ·have q_n : (a.n == b.n) = false := by simpa using h_n
  obtain rfl : q = false := by rw [← hq]; exact decide_eq_false (fun e => h_n (by rw [e]))
  refine runf (an @s2 (an @s3 (an @s6 (an @q_author (an @q_seq (an @q_prev (an @q_kind (an @q_time (an @q_object (an @q_target (an @q_scope (an @q_group (an @q_text (an @q_body_nonce (an @q_body_data (an @q_body_tag (an @q_epoch @q_n))))))))))))))))) ?_
  exact er0
 have q_n : (a.n == b.n) = true := by rw [h_n]; exact beq_self_eq_true _
 by_cases h_m : a.m = b.m
 rotate_left
 ·have q_m : (a.m == b.m) = false := by simpa using h_m
  obtain rfl : q = false := by rw [← hq]; exact decide_eq_false (fun e => h_m (by rw [e]))
  refine runf (an @s2 (an @s3 (an @s6 (an @q_author (an @q_seq (an @q_prev (an @q_kind (an @q_time (an @q_object (an @q_target (an @q_scope (an @q_group (an @q_text (an @q_body_nonce (an @q_body_data (an @q_body_tag (an @q_epoch (an @q_n @q_m)))))))))))))))))) ?_
  exact er0
 have q_m : (a.m == b.m) = true := by rw [h_m]; exact beq_self_eq_true _
 by_cases h_sig_e : a.sig.e = b.sig.e
 rotate_left
 ·have q_sig_e : (a.sig.e == b.sig.e) = false := by simpa using h_sig_e
  obtain rfl : q = false := by rw [← hq]; exact decide_eq_false (fun e => h_sig_e (by rw [e]))
  refine runf (an @s2 (an @s3 (an @s6 (an @q_author (an @q_seq (an @q_prev (an @q_kind (an @q_time (an @q_object (an @q_target (an @q_scope (an @q_group (an @q_text (an @q_body_nonce (an @q_body_data (an @q_body_tag (an @q_epoch (an @q_n (an @q_m @q_sig_e))))))))))))))))))) ?_
  exact er0
 have q_sig_e : (a.sig.e == b.sig.e) = true := by rw [h_sig_e]; exact beq_self_eq_true _
 by_cases h_sig_s : a.sig.s = b.sig.s
 rotate_left
 ·have q_sig_s : (a.sig.s == b.sig.s) = false := by simpa using h_sig_s
  obtain rfl : q = false := by rw [← hq]; exact decide_eq_false (fun e => h_sig_s (by rw [e]))
  refine runf (an @s2 (an @s3 (an @s6 (an @q_author (an @q_seq (an @q_prev (an @q_kind (an @q_time (an @q_object (an @q_target (an @q_scope (an @q_group (an @q_text (an @q_body_nonce (an @q_body_data (an @q_body_tag (an @q_epoch (an @q_n (an @q_m (an @q_sig_e @q_sig_s)))))))))))))))))))) ?_
  exact er0
 have q_sig_s : (a.sig.s == b.sig.s) = true := by rw [h_sig_s]; exact beq_self_eq_true _
 obtain rfl : q = true := by
  rw [← hq]
  exact decide_eq_true (act_ext ⟨h_author, h_seq, h_prev, h_kind, h_time, h_object, h_target, h_scope, h_group, e_to, h_text, h_body_nonce, h_body_data, h_body_tag, h_epoch, e_wraps, h_n, h_m, h_sig_e, h_sig_s⟩)
 refine runf (an @s2 (an @s3 (an @s6 (an @q_author (an @q_seq (an @q_prev (an @q_kind (an @q_time (an @q_object (an @q_target (an @q_scope (an @q_group (an @q_text (an @q_body_nonce (an @q_body_data (an @q_body_tag (an @q_epoch (an @q_n (an @q_m (an @q_sig_e @q_sig_s)))))))))))))))))))) ?_
 exact er0
theorem fsameDecision_c (a b : It.Decision) (ha : a.to.length ≤ 140737488355328) (hb : b.to.length ≤ 140737488355328) : AC Tryz.prog 150 [decisionV a, decisionV b] [] (.bo (decide (a = b))) [] := by
 refine AC.enter2 [] [] Tryz.func150 rfl (by decide) (by decide) znl (by kernel_rfl) ?_; refine zev ?_
 obtain ⟨q, hq⟩ : ∃ q, decide (a = b) = q := ⟨_, rfl⟩
 rw [hq]
 by_cases l1 : a.to.length = b.to.length
 rotate_left
 ·obtain rfl : q = false := by rw [← hq]; exact decide_eq_false (fun e => l1 (by rw [e]))
  refine run ?_
  exact er0
 refine run ?_
 refine loop_mk (fun m e S => e 2 = .ptr 0 0 ∧ e 3 = .ptr 1 0 ∧ S = [.cells (decL a), .cells (decL b)] ∧ ∃ k : Nat, e 5 = .it .i64 (k : Int) ∧ k ≤ a.to.length ∧ (∀ j (h1 : j < a.to.length) (h2 : j < b.to.length), j < k → a.to[j] = b.to[j]) ∧ m = a.to.length - k) a.to.length
  ⟨zsl, zsl, rfl, 0, zsl, by omega, fun j _ _ h => absurd h (Nat.not_lt_zero _), rfl⟩ ?_
 rintro m e S ⟨s2, s3, rfl, k, s5, hk, hall, rfl⟩
 by_cases hlt : k < a.to.length
 focus
  have hga : a.to[k]? = some a.to[k] := List.getElem?_eq_getElem hlt
  have hgb : b.to[k]? = some (b.to[k]'(by omega)) := List.getElem?_eq_getElem (by omega)
  have hlb : k < b.to.length := by omega
  by_cases he : a.to[k] = b.to[k]
  ·have qe : (a.to[k] == b.to[k]) = true := by rw [he]; exact beq_self_eq_true _
   refine runf (an @s2 (an @s3 (an @s5 (an @hga (an @hgb @qe))))) ?_
   exact round_mk (a.to.length - (k + 1)) (by omega) ⟨zsl, zsl, rfl, k + 1, zsl, by omega, (fun j h1 h2 hj => by
    by_cases ej : j = k
    ·subst ej; exact he
    ·exact hall j h1 h2 (by omega)), rfl⟩
  ·have qe : (a.to[k] == b.to[k]) = false := by simpa using he
   obtain rfl : q = false := by rw [← hq]; exact decide_eq_false (fun e => he (by subst e; rfl))
   refine runf (an @s2 (an @s3 (an @s5 (an @hga (an @hgb @qe))))) ?_
   exact er0
 have e_to : a.to = b.to := list_eq_of l1 fun j h1 h2 => hall j h1 h2 (by omega)
 by_cases h_server : a.server = b.server
 rotate_left
 ·have q_server : (a.server == b.server) = false := by simpa using h_server
  obtain rfl : q = false := by rw [← hq]; exact decide_eq_false (fun e => h_server (by rw [e]))
  refine runf (an @s2 (an @s3 (an @s5 @q_server))) ?_
  exact er0
 have q_server : (a.server == b.server) = true := by rw [h_server]; exact beq_self_eq_true _
 by_cases h_number : a.number = b.number
 rotate_left
 ·have q_number : (a.number == b.number) = false := by simpa using h_number
  obtain rfl : q = false := by rw [← hq]; exact decide_eq_false (fun e => h_number (by rw [e]))
  refine runf (an @s2 (an @s3 (an @s5 (an @q_server @q_number)))) ?_
  exact er0
 have q_number : (a.number == b.number) = true := by rw [h_number]; exact beq_self_eq_true _
 by_cases h_kind : a.kind = b.kind
 rotate_left
 ·have q_kind : (a.kind == b.kind) = false := by simpa using h_kind
  obtain rfl : q = false := by rw [← hq]; exact decide_eq_false (fun e => h_kind (by rw [e]))
  refine runf (an @s2 (an @s3 (an @s5 (an @q_server (an @q_number @q_kind))))) ?_
  exact er0
 have q_kind : (a.kind == b.kind) = true := by rw [h_kind]; exact beq_self_eq_true _
 by_cases h_actor : a.actor = b.actor
 rotate_left
 ·have q_actor : (a.actor == b.actor) = false := by simpa using h_actor
  obtain rfl : q = false := by rw [← hq]; exact decide_eq_false (fun e => h_actor (by rw [e]))
  refine runf (an @s2 (an @s3 (an @s5 (an @q_server (an @q_number (an @q_kind @q_actor)))))) ?_
  exact er0
 have q_actor : (a.actor == b.actor) = true := by rw [h_actor]; exact beq_self_eq_true _
 by_cases h_object : a.object = b.object
 rotate_left
 ·have q_object : (a.object == b.object) = false := by simpa using h_object
  obtain rfl : q = false := by rw [← hq]; exact decide_eq_false (fun e => h_object (by rw [e]))
  refine runf (an @s2 (an @s3 (an @s5 (an @q_server (an @q_number (an @q_kind (an @q_actor @q_object))))))) ?_
  exact er0
 have q_object : (a.object == b.object) = true := by rw [h_object]; exact beq_self_eq_true _
 by_cases h_text : a.text = b.text
 rotate_left
 ·have q_text : (a.text == b.text) = false := by simpa using h_text
  obtain rfl : q = false := by rw [← hq]; exact decide_eq_false (fun e => h_text (by rw [e]))
  refine runf (an @s2 (an @s3 (an @s5 (an @q_server (an @q_number (an @q_kind (an @q_actor (an @q_object @q_text)))))))) ?_
  exact er0
 have q_text : (a.text == b.text) = true := by rw [h_text]; exact beq_self_eq_true _
 by_cases h_n : a.n = b.n
 rotate_left
 ·have q_n : (a.n == b.n) = false := by simpa using h_n
  obtain rfl : q = false := by rw [← hq]; exact decide_eq_false (fun e => h_n (by rw [e]))
  refine runf (an @s2 (an @s3 (an @s5 (an @q_server (an @q_number (an @q_kind (an @q_actor (an @q_object (an @q_text @q_n))))))))) ?_
  exact er0
 have q_n : (a.n == b.n) = true := by rw [h_n]; exact beq_self_eq_true _
 by_cases h_frm : a.frm = b.frm
 rotate_left
 ·have q_frm : (a.frm == b.frm) = false := by simpa using h_frm
  obtain rfl : q = false := by rw [← hq]; exact decide_eq_false (fun e => h_frm (by rw [e]))
  refine runf (an @s2 (an @s3 (an @s5 (an @q_server (an @q_number (an @q_kind (an @q_actor (an @q_object (an @q_text (an @q_n @q_frm)))))))))) ?_
  exact er0
 have q_frm : (a.frm == b.frm) = true := by rw [h_frm]; exact beq_self_eq_true _
 by_cases h_til : a.til = b.til
 rotate_left
 ·have q_til : (a.til == b.til) = false := by simpa using h_til
  obtain rfl : q = false := by rw [← hq]; exact decide_eq_false (fun e => h_til (by rw [e]))
  refine runf (an @s2 (an @s3 (an @s5 (an @q_server (an @q_number (an @q_kind (an @q_actor (an @q_object (an @q_text (an @q_n (an @q_frm @q_til))))))))))) ?_
  exact er0
 have q_til : (a.til == b.til) = true := by rw [h_til]; exact beq_self_eq_true _
 by_cases h_sig_e : a.sig.e = b.sig.e
 rotate_left
 ·have q_sig_e : (a.sig.e == b.sig.e) = false := by simpa using h_sig_e
  obtain rfl : q = false := by rw [← hq]; exact decide_eq_false (fun e => h_sig_e (by rw [e]))
  refine runf (an @s2 (an @s3 (an @s5 (an @q_server (an @q_number (an @q_kind (an @q_actor (an @q_object (an @q_text (an @q_n (an @q_frm (an @q_til @q_sig_e)))))))))))) ?_
  exact er0
 have q_sig_e : (a.sig.e == b.sig.e) = true := by rw [h_sig_e]; exact beq_self_eq_true _
 by_cases h_sig_s : a.sig.s = b.sig.s
 rotate_left
 ·have q_sig_s : (a.sig.s == b.sig.s) = false := by simpa using h_sig_s
  obtain rfl : q = false := by rw [← hq]; exact decide_eq_false (fun e => h_sig_s (by rw [e]))
  refine runf (an @s2 (an @s3 (an @s5 (an @q_server (an @q_number (an @q_kind (an @q_actor (an @q_object (an @q_text (an @q_n (an @q_frm (an @q_til (an @q_sig_e @q_sig_s))))))))))))) ?_
  exact er0
 have q_sig_s : (a.sig.s == b.sig.s) = true := by rw [h_sig_s]; exact beq_self_eq_true _
 obtain rfl : q = true := by
  rw [← hq]
  refine decide_eq_true ?_
  cases a; cases b
  rename_i x1 x2 x3 x4 x5 x6 x7 x8 x9 x10 x11 y1 y2 y3 y4 y5 y6 y7 y8 y9 y10 y11
  cases x11; cases y11
  simp only at *
  simp only [*]
 refine runf (an @s2 (an @s3 (an @s5 (an @q_server (an @q_number (an @q_kind (an @q_actor (an @q_object (an @q_text (an @q_n (an @q_frm (an @q_til (an @q_sig_e @q_sig_s))))))))))))) ?_
 exact er0
end Go.Proofs.YtlefikdjhnaapaaGreatDoor.Pe
end
section
namespace Go.Proofs.YtlefikdjhnaapaaGreatDoor.Pe
open Go Go.RowKit Co Sg Ac It
set_option maxRecDepth 100000
set_option maxHeartbeats 4000000
theorem ffrom_c (n lo hi : Int) : AC Tryz.prog 157 [.it .i64 n, .it .i64 lo, .it .i64 hi] [] (.bo (wi n lo hi)) [] := by
 refine AC.enter2 [] [] Tryz.func157 rfl (by decide) (by decide) znl (by kernel_rfl) ?_; refine zev ?_
 unfold wi
 by_cases h : lo ≤ n
 ·rw [decide_eq_true h]
  refine run ?_
  exact er0
 ·rw [decide_eq_false h]
  refine run ?_
  exact er0
theorem fsig_c (s : Sig) : AC Tryz.prog 222 [sigV s] [] (.bo (sigR s)) [] := by
 refine AC.enter2 [157] [] Tryz.func222 rfl (by decide) (by decide) znl (by kernel_rfl) ?_; refine zev ?_
 unfold sigR
 refine run ?_
 refine cp (ffrom_c s.e 0 2305843009213693949) ?_
 cases h : wi s.e 0 2305843009213693949 with
 | false =>
  refine run ?_
  exact er0
 | true =>
  refine run ?_
  refine cp (ffrom_c s.s 0 2305843009213693949) ?_
  refine run ?_
  exact er0
theorem fclaimed13_c (c : It.Claim) (ha : c.actor.length ≤ 140737488355328) : AC Tryz.prog 152 [claimV c] [] (.bo (rightClaim c)) [] := by
 refine AC.enter2 [220, 157, 222] [] Tryz.func152 rfl (by decide) (by decide) znl (by kernel_rfl) ?_; refine zev ?_
 obtain ⟨q, hq⟩ : ∃ q, rightClaim c = q := ⟨_, rfl⟩
 rw [hq]
 unfold rightClaim at hq
 refine run ?_
 refine cp (fidright_c c.actor ha) ?_
 cases c0 : idR c.actor with
 | false =>
  obtain rfl : q = false := by rw [← hq, c0]; simp
  refine run ?_
  refine cp (ffrom_c c.base 1 1073741824) ?_
  cases n0 : wi c.base 1 1073741824 with
  | false =>
   refine run ?_
   exact er0
  | true =>
  refine run ?_
  refine cp (ffrom_c c.gen 0 1073741824) ?_
  cases n1 : wi c.gen 0 1073741824 with
  | false =>
   refine run ?_
   exact er0
  | true =>
  refine run ?_
  refine cp (ffrom_c c.home 0 19) ?_
  cases n2 : wi c.home 0 19 with
  | false =>
   refine run ?_
   exact er0
  | true =>
  refine run ?_
  refine cp (ffrom_c c.pub 1 2305843009213693950) ?_
  cases n3 : wi c.pub 1 2305843009213693950 with
  | false =>
   refine run ?_
   exact er0
  | true =>
  refine run ?_
  refine cp (ffrom_c c.time 0 1099511627776) ?_
  cases n4 : wi c.time 0 1099511627776 with
  | false =>
   refine run ?_
   exact er0
  | true =>
  refine run ?_
  exact er0
 | true =>
  refine run ?_
  refine cp (ffrom_c c.base 1 1073741824) ?_
  cases n0 : wi c.base 1 1073741824 with
  | false =>
   obtain rfl : q = false := by rw [← hq]; simp [n0, isServer, isTime]
   refine run ?_
   exact er0
  | true =>
  refine run ?_
  refine cp (ffrom_c c.gen 0 1073741824) ?_
  cases n1 : wi c.gen 0 1073741824 with
  | false =>
   obtain rfl : q = false := by rw [← hq]; simp [n1, isServer, isTime]
   refine run ?_
   exact er0
  | true =>
  refine run ?_
  refine cp (ffrom_c c.home 0 19) ?_
  cases n2 : wi c.home 0 19 with
  | false =>
   obtain rfl : q = false := by rw [← hq]; simp [n2, isServer, isTime]
   refine run ?_
   exact er0
  | true =>
  refine run ?_
  refine cp (ffrom_c c.pub 1 2305843009213693950) ?_
  cases n3 : wi c.pub 1 2305843009213693950 with
  | false =>
   obtain rfl : q = false := by rw [← hq]; simp [n3, isServer, isTime]
   refine run ?_
   exact er0
  | true =>
  refine run ?_
  refine cp (ffrom_c c.time 0 1099511627776) ?_
  cases n4 : wi c.time 0 1099511627776 with
  | false =>
   obtain rfl : q = false := by rw [← hq]; simp [n4, isServer, isTime]
   refine run ?_
   exact er0
  | true =>
  have hd := dig_eq c.prev
  cases cd : ((c.prev.length : Int) == 32) with
  | false =>
   obtain rfl : q = false := by rw [← hq, hd, cd]; simp
   refine runf @cd ?_
   exact er0
  | true =>
  obtain rfl : q = sigR c.sig := by rw [← hq, hd, cd]; simp [c0, n0, n1, n2, n3, n4, isServer, isTime]
  refine runf @cd ?_
  refine cp (fsig_c c.sig) ?_
  refine run ?_
  exact er0
theorem fvoted_c (c : It.Ballot) (ha : c.actor.length ≤ 140737488355328) : AC Tryz.prog 153 [ballotV c] [] (.bo (rightBallot c)) [] := by
 refine AC.enter2 [220, 157, 222] [] Tryz.func153 rfl (by decide) (by decide) znl (by kernel_rfl) ?_; refine zev ?_
 obtain ⟨q, hq⟩ : ∃ q, rightBallot c = q := ⟨_, rfl⟩
 rw [hq]
 unfold rightBallot at hq
 refine run ?_
 refine cp (fidright_c c.actor ha) ?_
 cases c0 : idR c.actor with
 | false =>
  obtain rfl : q = false := by rw [← hq, c0]; simp
  refine run ?_
  refine cp (ffrom_c c.server 0 19) ?_
  cases n0 : wi c.server 0 19 with
  | false =>
   refine run ?_
   exact er0
  | true =>
  refine run ?_
  refine cp (ffrom_c c.gen 0 1073741824) ?_
  cases n1 : wi c.gen 0 1073741824 with
  | false =>
   refine run ?_
   exact er0
  | true =>
  refine run ?_
  refine cp (ffrom_c c.time 0 1099511627776) ?_
  cases n2 : wi c.time 0 1099511627776 with
  | false =>
   refine run ?_
   exact er0
  | true =>
  refine run ?_
  exact er0
 | true =>
  refine run ?_
  refine cp (ffrom_c c.server 0 19) ?_
  cases n0 : wi c.server 0 19 with
  | false =>
   obtain rfl : q = false := by rw [← hq]; simp [n0, isServer, isTime]
   refine run ?_
   exact er0
  | true =>
  refine run ?_
  refine cp (ffrom_c c.gen 0 1073741824) ?_
  cases n1 : wi c.gen 0 1073741824 with
  | false =>
   obtain rfl : q = false := by rw [← hq]; simp [n1, isServer, isTime]
   refine run ?_
   exact er0
  | true =>
  refine run ?_
  refine cp (ffrom_c c.time 0 1099511627776) ?_
  cases n2 : wi c.time 0 1099511627776 with
  | false =>
   obtain rfl : q = false := by rw [← hq]; simp [n2, isServer, isTime]
   refine run ?_
   exact er0
  | true =>
  have hd := dig_eq c.claim
  cases cd : ((c.claim.length : Int) == 32) with
  | false =>
   obtain rfl : q = false := by rw [← hq, hd, cd]; simp
   refine runf @cd ?_
   exact er0
  | true =>
  obtain rfl : q = sigR c.sig := by rw [← hq, hd, cd]; simp [c0, n0, n1, n2, isServer, isTime]
  refine runf @cd ?_
  refine cp (fsig_c c.sig) ?_
  refine run ?_
  exact er0
theorem terms_kind (d : It.Decision) (h : wi d.kind 0 9 = false) : rightTerms d = false := by
 unfold rightTerms
 have : ¬ (0 ≤ d.kind ∧ d.kind ≤ 9) := fun e => by rw [wi_iff.2 e] at h; cases h
 rw [if_neg (by omega), if_neg (by omega), if_neg (by omega), if_neg (by omega)]
theorem fdecided_c (d : It.Decision) (ha : d.actor.length ≤ 140737488355328) (hts : ∀ s ∈ d.to, s.length ≤ 140737488355328) (htl : d.to.length ≤ 140737488355328) : AC Tryz.prog 154 [decisionV d] [] (.bo (rightDecision d)) [] := by
 refine AC.enter2 [220, 223, 157, 222] [] Tryz.func154 rfl (by decide) (by decide) znl (by kernel_rfl) ?_; refine zev ?_
 obtain ⟨q, hq⟩ : ∃ q, rightDecision d = q := ⟨_, rfl⟩
 rw [hq]
 unfold rightDecision at hq
 have hn := nilD
 have hl := lenD d.to
 have hs := short_eq d.text
 refine run ?_
 refine cp (ffrom_c d.server 0 19) ?_
 cases n0 : wi d.server 0 19 with
 | false =>
  obtain rfl : q = false := by rw [← hq]; simp [n0, isServer, isTime]
  refine run ?_
  exact er0
 | true =>
 refine run ?_
 refine cp (ffrom_c d.number 0 1073741824) ?_
 cases n1 : wi d.number 0 1073741824 with
 | false =>
  obtain rfl : q = false := by rw [← hq]; simp [n1, isServer, isTime]
  refine run ?_
  exact er0
 | true =>
 refine run ?_
 refine cp (ffrom_c d.kind 0 9) ?_
 cases n2 : wi d.kind 0 9 with
 | false =>
  obtain rfl : q = false := by rw [← hq]; simp [terms_kind d n2]
  refine run ?_
  exact er0
 | true =>
 refine run ?_
 refine cp (ffrom_c d.frm 0 1099511627776) ?_
 cases n3 : wi d.frm 0 1099511627776 with
 | false =>
  obtain rfl : q = false := by rw [← hq]; simp [n3, isServer, isTime]
  refine run ?_
  exact er0
 | true =>
 refine run ?_
 refine cp (ffrom_c d.til 0 1099511627776) ?_
 cases n4 : wi d.til 0 1099511627776 with
 | false =>
  obtain rfl : q = false := by rw [← hq]; simp [n4, isServer, isTime]
  refine run ?_
  exact er0
 | true =>
 by_cases hft : d.frm < d.til
 rotate_left
 ·obtain rfl : q = false := by rw [← hq, decide_eq_false hft]; simp
  refine run ?_
  exact er0
 refine run ?_
 refine cp (fsig_c d.sig) ?_
 cases cs : sigR d.sig with
 | false =>
  obtain rfl : q = false := by rw [← hq, cs]; simp
  refine run ?_
  exact er0
 | true =>
 have hk := wi_iff.1 n2
 obtain rfl : q = rightTerms d := by rw [← hq, cs, decide_eq_true hft]; simp [n0, n1, n3, n4, isServer, isTime]
 clear hq
 obtain ⟨pl, hpl⟩ : ∃ pl, plainD d = pl := ⟨_, rfl⟩
 have hks : d.kind = 0 ∨ d.kind = 1 ∨ d.kind = 2 ∨ d.kind = 3 ∨ d.kind = 4 ∨ d.kind = 5 ∨ d.kind = 6 ∨ d.kind = 7 ∨ d.kind = 8 ∨ d.kind = 9 := by omega
 rcases hks with hk | hk | hk | hk | hk | hk | hk | hk | hk | hk
 ·have hv : rightTerms d = (idR d.actor && decide (d.object = []) && decide ((d.text.length : Int) ≤ 500) && plainD d) := by
   unfold rightTerms
   rw [if_pos (by omega), hs]
  rw [hv]
  cases ct : decide (d.to = []) with
  | false =>
   have hp : plainD d = false := by unfold plainD; rw [ct]; rfl
   rw [hp]
   refine runf (an @hn (an @hl @ct)) ?_
   refine cp (fidright_c d.actor ha) ?_
   cases c0 : idR d.actor with
   | false =>
    refine runf (an @hn (an @hl @ct)) ?_
    exact er0
   | true =>
   cases c1 : decide (d.object = []) with
   | false =>
    refine runf (an @hn (an @hl (an @ct @c1))) ?_
    exact er0
   | true =>
   cases c2 : decide ((d.text.length : Int) ≤ 500) with
   | false =>
    refine runf (an @hn (an @hl (an @c1 (an @ct @c2)))) ?_
    exact er0
   | true =>
   refine runf (an @hn (an @hl (an @c1 (an @c2 @ct)))) ?_
   exact er0
  | true =>
  by_cases hN : d.n = 0
  ·have hp : plainD d = true := by unfold plainD; rw [ct, decide_eq_true hN]; rfl
   rw [hp]
   refine runf (an @hn (an @hl @ct)) ?_
   refine cp (fidright_c d.actor ha) ?_
   cases c0 : idR d.actor with
   | false =>
    refine runf (an @hn (an @hl @ct)) ?_
    exact er0
   | true =>
   cases c1 : decide (d.object = []) with
   | false =>
    refine runf (an @hn (an @hl (an @ct @c1))) ?_
    exact er0
   | true =>
   cases c2 : decide ((d.text.length : Int) ≤ 500) with
   | false =>
    refine runf (an @hn (an @hl (an @c1 (an @ct @c2)))) ?_
    exact er0
   | true =>
   refine runf (an @hn (an @hl (an @c1 (an @c2 @ct)))) ?_
   exact er0
  ·have hp : plainD d = false := by unfold plainD; rw [decide_eq_false hN, Bool.and_false]
   rw [hp]
   refine runf (an @hn (an @hl @ct)) ?_
   refine cp (fidright_c d.actor ha) ?_
   cases c0 : idR d.actor with
   | false =>
    refine runf (an @hn (an @hl @ct)) ?_
    exact er0
   | true =>
   cases c1 : decide (d.object = []) with
   | false =>
    refine runf (an @hn (an @hl (an @ct @c1))) ?_
    exact er0
   | true =>
   cases c2 : decide ((d.text.length : Int) ≤ 500) with
   | false =>
    refine runf (an @hn (an @hl (an @c1 (an @ct @c2)))) ?_
    exact er0
   | true =>
   refine runf (an @hn (an @hl (an @c1 (an @c2 @ct)))) ?_
   exact er0
 ·have hv : rightTerms d = (idR d.actor && decide (d.object = []) && decide ((d.text.length : Int) ≤ 500) && plainD d) := by
   unfold rightTerms
   rw [if_pos (by omega), hs]
  rw [hv]
  cases ct : decide (d.to = []) with
  | false =>
   have hp : plainD d = false := by unfold plainD; rw [ct]; rfl
   rw [hp]
   refine runf (an @hn (an @hl @ct)) ?_
   refine cp (fidright_c d.actor ha) ?_
   cases c0 : idR d.actor with
   | false =>
    refine runf (an @hn (an @hl @ct)) ?_
    exact er0
   | true =>
   cases c1 : decide (d.object = []) with
   | false =>
    refine runf (an @hn (an @hl (an @ct @c1))) ?_
    exact er0
   | true =>
   cases c2 : decide ((d.text.length : Int) ≤ 500) with
   | false =>
    refine runf (an @hn (an @hl (an @c1 (an @ct @c2)))) ?_
    exact er0
   | true =>
   refine runf (an @hn (an @hl (an @c1 (an @c2 @ct)))) ?_
   exact er0
  | true =>
  by_cases hN : d.n = 0
  ·have hp : plainD d = true := by unfold plainD; rw [ct, decide_eq_true hN]; rfl
   rw [hp]
   refine runf (an @hn (an @hl @ct)) ?_
   refine cp (fidright_c d.actor ha) ?_
   cases c0 : idR d.actor with
   | false =>
    refine runf (an @hn (an @hl @ct)) ?_
    exact er0
   | true =>
   cases c1 : decide (d.object = []) with
   | false =>
    refine runf (an @hn (an @hl (an @ct @c1))) ?_
    exact er0
   | true =>
   cases c2 : decide ((d.text.length : Int) ≤ 500) with
   | false =>
    refine runf (an @hn (an @hl (an @c1 (an @ct @c2)))) ?_
    exact er0
   | true =>
   refine runf (an @hn (an @hl (an @c1 (an @c2 @ct)))) ?_
   exact er0
  ·have hp : plainD d = false := by unfold plainD; rw [decide_eq_false hN, Bool.and_false]
   rw [hp]
   refine runf (an @hn (an @hl @ct)) ?_
   refine cp (fidright_c d.actor ha) ?_
   cases c0 : idR d.actor with
   | false =>
    refine runf (an @hn (an @hl @ct)) ?_
    exact er0
   | true =>
   cases c1 : decide (d.object = []) with
   | false =>
    refine runf (an @hn (an @hl (an @ct @c1))) ?_
    exact er0
   | true =>
   cases c2 : decide ((d.text.length : Int) ≤ 500) with
   | false =>
    refine runf (an @hn (an @hl (an @c1 (an @ct @c2)))) ?_
    exact er0
   | true =>
   refine runf (an @hn (an @hl (an @c1 (an @c2 @ct)))) ?_
   exact er0
 ·have hv : rightTerms d = (decide (d.actor = []) && dig d.object && decide ((d.text.length : Int) ≤ 500) && plainD d) := by
   unfold rightTerms
   rw [if_neg (by omega), if_pos (by omega), hs]
  rw [hv]
  cases ct : decide (d.to = []) with
  | false =>
   have hp : plainD d = false := by unfold plainD; rw [ct]; rfl
   rw [hp]
   cases c0 : decide (d.actor = []) with
   | false =>
    refine runf (an @hn (an @hl (an @ct @c0))) ?_
    exact er0
   | true =>
   rw [dig_eq]
   cases c1 : ((d.object.length : Int) == 32) with
   | false =>
    refine runf (an @hn (an @hl (an @c0 (an @ct @c1)))) ?_
    exact er0
   | true =>
   cases c2 : decide ((d.text.length : Int) ≤ 500) with
   | false =>
    refine runf (an @hn (an @hl (an @c0 (an @c1 (an @ct @c2))))) ?_
    exact er0
   | true =>
   refine runf (an @hn (an @hl (an @c0 (an @c1 (an @c2 @ct))))) ?_
   exact er0
  | true =>
  by_cases hN : d.n = 0
  ·have hp : plainD d = true := by unfold plainD; rw [ct, decide_eq_true hN]; rfl
   rw [hp]
   cases c0 : decide (d.actor = []) with
   | false =>
    refine runf (an @hn (an @hl (an @ct @c0))) ?_
    exact er0
   | true =>
   rw [dig_eq]
   cases c1 : ((d.object.length : Int) == 32) with
   | false =>
    refine runf (an @hn (an @hl (an @c0 (an @ct @c1)))) ?_
    exact er0
   | true =>
   cases c2 : decide ((d.text.length : Int) ≤ 500) with
   | false =>
    refine runf (an @hn (an @hl (an @c0 (an @c1 (an @ct @c2))))) ?_
    exact er0
   | true =>
   refine runf (an @hn (an @hl (an @c0 (an @c1 (an @c2 @ct))))) ?_
   exact er0
  ·have hp : plainD d = false := by unfold plainD; rw [decide_eq_false hN, Bool.and_false]
   rw [hp]
   cases c0 : decide (d.actor = []) with
   | false =>
    refine runf (an @hn (an @hl (an @ct @c0))) ?_
    exact er0
   | true =>
   rw [dig_eq]
   cases c1 : ((d.object.length : Int) == 32) with
   | false =>
    refine runf (an @hn (an @hl (an @c0 (an @ct @c1)))) ?_
    exact er0
   | true =>
   cases c2 : decide ((d.text.length : Int) ≤ 500) with
   | false =>
    refine runf (an @hn (an @hl (an @c0 (an @c1 (an @ct @c2))))) ?_
    exact er0
   | true =>
   refine runf (an @hn (an @hl (an @c0 (an @c1 (an @c2 @ct))))) ?_
   exact er0
 ·have hv : rightTerms d = (decide (d.actor = []) && dig d.object && decide ((d.text.length : Int) ≤ 500) && plainD d) := by
   unfold rightTerms
   rw [if_neg (by omega), if_pos (by omega), hs]
  rw [hv]
  cases ct : decide (d.to = []) with
  | false =>
   have hp : plainD d = false := by unfold plainD; rw [ct]; rfl
   rw [hp]
   cases c0 : decide (d.actor = []) with
   | false =>
    refine runf (an @hn (an @hl (an @ct @c0))) ?_
    exact er0
   | true =>
   rw [dig_eq]
   cases c1 : ((d.object.length : Int) == 32) with
   | false =>
    refine runf (an @hn (an @hl (an @c0 (an @ct @c1)))) ?_
    exact er0
   | true =>
   cases c2 : decide ((d.text.length : Int) ≤ 500) with
   | false =>
    refine runf (an @hn (an @hl (an @c0 (an @c1 (an @ct @c2))))) ?_
    exact er0
   | true =>
   refine runf (an @hn (an @hl (an @c0 (an @c1 (an @c2 @ct))))) ?_
   exact er0
  | true =>
  by_cases hN : d.n = 0
  ·have hp : plainD d = true := by unfold plainD; rw [ct, decide_eq_true hN]; rfl
   rw [hp]
   cases c0 : decide (d.actor = []) with
   | false =>
    refine runf (an @hn (an @hl (an @ct @c0))) ?_
    exact er0
   | true =>
   rw [dig_eq]
   cases c1 : ((d.object.length : Int) == 32) with
   | false =>
    refine runf (an @hn (an @hl (an @c0 (an @ct @c1)))) ?_
    exact er0
   | true =>
   cases c2 : decide ((d.text.length : Int) ≤ 500) with
   | false =>
    refine runf (an @hn (an @hl (an @c0 (an @c1 (an @ct @c2))))) ?_
    exact er0
   | true =>
   refine runf (an @hn (an @hl (an @c0 (an @c1 (an @c2 @ct))))) ?_
   exact er0
  ·have hp : plainD d = false := by unfold plainD; rw [decide_eq_false hN, Bool.and_false]
   rw [hp]
   cases c0 : decide (d.actor = []) with
   | false =>
    refine runf (an @hn (an @hl (an @ct @c0))) ?_
    exact er0
   | true =>
   rw [dig_eq]
   cases c1 : ((d.object.length : Int) == 32) with
   | false =>
    refine runf (an @hn (an @hl (an @c0 (an @ct @c1)))) ?_
    exact er0
   | true =>
   cases c2 : decide ((d.text.length : Int) ≤ 500) with
   | false =>
    refine runf (an @hn (an @hl (an @c0 (an @c1 (an @ct @c2))))) ?_
    exact er0
   | true =>
   refine runf (an @hn (an @hl (an @c0 (an @c1 (an @c2 @ct))))) ?_
   exact er0
 ·have hv : rightTerms d = (idR d.actor && decide (d.object = []) && decide ((d.text.length : Int) ≤ 500) && plainD d) := by
   unfold rightTerms
   rw [if_pos (by omega), hs]
  rw [hv]
  cases ct : decide (d.to = []) with
  | false =>
   have hp : plainD d = false := by unfold plainD; rw [ct]; rfl
   rw [hp]
   refine runf (an @hn (an @hl @ct)) ?_
   refine cp (fidright_c d.actor ha) ?_
   cases c0 : idR d.actor with
   | false =>
    refine runf (an @hn (an @hl @ct)) ?_
    exact er0
   | true =>
   cases c1 : decide (d.object = []) with
   | false =>
    refine runf (an @hn (an @hl (an @ct @c1))) ?_
    exact er0
   | true =>
   cases c2 : decide ((d.text.length : Int) ≤ 500) with
   | false =>
    refine runf (an @hn (an @hl (an @c1 (an @ct @c2)))) ?_
    exact er0
   | true =>
   refine runf (an @hn (an @hl (an @c1 (an @c2 @ct)))) ?_
   exact er0
  | true =>
  by_cases hN : d.n = 0
  ·have hp : plainD d = true := by unfold plainD; rw [ct, decide_eq_true hN]; rfl
   rw [hp]
   refine runf (an @hn (an @hl @ct)) ?_
   refine cp (fidright_c d.actor ha) ?_
   cases c0 : idR d.actor with
   | false =>
    refine runf (an @hn (an @hl @ct)) ?_
    exact er0
   | true =>
   cases c1 : decide (d.object = []) with
   | false =>
    refine runf (an @hn (an @hl (an @ct @c1))) ?_
    exact er0
   | true =>
   cases c2 : decide ((d.text.length : Int) ≤ 500) with
   | false =>
    refine runf (an @hn (an @hl (an @c1 (an @ct @c2)))) ?_
    exact er0
   | true =>
   refine runf (an @hn (an @hl (an @c1 (an @c2 @ct)))) ?_
   exact er0
  ·have hp : plainD d = false := by unfold plainD; rw [decide_eq_false hN, Bool.and_false]
   rw [hp]
   refine runf (an @hn (an @hl @ct)) ?_
   refine cp (fidright_c d.actor ha) ?_
   cases c0 : idR d.actor with
   | false =>
    refine runf (an @hn (an @hl @ct)) ?_
    exact er0
   | true =>
   cases c1 : decide (d.object = []) with
   | false =>
    refine runf (an @hn (an @hl (an @ct @c1))) ?_
    exact er0
   | true =>
   cases c2 : decide ((d.text.length : Int) ≤ 500) with
   | false =>
    refine runf (an @hn (an @hl (an @c1 (an @ct @c2)))) ?_
    exact er0
   | true =>
   refine runf (an @hn (an @hl (an @c1 (an @c2 @ct)))) ?_
   exact er0
 ·have hv : rightTerms d = (decide (d.actor = []) && dig d.object && decide ((d.text.length : Int) ≤ 500) && plainD d) := by
   unfold rightTerms
   rw [if_neg (by omega), if_pos (by omega), hs]
  rw [hv]
  cases ct : decide (d.to = []) with
  | false =>
   have hp : plainD d = false := by unfold plainD; rw [ct]; rfl
   rw [hp]
   cases c0 : decide (d.actor = []) with
   | false =>
    refine runf (an @hn (an @hl (an @ct @c0))) ?_
    exact er0
   | true =>
   rw [dig_eq]
   cases c1 : ((d.object.length : Int) == 32) with
   | false =>
    refine runf (an @hn (an @hl (an @c0 (an @ct @c1)))) ?_
    exact er0
   | true =>
   cases c2 : decide ((d.text.length : Int) ≤ 500) with
   | false =>
    refine runf (an @hn (an @hl (an @c0 (an @c1 (an @ct @c2))))) ?_
    exact er0
   | true =>
   refine runf (an @hn (an @hl (an @c0 (an @c1 (an @c2 @ct))))) ?_
   exact er0
  | true =>
  by_cases hN : d.n = 0
  ·have hp : plainD d = true := by unfold plainD; rw [ct, decide_eq_true hN]; rfl
   rw [hp]
   cases c0 : decide (d.actor = []) with
   | false =>
    refine runf (an @hn (an @hl (an @ct @c0))) ?_
    exact er0
   | true =>
   rw [dig_eq]
   cases c1 : ((d.object.length : Int) == 32) with
   | false =>
    refine runf (an @hn (an @hl (an @c0 (an @ct @c1)))) ?_
    exact er0
   | true =>
   cases c2 : decide ((d.text.length : Int) ≤ 500) with
   | false =>
    refine runf (an @hn (an @hl (an @c0 (an @c1 (an @ct @c2))))) ?_
    exact er0
   | true =>
   refine runf (an @hn (an @hl (an @c0 (an @c1 (an @c2 @ct))))) ?_
   exact er0
  ·have hp : plainD d = false := by unfold plainD; rw [decide_eq_false hN, Bool.and_false]
   rw [hp]
   cases c0 : decide (d.actor = []) with
   | false =>
    refine runf (an @hn (an @hl (an @ct @c0))) ?_
    exact er0
   | true =>
   rw [dig_eq]
   cases c1 : ((d.object.length : Int) == 32) with
   | false =>
    refine runf (an @hn (an @hl (an @c0 (an @ct @c1)))) ?_
    exact er0
   | true =>
   cases c2 : decide ((d.text.length : Int) ≤ 500) with
   | false =>
    refine runf (an @hn (an @hl (an @c0 (an @c1 (an @ct @c2))))) ?_
    exact er0
   | true =>
   refine runf (an @hn (an @hl (an @c0 (an @c1 (an @c2 @ct))))) ?_
   exact er0
 ·have hv : rightTerms d = (idR d.actor && decide (d.object = []) && decide ((d.text.length : Int) ≤ 500) && plainD d) := by
   unfold rightTerms
   rw [if_pos (by omega), hs]
  rw [hv]
  cases ct : decide (d.to = []) with
  | false =>
   have hp : plainD d = false := by unfold plainD; rw [ct]; rfl
   rw [hp]
   refine runf (an @hn (an @hl @ct)) ?_
   refine cp (fidright_c d.actor ha) ?_
   cases c0 : idR d.actor with
   | false =>
    refine runf (an @hn (an @hl @ct)) ?_
    exact er0
   | true =>
   cases c1 : decide (d.object = []) with
   | false =>
    refine runf (an @hn (an @hl (an @ct @c1))) ?_
    exact er0
   | true =>
   cases c2 : decide ((d.text.length : Int) ≤ 500) with
   | false =>
    refine runf (an @hn (an @hl (an @c1 (an @ct @c2)))) ?_
    exact er0
   | true =>
   refine runf (an @hn (an @hl (an @c1 (an @c2 @ct)))) ?_
   exact er0
  | true =>
  by_cases hN : d.n = 0
  ·have hp : plainD d = true := by unfold plainD; rw [ct, decide_eq_true hN]; rfl
   rw [hp]
   refine runf (an @hn (an @hl @ct)) ?_
   refine cp (fidright_c d.actor ha) ?_
   cases c0 : idR d.actor with
   | false =>
    refine runf (an @hn (an @hl @ct)) ?_
    exact er0
   | true =>
   cases c1 : decide (d.object = []) with
   | false =>
    refine runf (an @hn (an @hl (an @ct @c1))) ?_
    exact er0
   | true =>
   cases c2 : decide ((d.text.length : Int) ≤ 500) with
   | false =>
    refine runf (an @hn (an @hl (an @c1 (an @ct @c2)))) ?_
    exact er0
   | true =>
   refine runf (an @hn (an @hl (an @c1 (an @c2 @ct)))) ?_
   exact er0
  ·have hp : plainD d = false := by unfold plainD; rw [decide_eq_false hN, Bool.and_false]
   rw [hp]
   refine runf (an @hn (an @hl @ct)) ?_
   refine cp (fidright_c d.actor ha) ?_
   cases c0 : idR d.actor with
   | false =>
    refine runf (an @hn (an @hl @ct)) ?_
    exact er0
   | true =>
   cases c1 : decide (d.object = []) with
   | false =>
    refine runf (an @hn (an @hl (an @ct @c1))) ?_
    exact er0
   | true =>
   cases c2 : decide ((d.text.length : Int) ≤ 500) with
   | false =>
    refine runf (an @hn (an @hl (an @c1 (an @ct @c2)))) ?_
    exact er0
   | true =>
   refine runf (an @hn (an @hl (an @c1 (an @c2 @ct)))) ?_
   exact er0
 ·have hv : rightTerms d = (idR d.actor && decide (d.object = []) && decide ((d.text.length : Int) ≤ 500) && plainD d) := by
   unfold rightTerms
   rw [if_pos (by omega), hs]
  rw [hv]
  cases ct : decide (d.to = []) with
  | false =>
   have hp : plainD d = false := by unfold plainD; rw [ct]; rfl
   rw [hp]
   refine runf (an @hn (an @hl @ct)) ?_
   refine cp (fidright_c d.actor ha) ?_
   cases c0 : idR d.actor with
   | false =>
    refine runf (an @hn (an @hl @ct)) ?_
    exact er0
   | true =>
   cases c1 : decide (d.object = []) with
   | false =>
    refine runf (an @hn (an @hl (an @ct @c1))) ?_
    exact er0
   | true =>
   cases c2 : decide ((d.text.length : Int) ≤ 500) with
   | false =>
    refine runf (an @hn (an @hl (an @c1 (an @ct @c2)))) ?_
    exact er0
   | true =>
   refine runf (an @hn (an @hl (an @c1 (an @c2 @ct)))) ?_
   exact er0
  | true =>
  by_cases hN : d.n = 0
  ·have hp : plainD d = true := by unfold plainD; rw [ct, decide_eq_true hN]; rfl
   rw [hp]
   refine runf (an @hn (an @hl @ct)) ?_
   refine cp (fidright_c d.actor ha) ?_
   cases c0 : idR d.actor with
   | false =>
    refine runf (an @hn (an @hl @ct)) ?_
    exact er0
   | true =>
   cases c1 : decide (d.object = []) with
   | false =>
    refine runf (an @hn (an @hl (an @ct @c1))) ?_
    exact er0
   | true =>
   cases c2 : decide ((d.text.length : Int) ≤ 500) with
   | false =>
    refine runf (an @hn (an @hl (an @c1 (an @ct @c2)))) ?_
    exact er0
   | true =>
   refine runf (an @hn (an @hl (an @c1 (an @c2 @ct)))) ?_
   exact er0
  ·have hp : plainD d = false := by unfold plainD; rw [decide_eq_false hN, Bool.and_false]
   rw [hp]
   refine runf (an @hn (an @hl @ct)) ?_
   refine cp (fidright_c d.actor ha) ?_
   cases c0 : idR d.actor with
   | false =>
    refine runf (an @hn (an @hl @ct)) ?_
    exact er0
   | true =>
   cases c1 : decide (d.object = []) with
   | false =>
    refine runf (an @hn (an @hl (an @ct @c1))) ?_
    exact er0
   | true =>
   cases c2 : decide ((d.text.length : Int) ≤ 500) with
   | false =>
    refine runf (an @hn (an @hl (an @c1 (an @ct @c2)))) ?_
    exact er0
   | true =>
   refine runf (an @hn (an @hl (an @c1 (an @c2 @ct)))) ?_
   exact er0
 ·have hv : rightTerms d = (decide (d.actor = []) && decide (d.object = []) && decide ((d.text.length : Int) ≤ 500) && idsR d.to && wi d.n 1 d.to.length) := by
   unfold rightTerms
   rw [if_neg (by omega), if_neg (by omega), if_pos (by omega), hs]
  rw [hv]
  cases ct : decide (d.to = []) with
  | false =>
   refine runf (an @hn (an @hl @ct)) ?_
   refine cp (fids_c d.to hts htl) ?_
   cases c0 : idsR d.to with
   | false =>
    cases c1 : decide (d.actor = []) with
    | false =>
     refine runf (an @hn (an @hl (an @ct @c1))) ?_
     exact er0
    | true =>
    cases c2 : decide (d.object = []) with
    | false =>
     refine runf (an @hn (an @hl (an @ct (an @c1 @c2)))) ?_
     exact er0
    | true =>
    cases c3 : decide ((d.text.length : Int) ≤ 500) with
    | false =>
     refine runf (an @hn (an @hl (an @ct (an @c1 (an @c2 @c3))))) ?_
     exact er0
    | true =>
    refine runf (an @hn (an @hl (an @ct (an @c1 (an @c2 @c3))))) ?_
    exact er0
   | true =>
    cases c1 : decide (d.actor = []) with
    | false =>
     refine runf (an @hn (an @hl (an @ct @c1))) ?_
     exact er0
    | true =>
    cases c2 : decide (d.object = []) with
    | false =>
     refine runf (an @hn (an @hl (an @ct (an @c1 @c2)))) ?_
     exact er0
    | true =>
    cases c3 : decide ((d.text.length : Int) ≤ 500) with
    | false =>
     refine runf (an @hn (an @hl (an @ct (an @c1 (an @c2 @c3))))) ?_
     exact er0
    | true =>
    refine runf (an @hn (an @hl (an @ct (an @c1 (an @c2 @c3))))) ?_
    refine cp (ffrom_c d.n 1 d.to.length) ?_
    refine run ?_
    exact er0
  | true =>
  by_cases hN : d.n = 0
  ·skip
   refine runf (an @hn (an @hl @ct)) ?_
   refine cp (fids_c d.to hts htl) ?_
   cases c0 : idsR d.to with
   | false =>
    cases c1 : decide (d.actor = []) with
    | false =>
     refine runf (an @hn (an @hl (an @ct @c1))) ?_
     exact er0
    | true =>
    cases c2 : decide (d.object = []) with
    | false =>
     refine runf (an @hn (an @hl (an @ct (an @c1 @c2)))) ?_
     exact er0
    | true =>
    cases c3 : decide ((d.text.length : Int) ≤ 500) with
    | false =>
     refine runf (an @hn (an @hl (an @ct (an @c1 (an @c2 @c3))))) ?_
     exact er0
    | true =>
    refine runf (an @hn (an @hl (an @ct (an @c1 (an @c2 @c3))))) ?_
    exact er0
   | true =>
    cases c1 : decide (d.actor = []) with
    | false =>
     refine runf (an @hn (an @hl (an @ct @c1))) ?_
     exact er0
    | true =>
    cases c2 : decide (d.object = []) with
    | false =>
     refine runf (an @hn (an @hl (an @ct (an @c1 @c2)))) ?_
     exact er0
    | true =>
    cases c3 : decide ((d.text.length : Int) ≤ 500) with
    | false =>
     refine runf (an @hn (an @hl (an @ct (an @c1 (an @c2 @c3))))) ?_
     exact er0
    | true =>
    refine runf (an @hn (an @hl (an @ct (an @c1 (an @c2 @c3))))) ?_
    refine cp (ffrom_c d.n 1 d.to.length) ?_
    refine run ?_
    exact er0
  ·skip
   refine runf (an @hn (an @hl @ct)) ?_
   refine cp (fids_c d.to hts htl) ?_
   cases c0 : idsR d.to with
   | false =>
    cases c1 : decide (d.actor = []) with
    | false =>
     refine runf (an @hn (an @hl (an @ct @c1))) ?_
     exact er0
    | true =>
    cases c2 : decide (d.object = []) with
    | false =>
     refine runf (an @hn (an @hl (an @ct (an @c1 @c2)))) ?_
     exact er0
    | true =>
    cases c3 : decide ((d.text.length : Int) ≤ 500) with
    | false =>
     refine runf (an @hn (an @hl (an @ct (an @c1 (an @c2 @c3))))) ?_
     exact er0
    | true =>
    refine runf (an @hn (an @hl (an @ct (an @c1 (an @c2 @c3))))) ?_
    exact er0
   | true =>
    cases c1 : decide (d.actor = []) with
    | false =>
     refine runf (an @hn (an @hl (an @ct @c1))) ?_
     exact er0
    | true =>
    cases c2 : decide (d.object = []) with
    | false =>
     refine runf (an @hn (an @hl (an @ct (an @c1 @c2)))) ?_
     exact er0
    | true =>
    cases c3 : decide ((d.text.length : Int) ≤ 500) with
    | false =>
     refine runf (an @hn (an @hl (an @ct (an @c1 (an @c2 @c3))))) ?_
     exact er0
    | true =>
    refine runf (an @hn (an @hl (an @ct (an @c1 (an @c2 @c3))))) ?_
    refine cp (ffrom_c d.n 1 d.to.length) ?_
    refine run ?_
    exact er0
 ·have hv : rightTerms d = (decide (d.actor = []) && decide (d.object = []) && decide ((d.text.length : Int) ≤ 4096) && plainD d) := by
   unfold rightTerms
   rw [if_neg (by omega), if_neg (by omega), if_neg (by omega), if_pos (by omega), show decide (d.text.length ≤ 4096) = decide ((d.text.length : Int) ≤ 4096) by rw [Bool.eq_iff_iff]; simp only [decide_eq_true_eq]; omega]
  rw [hv]
  cases ct : decide (d.to = []) with
  | false =>
   have hp : plainD d = false := by unfold plainD; rw [ct]; rfl
   rw [hp]
   cases c0 : decide (d.actor = []) with
   | false =>
    refine runf (an @hn (an @hl (an @ct @c0))) ?_
    exact er0
   | true =>
   cases c1 : decide (d.object = []) with
   | false =>
    refine runf (an @hn (an @hl (an @c0 (an @ct @c1)))) ?_
    exact er0
   | true =>
   cases c2 : decide ((d.text.length : Int) ≤ 4096) with
   | false =>
    refine runf (an @hn (an @hl (an @c0 (an @c1 (an @ct @c2))))) ?_
    exact er0
   | true =>
   refine runf (an @hn (an @hl (an @c0 (an @c1 (an @c2 @ct))))) ?_
   exact er0
  | true =>
  by_cases hN : d.n = 0
  ·have hp : plainD d = true := by unfold plainD; rw [ct, decide_eq_true hN]; rfl
   rw [hp]
   cases c0 : decide (d.actor = []) with
   | false =>
    refine runf (an @hn (an @hl (an @ct @c0))) ?_
    exact er0
   | true =>
   cases c1 : decide (d.object = []) with
   | false =>
    refine runf (an @hn (an @hl (an @c0 (an @ct @c1)))) ?_
    exact er0
   | true =>
   cases c2 : decide ((d.text.length : Int) ≤ 4096) with
   | false =>
    refine runf (an @hn (an @hl (an @c0 (an @c1 (an @ct @c2))))) ?_
    exact er0
   | true =>
   refine runf (an @hn (an @hl (an @c0 (an @c1 (an @c2 @ct))))) ?_
   exact er0
  ·have hp : plainD d = false := by unfold plainD; rw [decide_eq_false hN, Bool.and_false]
   rw [hp]
   cases c0 : decide (d.actor = []) with
   | false =>
    refine runf (an @hn (an @hl (an @ct @c0))) ?_
    exact er0
   | true =>
   cases c1 : decide (d.object = []) with
   | false =>
    refine runf (an @hn (an @hl (an @c0 (an @ct @c1)))) ?_
    exact er0
   | true =>
   cases c2 : decide ((d.text.length : Int) ≤ 4096) with
   | false =>
    refine runf (an @hn (an @hl (an @c0 (an @c1 (an @ct @c2))))) ?_
    exact er0
   | true =>
   refine runf (an @hn (an @hl (an @c0 (an @c1 (an @c2 @ct))))) ?_
   exact er0
theorem claim_eqb (c : It.Claim) : (c.actor == [] && (c.base == 0 && (c.prev == [] && (c.gen == 0 && (c.home == 0 && (c.pub == 0 && (c.time == 0 && (c.sig.e == 0 && c.sig.s == 0)))))))) = decide (c = claim0) := by
 obtain ⟨a, b, p, g, h, u, t, ⟨x, y⟩⟩ := c
 rw [Bool.eq_iff_iff]
 simp [claim0, sig0]
theorem ballot_eqb (c : It.Ballot) : (c.server == 0 && (c.actor == [] && (c.gen == 0 && (c.claim == [] && (c.time == 0 && (c.sig.e == 0 && c.sig.s == 0)))))) = decide (c = ballot0) := by
 obtain ⟨s, a, g, h, t, ⟨x, y⟩⟩ := c
 rw [Bool.eq_iff_iff]
 simp [ballot0, sig0]
theorem fright13_c (i : It.Item) (h : Iz i) : AC Tryz.prog 79 [itemV i] [] (.bo (It.right i)) [] := by
 refine AC.enter2 [149, 150, 151, 152, 153, 154] [] Tryz.func79 rfl (by decide) (by decide) znl (by kernel_rfl) ?_; refine zev ?_
 have lz := h.lz
 have k1 := fsame12_c i.act act0 ⟨lz.to, lz.wraps⟩ ⟨by decide, by decide⟩
 have k4 := fsameDecision_c i.decision decision0 lz.dto (by decide)
 have e1 := claim_eqb i.claim
 have e2 := ballot_eqb i.ballot
 refine run ?_
 refine cp k1 ?_
 refine runf (an @e1 @e2) ?_
 refine cp k4 ?_
 by_cases h0 : i.kind = 0
 ·have hv : It.right i = (Ac.right i.act && decide (i.claim = claim0) && decide (i.ballot = ballot0) && decide (i.decision = decision0)) := by
   rw [Bool.eq_iff_iff, It.right_act h0]
   simp [and_assoc]
  rw [hv]
  refine run ?_
  refine cp (fright12_c i.act h.act) ?_
  cases c0 : Ac.right i.act with
  | false =>
   refine run ?_
   exact er0
  | true =>
  cases d1 : decide (i.claim = claim0) with
  | false =>
   refine run ?_
   exact er0
  | true =>
  cases d2 : decide (i.ballot = ballot0) with
  | false =>
   refine run ?_
   exact er0
  | true =>
  cases d3 : decide (i.decision = decision0) with
  | false =>
   refine run ?_
   exact er0
  | true =>
  refine run ?_
  exact er0
 by_cases h1 : i.kind = 1
 ·have hv : It.right i = (rightClaim i.claim && decide (i.act = act0) && decide (i.ballot = ballot0) && decide (i.decision = decision0)) := by
   rw [Bool.eq_iff_iff, It.right_claim h1]
   simp [and_assoc]
  rw [hv]
  refine run ?_
  refine cp (fclaimed13_c i.claim h.claim) ?_
  cases c0 : rightClaim i.claim with
  | false =>
   refine run ?_
   exact er0
  | true =>
  cases d0 : decide (i.act = act0) with
  | false =>
   refine run ?_
   exact er0
  | true =>
  cases d2 : decide (i.ballot = ballot0) with
  | false =>
   refine run ?_
   exact er0
  | true =>
  cases d3 : decide (i.decision = decision0) with
  | false =>
   refine run ?_
   exact er0
  | true =>
  refine run ?_
  exact er0
 by_cases h2 : i.kind = 2
 ·have hv : It.right i = (rightBallot i.ballot && decide (i.act = act0) && decide (i.claim = claim0) && decide (i.decision = decision0)) := by
   rw [Bool.eq_iff_iff, It.right_ballot h2]
   simp [and_assoc]
  rw [hv]
  refine run ?_
  refine cp (fvoted_c i.ballot h.ballot) ?_
  cases c0 : rightBallot i.ballot with
  | false =>
   refine run ?_
   exact er0
  | true =>
  cases d0 : decide (i.act = act0) with
  | false =>
   refine run ?_
   exact er0
  | true =>
  cases d1 : decide (i.claim = claim0) with
  | false =>
   refine run ?_
   exact er0
  | true =>
  cases d3 : decide (i.decision = decision0) with
  | false =>
   refine run ?_
   exact er0
  | true =>
  refine run ?_
  exact er0
 by_cases h3 : i.kind = 3
 ·have hv : It.right i = (rightDecision i.decision && decide (i.act = act0) && decide (i.claim = claim0) && decide (i.ballot = ballot0)) := by
   rw [Bool.eq_iff_iff, It.right_decision h3]
   simp [and_assoc]
  rw [hv]
  refine run ?_
  refine cp (fdecided_c i.decision h.decision.actor h.decision.tos h.decision.to) ?_
  cases c0 : rightDecision i.decision with
  | false =>
   refine run ?_
   exact er0
  | true =>
  cases d0 : decide (i.act = act0) with
  | false =>
   refine run ?_
   exact er0
  | true =>
  cases d1 : decide (i.claim = claim0) with
  | false =>
   refine run ?_
   exact er0
  | true =>
  cases d2 : decide (i.ballot = ballot0) with
  | false =>
   refine run ?_
   exact er0
  | true =>
  refine run ?_
  exact er0
 ·have hv : It.right i = false := by
   cases hr : It.right i with
   | false => rfl
   | true => rcases It.right_kind hr with e | e | e | e <;> contradiction
  rw [hv]
  refine run ?_
  exact er0
theorem fsigBytes_c (s : Sig) (h : (0 ≤ s.e ∧ s.e ≤ 2305843009213693949) ∧ 0 ≤ s.s ∧ s.s ≤ 2305843009213693949) : AC Tryz.prog 214 [sigV s] [] (.st (numI s.e ++ numI s.s)) [] := by
 refine AC.enter2 [110] [] Tryz.func214 rfl (by decide) (by decide) znl (by kernel_rfl) ?_; refine zev ?_
 have n1 := numI_le s.e (by omega)
 have n2 := numI_le s.s (by omega)
 refine run ?_
 refine cp (fnum_c s.e (by omega)) ?_
 refine run ?_
 refine cp (fnum_c s.s (by omega)) ?_
 refine run ?_
 exact er0
theorem fbytes13_c (i : It.Item) (h : Iz i) : AC Tryz.prog 144 [itemV i] [] (.st (It.bytes i)) [] := by
 refine AC.enter2 [79, 110, 212, 213, 215, 216, 214] [] Tryz.func144 rfl (by decide) (by decide) znl (by kernel_rfl) ?_; refine zev ?_
 have kr := fright13_c i h
 cases hr : It.right i with
 | false =>
  rw [hr] at kr
  rw [It.bytes_wrong hr]
  refine run ?_
  refine cp kr ?_
  refine run ?_
  exact er0
 | true =>
 rw [hr] at kr
 have h3 := sh_right hr
 have hkk := It.right_kind hr
 have hl0 := numI_le i.kind (by omega)
 have kn := fnum_c i.kind (by omega)
 by_cases h0 : i.kind = 0
 ·rw [bytes_act hr h0]
  have k2 := fbytes12_c i.act h.act
  have hl := bytes_len (a := i.act)
  generalize Ac.bytes i.act = z at *
  generalize numI i.kind = n0 at *
  refine run ?_
  refine cp kr ?_
  refine run ?_
  refine cp kn ?_
  refine run ?_
  refine cp k2 ?_
  refine run ?_
  exact er0
 by_cases hk : i.kind = 1
 ·have hs := sig_right hr (by omega)
  have hb : It.bytes i = numI i.kind ++ claimB i.claim ++ (numI i.claim.sig.e ++ numI i.claim.sig.s) := by
   rw [It.bytes_right hr]
   unfold bodyB coreOf sigOf
   have e0 : i.kind ≠ 0 := by omega
   simp [hk]
  have hsg : sigOf i = i.claim.sig := by unfold sigOf; simp [hk]
  rw [hsg] at hs
  simp only [sigR, Bool.and_eq_true, wi_iff] at hs
  rw [hb]
  have k2 := fclaim_c i.claim h3.ez.c h3.ez.ci
  have k3 := fsigBytes_c i.claim.sig hs
  have hl : (claimB i.claim).length ≤ 60000000 := by have := claimB_len h3.ez; omega
  have n1 := numI_le i.claim.sig.e (by omega)
  have n2 := numI_le i.claim.sig.s (by omega)
  generalize claimB i.claim = core at *
  generalize numI i.kind = n0 at *
  generalize numI i.claim.sig.e = ne at *
  generalize numI i.claim.sig.s = ns at *
  refine run ?_
  refine cp kr ?_
  refine run ?_
  refine cp kn ?_
  refine run ?_
  refine cp k2 ?_
  refine run ?_
  refine cp k3 ?_
  refine run ?_
  exact er0
 by_cases hk : i.kind = 2
 ·have hs := sig_right hr (by omega)
  have hb : It.bytes i = numI i.kind ++ ballotB i.ballot ++ (numI i.ballot.sig.e ++ numI i.ballot.sig.s) := by
   rw [It.bytes_right hr]
   unfold bodyB coreOf sigOf
   have e0 : i.kind ≠ 0 := by omega
   simp [hk]
  have hsg : sigOf i = i.ballot.sig := by unfold sigOf; simp [hk]
  rw [hsg] at hs
  simp only [sigR, Bool.and_eq_true, wi_iff] at hs
  rw [hb]
  have k2 := fballot_c i.ballot h3.ez.b h3.ez.bi
  have k3 := fsigBytes_c i.ballot.sig hs
  have hl : (ballotB i.ballot).length ≤ 60000000 := by have := ballotB_len h3.ez; omega
  have n1 := numI_le i.ballot.sig.e (by omega)
  have n2 := numI_le i.ballot.sig.s (by omega)
  generalize ballotB i.ballot = core at *
  generalize numI i.kind = n0 at *
  generalize numI i.ballot.sig.e = ne at *
  generalize numI i.ballot.sig.s = ns at *
  refine run ?_
  refine cp kr ?_
  refine run ?_
  refine cp kn ?_
  refine run ?_
  refine cp k2 ?_
  refine run ?_
  refine cp k3 ?_
  refine run ?_
  exact er0
 have hk : i.kind = 3 := by omega
 have hs := sig_right hr (by omega)
 have hb : It.bytes i = numI i.kind ++ decisionB i.decision ++ (numI i.decision.sig.e ++ numI i.decision.sig.s) := by
  rw [It.bytes_right hr]
  unfold bodyB coreOf sigOf
  have e0 : i.kind ≠ 0 := by omega
  simp [hk]
 have hsg : sigOf i = i.decision.sig := by unfold sigOf; simp [hk]
 rw [hsg] at hs
 simp only [sigR, Bool.and_eq_true, wi_iff] at hs
 rw [hb]
 have k2 := fdecision_c i.decision h3.ez.d h3.ez.dt h3.ez.di
 have k3 := fsigBytes_c i.decision.sig hs
 have hl : (decisionB i.decision).length ≤ 60000000 := by have := decisionB_len h3; omega
 have n1 := numI_le i.decision.sig.e (by omega)
 have n2 := numI_le i.decision.sig.s (by omega)
 generalize decisionB i.decision = core at *
 generalize numI i.kind = n0 at *
 generalize numI i.decision.sig.e = ne at *
 generalize numI i.decision.sig.s = ns at *
 refine run ?_
 refine cp kr ?_
 refine run ?_
 refine cp kn ?_
 refine run ?_
 refine cp k2 ?_
 refine run ?_
 refine cp k3 ?_
 refine run ?_
 exact er0
theorem bytes13_ne {i : It.Item} (h : It.right i = true) : It.bytes i ≠ [] := by
 have hk := It.right_kind h
 rw [It.bytes_right h]
 exact fun e => absurd (List.append_eq_nil_iff.1 e).1 (numI_ne (by omega))
theorem fentryBytes_c (e : It.Entry) (h : Iz e.item) : AC Tryz.prog 81 [entryV e] [] (.st (entryB e)) [] := by
 refine AC.enter2 [144, 157, 110] [] Tryz.func81 rfl (by decide) (by decide) znl (by kernel_rfl) ?_; refine zev ?_
 have kb := fbytes13_c e.item h
 have hl := bytesIt_len e.item
 refine run ?_
 refine cp kb ?_
 cases hr : It.right e.item with
 | false =>
  have h0 := It.bytes_wrong hr
  have h1 : entryB e = [] := by unfold entryB; rw [hr, Bool.and_false]; rfl
  rw [h1, h0]
  refine run ?_
  exact er0
 | true =>
  have hne := bytes13_ne hr
  have hq : (It.bytes e.item == []) = false := by simpa using hne
  have kt := ffrom_c e.time 0 1099511627776
  cases ht : wi e.time 0 1099511627776 with
  | false =>
   rw [ht] at kt
   have h1 : entryB e = [] := by unfold entryB isTime; rw [ht]; rfl
   rw [h1]
   refine runf @hq ?_
   refine cp kt ?_
   refine runf @hq ?_
   exact er0
  | true =>
   rw [ht] at kt
   have h1 : entryB e = numI e.time ++ It.bytes e.item := by unfold entryB isTime; rw [ht, hr]; rfl
   have htm := wi_iff.1 ht
   have n1 := numI_le e.time (by omega)
   rw [h1]
   generalize It.bytes e.item = z at *
   refine runf @hq ?_
   refine cp kt ?_
   refine runf @hq ?_
   refine cp (fnum_c e.time (by omega)) ?_
   refine run ?_
   exact er0
end Go.Proofs.YtlefikdjhnaapaaGreatDoor.Pe
end
section
namespace Go.Proofs.YtlefikdjhnaapaaGreatDoor.Pe
open Go Sm Mk
set_option maxRecDepth 100000
theorem rsplit_c (n : Nat) (h : 2 ≤ n) (h' : n < 9223372036854775808) : AC Tryz.prog 188 [.it .i64 n] [] (.it .i64 (sp n)) [] := by
 refine AC.enter [] [] Tryz.func188 rfl (by decide) (by decide) znl (by kernel_rfl) ?_; refine zev ?_
 refine run ?_
 refine loop_mk (fun m e S => S = [] ∧ e 0 = .it .i64 n ∧ ∃ j, e 3 = .it .i64 ((2 ^ j : Nat) : Int) ∧ 2 ^ j < n ∧ m = n - 2 ^ j) (n - 1) ⟨rfl, zsl, 0, zsl, by omega, rfl⟩ ?_
 rintro m e S ⟨rfl, h0, j, h3, hj, rfl⟩
 generalize hk : 2 ^ j = k at *
 have hw : IntKind.i64.wrap ((n : Int) - (k : Int)) = (n : Int) - (k : Int) := wrap64 (by omega) (by omega)
 refine runf (an @h0 (an @h3 @hw)) ?_
 refine iteP_mk (fun hc => ?_) (fun hc => ?_)
 ·have hlt : k < n - k := by simp at hc; omega
  have hw2 : IntKind.i64.wrap (2 * (k : Int)) = 2 * (k : Int) := wrap64 (by omega) (by omega)
  refine runf (an @h0 (an @h3 @hw2)) ?_
  exact round_mk (n - 2 * k) (by have := Nat.pow_pos (n := j) (show 0 < 2 by omega); omega) ⟨rfl, zsl, j + 1, by rw [Nat.pow_succ, hk, Nat.mul_comm]; exact zsl, by rw [Nat.pow_succ, hk]; omega, by rw [Nat.pow_succ, hk, Nat.mul_comm]⟩
 ·have hge : ¬ k < n - k := by simp at hc; omega
  refine runf (an @h0 @h3) ?_
  have e : sp n = k := by rw [← hk]; exact sp_of (by omega) (by rw [Nat.pow_succ]; omega)
  rw [e]
  exact ends_ret0 (by rfl) (by rfl) (by rfl)
theorem rleaf_c (l : List UInt8) (h : l.length ≤ 1000000) : AC Tryz.prog 104 [.st l] [] (.st (leaf l)) [] := by
 refine AC.enter [145] [] Tryz.func104 rfl (by decide) (by decide) znl (by kernel_rfl) ?_; refine zev ?_
 refine run ?_
 refine call_pure (rsha_c (0 :: l) (by simp; omega)) (by rfl) (by rfl) (by rfl) ?_
 refine run ?_
 exact ends_ret0 (by rfl) (by rfl) (by rfl)
theorem rpre_c (l r : List UInt8) (h : l.length ≤ 1000000) (h' : r.length ≤ 1000000) : AC Tryz.prog 255 [.st l, .st r] [] (.st (pre l r)) [] := by
 refine AC.enter [] [] Tryz.func255 rfl (by decide) (by decide) znl (by kernel_rfl) ?_; refine zev ?_
 refine run ?_
 exact ends_ret0 (by rfl) (by rfl) (by rfl)
theorem rnode_c (l r : List UInt8) (h : l.length ≤ 1000000) (h' : r.length ≤ 1000000) : AC Tryz.prog 189 [.st l, .st r] [] (.st (node l r)) [] := by
 refine AC.enter [145, 255] [] Tryz.func189 rfl (by decide) (by decide) znl (by kernel_rfl) ?_; refine zev ?_
 refine run ?_
 refine call_pure (rpre_c l r h h') (by rfl) (by rfl) (by rfl) ?_
 refine run ?_
 refine call_pure (rsha_c (pre l r) (by simp [pre]; omega)) (by rfl) (by rfl) (by rfl) ?_
 refine run ?_
 exact ends_ret0 (by rfl) (by rfl) (by rfl)
theorem rroot_c (k : Nat) : ∀ (l : List By), l.length ≤ k → l.length ≤ 1000000 → (∀ x ∈ l, x.length ≤ 1000000) →
  AC Tryz.prog 107 [sls l] [] (.st (root l)) [] := by
 induction k with
 | zero =>
  intro l hk hl hx
  have : l = [] := List.eq_nil_of_length_eq_zero (by omega)
  subst this
  refine AC.enter [107, 188, 189, 145] [] Tryz.func107 rfl (by decide) (by decide) znl (by kernel_rfl) ?_; refine zev ?_
  refine run ?_
  refine call_pure (rsha_c [] (by simp)) (by rfl) (by rfl) (by rfl) ?_
  refine run ?_
  exact ends_ret0 (by rfl) (by rfl) (by rfl)
 | succ k ih =>
  intro l hk hl hx
  refine AC.enter [107, 188, 189, 145] [] Tryz.func107 rfl (by decide) (by decide) znl (by kernel_rfl) ?_; refine zev ?_
  by_cases h0 : l.length = 0
  ·have : l = [] := List.eq_nil_of_length_eq_zero (by omega)
   subst this
   refine run ?_
   refine call_pure (rsha_c [] (by simp)) (by rfl) (by rfl) (by rfl) ?_
   refine run ?_
   exact ends_ret0 (by rfl) (by rfl) (by rfl)
  rw [root_rt (by omega)]
  by_cases h1 : l.length = 1
  ·obtain ⟨a, rfl⟩ := List.length_eq_one_iff.1 h1
   refine run ?_
   rw [rt_one (by simp)]
   exact ends_ret0 (by rfl) (by rfl) (by rfl)
  ·have h2 : 2 ≤ l.length := by omega
   have h3 := sp_lt h2
   have h4 := sp_pos l.length
   have ht : (List.take (sp l.length) l).length = sp l.length := by simp; omega
   have hd : (l.drop (sp l.length)).length = l.length - sp l.length := List.length_drop
   have hxt : ∀ x ∈ l.take (sp l.length), x.length ≤ 1000000 := fun x hx' => hx x (List.mem_of_mem_take hx')
   have hxd : ∀ x ∈ l.drop (sp l.length), x.length ≤ 1000000 := fun x hx' => hx x (List.mem_of_mem_drop hx')
   have f1 := ih (l.take (sp l.length)) (by omega) (by omega) hxt
   have f2 := ih (l.drop (sp l.length)) (by omega) (by omega) hxd
   rw [root_rt (by omega)] at f1 f2
   refine run ?_
   refine call_pure (rsplit_c l.length h2 (by omega)) (by rfl) (by rfl) (by rfl) ?_
   refine run ?_
   refine call_pure f1 (by rfl) (by rfl) (by rfl) ?_
   refine runf (@List.take_length (List UInt8)) ?_
   refine call_pure f2 (by rfl) (by rfl) (by rfl) ?_
   refine run ?_
   refine call_pure (rnode_c _ _ (rt_len hxt) (rt_len hxd)) (by rfl) (by rfl) (by rfl) ?_
   refine run ?_
   rw [rt_two h2]
   exact ends_ret0 (by rfl) (by rfl) (by rfl)
end Go.Proofs.YtlefikdjhnaapaaGreatDoor.Pe
end
section
namespace Go.Proofs.YtlefikdjhnaapaaGreatDoor.Pe
open Go Go.RowKit Co Sg Ac It Sl
set_option maxRecDepth 100000
set_option maxHeartbeats 4000000
theorem rleaf15_c (e : It.Entry) (h : Iz e.item) : AC Tryz.prog 42 [entryV e] [] (.st (leafE e)) [] := by
 refine AC.enter2 [81, 104] [] Tryz.func42 rfl (by decide) (by decide) znl (by kernel_rfl) ?_; refine zev ?_
 have hl := entryB_len e
 have k1 := fentryBytes_c e h
 have k2 := rleaf_c (entryB e) (by omega)
 refine run ?_
 refine cp k1 ?_
 refine run ?_
 refine cp k2 ?_
 refine run ?_
 exact er0
theorem rleaves15_c (l : List It.Entry) (hl : l.length ≤ 1000000) (hz : ∀ e ∈ l, Iz e.item) : AC Tryz.prog 108 [entriesV l] [] (sls (l.map leafE)) [] := by
 refine AC.enter2 [42] [] Tryz.func108 rfl (by decide) (by decide) znl (by kernel_rfl) ?_; refine zev ?_
 have hsz := entries_sz l
 refine run ?_
 refine loop_mk' (fun m e S => e 0 = entriesV l ∧ ∃ (k : Nat) (acc : List By) (T : Store), e 4 = .it .i64 (k : Int) ∧ e 3 = .sl (.own 0) (acc.map .st) ∧ S = .buf acc.length 9 1 :: T ∧ acc = (l.take k).map leafE ∧ k ≤ l.length ∧ m = l.length - k) l.length _ _ (Weak.reserve 0 3 (es := []) (by rfl) 9 1)
  ⟨zsl, 0, [], [], zsl, zsl, rfl, by simp, by omega, rfl⟩ ?_
 rintro m e S ⟨s0, k, acc, T, s4, s3, rfl, hacc, hk, rfl⟩
 have hT1 : ∀ y : SObj, (T ++ [y])[T.length]? = some y := fun y => by simp
 have hT2 : ∀ y z : SObj, (T ++ [y]).set T.length z = T ++ [z] := fun y z => by simp
 have hal : acc.length = k := by rw [hacc, List.length_map, List.length_take, Nat.min_eq_left hk]
 by_cases hlt : k < l.length
 ·have hg : l[k]? = some l[k] := List.getElem?_eq_getElem hlt
  have hzk := hz l[k] (List.getElem_mem hlt)
  have hst : acc ++ [leafE l[k]] = (l.take (k + 1)).map leafE := by rw [List.take_succ_eq_append_getElem hlt, List.map_append, ← hacc]; rfl
  generalize l[k] = x at *
  have kx := rleaf15_c x hzk
  refine runf (an @s0 (an @s4 (an @s3 (an @hg (an @hsz (an @hT1 @hT2)))))) ?_
  refine cp kx ?_
  refine runf (an @s0 (an @s4 @s3)) ?_
  exact round_mk (l.length - (k + 1)) (by omega) ⟨zsl, k + 1, acc ++ [leafE x], _, zsl, by rw [List.map_append]; exact zsl, by rw [List.length_append]; rfl, hst, by omega, rfl⟩
 ·obtain rfl : k = l.length := by omega
  rw [List.take_length] at hacc
  subst hacc
  refine runf (an @s0 (an @s4 @s3)) ?_
  exact er0w
theorem rroot15_c (l : List It.Entry) (hl : l.length ≤ 1000000) (hz : ∀ e ∈ l, Iz e.item) : AC Tryz.prog 45 [entriesV l] [] (.st (rootE l)) [] := by
 refine AC.enter2 [108, 107] [] Tryz.func45 rfl (by decide) (by decide) znl (by kernel_rfl) ?_; refine zev ?_
 have k1 := rleaves15_c l hl hz
 have k2 := rroot_c l.length (l.map leafE) (by simp) (by simp; omega) (fun x hx => by rw [leaves_dig l x hx]; omega)
 refine run ?_
 refine cp k1 ?_
 refine run ?_
 refine cp k2 ?_
 refine run ?_
 exact er0
end Go.Proofs.YtlefikdjhnaapaaGreatDoor.Pe
end
section
namespace Go.Proofs.YtlefikdjhnaapaaGreatDoor.Pe
open Go Go.RowKit Co Sg Ac It Sl
set_option maxRecDepth 100000
set_option maxHeartbeats 4000000
theorem fright15_c (h : Head) : AC Tryz.prog 49 [headV h] [] (.bo (rightH h)) [] := by
 refine AC.enter [] [] Tryz.func49 rfl (by decide) (by decide) znl (by kernel_rfl) ?_; refine zev ?_
 have hf : ¬ ((0 ≤ h.server ∧ h.server ≤ 19) ∧ (0 ≤ h.size ∧ h.size ≤ 1073741824) ∧ (0 ≤ h.time ∧ h.time ≤ 1099511627776) ∧ h.root.length = 32 ∧ (0 ≤ h.sig.e ∧ h.sig.e ≤ 2305843009213693949) ∧ (0 ≤ h.sig.s ∧ h.sig.s ≤ 2305843009213693949)) → rightH h = false := fun hn => Bool.eq_false_iff.2 fun r => hn (rightH_lin.1 r)
 by_cases h1 : 0 ≤ h.server
 rotate_left
 ·rw [hf (by omega)]
  refine run ?_
  exact er0
 by_cases h2 : h.server < 20
 rotate_left
 ·rw [hf (by omega)]
  refine run ?_
  exact er0
 by_cases h3 : 0 ≤ h.size
 rotate_left
 ·rw [hf (by omega)]
  refine run ?_
  exact er0
 by_cases h4 : h.size ≤ 1073741824
 rotate_left
 ·rw [hf (by omega)]
  refine run ?_
  exact er0
 by_cases h5 : 0 ≤ h.time
 rotate_left
 ·rw [hf (by omega)]
  refine run ?_
  exact er0
 by_cases h6 : h.time ≤ 1099511627776
 rotate_left
 ·rw [hf (by omega)]
  refine run ?_
  exact er0
 by_cases h7 : h.root.length = 32
 rotate_left
 ·have h7' : ¬ (h.root.length : Int) = 32 := by omega
  rw [hf (by omega)]
  refine runf @h7' ?_
  exact er0
 have h7' : (h.root.length : Int) = 32 := by omega
 by_cases h8 : 0 ≤ h.sig.e
 rotate_left
 ·rw [hf (by omega)]
  refine runf @h7' ?_
  exact er0
 by_cases h9 : h.sig.e ≤ 2305843009213693949
 rotate_left
 ·rw [hf (by omega)]
  refine runf @h7' ?_
  exact er0
 by_cases h10 : 0 ≤ h.sig.s
 rotate_left
 ·rw [hf (by omega)]
  refine runf @h7' ?_
  exact er0
 by_cases h11 : h.sig.s ≤ 2305843009213693949
 rotate_left
 ·rw [hf (by omega)]
  refine runf @h7' ?_
  exact er0
 rw [rightH_lin.2 (by omega)]
 refine runf @h7' ?_
 exact er0
theorem fcore15_c (h : Head) (hr : rightH h = true) : AC Tryz.prog 106 [headV h] [] (.st (coreH h)) [] := by
 refine AC.enter [183, 110] [] Tryz.func106 rfl (by decide) (by decide) znl (by kernel_rfl) ?_; refine zev ?_
 have hh := rightH_lin.1 hr
 have n1 := numI_le h.server (by omega)
 have n2 := numI_le h.size (by omega)
 have n3 := numI_le h.time (by omega)
 have t1 := text_len (s := h.root) (by omega)
 have tw : (text wHead).length = 5 := rfl
 unfold coreH
 refine run ?_
 refine cp (ftext_c wHead (by simp)) ?_
 refine run ?_
 refine cp (fnum_c h.server (by omega)) ?_
 refine run ?_
 refine cp (fnum_c h.size (by omega)) ?_
 refine run ?_
 refine cp (ftext_c h.root (by omega)) ?_
 refine run ?_
 refine cp (fnum_c h.time (by omega)) ?_
 refine run ?_
 exact er0
theorem fheadBytes_c (h : Head) : AC Tryz.prog 53 [headV h] [] (.st (headB h)) [] := by
 refine AC.enter [49, 106, 110] [] Tryz.func53 rfl (by decide) (by decide) znl (by kernel_rfl) ?_; refine zev ?_
 have kr := fright15_c h
 unfold headB
 cases hr : rightH h with
 | false =>
  rw [hr] at kr
  rw [if_neg (by simp)]
  refine run ?_
  refine cp kr ?_
  refine run ?_
  exact er0
 | true =>
  rw [hr] at kr
  rw [if_pos rfl]
  have hh := rightH_lin.1 hr
  have hc := coreR_lenH hr
  have kc := fcore15_c h hr
  have n1 := numI_le h.sig.e (by omega)
  have n2 := numI_le h.sig.s (by omega)
  generalize coreH h = c at *
  refine run ?_
  refine cp kr ?_
  refine run ?_
  refine cp kc ?_
  refine run ?_
  refine cp (fnum_c h.sig.e (by omega)) ?_
  refine run ?_
  refine cp (fnum_c h.sig.s (by omega)) ?_
  refine run ?_
  exact er0
theorem fverify15_c (p : Int) (h : Head) : AC Tryz.prog 51 [.it .i64 p, headV h] [] (.bo (verifyH p h)) [] := by
 refine AC.enter2 [49, 106, 109] [] Tryz.func51 rfl (by decide) (by decide) znl (by kernel_rfl) ?_; refine zev ?_
 have k1 := fright15_c h
 unfold verifyH
 cases hr : rightH h with
 | false =>
  rw [hr] at k1
  refine run ?_
  refine cp k1 ?_
  refine run ?_
  exact er0
 | true =>
  rw [hr] at k1
  have k2 := fcore15_c h hr
  have k3 := rverify_c p (coreH h) h.sig (by have := coreR_lenH hr; omega)
  refine run ?_
  refine cp k1 ?_
  refine run ?_
  refine cp k2 ?_
  refine run ?_
  refine cp k3 ?_
  refine run ?_
  exact er0
end Go.Proofs.YtlefikdjhnaapaaGreatDoor.Pe
end
section
namespace Go.Proofs.YtlefikdjhnaapaaGreatDoor.Pe
open Go Go.RowKit Co Sg Ac It Sl
set_option maxRecDepth 100000
set_option maxHeartbeats 4000000
theorem ftimes15_c (l : List It.Entry) (hl : l.length ≤ 140737488355328) : AC Tryz.prog 47 [entriesV l] [] (.bo (times l)) [] := by
 refine AC.enter2 [] [] Tryz.func47 rfl (by decide) (by decide) znl (by kernel_rfl) ?_; refine zev ?_
 have hsz := entries_sz l
 refine run ?_
 refine loop_mk (fun m e S => S = [] ∧ e 0 = entriesV l ∧ ∃ k : Nat, e 3 = .it .i64 ((k + 1 : Nat) : Int) ∧ (∀ j (h : j + 1 < l.length), j < k → l[j].time ≤ l[j + 1].time) ∧ m = l.length - k) l.length
  ⟨rfl, zsl, 0, zsl, fun j _ h => absurd h (Nat.not_lt_zero _), rfl⟩ ?_
 rintro m e S ⟨rfl, s0, k, s3, hall, rfl⟩
 by_cases hlt : k + 1 < l.length
 rotate_left
 ·rw [times_iff.2 fun j h => hall j h (by omega)]
  have hlt' : ¬ ((k + 1 : Nat) : Int) < (l.length : Int) := by omega
  refine runf (an @s0 (an @s3 @hlt')) ?_
  exact er0
 have hlt' : ((k + 1 : Nat) : Int) < (l.length : Int) := by omega
 have hg1 : l[k + 1]? = some l[k + 1] := List.getElem?_eq_getElem hlt
 have hg0 : l[k]? = some l[k] := List.getElem?_eq_getElem (by omega)
 have hc : ((k + 1 : Nat) : Int) - 1 = (k : Int) := by omega
 have hbad := times_bad hlt
 have hgood : l[k].time ≤ l[k + 1].time → ∀ j (h : j + 1 < l.length), j < k + 1 → l[j].time ≤ l[j + 1].time := fun h j hj hjk => by
  by_cases e : j = k
  ·subst e; exact h
  ·exact hall j hj (by omega)
 generalize l[k + 1] = x at *
 generalize l[k] = y at *
 by_cases ht : x.time < y.time
 ·rw [hbad ht]
  refine runf (an @s0 (an @s3 (an @hlt' (an @hg1 (an @hg0 (an @hc @hsz)))))) ?_
  exact er0
 ·refine runf (an @s0 (an @s3 (an @hlt' (an @hg1 (an @hg0 (an @hc @hsz)))))) ?_
  exact round_mk (l.length - (k + 1)) (by omega) ⟨rfl, zsl, k + 1, zsl, hgood (by omega), rfl⟩
theorem fhead15_c (k : Key) (server : Int) (l : List It.Entry) (time : Int) (hk : -9223372036854775808 ≤ k.secret ∧ k.secret ≤ 9223372036854775807) (hl : l.length ≤ 1000000) (hz : ∀ e ∈ l, Iz e.item) :
  AC Tryz.prog 43 [keyV k, .it .i64 server, entriesV l, .it .i64 time] [] (headV (mkHead k server l time)) [] := by
 refine AC.enter2 [45, 49, 71, 106, 105] [] Tryz.func43 rfl (by decide) (by decide) znl (by kernel_rfl) ?_; refine zev ?_
 have k1 := rkeyright_c k hk
 have k2 := rroot15_c l hl hz
 have k3 := fright15_c ⟨server, l.length, rootE l, time, sig0⟩
 unfold mkHead
 cases hr : k.right with
 | false =>
  rw [if_neg (by simp)]
  rw [hr] at k1
  cases hh : rightH ⟨server, l.length, rootE l, time, sig0⟩ with
  | false =>
   rw [hh] at k3
   refine run ?_
   refine cp k2 ?_
   refine run ?_
   refine cp k3 ?_
   refine run ?_
   refine cp k1 ?_
   refine run ?_
   exact er0
  | true =>
   rw [hh] at k3
   refine run ?_
   refine cp k2 ?_
   refine run ?_
   refine cp k3 ?_
   refine run ?_
   refine cp k1 ?_
   refine run ?_
   exact er0
 | true =>
  rw [if_pos rfl]
  rw [hr] at k1
  cases hh : rightH ⟨server, l.length, rootE l, time, sig0⟩ with
  | false =>
   rw [hh] at k3
   simp only [hh, Bool.false_eq_true, if_false]
   refine run ?_
   refine cp k2 ?_
   refine run ?_
   refine cp k3 ?_
   refine run ?_
   refine cp k1 ?_
   refine run ?_
   exact er0
  | true =>
   rw [hh] at k3
   simp only [hh, if_true]
   have k4 := fcore15_c ⟨server, l.length, rootE l, time, sig0⟩ hh
   have hc := coreR_lenH hh
   have k5 := rsign_c k (coreH ⟨server, l.length, rootE l, time, sig0⟩) (by omega) hk
   generalize coreH ⟨server, l.length, rootE l, time, sig0⟩ = c at *
   generalize sign k c = sg at *
   refine run ?_
   refine cp k2 ?_
   refine run ?_
   refine cp k3 ?_
   refine run ?_
   refine cp k1 ?_
   refine run ?_
   refine cp k4 ?_
   refine run ?_
   refine cp k5 ?_
   refine run ?_
   exact er0
end Go.Proofs.YtlefikdjhnaapaaGreatDoor.Pe
end
section
namespace Go.Proofs.YtlefikdjhnaapaaGreatDoor.Sl
open Go Co Sg Ac It
theorem text_none : R.text ⟨[], false⟩ = ([], Co.fail) := rfl
theorem rHead_fail : (rHead Co.fail).2 = Co.fail := rfl
theorem readHead_ref (s : By) : readHead s = if (rHead (R.text ⟨s, false⟩).2).2.done = true ∧ headB (rHead (R.text ⟨s, false⟩).2).1 = s then ((rHead (R.text ⟨s, false⟩).2).1, true) else (head0, false) := by
 by_cases hc : (rHead (R.text ⟨s, false⟩).2).2.done = true ∧ headB (rHead (R.text ⟨s, false⟩).2).1 = s
 ·rw [if_pos hc]
  have hr : rightH (rHead (R.text ⟨s, false⟩).2).1 = true := by
   cases h : rightH (rHead (R.text ⟨s, false⟩).2).1 with
   | true => rfl
   | false =>
    exfalso
    have h1 := hc.2
    rw [headB_wrong h] at h1
    subst h1
    have h2 := hc.1
    rw [text_none, rHead_fail] at h2
    cases h2
  have h3 := readHead_back hr
  rw [hc.2] at h3
  exact h3
 ·rw [if_neg hc]
  unfold readHead
  simp only
  rw [if_neg]
  exact fun h => hc ⟨h.2.1, h.2.2.2⟩
end Go.Proofs.YtlefikdjhnaapaaGreatDoor.Sl
namespace Go.Proofs.YtlefikdjhnaapaaGreatDoor.Pe
open Go Go.RowKit Co Sg Ac It Sl
set_option maxRecDepth 100000
set_option maxHeartbeats 4000000
theorem frtext_s (x : R) (hx : x.rest.length ≤ 1000000) : x.text.2.rest.length ≤ 1000000 ∧ x.text.1.length ≤ 1000000 := by
 have := text_rest x
 omega
theorem frnum_s (x : R) (hx : x.rest.length ≤ 1000000) : (rNum x).2.rest.length ≤ 1000000 ∧ 0 ≤ (rNum x).1 ∧ (rNum x).1 < 9223372036854775808 := by
 have h1 := num_rest x
 have h2 := num_lt x
 refine ⟨?_, ?_, ?_⟩
 ·show x.num.2.rest.length ≤ _; omega
 ·show 0 ≤ ((x.num.1 : Nat) : Int); omega
 ·show ((x.num.1 : Nat) : Int) < _; omega
theorem freadHead_c (s : By) (hs : s.length ≤ 1000000) : AC Tryz.prog 40 [.st s] [] (.tup [headV (readHead s).1, .bo (readHead s).2]) [] := by
 refine AC.enter2 [53] [] Tryz.func40 rfl (by decide) (by decide) znl (by kernel_rfl) ?_; refine zev ?_
 have k0 := frtext_c ⟨s, false⟩ (by show s.length < _; omega)
 have b0 := frtext_s ⟨s, false⟩ hs
 have hread := readHead_ref s
 unfold rHead rSig at hread
 simp only at hread
 generalize R.text ⟨s, false⟩ = q0 at *
 obtain ⟨n, x0⟩ := q0
 simp only at k0 b0 hread
 have k1 : AC Tryz.prog 102 [.ptr 0 0] [rd x0] (.it .i64 (rNum x0).1) [rd (rNum x0).2] := frnum_c x0 (by omega)
 have b1 := frnum_s x0 b0.1
 generalize rNum x0 = q1 at *
 obtain ⟨server, x1⟩ := q1
 simp only at k1 b1 hread
 have k2 : AC Tryz.prog 102 [.ptr 0 0] [rd x1] (.it .i64 (rNum x1).1) [rd (rNum x1).2] := frnum_c x1 (by omega)
 have b2 := frnum_s x1 b1.1
 generalize rNum x1 = q2 at *
 obtain ⟨size, x2⟩ := q2
 simp only at k2 b2 hread
 have k3 := frtext_c x2 (by omega)
 have b3 := frtext_s x2 b2.1
 generalize R.text x2 = q3 at *
 obtain ⟨root, x3⟩ := q3
 simp only at k3 b3 hread
 have k4 : AC Tryz.prog 102 [.ptr 0 0] [rd x3] (.it .i64 (rNum x3).1) [rd (rNum x3).2] := frnum_c x3 (by omega)
 have b4 := frnum_s x3 b3.1
 generalize rNum x3 = q4 at *
 obtain ⟨time, x4⟩ := q4
 simp only at k4 b4 hread
 have k5 : AC Tryz.prog 102 [.ptr 0 0] [rd x4] (.it .i64 (rNum x4).1) [rd (rNum x4).2] := frnum_c x4 (by omega)
 have b5 := frnum_s x4 b4.1
 generalize rNum x4 = q5 at *
 obtain ⟨se, x5⟩ := q5
 simp only at k5 b5 hread
 have k6 : AC Tryz.prog 102 [.ptr 0 0] [rd x5] (.it .i64 (rNum x5).1) [rd (rNum x5).2] := frnum_c x5 (by omega)
 have b6 := frnum_s x5 b5.1
 generalize rNum x5 = q6 at *
 obtain ⟨ss, x6⟩ := q6
 simp only at k6 b6 hread
 have kd := fdone_c x6
 change AC _ _ _ _ (.bo x6.done) _ at kd
 have kb := fheadBytes_c ⟨server, size, root, time, ⟨se, ss⟩⟩
 generalize headB ⟨server, size, root, time, ⟨se, ss⟩⟩ = bs at *
 generalize x6.done = dn at *
 refine run ?_
 refine call_mk (AC.newAt (fopen_c s) _) ?_
 refine run ?_
 refine c1 1 k0 ?_
 refine run ?_
 refine c1 1 k1 ?_
 refine run ?_
 refine c1 1 k2 ?_
 refine run ?_
 refine c1 1 k3 ?_
 refine run ?_
 refine c1 1 k4 ?_
 refine run ?_
 refine c1 1 k5 ?_
 refine run ?_
 refine c1 1 k6 ?_
 refine run ?_
 refine c1 1 kd ?_
 cases dn with
 | false =>
  rw [if_neg (fun h => by cases h.1)] at hread
  rw [hread]
  refine run ?_
  exact er0w
 | true =>
  refine run ?_
  refine cp kb ?_
  by_cases hb : bs = s
  ·subst hb
   rw [if_pos ⟨rfl, rfl⟩] at hread
   rw [hread]
   refine run ?_
   exact er0w
  ·rw [if_neg (fun h => hb h.2)] at hread
   rw [hread]
   have hne := nilI bs s hb
   refine runf @hne ?_
   exact er0w
end Go.Proofs.YtlefikdjhnaapaaGreatDoor.Pe
end
section
namespace Go.Proofs.YtlefikdjhnaapaaGreatDoor.Pe
open Go Go.RowKit Co Sg Ac It Sl
set_option maxRecDepth 100000
set_option maxHeartbeats 4000000
theorem slogTells_c (c : Cs) (hk : -9223372036854775808 ≤ c.key.secret ∧ c.key.secret ≤ 9223372036854775807) (hp : -9223372036854775808 ≤ c.key.pub ∧ c.key.pub ≤ 9223372036854775807) (hz : ∀ e ∈ c.list, Iz e.item) (hl : c.list.length ≤ 140737488355328) :
  AC Tryz.prog 5 [caseV c] [] (.bo true) [] := by
 refine AC.enter [10, 38, 39, 40, 41, 42, 43, 44, 45, 46, 47, 48, 49, 50, 51, 52, 53] [] Tryz.func5 rfl (by decide) (by decide) znl (by kernel_rfl) ?_; refine zev ?_
 refine run ?_
 refine cp small15_c ?_
 by_cases h12 : (c.list.length : Int) > 12
 ·refine runf @h12 ?_
  exact er0
 by_cases h5 : (c.text.length : Int) > 5000
 ·refine runf (an @h12 @h5) ?_
  exact er0
 have ka := shead_c c.key c.server c.list c.time hk (by omega) hz
 have kb := fhead15_c c.key c.server c.list c.time hk (by omega) hz
 have kx := readHead_c c.text (by omega)
 have ky := freadHead_c c.text (by omega)
 have kr := sroot_c c.list (by omega) hz
 have kr' := rroot15_c c.list (by omega) hz
 have kt := stimes_c c.list hl
 have kt' := ftimes15_c c.list hl
 have kg := sright_c c.h
 have kg' := fright15_c c.h
 have kv := sverify_c c.key.pub c.h hp
 have kv' := fverify15_c c.key.pub c.h
 have kw := sheadBytes_c c.h
 have kw' := fheadBytes_c c.h
 generalize mkHead c.key c.server c.list c.time = hd at *
 generalize readHead c.text = rh at *
 generalize rootE c.list = rt at *
 generalize times c.list = ti at *
 generalize rightH c.h = ri at *
 generalize verifyH c.key.pub c.h = ve at *
 generalize headB c.h = hb at *
 have e4 : ∀ b : Bool, (b == b) = true := fun b => by cases b <;> rfl
 have e5 : ∀ l : By, (l == l) = true := fun l => beq_self_eq_true _
 have e6 : ∀ l : Int, (l == l) = true := fun l => beq_self_eq_true _
 have hsz := entries_sz c.list
 refine runf (an @h12 @h5) ?_
 refine cp ka ?_
 refine run ?_
 refine cp kx ?_
 refine run ?_
 refine cp ky ?_
 refine run ?_
 refine loop_mk (fun m e S => e 1 = .ptr 0 0 ∧ e 3 = .bo true ∧ e 4 = .ptr 1 0 ∧ e 5 = .ptr 2 0 ∧ e 6 = .bo rh.2 ∧ e 7 = .ptr 3 0 ∧ e 8 = .bo rh.2 ∧
  S = [.cells (caseL c), .cells (headL hd), .cells (headL rh.1), .cells (headL rh.1)] ∧ ∃ k : Nat, e 9 = .it .i64 (k : Int) ∧ k ≤ c.list.length ∧ m = c.list.length - k) c.list.length ⟨zsl, zsl, zsl, zsl, zsl, zsl, zsl, rfl, 0, zsl, Nat.zero_le _, rfl⟩ ?_
 rintro m e S ⟨s1, s3, s4, s5, s6, s7, s8, rfl, k, s9, hk', rfl⟩
 by_cases hlt : k < c.list.length
 ·have hg : c.list[k]? = some c.list[k] := List.getElem?_eq_getElem hlt
  have hx := hz c.list[k] (List.getElem_mem hlt)
  generalize c.list[k] = x at *
  have k1 := sleaf_c x hx
  have k2 := rleaf15_c x hx
  generalize leafE x = lf at *
  refine runf (an @s1 (an @s9 (an @hg @hsz))) ?_
  refine cp k1 ?_
  refine runf (an @s1 (an @s9 (an @hg @hsz))) ?_
  refine cp k2 ?_
  refine runf (an @s9 @e5) ?_
  exact round_mk (c.list.length - (k + 1)) (by omega) ⟨zsl, zsl, zsl, zsl, zsl, zsl, zsl, rfl, k + 1, zsl, by omega, rfl⟩
 ·obtain rfl : k = c.list.length := by omega
  refine runf (an @s1 (an @s3 (an @s4 @s9))) ?_
  refine cp kb ?_
  refine runf (an @s1 (an @s3 (an @s4 (an @e4 (an @e5 @e6))))) ?_
  refine cp kr ?_
  refine runf (an @s1 (an @s3 (an @s4 (an @e4 (an @e5 @e6))))) ?_
  refine cp kr' ?_
  refine runf (an @s1 (an @s3 (an @s4 (an @e4 (an @e5 @e6))))) ?_
  refine cp kt ?_
  refine runf (an @s1 (an @s3 (an @s4 (an @e4 (an @e5 @e6))))) ?_
  refine cp kt' ?_
  have e7 : ∀ b : Bool, (b != b) = false := fun b => by cases b <;> rfl
  refine runf (an @s1 (an @s3 (an @s4 (an @s5 (an @s6 (an @s7 (an @s8 (an @e4 (an @e5 (an @e6 @e7)))))))))) ?_
  refine cp kg ?_
  refine runf (an @s1 @e4) ?_
  refine cp kg' ?_
  refine runf (an @s1 @e4) ?_
  refine cp kv ?_
  refine runf (an @s1 @e4) ?_
  refine cp kv' ?_
  refine runf (an @s1 @e4) ?_
  refine cp kw ?_
  refine runf (an @s1 @e5) ?_
  refine cp kw' ?_
  refine runf (an @s1 (an @e4 @e5)) ?_
  exact er0
end Go.Proofs.YtlefikdjhnaapaaGreatDoor.Pe
end
section
namespace Go.Proofs.YtlefikdjhnaapaaGreatDoor
open Go Go.RowKit Go.WideShapes Go.ChangeShapes
section
variable {H : Type} {enc : TypeId × Value → H} {P : Program}
theorem post_of_below {f : Func} {s : ChangeSpec} {apart fresh handsOn again : Bool} {W W' : World} {args : Array Value} {v : Value} {ds gs : List (DataW H)} {before pa pv : List MemPlace}
  (hW : DataW.Whole enc P f.params.toList s.vars apart W args.toList ds gs before)
  (hres : ∀ (b : Nat) (sp : Nat → Bool) (hd : Bool), DataW.TrodAll enc P W' b sp hd f.resultTypes.toList (v.resultList f.resultTypes.size) (s.fn H (ds ++ gs)).results [])
  (hargs : ∀ sp : Nat → Bool, (∀ p ∈ before, sp p.block = true) → DataW.TrodAll enc P W' 0 sp true f.params.toList args.toList (s.fn H (ds ++ gs)).args pa)
  (hvars : ∀ sp : Nat → Bool, (∀ p ∈ before, sp p.block = true) → DataW.TrodVars enc P W' sp s.vars (s.fn H (ds ++ gs)).vars pv)
  (hps : before = pa ++ pv) (hb : Below W.heap.size W W')
  (hok : ∀ (j : Nat) (t : TypeId) (r : Value), f.resultTypes[j]? = some t → (v.resultList f.resultTypes.size)[j]? = some r → Value.okWide P W' .any 0 t r) :
  s.post enc P f apart fresh handsOn again W args v W' := by
 have hlt : ∀ p ∈ before, p.block < W.heap.size := fun p hp => hW.lt p hp
 have hold : ∀ p ∈ before, (fun b => decide (b < W.heap.size)) p.block = true := fun p hp => by simpa using hlt p hp
 refine ⟨ds, gs, before, [], pa, pv, hW, hres _ _ _, hargs _ hold, hvars _ hold, World.keptBut_mono (fun p hp => ⟨hp, ?_⟩) (hb.frame (· ∈ before)), fun _ => ?_⟩
 ·rw [hps, List.mem_append] at hp
  exact Or.inr hp
 ·obtain ⟨_, _, _, _, _, hz, hn⟩ := hW
  refine ⟨hok, _, _, ([] ++ pa) ++ pv, ⟨[] ++ pa, pv, trodAll_append (hargs _ (fun _ _ => rfl)) (hres _ _ _), hvars _ (fun _ _ => rfl), rfl, ?_, ?_⟩, ?_⟩
  ·intro b off hp
   have hin : MemPlace.cell b off ∈ before := by rw [hps]; simpa using hp
   rw [hb.frozen (hlt _ hin)]
   exact hz b off hin
  ·intro ha
   have := hn ha
   rw [hps] at this
   simpa using this
  ·intro p hp _
   rw [hps]
   simpa using hp
end
end Go.Proofs.YtlefikdjhnaapaaGreatDoor
end
section
namespace Go.Proofs.YtlefikdjhnaapaaGreatDoor
open Go Go.RowKit Sm
theorem own : ownKnob Tryz.prog.godebug = none := by kernel_rfl
theorem gK : Tryz.prog.globalNamed "agora/sum.constants" = some 1 := by kernel_rfl
theorem gI : Tryz.prog.globalNamed "agora/sum.initial" = some 0 := by kernel_rfl
theorem gKType : (Tryz.prog.globals[1]?).map (·.type) = some 251 := by kernel_rfl
theorem gIType : (Tryz.prog.globals[0]?).map (·.type) = some 207 := by kernel_rfl
theorem cellsK : Tryz.prog.cellsOf 251 = 64 := by kernel_rfl
theorem cellsI : Tryz.prog.cellsOf 207 = 8 := by kernel_rfl
theorem cellsU : Tryz.prog.cellsOf 206 = 1 := by kernel_rfl
def zsK : List Int := [1116352408, 1899447441, 3049323471, 3921009573, 961987163, 1508970993, 2453635748, 2870763221, 3624381080, 310598401, 607225278, 1426881987, 1925078388, 2162078206, 2614888103, 3248222580, 3835390401, 4022224774, 264347078, 604807628, 770255983, 1249150122, 1555081692, 1996064986, 2554220882, 2821834349, 2952996808, 3210313671, 3336571891, 3584528711, 113926993, 338241895, 666307205, 773529912, 1294757372, 1396182291, 1695183700, 1986661051, 2177026350, 2456956037, 2730485921, 2820302411, 3259730800, 3345764771, 3516065817, 3600352804, 4094571909, 275423344, 430227734, 506948616, 659060556, 883997877, 958139571, 1322822218, 1537002063, 1747873779, 1955562222, 2024104815, 2227730452, 2361852424, 2428436474, 2756734187, 3204031479, 3329325298]
def zsI : List Int := [1779033703, 3144134277, 1013904242, 2773480762, 1359893119, 2600822924, 528734635, 1541459225]
theorem zsK_eq : zsK = tabK.map (fun x => (x.toNat : Int)) := by decide +kernel
theorem zsI_eq : zsI = init8.list.map (fun x => (x.toNat : Int)) := by decide +kernel
theorem word_at (l : List (BitVec 32)) (i : Nat) (hi : i < l.length) : Value.int .u32 ((l.map (fun x => (x.toNat : Int))).getD i 0) = w32 (l.getD i 0) := by
 simp only [List.getD_eq_getElem?_getD, List.getElem?_map, List.getElem?_eq_getElem hi]
 rfl
def laidList : List (String × DataW Unit) := [("agora/sum.constants", Rows.laid_agora_sum_constants), ("agora/sum.initial", Rows.laid_agora_sum_initial)]
theorem tabs_of {W : World} (h : laidMetH Tryz.prog laidList W) : Tabs W := by
 have h1 : laidMet Tryz.prog (("agora/sum.constants", Lib.tabData .u32 zsK) :: [("agora/sum.initial", Lib.tabData .u32 zsI)]) W := h
 have k1 := Lib.tabIs_of_head gK gKType Tryz.underlying251 Tryz.underlying206 cellsU cellsK h1
 have k2 := Lib.tabIs_of_head gI gIType Tryz.underlying207 Tryz.underlying206 cellsU cellsI (laidMet.tail h1)
 refine ⟨fun i hi => ?_, fun i hi => ?_⟩
 ·rw [k1.cell gK i hi, zsK_eq, word_at tabK i hi]
 ·rw [k2.cell gI i hi, zsI_eq, word_at init8.list i hi]
def withCells (cs : Array Value) : Obj → Obj
 | .cells _ t frozen => .cells cs t frozen
 | o => o
noncomputable def laidWorld (os : Os) : World :=
 { World.holding Tryz.prog os ⟨#[], #[], []⟩ with heap := ((World.holding Tryz.prog os ⟨#[], #[], []⟩).heap.modify 1 (withCells (zsK.map (Value.int .u32)).toArray)).modify 0 (withCells (zsI.map (Value.int .u32)).toArray) }
theorem tab_of {W : World} (h : Tabs W) : ∀ b i v, (Pe.tabs).T b i = some v → W.cell? ⟨b, i, none⟩ = some v := by
 intro b i v hv
 have hv' : (if b = 1 ∧ i < 64 then some (w32 (tabK.getD i 0)) else if b = 0 ∧ i < 8 then some (w32 (init8.list.getD i 0)) else none) = some v := hv
 split at hv'
 ·rename_i hc
  obtain ⟨rfl, hi⟩ := hc
  rw [h.1 i hi]; exact hv'
 ·split at hv'
  ·rename_i hc
   obtain ⟨rfl, hi⟩ := hc
   rw [h.2 i hi]; exact hv'
  ·cases hv'
theorem laidOut : laidOutB Tryz.prog = true := by kernel_rfl
end Go.Proofs.YtlefikdjhnaapaaGreatDoor
end
section
namespace Go.Proofs.YtlefikdjhnaapaaGreatDoor.Pe
open Go Go.RowKit Co Sg Ac It Sl
set_option maxRecDepth 100000
set_option maxHeartbeats 4000000
theorem shp_case {n us} (h : shp Tryz.prog 140737488351232 (n + 9) 90 us) : ∃ c : Cs, us = (caseV c).cells ∧ ((-9223372036854775808 ≤ c.key.secret ∧ c.key.secret ≤ 9223372036854775807) ∧ (-9223372036854775808 ≤ c.key.pub ∧ c.key.pub ≤ 9223372036854775807) ∧ (∀ e ∈ c.list, InE e) ∧ c.list.length ≤ 140737488351232) := by
 have h := shp_struct Tryz.underlying90 h
 obtain ⟨a0, b0, rfl, h0, h⟩ := h
 obtain ⟨a1, b1, rfl, h1, h⟩ := h
 obtain ⟨a2, b2, rfl, h2, h⟩ := h
 obtain ⟨a3, b3, rfl, h3, h⟩ := h
 obtain ⟨a4, b4, rfl, h4, h⟩ := h
 obtain ⟨a5, b5, rfl, h5, h⟩ := h
 obtain ⟨a6, b6, rfl, h6, rfl⟩ := h
 obtain ⟨g, rfl, _⟩ := shp_head h0
 obtain ⟨hh, rfl, _⟩ := shp_head h1
 obtain ⟨k, rfl, w2, w3⟩ := shp_key h2
 obtain ⟨l, rfl, w4, w5⟩ := shp_entriesI h3
 obtain ⟨t, rfl, _⟩ := shp_str Tryz.underlying9 h4
 obtain ⟨sv, rfl, _⟩ := shp_i64 Tryz.underlying3 h5
 obtain ⟨ti, rfl, _⟩ := shp_i64 Tryz.underlying3 h6
 exact ⟨⟨g, hh, k, l, t, sv, ti⟩, rfl, w2, w3, w5, w4⟩
end Go.Proofs.YtlefikdjhnaapaaGreatDoor.Pe
end
