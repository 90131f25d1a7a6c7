/- The walk of ActTells. -/
import Derived.Test.YtaphpbiaoofmkaaGreatDoorRfT
import Derived.Test.YtaphpbiaoofmkaaGreatDoorRfG
import Derived.Test.YtaphpbiaoofmkaaGreatDoorAcF
set_option linter.unusedSectionVars false
set_option linter.unusedVariables false
set_option linter.unusedSimpArgs false
namespace Go.Proofs.YtaphpbiaoofmkaaGreatDoor.Pe
open Go Go.RowKit Co Sg Ac
set_option maxRecDepth 100000
set_option maxHeartbeats 4000000
theorem read_lens (s : By) : (Ac.read s).1.to.length ≤ 1000000 ∧ (Ac.read s).1.wraps.length ≤ 1000000 := by
 cases hq : (Ac.read s).2 with
 | true =>
  have sm := right_sm (Ac.read_right hq).1
  exact ⟨by have := sm.to.1; omega, by have := sm.wraps.1; omega⟩
 | false => rw [Ac.read_wrong hq]; exact ⟨Nat.zero_le _, Nat.zero_le _⟩
theorem signA_lens (k : Key) (a : Ac.Act) : (signA k a).to.length ≤ a.to.length ∧ (signA k a).wraps.length ≤ a.wraps.length := by
 unfold signA
 simp only
 split
 ·exact ⟨Nat.le_refl _, Nat.le_refl _⟩
 ·exact ⟨Nat.zero_le _, Nat.zero_le _⟩
theorem actTells_c (a b : Ac.Act) (s : By) (k : Key) (n : Int) (ha : In a) (hb : In b) (hs : s.length ≤ 140737488351232) (hk : -9223372036854775808 ≤ k.secret ∧ k.secret ≤ 9223372036854775807) (hn : -9223372036854775808 ≤ n ∧ n ≤ 9223372036854775807) :
  AC Tryz.prog 3 [actV a, actV b, .st s, keyV k, .it .i64 n] [] (.bo true) [] := by
 refine AC.enter2 [10, 11, 12, 13, 14, 15, 16, 17, 18, 19, 20, 21, 22, 23, 24, 25, 26, 27] [] Tryz.func3 rfl (by decide) (by decide) (Nat.le_of_ble_eq_true rfl) (by kernel_rfl) ?_; simp only [eraseC, eraseO, List.map_cons, List.map_nil, List.map_toArray, List.getElem?_toArray, List.getElem?_cons_zero, List.getElem?_cons_succ, Option.bind_some, Option.bind_none, List.append_eq, List.cons_append, List.nil_append]
 refine run ?_
 refine cp small_c ?_
 refine run ?_
 refine cp (few_c a ha) ?_
 by_cases hf : few a = true
 rotate_left
 ·have hf : few a = false := by simpa using hf
  rw [hf]
  refine run ?_
  exact er0
 rw [hf]
 refine run ?_
 refine cp (few_c b hb) ?_
 by_cases hg : few b = true
 rotate_left
 ·have hg : few b = false := by simpa using hg
  rw [hg]
  refine run ?_
  exact er0
 rw [hg]
 by_cases hl : s.length ≤ 10000
 rotate_left
 ·refine run ?_
  exact er0
 have hta : a.to.length ≤ 70 ∧ a.wraps.length ≤ 70 := by
  unfold few at hf
  simp only [Bool.and_eq_true, decide_eq_true_eq] at hf
  exact hf.1
 have hza := ha.sz
 have hzb := hb.sz
 have k1 := read_c s (by omega)
 have k2 := fread12_c s (by omega)
 have k3 := signA_c k a hza hk
 have k4' := fsign12_c k a hza (by omega) (by omega) hk
 have l1 := read_lens s
 have l2 := signA_lens k a
 have k5 := fsame12_c (Ac.read s).1 (Ac.read s).1 (by omega) (by omega)
 have k6 := fsame12_c (signA k a) (signA k a) (by omega) (by omega)
 rw [decide_eq_true rfl] at k5 k6
 have k7 := verifyA_c n a hza hn
 have k8 := fverify12_c n a hza hn
 have k9 := right_c a hza
 have k10 := fright12_c a hza
 have k11 := posting_c n
 have k12 := fposting_c n
 have k13 := core_c a hza
 have k14 := fcore12_c a hza
 have k15 := bytes_c a hza
 have k16 := fbytes12_c a hza
 have k17 := same_c a b ⟨hza.to, hza.wraps⟩ ⟨hzb.to, hzb.wraps⟩
 have k18 := fsame12_c a b ⟨hza.to, hza.wraps⟩ ⟨hzb.to, hzb.wraps⟩
 generalize Ac.read s = q at *
 obtain ⟨x, ok⟩ := q
 simp only at k1 k2 k5
 generalize signA k a = c at *
 generalize verifyA n a = v at *
 generalize right a = r at *
 generalize posting n = p at *
 generalize core a = ca at *
 generalize Ac.bytes a = ba at *
 generalize decide (a = b) = d at *
 have e1 : (ca == ca) = true := beq_self_eq_true _
 have e2 : (ba == ba) = true := beq_self_eq_true _
 have e3 : ∀ b : Bool, (b != b) = false := fun b => by cases b <;> rfl
 have e4 : ∀ b : Bool, (b == b) = true := fun b => by cases b <;> rfl
 refine run ?_
 refine cp k1 ?_
 refine run ?_
 refine cp k2 ?_
 refine run ?_
 refine cp k3 ?_
 refine run ?_
 refine cp k4' ?_
 refine runf @e3 ?_
 refine cp k5 ?_
 refine runf @e3 ?_
 refine cp k6 ?_
 refine runf @e3 ?_
 refine cp k7 ?_
 refine runf @e3 ?_
 refine cp k8 ?_
 refine runf (an @e3 @e4) ?_
 refine cp k9 ?_
 refine runf (an @e3 @e4) ?_
 refine cp k10 ?_
 refine runf (an @e3 @e4) ?_
 refine cp k11 ?_
 refine runf (an @e3 @e4) ?_
 refine cp k12 ?_
 refine runf (an @e3 @e4) ?_
 refine cp k13 ?_
 refine runf (an @e3 @e4) ?_
 refine cp k14 ?_
 refine runf (an @e3 (an @e4 @e1)) ?_
 refine cp k15 ?_
 refine runf (an @e3 @e4) ?_
 refine cp k16 ?_
 refine runf (an @e3 (an @e4 @e2)) ?_
 refine cp k17 ?_
 refine runf (an @e3 @e4) ?_
 refine cp k18 ?_
 refine runf (an @e3 @e4) ?_
 exact er0
end Go.Proofs.YtaphpbiaoofmkaaGreatDoor.Pe
