/- agoralaw10's bytes on plain values. -/
import Derived.Test.YtjicccjpooahoaaWlE
set_option linter.unusedSectionVars false
set_option linter.unusedVariables false
set_option linter.unusedSimpArgs false
namespace Go.Proofs.Ytjicccjpooahoaa.Pe
open Go Go.RowKit Co Dm Wl
set_option maxRecDepth 100000
set_option maxHeartbeats 4000000
def sumB : List By → Nat
 | [] => 0
 | s :: l => min s.length 9999 + sumB l
def bytesN (l : List By) : Nat := if 30 < l.length then 9999 else sumB l
theorem sumB_snoc (l : List By) (s : By) : sumB (l ++ [s]) = sumB l + min s.length 9999 := by
 induction l with
 | nil => simp [sumB]
 | cons x l ih => simp only [List.cons_append, sumB, ih]; omega
theorem sumB_le (l : List By) : sumB l ≤ l.length * 9999 := by
 induction l with
 | nil => simp [sumB]
 | cons x l ih => simp only [sumB, List.length_cons]; omega
theorem lbytes_c (l : List By) (hl : l.length ≤ 140737488355328) : AC Try.prog 8 [.sl .ro (l.map AV.st)] [] (.it .i64 (bytesN l : Int)) [] := by
 refine AC.enter [] [] Try.func8 rfl (by decide) (by decide) (Nat.le_of_ble_eq_true rfl) (by kernel_rfl) ?_; simp only [eraseC, eraseG, eraseO, List.map_cons, List.map_nil, List.map_toArray, List.getElem?_toArray, List.getElem?_cons_zero, List.getElem?_cons_succ, Option.bind_some, Option.bind_none, List.append_eq, List.cons_append, List.nil_append]
 by_cases h30 : 30 < l.length
 ·have hq : bytesN l = 9999 := if_pos h30
  rw [hq]
  have e1 : (l.length : Int) > 30 := by omega
  refine runf @e1 ?_
  exact er0
 have hq : bytesN l = sumB l := if_neg h30
 rw [hq]
 have e1 : ¬ (l.length : Int) > 30 := by omega
 have hs1 : allSz 1 (l.map AV.st) = true := allSz_map 1 AV.st (fun _ => rfl) _
 refine runf @e1 ?_
 refine loop_mk (fun m e S => S = [] ∧ e 0 = .sl .ro (l.map AV.st) ∧ ∃ k : Nat, e 4 = .it .i64 (k : Int) ∧ k ≤ l.length ∧ e 3 = .it .i64 (sumB (l.take k) : Int) ∧ m = l.length - k) l.length ⟨rfl, (by first | rfl | (simp only [↓upd_apply, ↓put_some, ↓reduceIte, Nat.reduceEqDiff, ↓argEnv_zero, ↓argEnv_succ, *]; done)), 0, (by first | rfl | (simp only [↓upd_apply, ↓put_some, ↓reduceIte, Nat.reduceEqDiff, ↓argEnv_zero, ↓argEnv_succ, *]; done)), by omega, (by first | rfl | (simp only [↓upd_apply, ↓put_some, ↓reduceIte, Nat.reduceEqDiff, ↓argEnv_zero, ↓argEnv_succ, *]; done)), rfl⟩ ?_
 rintro m e S ⟨rfl, s0, k, s4, hk, s3, rfl⟩
 by_cases hlt : k < l.length
 rotate_left
 ·obtain rfl : k = l.length := by omega
  rw [List.take_length] at s3
  refine runf (an @s0 (an @s3 @s4)) ?_
  exact er0
 have g1 : l[k]? = some l[k] := List.getElem?_eq_getElem hlt
 have hsn : sumB (l.take (k + 1)) = sumB (l.take k) + min l[k].length 9999 := by rw [List.take_succ_eq_append_getElem hlt, sumB_snoc]
 have hb := sumB_le (l.take k)
 have hb2 : (l.take k).length ≤ 30 := by rw [List.length_take]; omega
 generalize l[k] = x at *
 generalize hm1 : sumB (l.take (k + 1)) = m1 at *
 generalize sumB (l.take k) = m0 at *
 have em : (m0 : Int) + (if 9999 < (x.length : Int) then 9999 else (x.length : Int)) = (m1 : Int) := by split <;> omega
 refine runf (an @s0 (an @s3 (an @s4 (an @g1 (an @hs1 @em))))) ?_
 exact round_mk (l.length - (k + 1)) (by omega) ⟨rfl, (by first | rfl | (simp only [↓upd_apply, ↓put_some, ↓reduceIte, Nat.reduceEqDiff, ↓argEnv_zero, ↓argEnv_succ, *]; done)), k + 1, (by first | rfl | (simp only [↓upd_apply, ↓put_some, ↓reduceIte, Nat.reduceEqDiff, ↓argEnv_zero, ↓argEnv_succ, *]; done)), by omega, (by rw [hm1]; exact (by first | rfl | (simp only [↓upd_apply, ↓put_some, ↓reduceIte, Nat.reduceEqDiff, ↓argEnv_zero, ↓argEnv_succ, *]; done))), rfl⟩
end Go.Proofs.Ytjicccjpooahoaa.Pe
