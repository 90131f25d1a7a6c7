/- Package wal on plain values: Append, Flush, All, Len. -/
import Derived.Test.YtjicccjpooahoaaWlC
set_option linter.unusedSectionVars false
set_option linter.unusedVariables false
set_option linter.unusedSimpArgs false
namespace Go.Proofs.Ytjicccjpooahoaa.Pe
open Go Go.RowKit Co Dm Wl
set_option maxRecDepth 100000
set_option maxHeartbeats 4000000
theorem lg_same (d : Dk) (f : Int) (rows : List By) : SubOk (List.range 3) (LG d f rows) (LG d f rows) := subOk_same 3 rfl rfl rfl
theorem wadd_c (d : Dk) (f : Int) (rows : List By) (s : By) (hs : s.length ≤ 140737488355328) (hr : rows.length ≤ 16777216) :
  AC Try.prog 17 [.ptr 1 0, .st s] (LG d f rows) (.it .i64 (addD d f s).1) (LG (addD d f s).2 f (if (addD d f s).1 = 0 then rows ++ [s] else rows)) := by
 refine AC.enter2 [36] [] Try.func17 rfl (by decide) (by decide) (Nat.le_of_ble_eq_true rfl) (by kernel_rfl) ?_; simp only [eraseC, eraseG, eraseO, List.map_cons, List.map_nil, List.map_toArray, List.getElem?_toArray, List.getElem?_cons_zero, List.getElem?_cons_succ, Option.bind_some, Option.bind_none, List.append_eq, List.cons_append, List.nil_append]
 have had : addD d f s = (if 1048576 < s.length then (7, d) else appendD d f (rec1 s)) := rfl
 by_cases hl : 1048576 < s.length
 ·rw [if_pos hl] at had
  rw [had]
  simp only
  rw [if_neg (by decide)]
  have e1 : (s.length : Int) > 1048576 := by omega
  refine runf @e1 ?_
  exact ends_ret (List.range 3) (by rfl) (lg_same ..) (by rfl) (by rfl) (by rfl)
 rw [if_neg hl] at had
 have e1 : ¬ ((s.length : Int) > 1048576) := by omega
 have hrl : (rec1 s).length ≤ 9223372036854775807 := by
  have h1 := num_le 8 s.length (by omega)
  have h2 := ck_len s
  simp only [rec1, List.length_append]
  omega
 refine runf @e1 ?_
 refine cp (record_c s hs) ?_
 refine run ?_
 refine c1 0 (d_append d f (rec1 s) hrl) ?_
 rw [← had]
 generalize addD d f s = q
 obtain ⟨en, d2⟩ := q
 try simp only
 by_cases hen : en = 0
 ·subst hen
  rw [if_pos rfl]
  have hft : fits (rows.length + 1) 16 = true := by apply fits_ok <;> omega
  have hln : (rows.map AV.st).length = rows.length := List.length_map _
  have f1 : (rows ++ [s]).map AV.st = rows.map .st ++ [.st s] := List.map_append ..
  have f2 : (rows ++ [s]).length = rows.length + 1 := by simp
  unfold LG
  simp only [f1, f2]
  refine runf (an @hft @hln) ?_
  exact ends_ret (List.range 3) (by rfl) (subOk_same 3 rfl rfl rfl) (by rfl) (by rfl) (by rfl)
 ·rw [if_neg hen]
  have e2 : (en == 0) = false := by simpa using hen
  refine runf @e2 ?_
  exact ends_ret (List.range 3) (by rfl) (lg_same ..) (by rfl) (by rfl) (by rfl)
theorem wflush_c (d : Dk) (f : Int) (rows : List By) : AC Try.prog 20 [.ptr 1 0] (LG d f rows) (.it .i64 (flushD d f).1) (LG (flushD d f).2 f rows) := by
 refine AC.enter2 [] [] Try.func20 rfl (by decide) (by decide) (Nat.le_of_ble_eq_true rfl) (by kernel_rfl) ?_; simp only [eraseC, eraseG, eraseO, List.map_cons, List.map_nil, List.map_toArray, List.getElem?_toArray, List.getElem?_cons_zero, List.getElem?_cons_succ, Option.bind_some, Option.bind_none, List.append_eq, List.cons_append, List.nil_append]
 refine run ?_
 refine c1 0 (d_flush d f) ?_
 refine run ?_
 exact ends_ret (List.range 3) (by rfl) (lg_same ..) (by rfl) (by rfl) (by rfl)
theorem wlen_c (d : Dk) (f : Int) (rows : List By) : AC Try.prog 22 [.ptr 1 0] (LG d f rows) (.it .i64 (rows.length : Int)) (LG d f rows) := by
 refine AC.enter2 [] [] Try.func22 rfl (by decide) (by decide) (Nat.le_of_ble_eq_true rfl) (by kernel_rfl) ?_; simp only [eraseC, eraseG, eraseO, List.map_cons, List.map_nil, List.map_toArray, List.getElem?_toArray, List.getElem?_cons_zero, List.getElem?_cons_succ, Option.bind_some, Option.bind_none, List.append_eq, List.cons_append, List.nil_append]
 refine run ?_
 exact ends_ret (List.range 3) (by rfl) (lg_same ..) (by rfl) (by rfl) (by rfl)
end Go.Proofs.Ytjicccjpooahoaa.Pe
