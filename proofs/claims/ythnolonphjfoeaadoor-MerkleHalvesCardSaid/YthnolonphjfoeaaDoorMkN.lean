/- The values of the law's small example. -/
import Derived.Test.YthnolonphjfoeaaDoorMkP
namespace Go.Proofs.YthnolonphjfoeaaDoor.Mk
set_option linter.unusedSectionVars false
set_option linter.unusedVariables false
set_option linter.unusedSimpArgs false
open Go Sm
theorem val_ne : node (node (node (leaf [97]) (leaf [98])) (leaf [99])) (leaf [99]) ≠ node (leaf [97]) (leaf [98]) := by decide +kernel
theorem sp_3 : sp 3 = 2 := sp_of (j := 1) (by omega) (by omega)
theorem sp_2 : sp 2 = 1 := sp_of (j := 0) (by omega) (by omega)
theorem rt_1 (a : By) : rt [a] = a := rt_one (by simp)
theorem rt_2 (a b : By) : rt [a, b] = node a b := by
  rw [rt_two (by simp)]; simp [sp_2, rt_1]
theorem rt_3 (a b c : By) : rt [a, b, c] = node (node a b) c := by
  rw [rt_two (by simp)]; simp [sp_3, rt_1, rt_2]
theorem path_3 (a b c : By) : path [a, b, c] 2 = [node a b] := by
  rw [path_two (by simp)]; simp [sp_3, rt_2, path_one]
theorem link_3 (a b c : By) : link [a, b, c] 2 true = [c] := by
  rw [link_two (by omega) (by simp)]
  have := link_all [a, b] true
  simp only [List.length_cons, List.length_nil, Nat.zero_add, Nat.reduceAdd] at this
  simp [sp_3, rt_1, this]
end Go.Proofs.YthnolonphjfoeaaDoor.Mk
