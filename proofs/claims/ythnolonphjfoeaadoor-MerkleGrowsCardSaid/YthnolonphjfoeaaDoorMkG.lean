/- Several texts in one. -/
import Derived.Test.YthnolonphjfoeaaDoorMkP
import Derived.Test.YthnolonphjfoeaaDoorMkF
/- The values of the law's small example. -/
namespace Go.Proofs.YthnolonphjfoeaaDoor.Mk
set_option linter.unusedSectionVars false
set_option linter.unusedVariables false
set_option linter.unusedSimpArgs false
open Go Sm
theorem val_ne : node (node (node (leaf [97]) (leaf [98])) (leaf [99])) (leaf [99]) ≠ node (leaf [97]) (leaf [98]) := by decide +kernel
theorem sp_3 : sp 3 = 2 := sp_of (j := 1) (by omega) (by omega)
theorem sp_2 : sp 2 = 1 := sp_of (j := 0) (by omega) (by omega)
theorem rt_1 (a : By) : rt [a] = a := rt_one (by simp)
theorem rt_2 (a b : By) : rt [a, b] = node a b := by
  rw [rt_two (by simp)]; simp [sp_2, rt_1]
theorem rt_3 (a b c : By) : rt [a, b, c] = node (node a b) c := by
  rw [rt_two (by simp)]; simp [sp_3, rt_1, rt_2]
theorem path_3 (a b c : By) : path [a, b, c] 2 = [node a b] := by
  rw [path_two (by simp)]; simp [sp_3, rt_2, path_one]
theorem link_3 (a b c : By) : link [a, b, c] 2 true = [c] := by
  rw [link_two (by omega) (by simp)]
  have := link_all [a, b] true
  simp only [List.length_cons, List.length_nil, Nat.zero_add, Nat.reduceAdd] at this
  simp [sp_3, rt_1, this]
end Go.Proofs.YthnolonphjfoeaaDoor.Mk
/- The law's small example, and the bounds it sets. -/
namespace Go.Proofs.YthnolonphjfoeaaDoor.Pe
set_option linter.unusedSectionVars false
set_option linter.unusedVariables false
set_option linter.unusedSimpArgs false
open Go Sm Mk
set_option maxRecDepth 100000
theorem small_c : AC Tryd.prog 9 [] [] (.bo true) [] := by
  refine AC.enter [11, 27, 13, 14, 15, 17, 21, 22] [] Tryd.func9 rfl (by decide) (by decide) (Nat.le_of_ble_eq_true rfl) (by kernel_rfl) ?_; simp only [eraseC, eraseO, List.map_cons, List.map_nil, List.map_toArray, List.getElem?_toArray, List.getElem?_cons_zero, List.getElem?_cons_succ, Option.bind_some, Option.bind_none]
  (try simp only [AWs_eq, ARgs_eq, AOps_eq, iteP_true, iteP_false]); (try simp -implicitDefEqProofs (disch := (first | omega | (simp only [List.length_append, List.length_cons, List.length_map, List.length_nil, List.length_take, List.length_drop]; omega))) only [↓zpre, zpost, cst1, ↓reduceIte, Nat.reduceEqDiff, Nat.reduceAdd, Nat.reduceLT, Nat.reduceLeDiff, Nat.reduceMul, Nat.reduceSub, Int.reduceToNat, Int.reduceAdd, Int.reduceSub, Int.reduceMul, Int.reduceNeg, Int.reduceLE, Int.reduceLT, Int.reduceEq, Int.reduceBEq, Int.reduceBNe, Nat.reduceBEq, Nat.reduceBNe, aBin, aInt, aStr, aUn, aConv, aNil, aFldAddr, aFld, aIdxAddr, aIdx, aBui, aLoad, aStore, aLits, aLit, aMake, aBytes, aApp, srcOf, aSlice, aBound, modeCut, apart, aSet, aFill, aval, aGd, ACall, AV.wk, AV.wk2, AV.wk1, AV.cells, AV.solid, AV.ro, AV.ro1, ← List.map_take, ← List.map_drop, reduceCtorEq, tf0, tf1, tf2, tf3, tf4, tf5, tf6, tf7, tf8])
  refine call_pure (leaf_c [97] (by decide)) (by rfl) (by rfl) (by rfl) ?_
  (try simp only [AWs_eq, ARgs_eq, AOps_eq, iteP_true, iteP_false]); (try simp -implicitDefEqProofs (disch := (first | omega | (simp only [List.length_append, List.length_cons, List.length_map, List.length_nil, List.length_take, List.length_drop]; omega))) only [↓zpre, zpost, cst1, ↓reduceIte, Nat.reduceEqDiff, Nat.reduceAdd, Nat.reduceLT, Nat.reduceLeDiff, Nat.reduceMul, Nat.reduceSub, Int.reduceToNat, Int.reduceAdd, Int.reduceSub, Int.reduceMul, Int.reduceNeg, Int.reduceLE, Int.reduceLT, Int.reduceEq, Int.reduceBEq, Int.reduceBNe, Nat.reduceBEq, Nat.reduceBNe, aBin, aInt, aStr, aUn, aConv, aNil, aFldAddr, aFld, aIdxAddr, aIdx, aBui, aLoad, aStore, aLits, aLit, aMake, aBytes, aApp, srcOf, aSlice, aBound, modeCut, apart, aSet, aFill, aval, aGd, ACall, AV.wk, AV.wk2, AV.wk1, AV.cells, AV.solid, AV.ro, AV.ro1, ← List.map_take, ← List.map_drop, reduceCtorEq, tf0, tf1, tf2, tf3, tf4, tf5, tf6, tf7, tf8])
  refine call_pure (leaf_c [98] (by decide)) (by rfl) (by rfl) (by rfl) ?_
  (try simp only [AWs_eq, ARgs_eq, AOps_eq, iteP_true, iteP_false]); (try simp -implicitDefEqProofs (disch := (first | omega | (simp only [List.length_append, List.length_cons, List.length_map, List.length_nil, List.length_take, List.length_drop]; omega))) only [↓zpre, zpost, cst1, ↓reduceIte, Nat.reduceEqDiff, Nat.reduceAdd, Nat.reduceLT, Nat.reduceLeDiff, Nat.reduceMul, Nat.reduceSub, Int.reduceToNat, Int.reduceAdd, Int.reduceSub, Int.reduceMul, Int.reduceNeg, Int.reduceLE, Int.reduceLT, Int.reduceEq, Int.reduceBEq, Int.reduceBNe, Nat.reduceBEq, Nat.reduceBNe, aBin, aInt, aStr, aUn, aConv, aNil, aFldAddr, aFld, aIdxAddr, aIdx, aBui, aLoad, aStore, aLits, aLit, aMake, aBytes, aApp, srcOf, aSlice, aBound, modeCut, apart, aSet, aFill, aval, aGd, ACall, AV.wk, AV.wk2, AV.wk1, AV.cells, AV.solid, AV.ro, AV.ro1, ← List.map_take, ← List.map_drop, reduceCtorEq, tf0, tf1, tf2, tf3, tf4, tf5, tf6, tf7, tf8])
  refine call_pure (leaf_c [99] (by decide)) (by rfl) (by rfl) (by rfl) ?_
  have hne := val_ne
  have ha : (leaf [97]).length = 32 := sha_len _
  have hb : (leaf [98]).length = 32 := sha_len _
  have hc : (leaf [99]).length = 32 := sha_len _
  have hsa := sha_c [0, 97] (by decide)
  rw [show sha [0, 97] = leaf [97] from rfl] at hsa
  generalize leaf [97] = a at *
  generalize leaf [98] = b at *
  generalize leaf [99] = c at *
  have hab : (node a b).length = 32 := node_len a b
  have hr : root [a, b, c] = node (node a b) c := by rw [root_rt (by simp), rt_3]
  have hrl : (node (node a b) c).length = 32 := node_len _ c
  have hall : ∀ x ∈ [a, b, c], x.length ≤ 1000000 := by
    intro x hx; simp at hx; rcases hx with rfl | rfl | rfl <;> omega
  have hp := path_c [a, b, c] 2 (by simp) (by simp) hall
  rw [path_3] at hp
  have hl := link_c [a, b, c] 2 (by simp) (by simp) hall
  rw [if_neg (by omega), link_3] at hl
  have hro := root_c [a, b, c] (by simp) hall
  rw [hr] at hro
  have hn1 := sha_c (1 :: (a ++ b)) (by simp; omega)
  rw [show sha (1 :: (a ++ b)) = node a b from rfl] at hn1
  have hn2 := sha_c (1 :: (node a b ++ c)) (by simp; omega)
  rw [show sha (1 :: (node a b ++ c)) = node (node a b) c from rfl] at hn2
  have hr0 := root_c [] (by simp) (by simp)
  rw [show root [] = sha [] from rfl] at hr0
  have hs0 := sha_c [] (by simp)
  have hi1 := includes_c [node a b] 2 3 c (node (node a b) c) (by omega) (by omega) (by omega) (by simp) (by omega) (by simp [hab])
  have hi2 := includes_c [node a b] 1 3 c (node (node a b) c) (by omega) (by omega) (by omega) (by simp) (by omega) (by simp [hab])
  have he1 := extends_c [c] 2 3 (node a b) (node (node a b) c) (by omega) (by simp) (by simp [hc])
  have he2 := extends_c [c] 2 3 (node (node a b) c) (node a b) (by omega) (by simp) (by simp [hc])
  have hs1 := rsame_c [node a b] [node a b] (by simp) (by simp)
  have hs2 := rsame_c [c] [c] (by simp) (by simp)
  have v1 : (decide ((0 : Int) ≤ 2) && decide ((2 : Int) < 3) && ((c.length : Int) == 32) && ([node a b].all fun s => (s.length : Int) == 32) && (flw [node a b].reverse (2 : Int).toNat (3 : Int).toNat c).2 && (flw [node a b].reverse (2 : Int).toNat (3 : Int).toNat c).1 == node (node a b) c) = true := by
    simp [flw, hc, hab, sp_3]
  have v2 : (decide ((0 : Int) ≤ 1) && decide ((1 : Int) < 3) && ((c.length : Int) == 32) && ([node a b].all fun s => (s.length : Int) == 32) && (flw [node a b].reverse (1 : Int).toNat (3 : Int).toNat c).2 && (flw [node a b].reverse (1 : Int).toNat (3 : Int).toNat c).1 == node (node a b) c) = false := by
    simp [flw, hc, hab, sp_3]
  have v3 : extB 2 3 (node a b) (node (node a b) c) [c] = true := by
    simp [extB, roots, hc, hab, hrl, sp_3]
  have v4 : extB 2 3 (node (node a b) c) (node a b) [c] = false := by
    simp [extB, roots, hc, hab, hrl, sp_3, hne]
  rw [v1] at hi1
  rw [v2] at hi2
  rw [v3] at he1
  rw [v4] at he2
  rw [decide_eq_true rfl] at hs1 hs2
  have hpre : (1 :: a ++ b : By) = 1 :: (a ++ b) := rfl
  have hpre2 : (1 :: node a b ++ c : By) = 1 :: (node a b ++ c) := rfl
  (try simp only [AWs_eq, ARgs_eq, AOps_eq, iteP_true, iteP_false]); (try simp -implicitDefEqProofs (disch := (first | omega | (simp only [List.length_append, List.length_cons, List.length_map, List.length_nil, List.length_take, List.length_drop]; omega))) only [↓zpre, zpost, cst1, ↓reduceIte, Nat.reduceEqDiff, Nat.reduceAdd, Nat.reduceLT, Nat.reduceLeDiff, Nat.reduceMul, Nat.reduceSub, Int.reduceToNat, Int.reduceAdd, Int.reduceSub, Int.reduceMul, Int.reduceNeg, Int.reduceLE, Int.reduceLT, Int.reduceEq, Int.reduceBEq, Int.reduceBNe, Nat.reduceBEq, Nat.reduceBNe, aBin, aInt, aStr, aUn, aConv, aNil, aFldAddr, aFld, aIdxAddr, aIdx, aBui, aLoad, aStore, aLits, aLit, aMake, aBytes, aApp, srcOf, aSlice, aBound, modeCut, apart, aSet, aFill, aval, aGd, ACall, AV.wk, AV.wk2, AV.wk1, AV.cells, AV.solid, AV.ro, AV.ro1, ← List.map_take, ← List.map_drop, reduceCtorEq, tf0, tf1, tf2, tf3, tf4, tf5, tf6, tf7, tf8])
  refine call_pure hn1 (by rfl) (by rfl) (by rfl) ?_
  generalize node a b = ab at *
  generalize node ab c = rr at *
  (try simp only [AWs_eq, ARgs_eq, AOps_eq, iteP_true, iteP_false]); (try simp -implicitDefEqProofs (disch := (first | omega | (simp only [List.length_append, List.length_cons, List.length_map, List.length_nil, List.length_take, List.length_drop]; omega))) only [↓zpre, zpost, cst1, ↓reduceIte, Nat.reduceEqDiff, Nat.reduceAdd, Nat.reduceLT, Nat.reduceLeDiff, Nat.reduceMul, Nat.reduceSub, Int.reduceToNat, Int.reduceAdd, Int.reduceSub, Int.reduceMul, Int.reduceNeg, Int.reduceLE, Int.reduceLT, Int.reduceEq, Int.reduceBEq, Int.reduceBNe, Nat.reduceBEq, Nat.reduceBNe, aBin, aInt, aStr, aUn, aConv, aNil, aFldAddr, aFld, aIdxAddr, aIdx, aBui, aLoad, aStore, aLits, aLit, aMake, aBytes, aApp, srcOf, aSlice, aBound, modeCut, apart, aSet, aFill, aval, aGd, ACall, AV.wk, AV.wk2, AV.wk1, AV.cells, AV.solid, AV.ro, AV.ro1, ← List.map_take, ← List.map_drop, reduceCtorEq, tf0, tf1, tf2, tf3, tf4, tf5, tf6, tf7, tf8])
  refine call_pure hp (by rfl) (by rfl) (by rfl) ?_
  (try simp only [AWs_eq, ARgs_eq, AOps_eq, iteP_true, iteP_false]); (try simp -implicitDefEqProofs (disch := (first | omega | (simp only [List.length_append, List.length_cons, List.length_map, List.length_nil, List.length_take, List.length_drop]; omega))) only [↓zpre, zpost, cst1, ↓reduceIte, Nat.reduceEqDiff, Nat.reduceAdd, Nat.reduceLT, Nat.reduceLeDiff, Nat.reduceMul, Nat.reduceSub, Int.reduceToNat, Int.reduceAdd, Int.reduceSub, Int.reduceMul, Int.reduceNeg, Int.reduceLE, Int.reduceLT, Int.reduceEq, Int.reduceBEq, Int.reduceBNe, Nat.reduceBEq, Nat.reduceBNe, aBin, aInt, aStr, aUn, aConv, aNil, aFldAddr, aFld, aIdxAddr, aIdx, aBui, aLoad, aStore, aLits, aLit, aMake, aBytes, aApp, srcOf, aSlice, aBound, modeCut, apart, aSet, aFill, aval, aGd, ACall, AV.wk, AV.wk2, AV.wk1, AV.cells, AV.solid, AV.ro, AV.ro1, ← List.map_take, ← List.map_drop, reduceCtorEq, tf0, tf1, tf2, tf3, tf4, tf5, tf6, tf7, tf8])
  refine call_pure hl (by rfl) (by rfl) (by rfl) ?_
  (try simp only [AWs_eq, ARgs_eq, AOps_eq, iteP_true, iteP_false]); (try simp -implicitDefEqProofs (disch := (first | omega | (simp only [List.length_append, List.length_cons, List.length_map, List.length_nil, List.length_take, List.length_drop]; omega))) only [↓zpre, zpost, cst1, ↓reduceIte, Nat.reduceEqDiff, Nat.reduceAdd, Nat.reduceLT, Nat.reduceLeDiff, Nat.reduceMul, Nat.reduceSub, Int.reduceToNat, Int.reduceAdd, Int.reduceSub, Int.reduceMul, Int.reduceNeg, Int.reduceLE, Int.reduceLT, Int.reduceEq, Int.reduceBEq, Int.reduceBNe, Nat.reduceBEq, Nat.reduceBNe, aBin, aInt, aStr, aUn, aConv, aNil, aFldAddr, aFld, aIdxAddr, aIdx, aBui, aLoad, aStore, aLits, aLit, aMake, aBytes, aApp, srcOf, aSlice, aBound, modeCut, apart, aSet, aFill, aval, aGd, ACall, AV.wk, AV.wk2, AV.wk1, AV.cells, AV.solid, AV.ro, AV.ro1, ← List.map_take, ← List.map_drop, reduceCtorEq, tf0, tf1, tf2, tf3, tf4, tf5, tf6, tf7, tf8])
  refine call_pure hro (by rfl) (by rfl) (by rfl) ?_
  (try simp only [AWs_eq, ARgs_eq, AOps_eq, iteP_true, iteP_false]); (try simp -implicitDefEqProofs (disch := (first | omega | (simp only [List.length_append, List.length_cons, List.length_map, List.length_nil, List.length_take, List.length_drop]; omega))) only [↓zpre, zpost, cst1, ↓reduceIte, Nat.reduceEqDiff, Nat.reduceAdd, Nat.reduceLT, Nat.reduceLeDiff, Nat.reduceMul, Nat.reduceSub, Int.reduceToNat, Int.reduceAdd, Int.reduceSub, Int.reduceMul, Int.reduceNeg, Int.reduceLE, Int.reduceLT, Int.reduceEq, Int.reduceBEq, Int.reduceBNe, Nat.reduceBEq, Nat.reduceBNe, aBin, aInt, aStr, aUn, aConv, aNil, aFldAddr, aFld, aIdxAddr, aIdx, aBui, aLoad, aStore, aLits, aLit, aMake, aBytes, aApp, srcOf, aSlice, aBound, modeCut, apart, aSet, aFill, aval, aGd, ACall, AV.wk, AV.wk2, AV.wk1, AV.cells, AV.solid, AV.ro, AV.ro1, ← List.map_take, ← List.map_drop, reduceCtorEq, tf0, tf1, tf2, tf3, tf4, tf5, tf6, tf7, tf8])
  refine call_pure hsa (by rfl) (by rfl) (by rfl) ?_
  (try simp only [AWs_eq, ARgs_eq, AOps_eq, iteP_true, iteP_false]); (try simp -implicitDefEqProofs (disch := (first | omega | (simp only [List.length_append, List.length_cons, List.length_map, List.length_nil, List.length_take, List.length_drop]; omega))) only [↓zpre, zpost, cst1, ↓reduceIte, Nat.reduceEqDiff, Nat.reduceAdd, Nat.reduceLT, Nat.reduceLeDiff, Nat.reduceMul, Nat.reduceSub, Int.reduceToNat, Int.reduceAdd, Int.reduceSub, Int.reduceMul, Int.reduceNeg, Int.reduceLE, Int.reduceLT, Int.reduceEq, Int.reduceBEq, Int.reduceBNe, Nat.reduceBEq, Nat.reduceBNe, aBin, aInt, aStr, aUn, aConv, aNil, aFldAddr, aFld, aIdxAddr, aIdx, aBui, aLoad, aStore, aLits, aLit, aMake, aBytes, aApp, srcOf, aSlice, aBound, modeCut, apart, aSet, aFill, aval, aGd, ACall, AV.wk, AV.wk2, AV.wk1, AV.cells, AV.solid, AV.ro, AV.ro1, ← List.map_take, ← List.map_drop, reduceCtorEq, tf0, tf1, tf2, tf3, tf4, tf5, tf6, tf7, tf8])
  refine call_pure hr0 (by rfl) (by rfl) (by rfl) ?_
  (try simp only [AWs_eq, ARgs_eq, AOps_eq, iteP_true, iteP_false]); (try simp -implicitDefEqProofs (disch := (first | omega | (simp only [List.length_append, List.length_cons, List.length_map, List.length_nil, List.length_take, List.length_drop]; omega))) only [↓zpre, zpost, cst1, ↓reduceIte, Nat.reduceEqDiff, Nat.reduceAdd, Nat.reduceLT, Nat.reduceLeDiff, Nat.reduceMul, Nat.reduceSub, Int.reduceToNat, Int.reduceAdd, Int.reduceSub, Int.reduceMul, Int.reduceNeg, Int.reduceLE, Int.reduceLT, Int.reduceEq, Int.reduceBEq, Int.reduceBNe, Nat.reduceBEq, Nat.reduceBNe, aBin, aInt, aStr, aUn, aConv, aNil, aFldAddr, aFld, aIdxAddr, aIdx, aBui, aLoad, aStore, aLits, aLit, aMake, aBytes, aApp, srcOf, aSlice, aBound, modeCut, apart, aSet, aFill, aval, aGd, ACall, AV.wk, AV.wk2, AV.wk1, AV.cells, AV.solid, AV.ro, AV.ro1, ← List.map_take, ← List.map_drop, reduceCtorEq, tf0, tf1, tf2, tf3, tf4, tf5, tf6, tf7, tf8])
  refine call_pure hs0 (by rfl) (by rfl) (by rfl) ?_
  (try simp only [AWs_eq, ARgs_eq, AOps_eq, iteP_true, iteP_false]); (try simp -implicitDefEqProofs (disch := (first | omega | (simp only [List.length_append, List.length_cons, List.length_map, List.length_nil, List.length_take, List.length_drop]; omega))) only [↓zpre, zpost, cst1, ↓reduceIte, Nat.reduceEqDiff, Nat.reduceAdd, Nat.reduceLT, Nat.reduceLeDiff, Nat.reduceMul, Nat.reduceSub, Int.reduceToNat, Int.reduceAdd, Int.reduceSub, Int.reduceMul, Int.reduceNeg, Int.reduceLE, Int.reduceLT, Int.reduceEq, Int.reduceBEq, Int.reduceBNe, Nat.reduceBEq, Nat.reduceBNe, aBin, aInt, aStr, aUn, aConv, aNil, aFldAddr, aFld, aIdxAddr, aIdx, aBui, aLoad, aStore, aLits, aLit, aMake, aBytes, aApp, srcOf, aSlice, aBound, modeCut, apart, aSet, aFill, aval, aGd, ACall, AV.wk, AV.wk2, AV.wk1, AV.cells, AV.solid, AV.ro, AV.ro1, ← List.map_take, ← List.map_drop, reduceCtorEq, tf0, tf1, tf2, tf3, tf4, tf5, tf6, tf7, tf8])
  refine call_pure hn2 (by rfl) (by rfl) (by rfl) ?_
  (try simp only [AWs_eq, ARgs_eq, AOps_eq, iteP_true, iteP_false]); (try simp -implicitDefEqProofs (disch := (first | omega | (simp only [List.length_append, List.length_cons, List.length_map, List.length_nil, List.length_take, List.length_drop]; omega))) only [↓zpre, zpost, cst1, ↓reduceIte, Nat.reduceEqDiff, Nat.reduceAdd, Nat.reduceLT, Nat.reduceLeDiff, Nat.reduceMul, Nat.reduceSub, Int.reduceToNat, Int.reduceAdd, Int.reduceSub, Int.reduceMul, Int.reduceNeg, Int.reduceLE, Int.reduceLT, Int.reduceEq, Int.reduceBEq, Int.reduceBNe, Nat.reduceBEq, Nat.reduceBNe, aBin, aInt, aStr, aUn, aConv, aNil, aFldAddr, aFld, aIdxAddr, aIdx, aBui, aLoad, aStore, aLits, aLit, aMake, aBytes, aApp, srcOf, aSlice, aBound, modeCut, apart, aSet, aFill, aval, aGd, ACall, AV.wk, AV.wk2, AV.wk1, AV.cells, AV.solid, AV.ro, AV.ro1, ← List.map_take, ← List.map_drop, reduceCtorEq, tf0, tf1, tf2, tf3, tf4, tf5, tf6, tf7, tf8])
  refine call_pure hs1 (by rfl) (by rfl) (by rfl) ?_
  (try simp only [AWs_eq, ARgs_eq, AOps_eq, iteP_true, iteP_false]); (try simp -implicitDefEqProofs (disch := (first | omega | (simp only [List.length_append, List.length_cons, List.length_map, List.length_nil, List.length_take, List.length_drop]; omega))) only [↓zpre, zpost, cst1, ↓reduceIte, Nat.reduceEqDiff, Nat.reduceAdd, Nat.reduceLT, Nat.reduceLeDiff, Nat.reduceMul, Nat.reduceSub, Int.reduceToNat, Int.reduceAdd, Int.reduceSub, Int.reduceMul, Int.reduceNeg, Int.reduceLE, Int.reduceLT, Int.reduceEq, Int.reduceBEq, Int.reduceBNe, Nat.reduceBEq, Nat.reduceBNe, aBin, aInt, aStr, aUn, aConv, aNil, aFldAddr, aFld, aIdxAddr, aIdx, aBui, aLoad, aStore, aLits, aLit, aMake, aBytes, aApp, srcOf, aSlice, aBound, modeCut, apart, aSet, aFill, aval, aGd, ACall, AV.wk, AV.wk2, AV.wk1, AV.cells, AV.solid, AV.ro, AV.ro1, ← List.map_take, ← List.map_drop, reduceCtorEq, tf0, tf1, tf2, tf3, tf4, tf5, tf6, tf7, tf8])
  refine call_pure hi1 (by rfl) (by rfl) (by rfl) ?_
  (try simp only [AWs_eq, ARgs_eq, AOps_eq, iteP_true, iteP_false]); (try simp -implicitDefEqProofs (disch := (first | omega | (simp only [List.length_append, List.length_cons, List.length_map, List.length_nil, List.length_take, List.length_drop]; omega))) only [↓zpre, zpost, cst1, ↓reduceIte, Nat.reduceEqDiff, Nat.reduceAdd, Nat.reduceLT, Nat.reduceLeDiff, Nat.reduceMul, Nat.reduceSub, Int.reduceToNat, Int.reduceAdd, Int.reduceSub, Int.reduceMul, Int.reduceNeg, Int.reduceLE, Int.reduceLT, Int.reduceEq, Int.reduceBEq, Int.reduceBNe, Nat.reduceBEq, Nat.reduceBNe, aBin, aInt, aStr, aUn, aConv, aNil, aFldAddr, aFld, aIdxAddr, aIdx, aBui, aLoad, aStore, aLits, aLit, aMake, aBytes, aApp, srcOf, aSlice, aBound, modeCut, apart, aSet, aFill, aval, aGd, ACall, AV.wk, AV.wk2, AV.wk1, AV.cells, AV.solid, AV.ro, AV.ro1, ← List.map_take, ← List.map_drop, reduceCtorEq, tf0, tf1, tf2, tf3, tf4, tf5, tf6, tf7, tf8])
  refine call_pure hi2 (by rfl) (by rfl) (by rfl) ?_
  (try simp only [AWs_eq, ARgs_eq, AOps_eq, iteP_true, iteP_false]); (try simp -implicitDefEqProofs (disch := (first | omega | (simp only [List.length_append, List.length_cons, List.length_map, List.length_nil, List.length_take, List.length_drop]; omega))) only [↓zpre, zpost, cst1, ↓reduceIte, Nat.reduceEqDiff, Nat.reduceAdd, Nat.reduceLT, Nat.reduceLeDiff, Nat.reduceMul, Nat.reduceSub, Int.reduceToNat, Int.reduceAdd, Int.reduceSub, Int.reduceMul, Int.reduceNeg, Int.reduceLE, Int.reduceLT, Int.reduceEq, Int.reduceBEq, Int.reduceBNe, Nat.reduceBEq, Nat.reduceBNe, aBin, aInt, aStr, aUn, aConv, aNil, aFldAddr, aFld, aIdxAddr, aIdx, aBui, aLoad, aStore, aLits, aLit, aMake, aBytes, aApp, srcOf, aSlice, aBound, modeCut, apart, aSet, aFill, aval, aGd, ACall, AV.wk, AV.wk2, AV.wk1, AV.cells, AV.solid, AV.ro, AV.ro1, ← List.map_take, ← List.map_drop, reduceCtorEq, tf0, tf1, tf2, tf3, tf4, tf5, tf6, tf7, tf8])
  refine call_pure hs2 (by rfl) (by rfl) (by rfl) ?_
  (try simp only [AWs_eq, ARgs_eq, AOps_eq, iteP_true, iteP_false]); (try simp -implicitDefEqProofs (disch := (first | omega | (simp only [List.length_append, List.length_cons, List.length_map, List.length_nil, List.length_take, List.length_drop]; omega))) only [↓zpre, zpost, cst1, ↓reduceIte, Nat.reduceEqDiff, Nat.reduceAdd, Nat.reduceLT, Nat.reduceLeDiff, Nat.reduceMul, Nat.reduceSub, Int.reduceToNat, Int.reduceAdd, Int.reduceSub, Int.reduceMul, Int.reduceNeg, Int.reduceLE, Int.reduceLT, Int.reduceEq, Int.reduceBEq, Int.reduceBNe, Nat.reduceBEq, Nat.reduceBNe, aBin, aInt, aStr, aUn, aConv, aNil, aFldAddr, aFld, aIdxAddr, aIdx, aBui, aLoad, aStore, aLits, aLit, aMake, aBytes, aApp, srcOf, aSlice, aBound, modeCut, apart, aSet, aFill, aval, aGd, ACall, AV.wk, AV.wk2, AV.wk1, AV.cells, AV.solid, AV.ro, AV.ro1, ← List.map_take, ← List.map_drop, reduceCtorEq, tf0, tf1, tf2, tf3, tf4, tf5, tf6, tf7, tf8])
  refine call_pure he1 (by rfl) (by rfl) (by rfl) ?_
  (try simp only [AWs_eq, ARgs_eq, AOps_eq, iteP_true, iteP_false]); (try simp -implicitDefEqProofs (disch := (first | omega | (simp only [List.length_append, List.length_cons, List.length_map, List.length_nil, List.length_take, List.length_drop]; omega))) only [↓zpre, zpost, cst1, ↓reduceIte, Nat.reduceEqDiff, Nat.reduceAdd, Nat.reduceLT, Nat.reduceLeDiff, Nat.reduceMul, Nat.reduceSub, Int.reduceToNat, Int.reduceAdd, Int.reduceSub, Int.reduceMul, Int.reduceNeg, Int.reduceLE, Int.reduceLT, Int.reduceEq, Int.reduceBEq, Int.reduceBNe, Nat.reduceBEq, Nat.reduceBNe, aBin, aInt, aStr, aUn, aConv, aNil, aFldAddr, aFld, aIdxAddr, aIdx, aBui, aLoad, aStore, aLits, aLit, aMake, aBytes, aApp, srcOf, aSlice, aBound, modeCut, apart, aSet, aFill, aval, aGd, ACall, AV.wk, AV.wk2, AV.wk1, AV.cells, AV.solid, AV.ro, AV.ro1, ← List.map_take, ← List.map_drop, reduceCtorEq, tf0, tf1, tf2, tf3, tf4, tf5, tf6, tf7, tf8])
  refine call_pure he2 (by rfl) (by rfl) (by rfl) ?_
  (try simp only [AWs_eq, ARgs_eq, AOps_eq, iteP_true, iteP_false]); (try simp -implicitDefEqProofs (disch := (first | omega | (simp only [List.length_append, List.length_cons, List.length_map, List.length_nil, List.length_take, List.length_drop]; omega))) only [↓zpre, zpost, cst1, ↓reduceIte, Nat.reduceEqDiff, Nat.reduceAdd, Nat.reduceLT, Nat.reduceLeDiff, Nat.reduceMul, Nat.reduceSub, Int.reduceToNat, Int.reduceAdd, Int.reduceSub, Int.reduceMul, Int.reduceNeg, Int.reduceLE, Int.reduceLT, Int.reduceEq, Int.reduceBEq, Int.reduceBNe, Nat.reduceBEq, Nat.reduceBNe, aBin, aInt, aStr, aUn, aConv, aNil, aFldAddr, aFld, aIdxAddr, aIdx, aBui, aLoad, aStore, aLits, aLit, aMake, aBytes, aApp, srcOf, aSlice, aBound, modeCut, apart, aSet, aFill, aval, aGd, ACall, AV.wk, AV.wk2, AV.wk1, AV.cells, AV.solid, AV.ro, AV.ro1, ← List.map_take, ← List.map_drop, reduceCtorEq, tf0, tf1, tf2, tf3, tf4, tf5, tf6, tf7, tf8])
  exact ends_ret0 (by rfl) (by rfl) (by rfl)
/-- at most 100 strings of at most 200 bytes -/
def shortB (l : List By) : Bool := decide (l.length ≤ 100) && l.all fun s => decide (s.length ≤ 200)
theorem short_c (l : List By) : AC Tryd.prog 10 [sls l] [] (.bo (shortB l)) [] := by
  refine AC.enter [] [] Tryd.func10 rfl (by decide) (by decide) (Nat.le_of_ble_eq_true rfl) (by kernel_rfl) ?_; simp only [eraseC, eraseO, List.map_cons, List.map_nil, List.map_toArray, List.getElem?_toArray, List.getElem?_cons_zero, List.getElem?_cons_succ, Option.bind_some, Option.bind_none]
  by_cases h0 : l.length ≤ 100
  rotate_left
  · rw [show shortB l = false from by simp [shortB]; omega]
    (try simp only [AWs_eq, ARgs_eq, AOps_eq, iteP_true, iteP_false]); (try simp -implicitDefEqProofs (disch := (first | omega | (simp only [List.length_append, List.length_cons, List.length_map, List.length_nil, List.length_take, List.length_drop]; omega))) only [↓zpre, zpost, cst1, ↓reduceIte, Nat.reduceEqDiff, Nat.reduceAdd, Nat.reduceLT, Nat.reduceLeDiff, Nat.reduceMul, Nat.reduceSub, Int.reduceToNat, Int.reduceAdd, Int.reduceSub, Int.reduceMul, Int.reduceNeg, Int.reduceLE, Int.reduceLT, Int.reduceEq, Int.reduceBEq, Int.reduceBNe, Nat.reduceBEq, Nat.reduceBNe, aBin, aInt, aStr, aUn, aConv, aNil, aFldAddr, aFld, aIdxAddr, aIdx, aBui, aLoad, aStore, aLits, aLit, aMake, aBytes, aApp, srcOf, aSlice, aBound, modeCut, apart, aSet, aFill, aval, aGd, ACall, AV.wk, AV.wk2, AV.wk1, AV.cells, AV.solid, AV.ro, AV.ro1, ← List.map_take, ← List.map_drop, reduceCtorEq, tf0, tf1, tf2, tf3, tf4, tf5, tf6, tf7, tf8])
    exact ends_ret0 (by rfl) (by rfl) (by rfl)
  rw [show shortB l = l.all fun s => decide (s.length ≤ 200) from by simp [shortB, h0]]
  (try simp only [AWs_eq, ARgs_eq, AOps_eq, iteP_true, iteP_false]); (try simp -implicitDefEqProofs (disch := (first | omega | (simp only [List.length_append, List.length_cons, List.length_map, List.length_nil, List.length_take, List.length_drop]; omega))) only [↓zpre, zpost, cst1, ↓reduceIte, Nat.reduceEqDiff, Nat.reduceAdd, Nat.reduceLT, Nat.reduceLeDiff, Nat.reduceMul, Nat.reduceSub, Int.reduceToNat, Int.reduceAdd, Int.reduceSub, Int.reduceMul, Int.reduceNeg, Int.reduceLE, Int.reduceLT, Int.reduceEq, Int.reduceBEq, Int.reduceBNe, Nat.reduceBEq, Nat.reduceBNe, aBin, aInt, aStr, aUn, aConv, aNil, aFldAddr, aFld, aIdxAddr, aIdx, aBui, aLoad, aStore, aLits, aLit, aMake, aBytes, aApp, srcOf, aSlice, aBound, modeCut, apart, aSet, aFill, aval, aGd, ACall, AV.wk, AV.wk2, AV.wk1, AV.cells, AV.solid, AV.ro, AV.ro1, ← List.map_take, ← List.map_drop, reduceCtorEq, tf0, tf1, tf2, tf3, tf4, tf5, tf6, tf7, tf8])
  refine loop_mk (fun m e S => S = [] ∧ e 0 = sls l ∧ ∃ k, e 3 = .it .i64 ((k : Nat) : Int) ∧ k ≤ l.length ∧ (l.take k).all (fun s => decide (s.length ≤ 200)) = true ∧ m = l.length - k) l.length ⟨rfl, (by first | rfl | (simp only [↓upd_apply, ↓put_some, ↓reduceIte, Nat.reduceEqDiff, ↓argEnv_zero, ↓argEnv_succ, *]; done)), 0, (by first | rfl | (simp only [↓upd_apply, ↓put_some, ↓reduceIte, Nat.reduceEqDiff, ↓argEnv_zero, ↓argEnv_succ, *]; done)), by omega, rfl, rfl⟩ ?_
  rintro m e S ⟨rfl, h1, k, h3, hk, hall, rfl⟩
  by_cases hlt : k < l.length
  · have ga : l[k]? = some l[k] := List.getElem?_eq_getElem hlt
    by_cases he : l[k].length ≤ 200
    · (try simp only [AWs_eq, ARgs_eq, AOps_eq, iteP_true, iteP_false]); (try simp -implicitDefEqProofs (disch := (first | omega | (simp only [List.length_append, List.length_cons, List.length_map, List.length_nil, List.length_take, List.length_drop]; omega))) only [↓zpre, zpost, cst1, ↓reduceIte, Nat.reduceEqDiff, Nat.reduceAdd, Nat.reduceLT, Nat.reduceLeDiff, Nat.reduceMul, Nat.reduceSub, Int.reduceToNat, Int.reduceAdd, Int.reduceSub, Int.reduceMul, Int.reduceNeg, Int.reduceLE, Int.reduceLT, Int.reduceEq, Int.reduceBEq, Int.reduceBNe, Nat.reduceBEq, Nat.reduceBNe, aBin, aInt, aStr, aUn, aConv, aNil, aFldAddr, aFld, aIdxAddr, aIdx, aBui, aLoad, aStore, aLits, aLit, aMake, aBytes, aApp, srcOf, aSlice, aBound, modeCut, apart, aSet, aFill, aval, aGd, ACall, AV.wk, AV.wk2, AV.wk1, AV.cells, AV.solid, AV.ro, AV.ro1, ← List.map_take, ← List.map_drop, reduceCtorEq, tf0, tf1, tf2, tf3, tf4, tf5, tf6, tf7, tf8, h1, h3, ga])
      exact round_mk (l.length - (k + 1)) (by omega) ⟨rfl, (by first | rfl | (simp only [↓upd_apply, ↓put_some, ↓reduceIte, Nat.reduceEqDiff, ↓argEnv_zero, ↓argEnv_succ, *]; done)), k + 1, (by first | rfl | (simp only [↓upd_apply, ↓put_some, ↓reduceIte, Nat.reduceEqDiff, ↓argEnv_zero, ↓argEnv_succ, *]; done)), by omega, by rw [List.take_succ_eq_append_getElem hlt, List.all_append, hall]; simpa using he, rfl⟩
    · have : (l.all fun s => decide (s.length ≤ 200)) = false := by
        rw [List.all_eq_false]
        exact ⟨l[k], List.getElem_mem hlt, by simpa using he⟩
      rw [this]
      (try simp only [AWs_eq, ARgs_eq, AOps_eq, iteP_true, iteP_false]); (try simp -implicitDefEqProofs (disch := (first | omega | (simp only [List.length_append, List.length_cons, List.length_map, List.length_nil, List.length_take, List.length_drop]; omega))) only [↓zpre, zpost, cst1, ↓reduceIte, Nat.reduceEqDiff, Nat.reduceAdd, Nat.reduceLT, Nat.reduceLeDiff, Nat.reduceMul, Nat.reduceSub, Int.reduceToNat, Int.reduceAdd, Int.reduceSub, Int.reduceMul, Int.reduceNeg, Int.reduceLE, Int.reduceLT, Int.reduceEq, Int.reduceBEq, Int.reduceBNe, Nat.reduceBEq, Nat.reduceBNe, aBin, aInt, aStr, aUn, aConv, aNil, aFldAddr, aFld, aIdxAddr, aIdx, aBui, aLoad, aStore, aLits, aLit, aMake, aBytes, aApp, srcOf, aSlice, aBound, modeCut, apart, aSet, aFill, aval, aGd, ACall, AV.wk, AV.wk2, AV.wk1, AV.cells, AV.solid, AV.ro, AV.ro1, ← List.map_take, ← List.map_drop, reduceCtorEq, tf0, tf1, tf2, tf3, tf4, tf5, tf6, tf7, tf8, h1, h3, ga])
      exact ends_ret0 (by rfl) (by rfl) (by rfl)
  · have hge : k = l.length := by omega
    rw [hge, List.take_length] at hall
    rw [hall]
    (try simp only [AWs_eq, ARgs_eq, AOps_eq, iteP_true, iteP_false]); (try simp -implicitDefEqProofs (disch := (first | omega | (simp only [List.length_append, List.length_cons, List.length_map, List.length_nil, List.length_take, List.length_drop]; omega))) only [↓zpre, zpost, cst1, ↓reduceIte, Nat.reduceEqDiff, Nat.reduceAdd, Nat.reduceLT, Nat.reduceLeDiff, Nat.reduceMul, Nat.reduceSub, Int.reduceToNat, Int.reduceAdd, Int.reduceSub, Int.reduceMul, Int.reduceNeg, Int.reduceLE, Int.reduceLT, Int.reduceEq, Int.reduceBEq, Int.reduceBNe, Nat.reduceBEq, Nat.reduceBNe, aBin, aInt, aStr, aUn, aConv, aNil, aFldAddr, aFld, aIdxAddr, aIdx, aBui, aLoad, aStore, aLits, aLit, aMake, aBytes, aApp, srcOf, aSlice, aBound, modeCut, apart, aSet, aFill, aval, aGd, ACall, AV.wk, AV.wk2, AV.wk1, AV.cells, AV.solid, AV.ro, AV.ro1, ← List.map_take, ← List.map_drop, reduceCtorEq, tf0, tf1, tf2, tf3, tf4, tf5, tf6, tf7, tf8, h1, h3])
    exact ends_ret0 (by rfl) (by rfl) (by rfl)
end Go.Proofs.YthnolonphjfoeaaDoor.Pe
