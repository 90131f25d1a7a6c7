/- Several texts in one, without what this claim does not use (tools/shake.py). -/
import Derived.Test.YtaphpbiaoofmkaaGreatDoorKl1
import Derived.Test.YtaphpbiaoofmkaaGreatDoorKl2
import Derived.Test.YtaphpbiaoofmkaaGreatDoorKl3
import Derived.Test.YtaphpbiaoofmkaaGreatDoorKl4
import Derived.Test.YtaphpbiaoofmkaaGreatDoorKl5
import Derived.Test.YtaphpbiaoofmkaaGreatDoorKl6
import Derived.Test.YtaphpbiaoofmkaaGreatDoorKl7
import Derived.Test.YtaphpbiaoofmkaaGreatDoorKl8
import Derived.Test.YtaphpbiaoofmkaaGreatDoorKl9
import Derived.Test.YtaphpbiaoofmkaaGreatDoorKl10
import Derived.Test.YtaphpbiaoofmkaaGreatDoorKl11
import Derived.Test.YtaphpbiaoofmkaaGreatDoorKl12
import Derived.Test.YtaphpbiaoofmkaaGreatDoorKl13
import Derived.Test.YtaphpbiaoofmkaaGreatDoorKl14
import Derived.Test.YtaphpbiaoofmkaaGreatDoorKl15
import Derived.Below
import Derived.ChangeSame
import Derived.Test.YtaphpbiaoofmkaaGreatDoorCards
import Derived.Test.YtaphpbiaoofmkaaGreatDoorTie
import Derived.WalkKit
import Derived.ProofKit
import Derived.OpenShut
import Derived.Deep.DeepHandedRow
import Derived.Lib.LaidTab
import Derived.Stop.LaidErr
import Derived.ShutString
set_option linter.unusedSectionVars false
set_option linter.unusedVariables false
set_option linter.unusedSimpArgs false
section
namespace Go.Proofs.YtaphpbiaoofmkaaGreatDoor.Pe
open Go Sm Mk
set_option maxRecDepth 100000
theorem climb_len : ∀ (p : List By) (i n : Nat) (x : By), x.length ≤ 1000000 → (climb p i n x).1.length ≤ 1000000 ∧ (climb p i n x).2.1.length ≤ p.length
 | [], i, n, x, h => by simp only [climb]; split <;> simp [h]
 | q :: r, i, n, x, h => by
  simp only [climb]; split
  ·exact ⟨h, by simp⟩
  ·split
   ·split
    ·have := climb_len r i (sp n) x h
     refine ⟨by rw [node_len]; omega, ?_⟩
     simp only [List.length_append, List.length_cons, List.length_nil]; omega
    ·simp
   ·split
    ·have := climb_len r (i - sp n) (n - sp n) x h
     refine ⟨by rw [node_len]; omega, ?_⟩
     simp only [List.length_append, List.length_cons, List.length_nil]; omega
    ·simp
theorem climb_c (p : List By) : ∀ (i n : Nat) (x : By), i < n → n ≤ 9223372036854775807 → p.length ≤ 1000000 → x.length ≤ 1000000 → (∀ y ∈ p, y.length ≤ 1000000) →
  AC Tryz.prog 80 [.st x, .it .i64 i, .it .i64 n, sls p.reverse] [] (.tup [.st (climb p i n x).1, .sl (.own 0) ((climb p i n x).2.1.map .st), .bo (climb p i n x).2.2]) [.buf (climb p i n x).2.1.length 9 1] := by
 induction p with
 | nil =>
  intro i n x hi hn hp hx hall
  refine AC.enter [178, 179, 180] [] Tryz.func80 rfl (by decide) (by decide) (Nat.le_of_ble_eq_true rfl) (by kernel_rfl) ?_; simp only [eraseC, eraseO, List.map_cons, List.map_nil, List.map_toArray, List.getElem?_toArray, List.getElem?_cons_zero, List.getElem?_cons_succ, Option.bind_some, Option.bind_none, List.append_eq, List.cons_append, List.nil_append]
  have : List.reverse ([] : List By) = [] := rfl
  rw [this]
  by_cases h1 : n = 1
  ·subst h1
   simp only [climb, if_pos]
   (try simp only [AWs_eq, ARgs_eq, AOps_eq, iteP_true, iteP_false]); (try simp -implicitDefEqProofs (disch := (first | omega | (simp only [List.length_append, List.length_cons, List.length_map, List.length_nil, List.length_take, List.length_drop]; omega))) only [↓zpre, zpost, cst1, ↓reduceIte, Nat.reduceEqDiff, Nat.reduceAdd, Nat.reduceLT, Nat.reduceLeDiff, Nat.reduceMul, Nat.reduceSub, Int.reduceToNat, Int.reduceAdd, Int.reduceSub, Int.reduceMul, Int.reduceNeg, Int.reduceLE, Int.reduceLT, Int.reduceEq, Int.reduceBEq, Int.reduceBNe, Nat.reduceBEq, Nat.reduceBNe, aBin, aEq, aEqF, aNilEq, aInt, aStr, aUn, aConv, aNil, aFldAddr, aFld, aIdxAddr, aIdx, aBui, aLoad, aStore, aLits, aLit, aMake, aMakeW, aMapSet, aLook, kfind, keq, kok, lookOut, aMk, aRange, aNext, aBytes, aApp, srcOf, aSlice, aBound, modeCut, apart, aFill, aval, aGd, ACall, AV.wk, AV.wk2, AV.wk1, AV.cells, AV.solid, AV.ro, AV.ro1, ← List.map_take, ← List.map_drop, reduceCtorEq, Option.isNone_some, Option.isSome_none, tf0, tf1, tf2, tf3, tf4, tf5, tf6, tf7, tf8, tf9, tf10, tf11, tf12, tf13, tf14, tf15, tf16, tf17, tf18, tf19, tf20, tf21, tf22, tf23, tf24, tf25, tf26, tf27, tf28, tf29])
   refine ends_retW _ _ (Weak.reserve _ 9 (es := []) (by rfl) 9 1) [0] (by rfl) (subOk_one 0 (by rfl) (by rfl)) (by rfl) (by rfl) (by rfl)
  ·simp only [climb, if_neg h1]
   (try simp only [AWs_eq, ARgs_eq, AOps_eq, iteP_true, iteP_false]); (try simp -implicitDefEqProofs (disch := (first | omega | (simp only [List.length_append, List.length_cons, List.length_map, List.length_nil, List.length_take, List.length_drop]; omega))) only [↓zpre, zpost, cst1, ↓reduceIte, Nat.reduceEqDiff, Nat.reduceAdd, Nat.reduceLT, Nat.reduceLeDiff, Nat.reduceMul, Nat.reduceSub, Int.reduceToNat, Int.reduceAdd, Int.reduceSub, Int.reduceMul, Int.reduceNeg, Int.reduceLE, Int.reduceLT, Int.reduceEq, Int.reduceBEq, Int.reduceBNe, Nat.reduceBEq, Nat.reduceBNe, aBin, aEq, aEqF, aNilEq, aInt, aStr, aUn, aConv, aNil, aFldAddr, aFld, aIdxAddr, aIdx, aBui, aLoad, aStore, aLits, aLit, aMake, aMakeW, aMapSet, aLook, kfind, keq, kok, lookOut, aMk, aRange, aNext, aBytes, aApp, srcOf, aSlice, aBound, modeCut, apart, aFill, aval, aGd, ACall, AV.wk, AV.wk2, AV.wk1, AV.cells, AV.solid, AV.ro, AV.ro1, ← List.map_take, ← List.map_drop, reduceCtorEq, Option.isNone_some, Option.isSome_none, tf0, tf1, tf2, tf3, tf4, tf5, tf6, tf7, tf8, tf9, tf10, tf11, tf12, tf13, tf14, tf15, tf16, tf17, tf18, tf19, tf20, tf21, tf22, tf23, tf24, tf25, tf26, tf27, tf28, tf29])
   refine ends_retW _ _ (Weak.reserve _ 9 (es := []) (by rfl) 9 1) [0] (by rfl) (subOk_one 0 (by rfl) (by rfl)) (by rfl) (by rfl) (by rfl)
 | cons q r ih =>
  intro i n x hi hn hp hx hall
  refine AC.enter [178, 179, 180] [] Tryz.func80 rfl (by decide) (by decide) (Nat.le_of_ble_eq_true rfl) (by kernel_rfl) ?_; simp only [eraseC, eraseO, List.map_cons, List.map_nil, List.map_toArray, List.getElem?_toArray, List.getElem?_cons_zero, List.getElem?_cons_succ, Option.bind_some, Option.bind_none, List.append_eq, List.cons_append, List.nil_append]
  have hrev : List.reverse (q :: r) = r.reverse ++ [q] := by simp
  rw [hrev]
  have hp' : r.length + 1 ≤ 1000000 := hp
  by_cases h1 : n = 1
  ·subst h1
   simp only [climb, if_pos]
   (try simp only [AWs_eq, ARgs_eq, AOps_eq, iteP_true, iteP_false]); (try simp -implicitDefEqProofs (disch := (first | omega | (simp only [List.length_append, List.length_cons, List.length_map, List.length_nil, List.length_take, List.length_drop]; omega))) only [↓zpre, zpost, cst1, ↓reduceIte, Nat.reduceEqDiff, Nat.reduceAdd, Nat.reduceLT, Nat.reduceLeDiff, Nat.reduceMul, Nat.reduceSub, Int.reduceToNat, Int.reduceAdd, Int.reduceSub, Int.reduceMul, Int.reduceNeg, Int.reduceLE, Int.reduceLT, Int.reduceEq, Int.reduceBEq, Int.reduceBNe, Nat.reduceBEq, Nat.reduceBNe, aBin, aEq, aEqF, aNilEq, aInt, aStr, aUn, aConv, aNil, aFldAddr, aFld, aIdxAddr, aIdx, aBui, aLoad, aStore, aLits, aLit, aMake, aMakeW, aMapSet, aLook, kfind, keq, kok, lookOut, aMk, aRange, aNext, aBytes, aApp, srcOf, aSlice, aBound, modeCut, apart, aFill, aval, aGd, ACall, AV.wk, AV.wk2, AV.wk1, AV.cells, AV.solid, AV.ro, AV.ro1, ← List.map_take, ← List.map_drop, reduceCtorEq, Option.isNone_some, Option.isSome_none, tf0, tf1, tf2, tf3, tf4, tf5, tf6, tf7, tf8, tf9, tf10, tf11, tf12, tf13, tf14, tf15, tf16, tf17, tf18, tf19, tf20, tf21, tf22, tf23, tf24, tf25, tf26, tf27, tf28, tf29, List.length_reverse])
   refine ends_retW _ _ (Weak.reserve _ 9 (es := []) (by rfl) 9 1) [0] (by rfl) (subOk_one 0 (by rfl) (by rfl)) (by rfl) (by rfl) (by rfl)
  ·have hl := rev_last r q
   have el : ((r.length + 1 : Nat) : Int) - 1 = (r.length : Int) := by omega
   have ht := rev_take r q
   have hall' : ∀ y ∈ r, y.length ≤ 1000000 := fun y hy => hall y (by simp [hy])
   have hq := hall q (by simp)
   (try simp only [AWs_eq, ARgs_eq, AOps_eq, iteP_true, iteP_false]); (try simp -implicitDefEqProofs (disch := (first | omega | (simp only [List.length_append, List.length_cons, List.length_map, List.length_nil, List.length_take, List.length_drop]; omega))) only [↓zpre, zpost, cst1, ↓reduceIte, Nat.reduceEqDiff, Nat.reduceAdd, Nat.reduceLT, Nat.reduceLeDiff, Nat.reduceMul, Nat.reduceSub, Int.reduceToNat, Int.reduceAdd, Int.reduceSub, Int.reduceMul, Int.reduceNeg, Int.reduceLE, Int.reduceLT, Int.reduceEq, Int.reduceBEq, Int.reduceBNe, Nat.reduceBEq, Nat.reduceBNe, aBin, aEq, aEqF, aNilEq, aInt, aStr, aUn, aConv, aNil, aFldAddr, aFld, aIdxAddr, aIdx, aBui, aLoad, aStore, aLits, aLit, aMake, aMakeW, aMapSet, aLook, kfind, keq, kok, lookOut, aMk, aRange, aNext, aBytes, aApp, srcOf, aSlice, aBound, modeCut, apart, aFill, aval, aGd, ACall, AV.wk, AV.wk2, AV.wk1, AV.cells, AV.solid, AV.ro, AV.ro1, ← List.map_take, ← List.map_drop, reduceCtorEq, Option.isNone_some, Option.isSome_none, tf0, tf1, tf2, tf3, tf4, tf5, tf6, tf7, tf8, tf9, tf10, tf11, tf12, tf13, tf14, tf15, tf16, tf17, tf18, tf19, tf20, tf21, tf22, tf23, tf24, tf25, tf26, tf27, tf28, tf29, List.length_reverse, el, hl, ht])
   refine call_pure (rsplit_c n (by omega) (by omega)) (by rfl) (by rfl) (by rfl) ?_
   have h3 := sp_lt (n := n) (by omega)
   have h4 := sp_pos n
   simp only [climb, if_neg h1]
   by_cases hs : i < sp n
   ·rw [if_pos hs]
    have hc := climb_len r i (sp n) x hx
    have hi' := ih i (sp n) x hs (by omega) (by omega) hx hall'
    generalize climb r i (sp n) x = C at *
    obtain ⟨a, L, ok⟩ := C
    simp only at hc hi' ⊢
    (try simp only [AWs_eq, ARgs_eq, AOps_eq, iteP_true, iteP_false]); (try simp -implicitDefEqProofs (disch := (first | omega | (simp only [List.length_append, List.length_cons, List.length_map, List.length_nil, List.length_take, List.length_drop]; omega))) only [↓zpre, zpost, cst1, ↓reduceIte, Nat.reduceEqDiff, Nat.reduceAdd, Nat.reduceLT, Nat.reduceLeDiff, Nat.reduceMul, Nat.reduceSub, Int.reduceToNat, Int.reduceAdd, Int.reduceSub, Int.reduceMul, Int.reduceNeg, Int.reduceLE, Int.reduceLT, Int.reduceEq, Int.reduceBEq, Int.reduceBNe, Nat.reduceBEq, Nat.reduceBNe, aBin, aEq, aEqF, aNilEq, aInt, aStr, aUn, aConv, aNil, aFldAddr, aFld, aIdxAddr, aIdx, aBui, aLoad, aStore, aLits, aLit, aMake, aMakeW, aMapSet, aLook, kfind, keq, kok, lookOut, aMk, aRange, aNext, aBytes, aApp, srcOf, aSlice, aBound, modeCut, apart, aFill, aval, aGd, ACall, AV.wk, AV.wk2, AV.wk1, AV.cells, AV.solid, AV.ro, AV.ro1, ← List.map_take, ← List.map_drop, reduceCtorEq, Option.isNone_some, Option.isSome_none, tf0, tf1, tf2, tf3, tf4, tf5, tf6, tf7, tf8, tf9, tf10, tf11, tf12, tf13, tf14, tf15, tf16, tf17, tf18, tf19, tf20, tf21, tf22, tf23, tf24, tf25, tf26, tf27, tf28, tf29, List.length_reverse, el, hl, ht])
    refine call_mk hi' ?_
    cases ok
    ·simp only [Bool.false_eq_true, if_false]
     (try simp only [AWs_eq, ARgs_eq, AOps_eq, iteP_true, iteP_false]); (try simp -implicitDefEqProofs (disch := (first | omega | (simp only [List.length_append, List.length_cons, List.length_map, List.length_nil, List.length_take, List.length_drop]; omega))) only [↓zpre, zpost, cst1, ↓reduceIte, Nat.reduceEqDiff, Nat.reduceAdd, Nat.reduceLT, Nat.reduceLeDiff, Nat.reduceMul, Nat.reduceSub, Int.reduceToNat, Int.reduceAdd, Int.reduceSub, Int.reduceMul, Int.reduceNeg, Int.reduceLE, Int.reduceLT, Int.reduceEq, Int.reduceBEq, Int.reduceBNe, Nat.reduceBEq, Nat.reduceBNe, aBin, aEq, aEqF, aNilEq, aInt, aStr, aUn, aConv, aNil, aFldAddr, aFld, aIdxAddr, aIdx, aBui, aLoad, aStore, aLits, aLit, aMake, aMakeW, aMapSet, aLook, kfind, keq, kok, lookOut, aMk, aRange, aNext, aBytes, aApp, srcOf, aSlice, aBound, modeCut, apart, aFill, aval, aGd, ACall, AV.wk, AV.wk2, AV.wk1, AV.cells, AV.solid, AV.ro, AV.ro1, ← List.map_take, ← List.map_drop, reduceCtorEq, Option.isNone_some, Option.isSome_none, tf0, tf1, tf2, tf3, tf4, tf5, tf6, tf7, tf8, tf9, tf10, tf11, tf12, tf13, tf14, tf15, tf16, tf17, tf18, tf19, tf20, tf21, tf22, tf23, tf24, tf25, tf26, tf27, tf28, tf29, List.length_reverse, el, hl, ht])
     refine ends_retW _ _ (Weak.reserve _ 9 (es := []) (by rfl) 9 1) [1] (by rfl) (subOk_one 1 (by rfl) (by rfl)) (by rfl) (by rfl) (by rfl)
    ·rw [if_pos rfl]
     (try simp only [AWs_eq, ARgs_eq, AOps_eq, iteP_true, iteP_false]); (try simp -implicitDefEqProofs (disch := (first | omega | (simp only [List.length_append, List.length_cons, List.length_map, List.length_nil, List.length_take, List.length_drop]; omega))) only [↓zpre, zpost, cst1, ↓reduceIte, Nat.reduceEqDiff, Nat.reduceAdd, Nat.reduceLT, Nat.reduceLeDiff, Nat.reduceMul, Nat.reduceSub, Int.reduceToNat, Int.reduceAdd, Int.reduceSub, Int.reduceMul, Int.reduceNeg, Int.reduceLE, Int.reduceLT, Int.reduceEq, Int.reduceBEq, Int.reduceBNe, Nat.reduceBEq, Nat.reduceBNe, aBin, aEq, aEqF, aNilEq, aInt, aStr, aUn, aConv, aNil, aFldAddr, aFld, aIdxAddr, aIdx, aBui, aLoad, aStore, aLits, aLit, aMake, aMakeW, aMapSet, aLook, kfind, keq, kok, lookOut, aMk, aRange, aNext, aBytes, aApp, srcOf, aSlice, aBound, modeCut, apart, aFill, aval, aGd, ACall, AV.wk, AV.wk2, AV.wk1, AV.cells, AV.solid, AV.ro, AV.ro1, ← List.map_take, ← List.map_drop, reduceCtorEq, Option.isNone_some, Option.isSome_none, tf0, tf1, tf2, tf3, tf4, tf5, tf6, tf7, tf8, tf9, tf10, tf11, tf12, tf13, tf14, tf15, tf16, tf17, tf18, tf19, tf20, tf21, tf22, tf23, tf24, tf25, tf26, tf27, tf28, tf29, List.length_reverse, el, hl, ht])
     refine call_pure (rnode_c a q hc.1 hq) (by rfl) (by rfl) (by rfl) ?_
     (try simp only [AWs_eq, ARgs_eq, AOps_eq, iteP_true, iteP_false]); (try simp -implicitDefEqProofs (disch := (first | omega | (simp only [List.length_append, List.length_cons, List.length_map, List.length_nil, List.length_take, List.length_drop]; omega))) only [↓zpre, zpost, cst1, ↓reduceIte, Nat.reduceEqDiff, Nat.reduceAdd, Nat.reduceLT, Nat.reduceLeDiff, Nat.reduceMul, Nat.reduceSub, Int.reduceToNat, Int.reduceAdd, Int.reduceSub, Int.reduceMul, Int.reduceNeg, Int.reduceLE, Int.reduceLT, Int.reduceEq, Int.reduceBEq, Int.reduceBNe, Nat.reduceBEq, Nat.reduceBNe, aBin, aEq, aEqF, aNilEq, aInt, aStr, aUn, aConv, aNil, aFldAddr, aFld, aIdxAddr, aIdx, aBui, aLoad, aStore, aLits, aLit, aMake, aMakeW, aMapSet, aLook, kfind, keq, kok, lookOut, aMk, aRange, aNext, aBytes, aApp, srcOf, aSlice, aBound, modeCut, apart, aFill, aval, aGd, ACall, AV.wk, AV.wk2, AV.wk1, AV.cells, AV.solid, AV.ro, AV.ro1, ← List.map_take, ← List.map_drop, reduceCtorEq, Option.isNone_some, Option.isSome_none, tf0, tf1, tf2, tf3, tf4, tf5, tf6, tf7, tf8, tf9, tf10, tf11, tf12, tf13, tf14, tf15, tf16, tf17, tf18, tf19, tf20, tf21, tf22, tf23, tf24, tf25, tf26, tf27, tf28, tf29, List.length_reverse, el, hl, ht])
     refine call_pure (rpre_c a q hc.1 hq) (by rfl) (by rfl) (by rfl) ?_
     (try simp only [AWs_eq, ARgs_eq, AOps_eq, iteP_true, iteP_false]); (try simp -implicitDefEqProofs (disch := (first | omega | (simp only [List.length_append, List.length_cons, List.length_map, List.length_nil, List.length_take, List.length_drop]; omega))) only [↓zpre, zpost, cst1, ↓reduceIte, Nat.reduceEqDiff, Nat.reduceAdd, Nat.reduceLT, Nat.reduceLeDiff, Nat.reduceMul, Nat.reduceSub, Int.reduceToNat, Int.reduceAdd, Int.reduceSub, Int.reduceMul, Int.reduceNeg, Int.reduceLE, Int.reduceLT, Int.reduceEq, Int.reduceBEq, Int.reduceBNe, Nat.reduceBEq, Nat.reduceBNe, aBin, aEq, aEqF, aNilEq, aInt, aStr, aUn, aConv, aNil, aFldAddr, aFld, aIdxAddr, aIdx, aBui, aLoad, aStore, aLits, aLit, aMake, aMakeW, aMapSet, aLook, kfind, keq, kok, lookOut, aMk, aRange, aNext, aBytes, aApp, srcOf, aSlice, aBound, modeCut, apart, aFill, aval, aGd, ACall, AV.wk, AV.wk2, AV.wk1, AV.cells, AV.solid, AV.ro, AV.ro1, ← List.map_take, ← List.map_drop, reduceCtorEq, Option.isNone_some, Option.isSome_none, tf0, tf1, tf2, tf3, tf4, tf5, tf6, tf7, tf8, tf9, tf10, tf11, tf12, tf13, tf14, tf15, tf16, tf17, tf18, tf19, tf20, tf21, tf22, tf23, tf24, tf25, tf26, tf27, tf28, tf29, List.length_reverse, el, hl, ht])
     exact ends_ret (κ := [0]) (by rfl) (subOk_one 0 (by rfl) (by simp [SObj.ren])) (by rfl) (by rfl) (by simp [resV, AV.ren, AV.r2, AV.r1, AV.r0, Mode.ren, idx, ↓upd_apply])
   ·rw [if_neg hs]
    have hc := climb_len r (i - sp n) (n - sp n) x hx
    have hi' := ih (i - sp n) (n - sp n) x (by omega) (by omega) (by omega) hx hall'
    generalize climb r (i - sp n) (n - sp n) x = C at *
    obtain ⟨a, L, ok⟩ := C
    simp only at hc hi' ⊢
    have e1 : (i : Int) - (sp n : Int) = ((i - sp n : Nat) : Int) := by omega
    have e2 : (n : Int) - (sp n : Int) = ((n - sp n : Nat) : Int) := by omega
    (try simp only [AWs_eq, ARgs_eq, AOps_eq, iteP_true, iteP_false]); (try simp -implicitDefEqProofs (disch := (first | omega | (simp only [List.length_append, List.length_cons, List.length_map, List.length_nil, List.length_take, List.length_drop]; omega))) only [↓zpre, zpost, cst1, ↓reduceIte, Nat.reduceEqDiff, Nat.reduceAdd, Nat.reduceLT, Nat.reduceLeDiff, Nat.reduceMul, Nat.reduceSub, Int.reduceToNat, Int.reduceAdd, Int.reduceSub, Int.reduceMul, Int.reduceNeg, Int.reduceLE, Int.reduceLT, Int.reduceEq, Int.reduceBEq, Int.reduceBNe, Nat.reduceBEq, Nat.reduceBNe, aBin, aEq, aEqF, aNilEq, aInt, aStr, aUn, aConv, aNil, aFldAddr, aFld, aIdxAddr, aIdx, aBui, aLoad, aStore, aLits, aLit, aMake, aMakeW, aMapSet, aLook, kfind, keq, kok, lookOut, aMk, aRange, aNext, aBytes, aApp, srcOf, aSlice, aBound, modeCut, apart, aFill, aval, aGd, ACall, AV.wk, AV.wk2, AV.wk1, AV.cells, AV.solid, AV.ro, AV.ro1, ← List.map_take, ← List.map_drop, reduceCtorEq, Option.isNone_some, Option.isSome_none, tf0, tf1, tf2, tf3, tf4, tf5, tf6, tf7, tf8, tf9, tf10, tf11, tf12, tf13, tf14, tf15, tf16, tf17, tf18, tf19, tf20, tf21, tf22, tf23, tf24, tf25, tf26, tf27, tf28, tf29, List.length_reverse, el, hl, ht, e1, e2])
    refine call_mk hi' ?_
    cases ok
    ·simp only [Bool.false_eq_true, if_false]
     (try simp only [AWs_eq, ARgs_eq, AOps_eq, iteP_true, iteP_false]); (try simp -implicitDefEqProofs (disch := (first | omega | (simp only [List.length_append, List.length_cons, List.length_map, List.length_nil, List.length_take, List.length_drop]; omega))) only [↓zpre, zpost, cst1, ↓reduceIte, Nat.reduceEqDiff, Nat.reduceAdd, Nat.reduceLT, Nat.reduceLeDiff, Nat.reduceMul, Nat.reduceSub, Int.reduceToNat, Int.reduceAdd, Int.reduceSub, Int.reduceMul, Int.reduceNeg, Int.reduceLE, Int.reduceLT, Int.reduceEq, Int.reduceBEq, Int.reduceBNe, Nat.reduceBEq, Nat.reduceBNe, aBin, aEq, aEqF, aNilEq, aInt, aStr, aUn, aConv, aNil, aFldAddr, aFld, aIdxAddr, aIdx, aBui, aLoad, aStore, aLits, aLit, aMake, aMakeW, aMapSet, aLook, kfind, keq, kok, lookOut, aMk, aRange, aNext, aBytes, aApp, srcOf, aSlice, aBound, modeCut, apart, aFill, aval, aGd, ACall, AV.wk, AV.wk2, AV.wk1, AV.cells, AV.solid, AV.ro, AV.ro1, ← List.map_take, ← List.map_drop, reduceCtorEq, Option.isNone_some, Option.isSome_none, tf0, tf1, tf2, tf3, tf4, tf5, tf6, tf7, tf8, tf9, tf10, tf11, tf12, tf13, tf14, tf15, tf16, tf17, tf18, tf19, tf20, tf21, tf22, tf23, tf24, tf25, tf26, tf27, tf28, tf29, List.length_reverse, el, hl, ht])
     refine ends_retW _ _ (Weak.reserve _ 9 (es := []) (by rfl) 9 1) [1] (by rfl) (subOk_one 1 (by rfl) (by rfl)) (by rfl) (by rfl) (by rfl)
    ·rw [if_pos rfl]
     (try simp only [AWs_eq, ARgs_eq, AOps_eq, iteP_true, iteP_false]); (try simp -implicitDefEqProofs (disch := (first | omega | (simp only [List.length_append, List.length_cons, List.length_map, List.length_nil, List.length_take, List.length_drop]; omega))) only [↓zpre, zpost, cst1, ↓reduceIte, Nat.reduceEqDiff, Nat.reduceAdd, Nat.reduceLT, Nat.reduceLeDiff, Nat.reduceMul, Nat.reduceSub, Int.reduceToNat, Int.reduceAdd, Int.reduceSub, Int.reduceMul, Int.reduceNeg, Int.reduceLE, Int.reduceLT, Int.reduceEq, Int.reduceBEq, Int.reduceBNe, Nat.reduceBEq, Nat.reduceBNe, aBin, aEq, aEqF, aNilEq, aInt, aStr, aUn, aConv, aNil, aFldAddr, aFld, aIdxAddr, aIdx, aBui, aLoad, aStore, aLits, aLit, aMake, aMakeW, aMapSet, aLook, kfind, keq, kok, lookOut, aMk, aRange, aNext, aBytes, aApp, srcOf, aSlice, aBound, modeCut, apart, aFill, aval, aGd, ACall, AV.wk, AV.wk2, AV.wk1, AV.cells, AV.solid, AV.ro, AV.ro1, ← List.map_take, ← List.map_drop, reduceCtorEq, Option.isNone_some, Option.isSome_none, tf0, tf1, tf2, tf3, tf4, tf5, tf6, tf7, tf8, tf9, tf10, tf11, tf12, tf13, tf14, tf15, tf16, tf17, tf18, tf19, tf20, tf21, tf22, tf23, tf24, tf25, tf26, tf27, tf28, tf29, List.length_reverse, el, hl, ht])
     refine call_pure (rnode_c q a hq hc.1) (by rfl) (by rfl) (by rfl) ?_
     (try simp only [AWs_eq, ARgs_eq, AOps_eq, iteP_true, iteP_false]); (try simp -implicitDefEqProofs (disch := (first | omega | (simp only [List.length_append, List.length_cons, List.length_map, List.length_nil, List.length_take, List.length_drop]; omega))) only [↓zpre, zpost, cst1, ↓reduceIte, Nat.reduceEqDiff, Nat.reduceAdd, Nat.reduceLT, Nat.reduceLeDiff, Nat.reduceMul, Nat.reduceSub, Int.reduceToNat, Int.reduceAdd, Int.reduceSub, Int.reduceMul, Int.reduceNeg, Int.reduceLE, Int.reduceLT, Int.reduceEq, Int.reduceBEq, Int.reduceBNe, Nat.reduceBEq, Nat.reduceBNe, aBin, aEq, aEqF, aNilEq, aInt, aStr, aUn, aConv, aNil, aFldAddr, aFld, aIdxAddr, aIdx, aBui, aLoad, aStore, aLits, aLit, aMake, aMakeW, aMapSet, aLook, kfind, keq, kok, lookOut, aMk, aRange, aNext, aBytes, aApp, srcOf, aSlice, aBound, modeCut, apart, aFill, aval, aGd, ACall, AV.wk, AV.wk2, AV.wk1, AV.cells, AV.solid, AV.ro, AV.ro1, ← List.map_take, ← List.map_drop, reduceCtorEq, Option.isNone_some, Option.isSome_none, tf0, tf1, tf2, tf3, tf4, tf5, tf6, tf7, tf8, tf9, tf10, tf11, tf12, tf13, tf14, tf15, tf16, tf17, tf18, tf19, tf20, tf21, tf22, tf23, tf24, tf25, tf26, tf27, tf28, tf29, List.length_reverse, el, hl, ht])
     refine call_pure (rpre_c q a hq hc.1) (by rfl) (by rfl) (by rfl) ?_
     (try simp only [AWs_eq, ARgs_eq, AOps_eq, iteP_true, iteP_false]); (try simp -implicitDefEqProofs (disch := (first | omega | (simp only [List.length_append, List.length_cons, List.length_map, List.length_nil, List.length_take, List.length_drop]; omega))) only [↓zpre, zpost, cst1, ↓reduceIte, Nat.reduceEqDiff, Nat.reduceAdd, Nat.reduceLT, Nat.reduceLeDiff, Nat.reduceMul, Nat.reduceSub, Int.reduceToNat, Int.reduceAdd, Int.reduceSub, Int.reduceMul, Int.reduceNeg, Int.reduceLE, Int.reduceLT, Int.reduceEq, Int.reduceBEq, Int.reduceBNe, Nat.reduceBEq, Nat.reduceBNe, aBin, aEq, aEqF, aNilEq, aInt, aStr, aUn, aConv, aNil, aFldAddr, aFld, aIdxAddr, aIdx, aBui, aLoad, aStore, aLits, aLit, aMake, aMakeW, aMapSet, aLook, kfind, keq, kok, lookOut, aMk, aRange, aNext, aBytes, aApp, srcOf, aSlice, aBound, modeCut, apart, aFill, aval, aGd, ACall, AV.wk, AV.wk2, AV.wk1, AV.cells, AV.solid, AV.ro, AV.ro1, ← List.map_take, ← List.map_drop, reduceCtorEq, Option.isNone_some, Option.isSome_none, tf0, tf1, tf2, tf3, tf4, tf5, tf6, tf7, tf8, tf9, tf10, tf11, tf12, tf13, tf14, tf15, tf16, tf17, tf18, tf19, tf20, tf21, tf22, tf23, tf24, tf25, tf26, tf27, tf28, tf29, List.length_reverse, el, hl, ht])
     exact ends_ret (κ := [0]) (by rfl) (subOk_one 0 (by rfl) (by simp [SObj.ren])) (by rfl) (by rfl) (by simp [resV, AV.ren, AV.r2, AV.r1, AV.r0, Mode.ren, idx, ↓upd_apply])
end Go.Proofs.YtaphpbiaoofmkaaGreatDoor.Pe
end
section
namespace Go.Proofs.YtaphpbiaoofmkaaGreatDoor.Pe
open Go Go.RowKit Co Sg Ac It Sl
set_option maxRecDepth 100000
set_option maxHeartbeats 4000000
theorem shp_head {n us} (h : shp Tryz.prog 140737488351232 (n + 3) 73 us) : ∃ e : Head, us = (headV e).cells ∧ ((-9223372036854775808 ≤ e.server ∧ e.server ≤ 9223372036854775807) ∧ (-9223372036854775808 ≤ e.size ∧ e.size ≤ 9223372036854775807) ∧ (-9223372036854775808 ≤ e.time ∧ e.time ≤ 9223372036854775807) ∧ e.root.length ≤ 140737488351232 ∧ (-9223372036854775808 ≤ e.sig.e ∧ e.sig.e ≤ 9223372036854775807) ∧ (-9223372036854775808 ≤ e.sig.s ∧ e.sig.s ≤ 9223372036854775807)) := by
 have h := shp_struct Tryz.underlying73 h
 obtain ⟨a0, b0, rfl, h0, h⟩ := h
 obtain ⟨a1, b1, rfl, h1, h⟩ := h
 obtain ⟨a2, b2, rfl, h2, h⟩ := h
 obtain ⟨a3, b3, rfl, h3, h⟩ := h
 obtain ⟨a4, b4, rfl, h4, rfl⟩ := h
 obtain ⟨server, rfl, w0⟩ := shp_i64 Tryz.underlying3 h0
 obtain ⟨size, rfl, w1⟩ := shp_i64 Tryz.underlying3 h1
 obtain ⟨root, rfl, w2⟩ := shp_str Tryz.underlying9 h2
 obtain ⟨time, rfl, w3⟩ := shp_i64 Tryz.underlying3 h3
 obtain ⟨sg, rfl, w4, w5⟩ := shp_sigI h4
 exact ⟨⟨server, size, root, time, sg⟩, rfl, w0, w1, w3, w2, w4, w5⟩
end Go.Proofs.YtaphpbiaoofmkaaGreatDoor.Pe
end
section
namespace Go.Proofs.YtaphpbiaoofmkaaGreatDoor.Pe
open Go Go.RowKit Co Sg Ac It Sl
set_option maxRecDepth 100000
set_option maxHeartbeats 4000000
structure InRc (r : Receipt) : Prop where
 inr : InR r
 size : -9223372036854775808 ≤ r.head.size ∧ r.head.size ≤ 9223372036854775807
 root : r.head.root.length ≤ 140737488351232
theorem shp_rcpt {n us} (h : shp Tryz.prog 140737488351232 (n + 4) 75 us) : ∃ e : Receipt, us = (rcptV e).cells ∧ InRc e := by
 have h := shp_struct Tryz.underlying75 h
 obtain ⟨a0, b0, rfl, h0, h⟩ := h
 obtain ⟨a1, b1, rfl, h1, h⟩ := h
 obtain ⟨a2, b2, rfl, h2, rfl⟩ := h
 obtain ⟨frm, rfl, w0⟩ := shp_i64 Tryz.underlying3 h0
 obtain ⟨head, rfl, w1⟩ := shp_head h1
 obtain ⟨sg, rfl, w2, w3⟩ := shp_sigI h2
 exact ⟨⟨frm, head, sg⟩, rfl, ⟨w0, w2⟩, w1.2.1, w1.2.2.2.1⟩
def zGrave : Value := .agg #[.int .i64 0, .int .i64 0, .int .i64 0, .string ⟨#[]⟩, .int .i64 0, .string ⟨#[]⟩, .int .i64 0, .int .i64 0, .string ⟨#[]⟩, .string ⟨#[]⟩, .int .i64 0, .string ⟨#[]⟩, .slice none 0 0, .string ⟨#[]⟩, .string ⟨#[]⟩, .string ⟨#[]⟩, .string ⟨#[]⟩, .int .i64 0, .slice none 0 0, .int .i64 0, .int .i64 0, .int .i64 0, .int .i64 0, .string ⟨#[]⟩, .int .i64 0, .string ⟨#[]⟩, .int .i64 0, .int .i64 0, .int .i64 0, .int .i64 0, .int .i64 0, .int .i64 0, .int .i64 0, .string ⟨#[]⟩, .int .i64 0, .string ⟨#[]⟩, .int .i64 0, .int .i64 0, .int .i64 0, .int .i64 0, .int .i64 0, .int .i64 0, .string ⟨#[]⟩, .string ⟨#[]⟩, .string ⟨#[]⟩, .slice none 0 0, .int .i64 0, .int .i64 0, .int .i64 0, .int .i64 0, .int .i64 0, .slice none 0 0, .int .i64 0, .int .i64 0, .int .i64 0, .string ⟨#[]⟩, .int .i64 0, .int .i64 0, .int .i64 0, .int .i64 0, .int .i64 0]
structure InG (g : Grave) : Prop where
 at' : -9223372036854775808 ≤ g.at' ∧ g.at' ≤ 9223372036854775807
 entry : InE g.entry
 path : g.path.length ≤ 140737488351232
 rcpt : InRc g.rcpt
theorem shp_grave {n us} (h : shp Tryz.prog 140737488351232 (n + 8) 82 us) : ∃ g : Grave, us = (graveV g).cells ∧ InG g := by
 have h := shp_struct Tryz.underlying82 h
 obtain ⟨a0, b0, rfl, h0, h⟩ := h
 obtain ⟨a1, b1, rfl, h1, h⟩ := h
 obtain ⟨a2, b2, rfl, h2, h⟩ := h
 obtain ⟨a3, b3, rfl, h3, rfl⟩ := h
 obtain ⟨i, rfl, w0⟩ := shp_i64 Tryz.underlying3 h0
 obtain ⟨e, rfl, w1⟩ := shp_entryI h1
 obtain ⟨p, rfl, w2, w3⟩ := shp_strs h2
 obtain ⟨r, rfl, w4⟩ := shp_rcpt h3
 exact ⟨⟨i, e, p, r⟩, by simp [AV.cells], w0, w1, w2, w4⟩
end Go.Proofs.YtaphpbiaoofmkaaGreatDoor.Pe
end
section
namespace Go.Proofs.YtaphpbiaoofmkaaGreatDoor.Pe
open Go Sm Mk
set_option maxRecDepth 100000
theorem inputs_len (k : Nat) : ∀ (l : List By), l.length ≤ k → (inputs l).length ≤ l.length - 1 := by
 induction k with
 | zero => intro l h; rw [inputs_one (by omega)]; simp
 | succ k ih =>
  intro l h
  by_cases h2 : 2 ≤ l.length
  ·have h3 := sp_lt h2
   have h4 := sp_pos l.length
   have ht : (l.take (sp l.length)).length = sp l.length := by simp; omega
   have hd : (l.drop (sp l.length)).length = l.length - sp l.length := List.length_drop
   rw [inputs_two h2]
   have a1 := ih (l.take (sp l.length)) (by omega)
   have a2 := ih (l.drop (sp l.length)) (by omega)
   simp only [List.length_append, List.length_cons, List.length_nil]
   omega
  ·rw [inputs_one (by omega)]; simp
theorem inputs_c (k : Nat) : ∀ (l : List By), l.length ≤ k → l.length ≤ 1000000 → (∀ x ∈ l, x.length ≤ 1000000) →
  AC Tryz.prog 82 [sls l] [] (.sl (.own 0) ((inputs l).map .st)) [.buf (inputs l).length 9 1] := by
 induction k with
 | zero =>
  intro l hk hl hx
  refine AC.enter [178, 182, 180] [] Tryz.func82 rfl (by decide) (by decide) (Nat.le_of_ble_eq_true rfl) (by kernel_rfl) ?_; simp only [eraseC, eraseO, List.map_cons, List.map_nil, List.map_toArray, List.getElem?_toArray, List.getElem?_cons_zero, List.getElem?_cons_succ, Option.bind_some, Option.bind_none, List.append_eq, List.cons_append, List.nil_append]
  rw [inputs_one (by omega)]
  (try simp only [AWs_eq, ARgs_eq, AOps_eq, iteP_true, iteP_false]); (try simp -implicitDefEqProofs (disch := (first | omega | (simp only [List.length_append, List.length_cons, List.length_map, List.length_nil, List.length_take, List.length_drop]; omega))) only [↓zpre, zpost, cst1, ↓reduceIte, Nat.reduceEqDiff, Nat.reduceAdd, Nat.reduceLT, Nat.reduceLeDiff, Nat.reduceMul, Nat.reduceSub, Int.reduceToNat, Int.reduceAdd, Int.reduceSub, Int.reduceMul, Int.reduceNeg, Int.reduceLE, Int.reduceLT, Int.reduceEq, Int.reduceBEq, Int.reduceBNe, Nat.reduceBEq, Nat.reduceBNe, aBin, aEq, aEqF, aNilEq, aInt, aStr, aUn, aConv, aNil, aFldAddr, aFld, aIdxAddr, aIdx, aBui, aLoad, aStore, aLits, aLit, aMake, aMakeW, aMapSet, aLook, kfind, keq, kok, lookOut, aMk, aRange, aNext, aBytes, aApp, srcOf, aSlice, aBound, modeCut, apart, aFill, aval, aGd, ACall, AV.wk, AV.wk2, AV.wk1, AV.cells, AV.solid, AV.ro, AV.ro1, ← List.map_take, ← List.map_drop, reduceCtorEq, Option.isNone_some, Option.isSome_none, tf0, tf1, tf2, tf3, tf4, tf5, tf6, tf7, tf8, tf9, tf10, tf11, tf12, tf13, tf14, tf15, tf16, tf17, tf18, tf19, tf20, tf21, tf22, tf23, tf24, tf25, tf26, tf27, tf28, tf29])
  refine ends_retW _ _ (Weak.reserve _ 2 (es := []) (by rfl) 9 1) [0] (by rfl) (subOk_one 0 (by rfl) (by rfl)) (by rfl) (by rfl) (by rfl)
 | succ k ih =>
  intro l hk hl hx
  refine AC.enter [178, 182, 180] [] Tryz.func82 rfl (by decide) (by decide) (Nat.le_of_ble_eq_true rfl) (by kernel_rfl) ?_; simp only [eraseC, eraseO, List.map_cons, List.map_nil, List.map_toArray, List.getElem?_toArray, List.getElem?_cons_zero, List.getElem?_cons_succ, Option.bind_some, Option.bind_none, List.append_eq, List.cons_append, List.nil_append]
  by_cases h2 : l.length < 2
  ·rw [inputs_one h2]
   (try simp only [AWs_eq, ARgs_eq, AOps_eq, iteP_true, iteP_false]); (try simp -implicitDefEqProofs (disch := (first | omega | (simp only [List.length_append, List.length_cons, List.length_map, List.length_nil, List.length_take, List.length_drop]; omega))) only [↓zpre, zpost, cst1, ↓reduceIte, Nat.reduceEqDiff, Nat.reduceAdd, Nat.reduceLT, Nat.reduceLeDiff, Nat.reduceMul, Nat.reduceSub, Int.reduceToNat, Int.reduceAdd, Int.reduceSub, Int.reduceMul, Int.reduceNeg, Int.reduceLE, Int.reduceLT, Int.reduceEq, Int.reduceBEq, Int.reduceBNe, Nat.reduceBEq, Nat.reduceBNe, aBin, aEq, aEqF, aNilEq, aInt, aStr, aUn, aConv, aNil, aFldAddr, aFld, aIdxAddr, aIdx, aBui, aLoad, aStore, aLits, aLit, aMake, aMakeW, aMapSet, aLook, kfind, keq, kok, lookOut, aMk, aRange, aNext, aBytes, aApp, srcOf, aSlice, aBound, modeCut, apart, aFill, aval, aGd, ACall, AV.wk, AV.wk2, AV.wk1, AV.cells, AV.solid, AV.ro, AV.ro1, ← List.map_take, ← List.map_drop, reduceCtorEq, Option.isNone_some, Option.isSome_none, tf0, tf1, tf2, tf3, tf4, tf5, tf6, tf7, tf8, tf9, tf10, tf11, tf12, tf13, tf14, tf15, tf16, tf17, tf18, tf19, tf20, tf21, tf22, tf23, tf24, tf25, tf26, tf27, tf28, tf29])
   refine ends_retW _ _ (Weak.reserve _ 2 (es := []) (by rfl) 9 1) [0] (by rfl) (subOk_one 0 (by rfl) (by rfl)) (by rfl) (by rfl) (by rfl)
  ·have h2 : 2 ≤ l.length := by omega
   have h3 := sp_lt h2
   have h4 := sp_pos l.length
   have ht : (List.take (sp l.length) l).length = sp l.length := by simp; omega
   have hd : (l.drop (sp l.length)).length = l.length - sp l.length := List.length_drop
   have hxt : ∀ x ∈ l.take (sp l.length), x.length ≤ 1000000 := fun x hx' => hx x (List.mem_of_mem_take hx')
   have hxd : ∀ x ∈ l.drop (sp l.length), x.length ≤ 1000000 := fun x hx' => hx x (List.mem_of_mem_drop hx')
   have f1 := rroot_c _ (l.take (sp l.length)) (Nat.le_refl _) (by omega) hxt
   have f2 := rroot_c _ (l.drop (sp l.length)) (Nat.le_refl _) (by omega) hxd
   rw [root_rt (by omega)] at f1 f2
   have a1 := inputs_len _ (l.take (sp l.length)) (Nat.le_refl _)
   have a2 := inputs_len _ (l.drop (sp l.length)) (Nat.le_refl _)
   have g1 := ih (l.take (sp l.length)) (by omega) (by omega) hxt
   have g2 := ih (l.drop (sp l.length)) (by omega) (by omega) hxd
   have hpp := rpre_c _ _ (rt_len hxt) (rt_len hxd)
   rw [inputs_two h2]
   generalize inputs (l.take (sp l.length)) = I1 at *
   generalize inputs (l.drop (sp l.length)) = I2 at *
   generalize rt (l.take (sp l.length)) = R1 at *
   generalize rt (l.drop (sp l.length)) = R2 at *
   have g2' : AC Tryz.prog 82 [sls (l.drop (sp l.length))] [.buf I1.length 9 1] (.sl (.own 1) (I2.map .st)) [.buf I1.length 9 1, .buf I2.length 9 1] := AC.fresh1 g2 (by rfl) (by rfl) (by rfl) [.buf I1.length 9 1]
   (try simp only [AWs_eq, ARgs_eq, AOps_eq, iteP_true, iteP_false]); (try simp -implicitDefEqProofs (disch := (first | omega | (simp only [List.length_append, List.length_cons, List.length_map, List.length_nil, List.length_take, List.length_drop]; omega))) only [↓zpre, zpost, cst1, ↓reduceIte, Nat.reduceEqDiff, Nat.reduceAdd, Nat.reduceLT, Nat.reduceLeDiff, Nat.reduceMul, Nat.reduceSub, Int.reduceToNat, Int.reduceAdd, Int.reduceSub, Int.reduceMul, Int.reduceNeg, Int.reduceLE, Int.reduceLT, Int.reduceEq, Int.reduceBEq, Int.reduceBNe, Nat.reduceBEq, Nat.reduceBNe, aBin, aEq, aEqF, aNilEq, aInt, aStr, aUn, aConv, aNil, aFldAddr, aFld, aIdxAddr, aIdx, aBui, aLoad, aStore, aLits, aLit, aMake, aMakeW, aMapSet, aLook, kfind, keq, kok, lookOut, aMk, aRange, aNext, aBytes, aApp, srcOf, aSlice, aBound, modeCut, apart, aFill, aval, aGd, ACall, AV.wk, AV.wk2, AV.wk1, AV.cells, AV.solid, AV.ro, AV.ro1, ← List.map_take, ← List.map_drop, reduceCtorEq, Option.isNone_some, Option.isSome_none, tf0, tf1, tf2, tf3, tf4, tf5, tf6, tf7, tf8, tf9, tf10, tf11, tf12, tf13, tf14, tf15, tf16, tf17, tf18, tf19, tf20, tf21, tf22, tf23, tf24, tf25, tf26, tf27, tf28, tf29])
   refine call_pure (rsplit_c l.length h2 (by omega)) (by rfl) (by rfl) (by rfl) ?_
   (try simp only [AWs_eq, ARgs_eq, AOps_eq, iteP_true, iteP_false]); (try simp -implicitDefEqProofs (disch := (first | omega | (simp only [List.length_append, List.length_cons, List.length_map, List.length_nil, List.length_take, List.length_drop]; omega))) only [↓zpre, zpost, cst1, ↓reduceIte, Nat.reduceEqDiff, Nat.reduceAdd, Nat.reduceLT, Nat.reduceLeDiff, Nat.reduceMul, Nat.reduceSub, Int.reduceToNat, Int.reduceAdd, Int.reduceSub, Int.reduceMul, Int.reduceNeg, Int.reduceLE, Int.reduceLT, Int.reduceEq, Int.reduceBEq, Int.reduceBNe, Nat.reduceBEq, Nat.reduceBNe, aBin, aEq, aEqF, aNilEq, aInt, aStr, aUn, aConv, aNil, aFldAddr, aFld, aIdxAddr, aIdx, aBui, aLoad, aStore, aLits, aLit, aMake, aMakeW, aMapSet, aLook, kfind, keq, kok, lookOut, aMk, aRange, aNext, aBytes, aApp, srcOf, aSlice, aBound, modeCut, apart, aFill, aval, aGd, ACall, AV.wk, AV.wk2, AV.wk1, AV.cells, AV.solid, AV.ro, AV.ro1, ← List.map_take, ← List.map_drop, reduceCtorEq, Option.isNone_some, Option.isSome_none, tf0, tf1, tf2, tf3, tf4, tf5, tf6, tf7, tf8, tf9, tf10, tf11, tf12, tf13, tf14, tf15, tf16, tf17, tf18, tf19, tf20, tf21, tf22, tf23, tf24, tf25, tf26, tf27, tf28, tf29, List.take_length])
   refine call_mk g1 ?_
   (try simp only [AWs_eq, ARgs_eq, AOps_eq, iteP_true, iteP_false]); (try simp -implicitDefEqProofs (disch := (first | omega | (simp only [List.length_append, List.length_cons, List.length_map, List.length_nil, List.length_take, List.length_drop]; omega))) only [↓zpre, zpost, cst1, ↓reduceIte, Nat.reduceEqDiff, Nat.reduceAdd, Nat.reduceLT, Nat.reduceLeDiff, Nat.reduceMul, Nat.reduceSub, Int.reduceToNat, Int.reduceAdd, Int.reduceSub, Int.reduceMul, Int.reduceNeg, Int.reduceLE, Int.reduceLT, Int.reduceEq, Int.reduceBEq, Int.reduceBNe, Nat.reduceBEq, Nat.reduceBNe, aBin, aEq, aEqF, aNilEq, aInt, aStr, aUn, aConv, aNil, aFldAddr, aFld, aIdxAddr, aIdx, aBui, aLoad, aStore, aLits, aLit, aMake, aMakeW, aMapSet, aLook, kfind, keq, kok, lookOut, aMk, aRange, aNext, aBytes, aApp, srcOf, aSlice, aBound, modeCut, apart, aFill, aval, aGd, ACall, AV.wk, AV.wk2, AV.wk1, AV.cells, AV.solid, AV.ro, AV.ro1, ← List.map_take, ← List.map_drop, reduceCtorEq, Option.isNone_some, Option.isSome_none, tf0, tf1, tf2, tf3, tf4, tf5, tf6, tf7, tf8, tf9, tf10, tf11, tf12, tf13, tf14, tf15, tf16, tf17, tf18, tf19, tf20, tf21, tf22, tf23, tf24, tf25, tf26, tf27, tf28, tf29, List.take_length])
   refine call_mk g2' ?_
   (try simp only [AWs_eq, ARgs_eq, AOps_eq, iteP_true, iteP_false]); (try simp -implicitDefEqProofs (disch := (first | omega | (simp only [List.length_append, List.length_cons, List.length_map, List.length_nil, List.length_take, List.length_drop]; omega))) only [↓zpre, zpost, cst1, ↓reduceIte, Nat.reduceEqDiff, Nat.reduceAdd, Nat.reduceLT, Nat.reduceLeDiff, Nat.reduceMul, Nat.reduceSub, Int.reduceToNat, Int.reduceAdd, Int.reduceSub, Int.reduceMul, Int.reduceNeg, Int.reduceLE, Int.reduceLT, Int.reduceEq, Int.reduceBEq, Int.reduceBNe, Nat.reduceBEq, Nat.reduceBNe, aBin, aEq, aEqF, aNilEq, aInt, aStr, aUn, aConv, aNil, aFldAddr, aFld, aIdxAddr, aIdx, aBui, aLoad, aStore, aLits, aLit, aMake, aMakeW, aMapSet, aLook, kfind, keq, kok, lookOut, aMk, aRange, aNext, aBytes, aApp, srcOf, aSlice, aBound, modeCut, apart, aFill, aval, aGd, ACall, AV.wk, AV.wk2, AV.wk1, AV.cells, AV.solid, AV.ro, AV.ro1, ← List.map_take, ← List.map_drop, reduceCtorEq, Option.isNone_some, Option.isSome_none, tf0, tf1, tf2, tf3, tf4, tf5, tf6, tf7, tf8, tf9, tf10, tf11, tf12, tf13, tf14, tf15, tf16, tf17, tf18, tf19, tf20, tf21, tf22, tf23, tf24, tf25, tf26, tf27, tf28, tf29, List.take_length])
   refine call_pure f1 (by rfl) (by rfl) (by rfl) ?_
   (try simp only [AWs_eq, ARgs_eq, AOps_eq, iteP_true, iteP_false]); (try simp -implicitDefEqProofs (disch := (first | omega | (simp only [List.length_append, List.length_cons, List.length_map, List.length_nil, List.length_take, List.length_drop]; omega))) only [↓zpre, zpost, cst1, ↓reduceIte, Nat.reduceEqDiff, Nat.reduceAdd, Nat.reduceLT, Nat.reduceLeDiff, Nat.reduceMul, Nat.reduceSub, Int.reduceToNat, Int.reduceAdd, Int.reduceSub, Int.reduceMul, Int.reduceNeg, Int.reduceLE, Int.reduceLT, Int.reduceEq, Int.reduceBEq, Int.reduceBNe, Nat.reduceBEq, Nat.reduceBNe, aBin, aEq, aEqF, aNilEq, aInt, aStr, aUn, aConv, aNil, aFldAddr, aFld, aIdxAddr, aIdx, aBui, aLoad, aStore, aLits, aLit, aMake, aMakeW, aMapSet, aLook, kfind, keq, kok, lookOut, aMk, aRange, aNext, aBytes, aApp, srcOf, aSlice, aBound, modeCut, apart, aFill, aval, aGd, ACall, AV.wk, AV.wk2, AV.wk1, AV.cells, AV.solid, AV.ro, AV.ro1, ← List.map_take, ← List.map_drop, reduceCtorEq, Option.isNone_some, Option.isSome_none, tf0, tf1, tf2, tf3, tf4, tf5, tf6, tf7, tf8, tf9, tf10, tf11, tf12, tf13, tf14, tf15, tf16, tf17, tf18, tf19, tf20, tf21, tf22, tf23, tf24, tf25, tf26, tf27, tf28, tf29, List.take_length])
   refine call_pure f2 (by rfl) (by rfl) (by rfl) ?_
   (try simp only [AWs_eq, ARgs_eq, AOps_eq, iteP_true, iteP_false]); (try simp -implicitDefEqProofs (disch := (first | omega | (simp only [List.length_append, List.length_cons, List.length_map, List.length_nil, List.length_take, List.length_drop]; omega))) only [↓zpre, zpost, cst1, ↓reduceIte, Nat.reduceEqDiff, Nat.reduceAdd, Nat.reduceLT, Nat.reduceLeDiff, Nat.reduceMul, Nat.reduceSub, Int.reduceToNat, Int.reduceAdd, Int.reduceSub, Int.reduceMul, Int.reduceNeg, Int.reduceLE, Int.reduceLT, Int.reduceEq, Int.reduceBEq, Int.reduceBNe, Nat.reduceBEq, Nat.reduceBNe, aBin, aEq, aEqF, aNilEq, aInt, aStr, aUn, aConv, aNil, aFldAddr, aFld, aIdxAddr, aIdx, aBui, aLoad, aStore, aLits, aLit, aMake, aMakeW, aMapSet, aLook, kfind, keq, kok, lookOut, aMk, aRange, aNext, aBytes, aApp, srcOf, aSlice, aBound, modeCut, apart, aFill, aval, aGd, ACall, AV.wk, AV.wk2, AV.wk1, AV.cells, AV.solid, AV.ro, AV.ro1, ← List.map_take, ← List.map_drop, reduceCtorEq, Option.isNone_some, Option.isSome_none, tf0, tf1, tf2, tf3, tf4, tf5, tf6, tf7, tf8, tf9, tf10, tf11, tf12, tf13, tf14, tf15, tf16, tf17, tf18, tf19, tf20, tf21, tf22, tf23, tf24, tf25, tf26, tf27, tf28, tf29])
   refine call_pure hpp (by rfl) (by rfl) (by rfl) ?_
   (try simp only [AWs_eq, ARgs_eq, AOps_eq, iteP_true, iteP_false]); (try simp -implicitDefEqProofs (disch := (first | omega | (simp only [List.length_append, List.length_cons, List.length_map, List.length_nil, List.length_take, List.length_drop]; omega))) only [↓zpre, zpost, cst1, ↓reduceIte, Nat.reduceEqDiff, Nat.reduceAdd, Nat.reduceLT, Nat.reduceLeDiff, Nat.reduceMul, Nat.reduceSub, Int.reduceToNat, Int.reduceAdd, Int.reduceSub, Int.reduceMul, Int.reduceNeg, Int.reduceLE, Int.reduceLT, Int.reduceEq, Int.reduceBEq, Int.reduceBNe, Nat.reduceBEq, Nat.reduceBNe, aBin, aEq, aEqF, aNilEq, aInt, aStr, aUn, aConv, aNil, aFldAddr, aFld, aIdxAddr, aIdx, aBui, aLoad, aStore, aLits, aLit, aMake, aMakeW, aMapSet, aLook, kfind, keq, kok, lookOut, aMk, aRange, aNext, aBytes, aApp, srcOf, aSlice, aBound, modeCut, apart, aFill, aval, aGd, ACall, AV.wk, AV.wk2, AV.wk1, AV.cells, AV.solid, AV.ro, AV.ro1, ← List.map_take, ← List.map_drop, reduceCtorEq, Option.isNone_some, Option.isSome_none, tf0, tf1, tf2, tf3, tf4, tf5, tf6, tf7, tf8, tf9, tf10, tf11, tf12, tf13, tf14, tf15, tf16, tf17, tf18, tf19, tf20, tf21, tf22, tf23, tf24, tf25, tf26, tf27, tf28, tf29])
   exact ends_ret (κ := [0]) (by rfl) (subOk_one 0 (by rfl) (by simp [SObj.ren])) (by rfl) (by rfl) (by simp [resV, AV.ren, AV.r2, AV.r1, AV.r0, Mode.ren, idx, ↓upd_apply])
noncomputable def clashB (l : List By) : Bool := @decide (Clash l) (Classical.propDecidable _)
theorem clashB_t {l : List By} (h : Clash l) : clashB l = true := @decide_eq_true _ (Classical.propDecidable _) h
theorem clashB_f {l : List By} (h : ¬ Clash l) : clashB l = false := @decide_eq_false _ (Classical.propDecidable _) h
theorem clash_c (l : List By) (hl : l.length ≤ 1000000) (hx : ∀ x ∈ l, x.length ≤ 1000000) : AC Tryz.prog 84 [sls l] [] (.bo (clashB l)) [] := by
 refine AC.enter [146] [] Tryz.func84 rfl (by decide) (by decide) (Nat.le_of_ble_eq_true rfl) (by kernel_rfl) ?_; simp only [eraseC, eraseO, List.map_cons, List.map_nil, List.map_toArray, List.getElem?_toArray, List.getElem?_cons_zero, List.getElem?_cons_succ, Option.bind_some, Option.bind_none, List.append_eq, List.cons_append, List.nil_append]
 (try simp only [AWs_eq, ARgs_eq, AOps_eq, iteP_true, iteP_false]); (try simp -implicitDefEqProofs (disch := (first | omega | (simp only [List.length_append, List.length_cons, List.length_map, List.length_nil, List.length_take, List.length_drop]; omega))) only [↓zpre, zpost, cst1, ↓reduceIte, Nat.reduceEqDiff, Nat.reduceAdd, Nat.reduceLT, Nat.reduceLeDiff, Nat.reduceMul, Nat.reduceSub, Int.reduceToNat, Int.reduceAdd, Int.reduceSub, Int.reduceMul, Int.reduceNeg, Int.reduceLE, Int.reduceLT, Int.reduceEq, Int.reduceBEq, Int.reduceBNe, Nat.reduceBEq, Nat.reduceBNe, aBin, aEq, aEqF, aNilEq, aInt, aStr, aUn, aConv, aNil, aFldAddr, aFld, aIdxAddr, aIdx, aBui, aLoad, aStore, aLits, aLit, aMake, aMakeW, aMapSet, aLook, kfind, keq, kok, lookOut, aMk, aRange, aNext, aBytes, aApp, srcOf, aSlice, aBound, modeCut, apart, aFill, aval, aGd, ACall, AV.wk, AV.wk2, AV.wk1, AV.cells, AV.solid, AV.ro, AV.ro1, ← List.map_take, ← List.map_drop, reduceCtorEq, Option.isNone_some, Option.isSome_none, tf0, tf1, tf2, tf3, tf4, tf5, tf6, tf7, tf8, tf9, tf10, tf11, tf12, tf13, tf14, tf15, tf16, tf17, tf18, tf19, tf20, tf21, tf22, tf23, tf24, tf25, tf26, tf27, tf28, tf29])
 refine loop_mk' (fun m e S => e 0 = sls l ∧ ∃ k, e 4 = .it .i64 ((k : Nat) : Int) ∧ e 3 = .sl (.own 0) (((l.take k).map sha).map .st) ∧ S = [.buf k 9 1] ∧ k ≤ l.length ∧ (∀ i j x y, i < j → j < k → l[i]? = some x → l[j]? = some y → sha x = sha y → x = y) ∧ m = l.length - k) l.length _ _ (Weak.reserve 0 3 (es := []) (by rfl) 9 1) ⟨(by first | rfl | (simp only [↓upd_apply, ↓put_some, ↓reduceIte, Nat.reduceEqDiff, ↓argEnv_zero, ↓argEnv_succ, *]; done)), 0, (by first | rfl | (simp only [↓upd_apply, ↓put_some, ↓reduceIte, Nat.reduceEqDiff, ↓argEnv_zero, ↓argEnv_succ, *]; done)), (by first | rfl | (simp only [↓upd_apply, ↓put_some, ↓reduceIte, Nat.reduceEqDiff, ↓argEnv_zero, ↓argEnv_succ, *]; done)), rfl, by omega, fun i j x y h1 h2 => by omega, rfl⟩ ?_
 rintro m e S ⟨s0, k, s4, s3, rfl, hk, hno, rfl⟩
 have hlen : ((l.take k).map sha).length = k := by simp; omega
 by_cases hlt : k < l.length
 rotate_left
 ·have hge : k = l.length := by omega
  have : clashB l = false := by
   refine clashB_f ?_
   rintro ⟨x, y, hx1, hy1, hne, he⟩
   obtain ⟨i, hi, rfl⟩ := List.getElem_of_mem hx1
   obtain ⟨j, hj, rfl⟩ := List.getElem_of_mem hy1
   rcases Nat.lt_trichotomy i j with h | h | h
   ·exact hne (hno i j _ _ h (by omega) (List.getElem?_eq_getElem hi) (List.getElem?_eq_getElem hj) he)
   ·subst h; exact hne rfl
   ·exact hne (hno j i _ _ h (by omega) (List.getElem?_eq_getElem hj) (List.getElem?_eq_getElem hi) he.symm).symm
  rw [this]
  (try simp only [AWs_eq, ARgs_eq, AOps_eq, iteP_true, iteP_false]); (try simp -implicitDefEqProofs (disch := (first | omega | (simp only [List.length_append, List.length_cons, List.length_map, List.length_nil, List.length_take, List.length_drop]; omega))) only [↓zpre, zpost, cst1, ↓reduceIte, Nat.reduceEqDiff, Nat.reduceAdd, Nat.reduceLT, Nat.reduceLeDiff, Nat.reduceMul, Nat.reduceSub, Int.reduceToNat, Int.reduceAdd, Int.reduceSub, Int.reduceMul, Int.reduceNeg, Int.reduceLE, Int.reduceLT, Int.reduceEq, Int.reduceBEq, Int.reduceBNe, Nat.reduceBEq, Nat.reduceBNe, aBin, aEq, aEqF, aNilEq, aInt, aStr, aUn, aConv, aNil, aFldAddr, aFld, aIdxAddr, aIdx, aBui, aLoad, aStore, aLits, aLit, aMake, aMakeW, aMapSet, aLook, kfind, keq, kok, lookOut, aMk, aRange, aNext, aBytes, aApp, srcOf, aSlice, aBound, modeCut, apart, aFill, aval, aGd, ACall, AV.wk, AV.wk2, AV.wk1, AV.cells, AV.solid, AV.ro, AV.ro1, ← List.map_take, ← List.map_drop, reduceCtorEq, Option.isNone_some, Option.isSome_none, tf0, tf1, tf2, tf3, tf4, tf5, tf6, tf7, tf8, tf9, tf10, tf11, tf12, tf13, tf14, tf15, tf16, tf17, tf18, tf19, tf20, tf21, tf22, tf23, tf24, tf25, tf26, tf27, tf28, tf29, s0, s3, s4])
  exact ends_ret0 (by rfl) (by rfl) (by rfl)
 have ga : l[k]? = some l[k] := List.getElem?_eq_getElem hlt
 have hw : IntKind.i64.wrap ((k : Int) + 1) = ((k + 1 : Nat) : Int) := by rw [wrap64 (by omega) (by omega)]; rfl
 (try simp only [AWs_eq, ARgs_eq, AOps_eq, iteP_true, iteP_false]); (try simp -implicitDefEqProofs (disch := (first | omega | (simp only [List.length_append, List.length_cons, List.length_map, List.length_nil, List.length_take, List.length_drop]; omega))) only [↓zpre, zpost, cst1, ↓reduceIte, Nat.reduceEqDiff, Nat.reduceAdd, Nat.reduceLT, Nat.reduceLeDiff, Nat.reduceMul, Nat.reduceSub, Int.reduceToNat, Int.reduceAdd, Int.reduceSub, Int.reduceMul, Int.reduceNeg, Int.reduceLE, Int.reduceLT, Int.reduceEq, Int.reduceBEq, Int.reduceBNe, Nat.reduceBEq, Nat.reduceBNe, aBin, aEq, aEqF, aNilEq, aInt, aStr, aUn, aConv, aNil, aFldAddr, aFld, aIdxAddr, aIdx, aBui, aLoad, aStore, aLits, aLit, aMake, aMakeW, aMapSet, aLook, kfind, keq, kok, lookOut, aMk, aRange, aNext, aBytes, aApp, srcOf, aSlice, aBound, modeCut, apart, aFill, aval, aGd, ACall, AV.wk, AV.wk2, AV.wk1, AV.cells, AV.solid, AV.ro, AV.ro1, ← List.map_take, ← List.map_drop, reduceCtorEq, Option.isNone_some, Option.isSome_none, tf0, tf1, tf2, tf3, tf4, tf5, tf6, tf7, tf8, tf9, tf10, tf11, tf12, tf13, tf14, tf15, tf16, tf17, tf18, tf19, tf20, tf21, tf22, tf23, tf24, tf25, tf26, tf27, tf28, tf29, s0, s3, s4, ga])
 refine call_pure (rsha_c l[k] (by have := hx l[k] (List.getElem_mem hlt); omega)) (by rfl) (by rfl) (by rfl) ?_
 (try simp only [AWs_eq, ARgs_eq, AOps_eq, iteP_true, iteP_false]); (try simp -implicitDefEqProofs (disch := (first | omega | (simp only [List.length_append, List.length_cons, List.length_map, List.length_nil, List.length_take, List.length_drop]; omega))) only [↓zpre, zpost, cst1, ↓reduceIte, Nat.reduceEqDiff, Nat.reduceAdd, Nat.reduceLT, Nat.reduceLeDiff, Nat.reduceMul, Nat.reduceSub, Int.reduceToNat, Int.reduceAdd, Int.reduceSub, Int.reduceMul, Int.reduceNeg, Int.reduceLE, Int.reduceLT, Int.reduceEq, Int.reduceBEq, Int.reduceBNe, Nat.reduceBEq, Nat.reduceBNe, aBin, aEq, aEqF, aNilEq, aInt, aStr, aUn, aConv, aNil, aFldAddr, aFld, aIdxAddr, aIdx, aBui, aLoad, aStore, aLits, aLit, aMake, aMakeW, aMapSet, aLook, kfind, keq, kok, lookOut, aMk, aRange, aNext, aBytes, aApp, srcOf, aSlice, aBound, modeCut, apart, aFill, aval, aGd, ACall, AV.wk, AV.wk2, AV.wk1, AV.cells, AV.solid, AV.ro, AV.ro1, ← List.map_take, ← List.map_drop, reduceCtorEq, Option.isNone_some, Option.isSome_none, tf0, tf1, tf2, tf3, tf4, tf5, tf6, tf7, tf8, tf9, tf10, tf11, tf12, tf13, tf14, tf15, tf16, tf17, tf18, tf19, tf20, tf21, tf22, tf23, tf24, tf25, tf26, tf27, tf28, tf29, s0, s3, s4, ga, hlen, List.length_take])
 refine loop_mk (fun m e S => e 0 = sls l ∧ e 4 = .it .i64 ((k : Nat) : Int) ∧ e 3 = .sl (.own 0) (((l.take (k + 1)).map sha).map .st) ∧ S = [.buf (k + 1) 9 1] ∧ ∃ i, e 5 = .it .i64 ((i : Nat) : Int) ∧ i ≤ k ∧ (∀ j x, j < i → l[j]? = some x → sha x = sha l[k] → x = l[k]) ∧ m = k - i) k ⟨(by first | rfl | (simp only [↓upd_apply, ↓put_some, ↓reduceIte, Nat.reduceEqDiff, ↓argEnv_zero, ↓argEnv_succ, *]; done)), (by first | rfl | (simp only [↓upd_apply, ↓put_some, ↓reduceIte, Nat.reduceEqDiff, ↓argEnv_zero, ↓argEnv_succ, *]; done)), by rw [List.take_succ_eq_append_getElem hlt, List.map_append, List.map_append]; exact (by first | rfl | (simp only [↓upd_apply, ↓put_some, ↓reduceIte, Nat.reduceEqDiff, ↓argEnv_zero, ↓argEnv_succ, *]; done)), by first | rfl | (rw [hlen]) | (simp; omega), 0, (by first | rfl | (simp only [↓upd_apply, ↓put_some, ↓reduceIte, Nat.reduceEqDiff, ↓argEnv_zero, ↓argEnv_succ, *]; done)), by omega, fun j x h1 => by omega, rfl⟩ ?_
 rintro m e S ⟨s0, s4, s3, rfl, i, s5, hi, hin, rfl⟩
 by_cases hik : i < k
 ·have gi : l[i]? = some (l[i]'(by omega)) := List.getElem?_eq_getElem (by omega)
  have gsk : ((l.take (k + 1)).map sha)[k]? = some (sha l[k]) := by rw [List.getElem?_map, List.getElem?_take_of_lt (by omega), ga]; rfl
  have gsi : ((l.take (k + 1)).map sha)[i]? = some (sha (l[i]'(by omega))) := by rw [List.getElem?_map, List.getElem?_take_of_lt (by omega), gi]; rfl
  have hlen1 : ((l.take (k + 1)).map sha).length = k + 1 := by simp; omega
  by_cases he : l[k] = l[i]'(by omega)
  ·have he' : (l[k] == l[i]'(by omega)) = true := by simp [he]
   (try simp only [AWs_eq, ARgs_eq, AOps_eq, iteP_true, iteP_false]); (try simp -implicitDefEqProofs (disch := (first | omega | (simp only [List.length_append, List.length_cons, List.length_map, List.length_nil, List.length_take, List.length_drop]; omega))) only [↓zpre, zpost, cst1, ↓reduceIte, Nat.reduceEqDiff, Nat.reduceAdd, Nat.reduceLT, Nat.reduceLeDiff, Nat.reduceMul, Nat.reduceSub, Int.reduceToNat, Int.reduceAdd, Int.reduceSub, Int.reduceMul, Int.reduceNeg, Int.reduceLE, Int.reduceLT, Int.reduceEq, Int.reduceBEq, Int.reduceBNe, Nat.reduceBEq, Nat.reduceBNe, aBin, aEq, aEqF, aNilEq, aInt, aStr, aUn, aConv, aNil, aFldAddr, aFld, aIdxAddr, aIdx, aBui, aLoad, aStore, aLits, aLit, aMake, aMakeW, aMapSet, aLook, kfind, keq, kok, lookOut, aMk, aRange, aNext, aBytes, aApp, srcOf, aSlice, aBound, modeCut, apart, aFill, aval, aGd, ACall, AV.wk, AV.wk2, AV.wk1, AV.cells, AV.solid, AV.ro, AV.ro1, ← List.map_take, ← List.map_drop, reduceCtorEq, Option.isNone_some, Option.isSome_none, tf0, tf1, tf2, tf3, tf4, tf5, tf6, tf7, tf8, tf9, tf10, tf11, tf12, tf13, tf14, tf15, tf16, tf17, tf18, tf19, tf20, tf21, tf22, tf23, tf24, tf25, tf26, tf27, tf28, tf29, s0, s3, s4, s5, ga, gi, he'])
   exact round_mk (k - (i + 1)) (by omega) ⟨(by first | rfl | (simp only [↓upd_apply, ↓put_some, ↓reduceIte, Nat.reduceEqDiff, ↓argEnv_zero, ↓argEnv_succ, *]; done)), (by first | rfl | (simp only [↓upd_apply, ↓put_some, ↓reduceIte, Nat.reduceEqDiff, ↓argEnv_zero, ↓argEnv_succ, *]; done)), (by first | rfl | (simp only [↓upd_apply, ↓put_some, ↓reduceIte, Nat.reduceEqDiff, ↓argEnv_zero, ↓argEnv_succ, *]; done)), rfl, i + 1, (by first | rfl | (simp only [↓upd_apply, ↓put_some, ↓reduceIte, Nat.reduceEqDiff, ↓argEnv_zero, ↓argEnv_succ, *]; done)), by omega, fun j x h1 h2 h3 => by
    by_cases hj : j = i
    ·subst hj; rw [gi] at h2; cases h2; exact he.symm
    ·exact hin j x (by omega) h2 h3, rfl⟩
  ·have he' : (l[k] == l[i]'(by omega)) = false := by simp [he]
   by_cases hs : sha l[k] = sha (l[i]'(by omega))
   ·have hs' : (sha l[k] == sha (l[i]'(by omega))) = true := by simp [hs]
    have : clashB l = true := clashB_t (by
     exact ⟨_, _, List.getElem_mem hlt, List.getElem_mem (by omega), he, hs⟩)
    rw [this]
    (try simp only [AWs_eq, ARgs_eq, AOps_eq, iteP_true, iteP_false]); (try simp -implicitDefEqProofs (disch := (first | omega | (simp only [List.length_append, List.length_cons, List.length_map, List.length_nil, List.length_take, List.length_drop]; omega))) only [↓zpre, zpost, cst1, ↓reduceIte, Nat.reduceEqDiff, Nat.reduceAdd, Nat.reduceLT, Nat.reduceLeDiff, Nat.reduceMul, Nat.reduceSub, Int.reduceToNat, Int.reduceAdd, Int.reduceSub, Int.reduceMul, Int.reduceNeg, Int.reduceLE, Int.reduceLT, Int.reduceEq, Int.reduceBEq, Int.reduceBNe, Nat.reduceBEq, Nat.reduceBNe, aBin, aEq, aEqF, aNilEq, aInt, aStr, aUn, aConv, aNil, aFldAddr, aFld, aIdxAddr, aIdx, aBui, aLoad, aStore, aLits, aLit, aMake, aMakeW, aMapSet, aLook, kfind, keq, kok, lookOut, aMk, aRange, aNext, aBytes, aApp, srcOf, aSlice, aBound, modeCut, apart, aFill, aval, aGd, ACall, AV.wk, AV.wk2, AV.wk1, AV.cells, AV.solid, AV.ro, AV.ro1, ← List.map_take, ← List.map_drop, reduceCtorEq, Option.isNone_some, Option.isSome_none, tf0, tf1, tf2, tf3, tf4, tf5, tf6, tf7, tf8, tf9, tf10, tf11, tf12, tf13, tf14, tf15, tf16, tf17, tf18, tf19, tf20, tf21, tf22, tf23, tf24, tf25, tf26, tf27, tf28, tf29, s0, s3, s4, s5, ga, gi, he', gsk, gsi, hs', hlen1])
    exact ends_ret0 (by rfl) (by rfl) (by rfl)
   ·have hs' : (sha l[k] == sha (l[i]'(by omega))) = false := by simp [hs]
    (try simp only [AWs_eq, ARgs_eq, AOps_eq, iteP_true, iteP_false]); (try simp -implicitDefEqProofs (disch := (first | omega | (simp only [List.length_append, List.length_cons, List.length_map, List.length_nil, List.length_take, List.length_drop]; omega))) only [↓zpre, zpost, cst1, ↓reduceIte, Nat.reduceEqDiff, Nat.reduceAdd, Nat.reduceLT, Nat.reduceLeDiff, Nat.reduceMul, Nat.reduceSub, Int.reduceToNat, Int.reduceAdd, Int.reduceSub, Int.reduceMul, Int.reduceNeg, Int.reduceLE, Int.reduceLT, Int.reduceEq, Int.reduceBEq, Int.reduceBNe, Nat.reduceBEq, Nat.reduceBNe, aBin, aEq, aEqF, aNilEq, aInt, aStr, aUn, aConv, aNil, aFldAddr, aFld, aIdxAddr, aIdx, aBui, aLoad, aStore, aLits, aLit, aMake, aMakeW, aMapSet, aLook, kfind, keq, kok, lookOut, aMk, aRange, aNext, aBytes, aApp, srcOf, aSlice, aBound, modeCut, apart, aFill, aval, aGd, ACall, AV.wk, AV.wk2, AV.wk1, AV.cells, AV.solid, AV.ro, AV.ro1, ← List.map_take, ← List.map_drop, reduceCtorEq, Option.isNone_some, Option.isSome_none, tf0, tf1, tf2, tf3, tf4, tf5, tf6, tf7, tf8, tf9, tf10, tf11, tf12, tf13, tf14, tf15, tf16, tf17, tf18, tf19, tf20, tf21, tf22, tf23, tf24, tf25, tf26, tf27, tf28, tf29, s0, s3, s4, s5, ga, gi, he', gsk, gsi, hs', hlen1])
    exact round_mk (k - (i + 1)) (by omega) ⟨(by first | rfl | (simp only [↓upd_apply, ↓put_some, ↓reduceIte, Nat.reduceEqDiff, ↓argEnv_zero, ↓argEnv_succ, *]; done)), (by first | rfl | (simp only [↓upd_apply, ↓put_some, ↓reduceIte, Nat.reduceEqDiff, ↓argEnv_zero, ↓argEnv_succ, *]; done)), (by first | rfl | (simp only [↓upd_apply, ↓put_some, ↓reduceIte, Nat.reduceEqDiff, ↓argEnv_zero, ↓argEnv_succ, *]; done)), rfl, i + 1, (by first | rfl | (simp only [↓upd_apply, ↓put_some, ↓reduceIte, Nat.reduceEqDiff, ↓argEnv_zero, ↓argEnv_succ, *]; done)), by omega, fun j x h1 h2 h3 => by
     by_cases hj : j = i
     ·subst hj; rw [gi] at h2; cases h2; exact absurd h3.symm hs
     ·exact hin j x (by omega) h2 h3, rfl⟩
 ·have hik' : i = k := by omega
  subst hik'
  (try simp only [AWs_eq, ARgs_eq, AOps_eq, iteP_true, iteP_false]); (try simp -implicitDefEqProofs (disch := (first | omega | (simp only [List.length_append, List.length_cons, List.length_map, List.length_nil, List.length_take, List.length_drop]; omega))) only [↓zpre, zpost, cst1, ↓reduceIte, Nat.reduceEqDiff, Nat.reduceAdd, Nat.reduceLT, Nat.reduceLeDiff, Nat.reduceMul, Nat.reduceSub, Int.reduceToNat, Int.reduceAdd, Int.reduceSub, Int.reduceMul, Int.reduceNeg, Int.reduceLE, Int.reduceLT, Int.reduceEq, Int.reduceBEq, Int.reduceBNe, Nat.reduceBEq, Nat.reduceBNe, aBin, aEq, aEqF, aNilEq, aInt, aStr, aUn, aConv, aNil, aFldAddr, aFld, aIdxAddr, aIdx, aBui, aLoad, aStore, aLits, aLit, aMake, aMakeW, aMapSet, aLook, kfind, keq, kok, lookOut, aMk, aRange, aNext, aBytes, aApp, srcOf, aSlice, aBound, modeCut, apart, aFill, aval, aGd, ACall, AV.wk, AV.wk2, AV.wk1, AV.cells, AV.solid, AV.ro, AV.ro1, ← List.map_take, ← List.map_drop, reduceCtorEq, Option.isNone_some, Option.isSome_none, tf0, tf1, tf2, tf3, tf4, tf5, tf6, tf7, tf8, tf9, tf10, tf11, tf12, tf13, tf14, tf15, tf16, tf17, tf18, tf19, tf20, tf21, tf22, tf23, tf24, tf25, tf26, tf27, tf28, tf29, s0, s3, s4, s5, hw])
  exact round_mk (l.length - (i + 1)) (by omega) ⟨(by first | rfl | (simp only [↓upd_apply, ↓put_some, ↓reduceIte, Nat.reduceEqDiff, ↓argEnv_zero, ↓argEnv_succ, *]; done)), i + 1, (by first | rfl | (simp only [↓upd_apply, ↓put_some, ↓reduceIte, Nat.reduceEqDiff, ↓argEnv_zero, ↓argEnv_succ, *]; done)), (by first | rfl | (simp only [↓upd_apply, ↓put_some, ↓reduceIte, Nat.reduceEqDiff, ↓argEnv_zero, ↓argEnv_succ, *]; done)), rfl, by omega, fun a b x y h1 h2 h3 h4 h5 => by
   by_cases hb : b = i
   ·subst hb; rw [ga] at h4; cases h4; exact hin a x h1 h3 h5
   ·exact hno a b x y h1 (by omega) h3 h4 h5, rfl⟩
end Go.Proofs.YtaphpbiaoofmkaaGreatDoor.Pe
end
section
namespace Go.Proofs.YtaphpbiaoofmkaaGreatDoor.Pe
open Go Sm Mk
set_option maxRecDepth 100000
theorem pre_lenT (a b : By) : (pre a b).length = a.length + b.length + 1 := by simp [pre]
theorem climb_elT : ∀ (p : List By) (i n : Nat) (x : By), x.length ≤ 200 → (∀ y ∈ p, y.length ≤ 200) → (climb p i n x).1.length ≤ 200 ∧ ∀ z ∈ (climb p i n x).2.1, z.length ≤ 401
 | [], i, n, x, h, hp => by simp only [climb]; split <;> simp [h]
 | q :: r, i, n, x, h, hp => by
  have hq := hp q (by simp)
  have hr : ∀ y ∈ r, y.length ≤ 200 := fun y hy => hp y (by simp [hy])
  simp only [climb]; split
  ·exact ⟨h, by simp⟩
  ·split
   ·have := climb_elT r i (sp n) x h hr
    split
    ·refine ⟨by rw [node_len]; omega, fun z hz => ?_⟩
     rcases List.mem_append.1 hz with hz | hz
     ·exact this.2 z hz
     ·rw [List.mem_singleton.1 hz, pre_lenT]; omega
    ·simp
   ·have := climb_elT r (i - sp n) (n - sp n) x h hr
    split
    ·refine ⟨by rw [node_len]; omega, fun z hz => ?_⟩
     rcases List.mem_append.1 hz with hz | hz
     ·exact this.2 z hz
     ·rw [List.mem_singleton.1 hz, pre_lenT]; omega
    ·simp
theorem inputs_elT (k : Nat) : ∀ (l : List By), l.length ≤ k → Dig l → ∀ z ∈ inputs l, z.length ≤ 65 := by
 induction k with
 | zero => intro l h hd z hz; rw [inputs_one (by omega)] at hz; simp at hz
 | succ k ih =>
  intro l h hd z hz
  by_cases h2 : 2 ≤ l.length
  ·have h3 := sp_lt h2
   have h4 := sp_pos l.length
   rw [inputs_two h2] at hz
   rcases List.mem_append.1 hz with hz | hz
   ·rcases List.mem_append.1 hz with hz | hz
    ·exact ih _ (by simp; omega) (hd.take _) z hz
    ·exact ih _ (by simp; omega) (hd.drop _) z hz
   ·rw [List.mem_singleton.1 hz, pre_lenT, rt_dig (by simp; omega) (hd.take _), rt_dig (by simp; omega) (hd.drop _)]; omega
  ·rw [inputs_one (by omega)] at hz; simp at hz
end Go.Proofs.YtaphpbiaoofmkaaGreatDoor.Pe
namespace Go.Proofs.YtaphpbiaoofmkaaGreatDoor.Sl
open Go Co Sg Ac It
theorem entry_inj {x y : It.Entry} (h : entryB x = entryB y) (hy : entryB y ≠ []) : x = y := by
 have h1 := entryB_ne.1 hy
 have h2 := entryB_ne.1 (show entryB x ≠ [] by rw [h]; exact hy)
 have e1 := readEntry_back h1.1 h1.2
 have e2 := readEntry_back h2.1 h2.2
 rw [h, e1] at e2
 exact (congrArg Prod.fst e2).symm
theorem del_ne {e : It.Entry} {id : By} (h : delT e id = true) : entryB e ≠ [] := by
 unfold delT at h
 simp only [Bool.and_eq_true] at h
 exact entryB_ne.2 ⟨h.1.1.1.1, h.2⟩
theorem check_says {ps : List Int} {id : By} {l : List It.Entry} {M : Nat} {g : Grave} {k f : Key} {frm : Int} (h : checkT ps id g = true) (ho : HonR k f frm (l.take M) g.rcpt) (hM : M ≤ l.length) :
  0 ≤ g.at' ∧ g.at' < (M : Int) ∧ delT g.entry id = true ∧ (∀ y ∈ g.path, y.length = 32) ∧
  ((leafE (l.getD g.at'.toNat ⟨0, item0⟩) = leafE g.entry) ∨ Mk.Clash (Mk.inputs ((l.take M).map leafE) ++ (Mk.climb g.path.reverse g.at'.toNat M (leafE g.entry)).2.1)) := by
 have hlen : (l.take M).length = M := by rw [List.length_take]; omega
 have hsz := ho.size
 rw [hlen] at hsz
 unfold checkT inclT at h
 simp only [Bool.and_eq_true, decide_eq_true_eq, List.all_eq_true, beq_iff_eq] at h
 obtain ⟨⟨_, h2⟩, ⟨⟨⟨⟨⟨h3, h4⟩, h5⟩, h6⟩, h7⟩, h8⟩⟩ := h
 rw [hsz] at h4 h7 h8
 rw [ho.root] at h8
 have h6 : ∀ y ∈ g.path, y.length = 32 := fun y hy => by have := h6 y hy; omega
 refine ⟨h3, h4, h2, h6, ?_⟩
 have hL : ((l.take M).map leafE).length = M := by rw [List.length_map, hlen]
 have hd := leaves_dig (l.take M)
 have hi : g.at'.toNat < ((l.take M).map leafE).length := by rw [hL]; omega
 have hroot : rootE (l.take M) = Mk.rt ((l.take M).map leafE) := by
  unfold rootE Mk.root
  rw [if_neg (by intro e; rw [e] at hi; simp at hi)]
 rw [Int.toNat_natCast] at h7 h8
 have hf : Mk.flw g.path.reverse g.at'.toNat ((l.take M).map leafE).length (leafE g.entry) = (Mk.rt ((l.take M).map leafE), true) := by
  rw [hL]; exact Prod.ext (by rw [h8, hroot]) h7
 have key := Mk.binds ((l.take M).map leafE).length ((l.take M).map leafE) g.path.reverse g.at'.toNat (leafE g.entry) (Nat.le_refl _) hi hd (fun y hy => h6 y (by simpa using hy)) (leafE_len _) hf
 rw [hL] at key
 rcases key with ⟨k1, _⟩ | k
 ·left
  rw [List.getElem?_map, List.getElem?_take_of_lt (by omega)] at k1
  rw [List.getD_eq_getElem?_getD]
  cases hx : l[g.at'.toNat]? with
  | none => rw [hx] at k1; cases k1
  | some x => rw [hx] at k1; exact Option.some.inj k1
 ·right
  exact k
end Go.Proofs.YtaphpbiaoofmkaaGreatDoor.Sl
namespace Go.Proofs.YtaphpbiaoofmkaaGreatDoor.Pe
open Go Go.RowKit Co Sg Ac It Sl
set_option maxRecDepth 100000
set_option maxHeartbeats 4000000
theorem tombBinds_c (seed id : By) (l : List It.Entry) (n : Int) (g : Grave) (hsd : seed.length ≤ 140737488351232) (hid : id.length ≤ 140737488351232) (hl : l.length ≤ 140737488351232) (hz : ∀ e ∈ l, InE e) (hn : -9223372036854775808 ≤ n ∧ n ≤ 9223372036854775807) (hg : InG g) :
  AC Tryz.prog 8 [.st seed, .st id, entriesV l, .it .i64 n, graveV g] [] (.bo true) [] := by
 refine AC.enter2 [63, 68, 77, 78, 64, 72, 45, 81, 83, 79, 84] [] Tryz.func8 rfl (by decide) (by decide) (Nat.le_of_ble_eq_true rfl) (by kernel_rfl) ?_; simp only [eraseC, eraseO, List.map_cons, List.map_nil, List.map_toArray, List.getElem?_toArray, List.getElem?_cons_zero, List.getElem?_cons_succ, Option.bind_some, Option.bind_none, List.append_eq, List.cons_append, List.nil_append]
 have kl := light29_c l hl
 have kg := light29_c [g.entry] (by simp)
 refine run ?_
 refine cp small29_c ?_
 by_cases c1 : (100 : Int) < (seed.length : Int)
 ·refine runf @c1 ?_
  exact er0
 by_cases c2 : (1000 : Int) < (id.length : Int)
 ·refine runf (an @c1 @c2) ?_
  exact er0
 cases h2 : light29 l with
 | false =>
  rw [h2] at kl
  refine runf (an @c1 @c2) ?_
  refine cp kl ?_
  refine run ?_
  exact er0
 | true =>
 rw [h2] at kl
 cases h3 : light29 [g.entry] with
 | false =>
  rw [h3] at kg
  refine runf (an @c1 @c2) ?_
  refine cp kl ?_
  refine run ?_
  refine cp kg ?_
  refine run ?_
  exact er0
 | true =>
 rw [h3] at kg
 by_cases c3 : n < 0
 ·refine runf (an @c1 @c2) ?_
  refine cp kl ?_
  refine run ?_
  refine cp kg ?_
  refine runf @c3 ?_
  exact er0
 by_cases c4 : (l.length : Int) < n
 ·refine runf (an @c1 @c2) ?_
  refine cp kl ?_
  refine run ?_
  refine cp kg ?_
  refine runf (an @c3 @c4) ?_
  exact er0
 by_cases c5 : (100 : Int) < (g.path.length : Int)
 ·refine runf (an @c1 @c2) ?_
  refine cp kl ?_
  refine run ?_
  refine cp kg ?_
  refine runf (an @c3 (an @c4 @c5)) ?_
  exact er0
 have hll : l.length ≤ 20 := by
  unfold light29 at h2
  simp only [Bool.and_eq_true, decide_eq_true_eq] at h2
  exact h2.2
 have hzz : ∀ e ∈ l, Iz e.item := fun e he => (hz e he).item.iz
 have hsz := entries_sz l
 obtain ⟨M, rfl⟩ := Int.eq_ofNat_of_zero_le (show 0 ≤ n by omega)
 have hM : M ≤ l.length := by omega
 have hMi : (M : Int) ≤ (l.length : Int) := by omega
 have hM0 : (0 : Int) ≤ (M : Int) := by omega
 have tM : (l.take M).length ≤ 1000000 := by rw [List.length_take]; omega
 have zM : ∀ e ∈ l.take M, Iz e.item := fun e he => hzz e (List.mem_of_mem_take he)
 have ks := servers29_c seed (by omega)
 have ra := key_range (seed ++ [48])
 have rb := key_range (seed ++ [49])
 have a1 : (srv seed 48).right = true := keySeed_right _
 have a2 : (srv seed 49).right = true := keySeed_right _
 have a3 : (srv seed 50).right = true := keySeed_right _
 change _ ≤ (srv seed 48).secret ∧ (srv seed 48).secret ≤ _ at ra
 change _ ≤ (srv seed 49).secret ∧ (srv seed 49).secret ≤ _ at rb
 generalize srv seed 48 = ka at *
 generalize srv seed 49 = kb at *
 generalize srv seed 50 = kc at *
 have hps : InL [ka.pub, kb.pub, kc.pub] := ⟨by simp, fun i hi => by
  simp only [List.mem_cons, List.not_mem_nil, or_false] at hi
  rcases hi with rfl | rfl | rfl
  ·exact pub_in a1
  ·exact pub_in a2
  ·exact pub_in a3⟩
 have o1 : HonR ka kb 1 (l.take M) (mkRcpt kb 1 (mkHead ka 0 (l.take M) 0)) := honR a1 a2 ⟨by decide, by decide⟩ tM ⟨by decide, by decide⟩
 have i1 := inR_mk kb 1 (mkHead ka 0 (l.take M) 0) ⟨by decide, by decide⟩
 have kh1 := shead_c ka 0 (l.take M) 0 ra tM zM
 have kr1 := treceipt_c kb 1 (mkHead ka 0 (l.take M) 0) rb
 generalize mkRcpt kb 1 (mkHead ka 0 (l.take M) 0) = one at *
 generalize mkHead ka 0 (l.take M) 0 = hd1 at *
 have hs1 := o1.size
 have kq := tcheck_c [ka.pub, kb.pub, kc.pub] id ⟨g.at', g.entry, g.path, one⟩ hps i1 hg.entry.item.iz hg.at' (by simp only; omega) (by simp only; omega)
 refine runf (an @c1 @c2) ?_
 refine cp kl ?_
 refine run ?_
 refine cp kg ?_
 refine runf (an @c3 (an @c4 @c5)) ?_
 refine cp ks ?_
 refine runf (an @hM0 (an @hMi @hsz)) ?_
 refine cp kh1 ?_
 refine run ?_
 refine cp kr1 ?_
 refine run ?_
 refine cp kq ?_
 cases hq : checkT [ka.pub, kb.pub, kc.pub] id ⟨g.at', g.entry, g.path, one⟩ with
 | false =>
  refine run ?_
  exact er0
 | true =>
 obtain ⟨p1, p2, p3, p4', p5⟩ := check_says (g := ⟨g.at', g.entry, g.path, one⟩) hq o1 hM
 simp only at p1 p2 p3 p4' p5
 obtain ⟨i, hi⟩ := Int.eq_ofNat_of_zero_le p1
 rw [hi] at p2 p5
 rw [Int.toNat_natCast] at p5
 have hil : i < l.length := by omega
 have hgi : l[i]? = some (l.getD i ⟨0, item0⟩) := by rw [List.getD_eq_getElem?_getD, List.getElem?_eq_getElem hil]; rfl
 have hzi : Iz (l.getD i ⟨0, item0⟩).item := by
  rw [List.getD_eq_getElem?_getD, List.getElem?_eq_getElem hil]
  exact hzz _ (List.getElem_mem hil)
 have d1 : ¬ g.at' < 0 := by omega
 have d2 : ¬ (M : Int) ≤ g.at' := by omega
 have d3 : g.at' < (l.length : Int) := by omega
 have d4 : 0 ≤ g.at' := by omega
 have d5 : g.at'.toNat = i := by omega
 have kb1 := entryBytes_c (l.getD i ⟨0, item0⟩) hzi
 have kb2 := entryBytes_c g.entry hg.entry.item.iz
 have kf := rleaf15_c g.entry hg.entry.item.iz
 have hcl := climb_c g.path.reverse i M (leafE g.entry) (by omega) (by omega) (by rw [List.length_reverse]; omega) (by rw [leafE_len]; omega) (fun y hy => by rw [p4' y (by simpa using hy)]; omega)
 rw [List.reverse_reverse] at hcl
 have hce := (climb_elT g.path.reverse i M (leafE g.entry) (by rw [leafE_len]; omega) (fun y hy => by rw [p4' y (by simpa using hy)]; omega)).2
 have hcn := (climb_len g.path.reverse i M (leafE g.entry) (by rw [leafE_len]; omega)).2
 rw [List.length_reverse] at hcn
 have kv := rleaves15_c (l.take M) (by omega) zM
 have hL : ((l.take M).map leafE).length ≤ 20 := by rw [List.length_map, List.length_take]; omega
 have hld := leaves_dig (l.take M)
 have hin := inputs_c ((l.take M).map leafE).length ((l.take M).map leafE) (Nat.le_refl _) (by omega) (fun x hx => by rw [hld x hx]; omega)
 have hie := inputs_elT ((l.take M).map leafE).length ((l.take M).map leafE) (Nat.le_refl _) hld
 have hinn := inputs_len ((l.take M).map leafE).length ((l.take M).map leafE) (Nat.le_refl _)
 have kdel := deleted29_c [l.getD i ⟨0, item0⟩] id (by simp) (fun e he => by rw [List.mem_singleton] at he; rw [he]; exact hzi)
 have lb1 := entryB_len (l.getD i ⟨0, item0⟩)
 have lb2 := entryB_len g.entry
 have hlf : ∀ e : It.Entry, leafE e = Sm.sha (0 :: entryB e) := fun e => rfl
 have hsame : entryB (l.getD i ⟨0, item0⟩) = entryB g.entry → delL [l.getD i ⟨0, item0⟩] id = true := fun e => by
  rw [entry_inj e (del_ne p3)]
  unfold delL
  simp only [List.any_cons, List.any_nil, Bool.or_false]
  exact p3
 rw [hlf (l.getD i ⟨0, item0⟩)] at p5
 have hlfB := hlf g.entry
 generalize (l.take M).map leafE = L at *
 generalize leafE g.entry = lf at *
 generalize Mk.climb g.path.reverse i M lf = C at *
 obtain ⟨ca, Cl, cok⟩ := C
 simp only at hcl hce hcn p5
 generalize Mk.inputs L = I at *
 have hcl' : ∀ o1 : SObj, AC Tryz.prog 80 [.st lf, .it .i64 (i : Int), .it .i64 (M : Int), sls g.path] [o1] (.tup [.st ca, .sl (.own 1) (Cl.map .st), .bo cok]) [o1, .buf Cl.length 9 1] := fun o1 => AC.fresh1 hcl (by rfl) (by rfl) (by rfl) [o1]
 have hin' : ∀ o1 o2 : SObj, AC Tryz.prog 82 [sls L] [o1, o2] (.sl (.own 2) (I.map .st)) [o1, o2, .buf I.length 9 1] := fun o1 o2 => AC.fresh1 hin (by rfl) (by rfl) (by rfl) [o1, o2]
 rw [← hi] at hcl'
 generalize hA : entryB (l.getD i ⟨0, item0⟩) = A at *
 generalize hB : entryB g.entry = B at *
 have kcl := clash_c (I ++ Cl ++ [0 :: A, 0 :: B]) (by simp; omega) (fun z hz => by
  rcases List.mem_append.1 hz with hz | hz
  ·rcases List.mem_append.1 hz with hz | hz
   ·exact Nat.le_trans (hie z hz) (by omega)
   ·exact Nat.le_trans (hce z hz) (by omega)
  ·simp only [List.mem_cons, List.not_mem_nil, or_false] at hz
   rcases hz with rfl | rfl <;> simp only [List.length_cons] <;> omega)
 have hclash : A ≠ B → clashB (I ++ Cl ++ [0 :: A, 0 :: B]) = true := fun hne => clashB_t (by
  rcases p5 with h | h
  ·exact ⟨0 :: A, 0 :: B, by simp, by simp, fun e => hne (List.cons.inj e).2, h.trans hlfB⟩
  ·exact h.mono fun x hx => List.mem_append_left _ hx)
 simp only [sls, List.map_append, List.map_cons, List.map_nil] at kcl
 have hfit : ∀ n w, n ≤ 1000000 → w ≤ 1000 → fits n w = true := fun n w h1 h2 => by
  have : n * w ≤ 1000000 * 1000 := Nat.mul_le_mul h1 h2
  simp [fits]; omega
 refine runf (an @d1 (an @d2 (an @d3 (an @d4 (an @d5 (an @hgi @hsz)))))) ?_
 refine cp kb1 ?_
 refine run ?_
 refine cp kb2 ?_
 refine run ?_
 refine cp kf ?_
 refine run ?_
 refine call_mk (hcl' _) ?_
 refine runf (an @hM0 (an @hMi @hsz)) ?_
 refine cp kv ?_
 refine run ?_
 refine call_mk (hin' _ _) ?_
 by_cases hab : A = B
 ·have hq1 : (A == B) = true := by rw [hab]; exact beq_self_eq_true _
  rw [hsame hab] at kdel
  refine runf (an @hfit (an @hq1 (an @d3 (an @d4 (an @d5 (an @hgi @hsz)))))) ?_
  refine cp kdel ?_
  refine run ?_
  exact er0
 ·have hq1 : (A == B) = false := nilI A B hab
  rw [hclash hab] at kcl
  refine runf (an @hfit @hq1) ?_
  refine cp kcl ?_
  refine run ?_
  exact er0
end Go.Proofs.YtaphpbiaoofmkaaGreatDoor.Pe
end
section
namespace Go.Proofs.YtaphpbiaoofmkaaGreatDoor
open Go Go.RowKit Go.WideShapes Go.ChangeShapes
section
variable {H : Type} {enc : TypeId × Value → H} {P : Program}
theorem post_of_below {f : Func} {s : ChangeSpec} {apart fresh handsOn again : Bool} {W W' : World} {args : Array Value} {v : Value} {ds gs : List (DataW H)} {before pa pv : List MemPlace}
  (hW : DataW.Whole enc P f.params.toList s.vars apart W args.toList ds gs before)
  (hres : ∀ (b : Nat) (sp : Nat → Bool) (hd : Bool), DataW.TrodAll enc P W' b sp hd f.resultTypes.toList (v.resultList f.resultTypes.size) (s.fn H (ds ++ gs)).results [])
  (hargs : ∀ sp : Nat → Bool, (∀ p ∈ before, sp p.block = true) → DataW.TrodAll enc P W' 0 sp true f.params.toList args.toList (s.fn H (ds ++ gs)).args pa)
  (hvars : ∀ sp : Nat → Bool, (∀ p ∈ before, sp p.block = true) → DataW.TrodVars enc P W' sp s.vars (s.fn H (ds ++ gs)).vars pv)
  (hps : before = pa ++ pv) (hb : Below W.heap.size W W')
  (hok : ∀ (j : Nat) (t : TypeId) (r : Value), f.resultTypes[j]? = some t → (v.resultList f.resultTypes.size)[j]? = some r → Value.okWide P W' .any 0 t r) :
  s.post enc P f apart fresh handsOn again W args v W' := by
 have hlt : ∀ p ∈ before, p.block < W.heap.size := fun p hp => hW.lt p hp
 have hold : ∀ p ∈ before, (fun b => decide (b < W.heap.size)) p.block = true := fun p hp => by simpa using hlt p hp
 refine ⟨ds, gs, before, [], pa, pv, hW, hres _ _ _, hargs _ hold, hvars _ hold, World.keptBut_mono (fun p hp => ⟨hp, ?_⟩) (hb.frame (· ∈ before)), fun _ => ?_⟩
 ·rw [hps, List.mem_append] at hp
  exact Or.inr hp
 ·obtain ⟨_, _, _, _, _, hz, hn⟩ := hW
  refine ⟨hok, _, _, ([] ++ pa) ++ pv, ⟨[] ++ pa, pv, trodAll_append (hargs _ (fun _ _ => rfl)) (hres _ _ _), hvars _ (fun _ _ => rfl), rfl, ?_, ?_⟩, ?_⟩
  ·intro b off hp
   have hin : MemPlace.cell b off ∈ before := by rw [hps]; simpa using hp
   rw [hb.frozen (hlt _ hin)]
   exact hz b off hin
  ·intro ha
   have := hn ha
   rw [hps] at this
   simpa using this
  ·intro p hp _
   rw [hps]
   simpa using hp
end
end Go.Proofs.YtaphpbiaoofmkaaGreatDoor
end
section
namespace Go.Proofs.YtaphpbiaoofmkaaGreatDoor
open Go Go.RowKit Sm
theorem own : ownKnob Tryz.prog.godebug = none := by kernel_rfl
theorem gK : Tryz.prog.globalNamed "agora/sum.constants" = some 1 := by kernel_rfl
theorem gI : Tryz.prog.globalNamed "agora/sum.initial" = some 0 := by kernel_rfl
theorem gKType : (Tryz.prog.globals[1]?).map (·.type) = some 220 := by kernel_rfl
theorem gIType : (Tryz.prog.globals[0]?).map (·.type) = some 199 := by kernel_rfl
theorem cellsK : Tryz.prog.cellsOf 220 = 64 := by kernel_rfl
theorem cellsI : Tryz.prog.cellsOf 199 = 8 := by kernel_rfl
theorem cellsU : Tryz.prog.cellsOf 198 = 1 := by kernel_rfl
def zsK : List Int := [1116352408, 1899447441, 3049323471, 3921009573, 961987163, 1508970993, 2453635748, 2870763221, 3624381080, 310598401, 607225278, 1426881987, 1925078388, 2162078206, 2614888103, 3248222580, 3835390401, 4022224774, 264347078, 604807628, 770255983, 1249150122, 1555081692, 1996064986, 2554220882, 2821834349, 2952996808, 3210313671, 3336571891, 3584528711, 113926993, 338241895, 666307205, 773529912, 1294757372, 1396182291, 1695183700, 1986661051, 2177026350, 2456956037, 2730485921, 2820302411, 3259730800, 3345764771, 3516065817, 3600352804, 4094571909, 275423344, 430227734, 506948616, 659060556, 883997877, 958139571, 1322822218, 1537002063, 1747873779, 1955562222, 2024104815, 2227730452, 2361852424, 2428436474, 2756734187, 3204031479, 3329325298]
def zsI : List Int := [1779033703, 3144134277, 1013904242, 2773480762, 1359893119, 2600822924, 528734635, 1541459225]
theorem zsK_eq : zsK = tabK.map (fun x => (x.toNat : Int)) := by decide +kernel
theorem zsI_eq : zsI = init8.list.map (fun x => (x.toNat : Int)) := by decide +kernel
theorem word_at (l : List (BitVec 32)) (i : Nat) (hi : i < l.length) : Value.int .u32 ((l.map (fun x => (x.toNat : Int))).getD i 0) = w32 (l.getD i 0) := by
 simp only [List.getD_eq_getElem?_getD, List.getElem?_map, List.getElem?_eq_getElem hi]
 rfl
def laidList : List (String × DataW Unit) := [("agora/sum.constants", Rows.laid_agora_sum_constants), ("agora/sum.initial", Rows.laid_agora_sum_initial)]
theorem tabs_of {W : World} (h : laidMetH Tryz.prog laidList W) : Tabs W := by
 have h1 : laidMet Tryz.prog (("agora/sum.constants", Lib.tabData .u32 zsK) :: [("agora/sum.initial", Lib.tabData .u32 zsI)]) W := h
 have k1 := Lib.tabIs_of_head gK gKType Tryz.underlying220 Tryz.underlying198 cellsU cellsK h1
 have k2 := Lib.tabIs_of_head gI gIType Tryz.underlying199 Tryz.underlying198 cellsU cellsI (laidMet.tail h1)
 refine ⟨fun i hi => ?_, fun i hi => ?_⟩
 ·rw [k1.cell gK i hi, zsK_eq, word_at tabK i hi]
 ·rw [k2.cell gI i hi, zsI_eq, word_at init8.list i hi]
def withCells (cs : Array Value) : Obj → Obj
 | .cells _ t frozen => .cells cs t frozen
 | o => o
noncomputable def laidWorld (os : Os) : World :=
 { World.holding Tryz.prog os ⟨#[], #[], []⟩ with heap := ((World.holding Tryz.prog os ⟨#[], #[], []⟩).heap.modify 1 (withCells (zsK.map (Value.int .u32)).toArray)).modify 0 (withCells (zsI.map (Value.int .u32)).toArray) }
end Go.Proofs.YtaphpbiaoofmkaaGreatDoor
namespace Go.Proofs.YtaphpbiaoofmkaaGreatDoor
open Go Go.RowKit Sm
theorem tab_of {W : World} (h : Tabs W) : ∀ b i v, (Pe.tabs).T b i = some v → W.cell? ⟨b, i, none⟩ = some v := by
 intro b i v hv
 have hv' : (if b = 1 ∧ i < 64 then some (w32 (tabK.getD i 0)) else if b = 0 ∧ i < 8 then some (w32 (init8.list.getD i 0)) else none) = some v := hv
 split at hv'
 ·rename_i hc
  obtain ⟨rfl, hi⟩ := hc
  rw [h.1 i hi]; exact hv'
 ·split at hv'
  ·rename_i hc
   obtain ⟨rfl, hi⟩ := hc
   rw [h.2 i hi]; exact hv'
  ·cases hv'
theorem laidOut : laidOutB Tryz.prog = true := by kernel_rfl
end Go.Proofs.YtaphpbiaoofmkaaGreatDoor
end
