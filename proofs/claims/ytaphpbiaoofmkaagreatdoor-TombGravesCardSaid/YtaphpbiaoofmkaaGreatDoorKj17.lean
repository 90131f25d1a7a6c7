/- Several texts in one, without what this claim does not use (tools/shake.py). -/
import Derived.Test.YtaphpbiaoofmkaaGreatDoorKj16
import Derived.Below
import Derived.ChangeSame
import Derived.Test.YtaphpbiaoofmkaaGreatDoorCards
import Derived.Test.YtaphpbiaoofmkaaGreatDoorTie
import Derived.WalkKit
import Derived.ProofKit
import Derived.OpenShut
import Derived.Deep.DeepHandedRow
import Derived.Lib.LaidTab
import Derived.Stop.LaidErr
import Derived.ShutString
set_option linter.unusedSectionVars false
set_option linter.unusedVariables false
set_option linter.unusedSimpArgs false
section
namespace Go.Proofs.YtaphpbiaoofmkaaGreatDoor.Pe
open Go Sm Mk
set_option maxRecDepth 100000
theorem climb_len : ∀ (p : List By) (i n : Nat) (x : By), x.length ≤ 1000000 → (climb p i n x).1.length ≤ 1000000 ∧ (climb p i n x).2.1.length ≤ p.length
 | [], i, n, x, h => by simp only [climb]; split <;> simp [h]
 | q :: r, i, n, x, h => by
  simp only [climb]; split
  ·exact ⟨h, by simp⟩
  ·split
   ·split
    ·have := climb_len r i (sp n) x h
     refine ⟨by rw [node_len]; omega, ?_⟩
     simp only [List.length_append, List.length_cons, List.length_nil]; omega
    ·simp
   ·split
    ·have := climb_len r (i - sp n) (n - sp n) x h
     refine ⟨by rw [node_len]; omega, ?_⟩
     simp only [List.length_append, List.length_cons, List.length_nil]; omega
    ·simp
theorem climb_c (p : List By) : ∀ (i n : Nat) (x : By), i < n → n ≤ 9223372036854775807 → p.length ≤ 1000000 → x.length ≤ 1000000 → (∀ y ∈ p, y.length ≤ 1000000) →
  AC Tryz.prog 80 [.st x, .it .i64 i, .it .i64 n, sls p.reverse] [] (.tup [.st (climb p i n x).1, .sl (.own 0) ((climb p i n x).2.1.map .st), .bo (climb p i n x).2.2]) [.buf (climb p i n x).2.1.length 9 1] := by
 induction p with
 | nil =>
  intro i n x hi hn hp hx hall
  refine AC.enter [178, 179, 180] [] Tryz.func80 rfl (by decide) (by decide) (Nat.le_of_ble_eq_true rfl) (by kernel_rfl) ?_; simp only [eraseC, eraseO, List.map_cons, List.map_nil, List.map_toArray, List.getElem?_toArray, List.getElem?_cons_zero, List.getElem?_cons_succ, Option.bind_some, Option.bind_none, List.append_eq, List.cons_append, List.nil_append]
  have : List.reverse ([] : List By) = [] := rfl
  rw [this]
  by_cases h1 : n = 1
  ·subst h1
   simp only [climb, if_pos]
   refine run ?_
   refine ends_retW _ _ (Weak.reserve _ 9 (es := []) (by rfl) 9 1) [0] (by rfl) (subOk_one 0 (by rfl) (by rfl)) (by rfl) (by rfl) (by rfl)
  ·simp only [climb, if_neg h1]
   refine run ?_
   refine ends_retW _ _ (Weak.reserve _ 9 (es := []) (by rfl) 9 1) [0] (by rfl) (subOk_one 0 (by rfl) (by rfl)) (by rfl) (by rfl) (by rfl)
 | cons q r ih =>
  intro i n x hi hn hp hx hall
  refine AC.enter [178, 179, 180] [] Tryz.func80 rfl (by decide) (by decide) (Nat.le_of_ble_eq_true rfl) (by kernel_rfl) ?_; simp only [eraseC, eraseO, List.map_cons, List.map_nil, List.map_toArray, List.getElem?_toArray, List.getElem?_cons_zero, List.getElem?_cons_succ, Option.bind_some, Option.bind_none, List.append_eq, List.cons_append, List.nil_append]
  have hrev : List.reverse (q :: r) = r.reverse ++ [q] := by simp
  rw [hrev]
  have hp' : r.length + 1 ≤ 1000000 := hp
  by_cases h1 : n = 1
  ·subst h1
   simp only [climb, if_pos]
   (try simp only [AWs_eq, ARgs_eq, AOps_eq, iteP_true, iteP_false]); (try simp -implicitDefEqProofs (disch := (first | omega | (simp only [List.length_append, List.length_cons, List.length_map, List.length_nil, List.length_take, List.length_drop]; omega))) only [↓zpre, zpost, cst1, ↓reduceIte, Nat.reduceEqDiff, Nat.reduceAdd, Nat.reduceLT, Nat.reduceLeDiff, Nat.reduceMul, Nat.reduceSub, Int.reduceToNat, Int.reduceAdd, Int.reduceSub, Int.reduceMul, Int.reduceNeg, Int.reduceLE, Int.reduceLT, Int.reduceEq, Int.reduceBEq, Int.reduceBNe, Nat.reduceBEq, Nat.reduceBNe, aBin, aEq, aEqF, aNilEq, aInt, aStr, aUn, aConv, aNil, aFldAddr, aFld, aIdxAddr, aIdx, aBui, aLoad, aStore, aLits, aLit, aMake, aMakeW, aMapSet, aLook, kfind, keq, kok, lookOut, aMk, aRange, aNext, aBytes, aApp, srcOf, aSlice, aBound, modeCut, apart, aFill, aval, aGd, ACall, AV.wk, AV.wk2, AV.wk1, AV.cells, AV.solid, AV.ro, AV.ro1, ← List.map_take, ← List.map_drop, reduceCtorEq, Option.isNone_some, Option.isSome_none, tf0, tf1, tf2, tf3, tf4, tf5, tf6, tf7, tf8, tf9, tf10, tf11, tf12, tf13, tf14, tf15, tf16, tf17, tf18, tf19, tf20, tf21, tf22, tf23, tf24, tf25, tf26, tf27, tf28, tf29, List.length_reverse])
   refine ends_retW _ _ (Weak.reserve _ 9 (es := []) (by rfl) 9 1) [0] (by rfl) (subOk_one 0 (by rfl) (by rfl)) (by rfl) (by rfl) (by rfl)
  ·have hl := rev_last r q
   have el : ((r.length + 1 : Nat) : Int) - 1 = (r.length : Int) := by omega
   have ht := rev_take r q
   have hall' : ∀ y ∈ r, y.length ≤ 1000000 := fun y hy => hall y (by simp [hy])
   have hq := hall q (by simp)
   (try simp only [AWs_eq, ARgs_eq, AOps_eq, iteP_true, iteP_false]); (try simp -implicitDefEqProofs (disch := (first | omega | (simp only [List.length_append, List.length_cons, List.length_map, List.length_nil, List.length_take, List.length_drop]; omega))) only [↓zpre, zpost, cst1, ↓reduceIte, Nat.reduceEqDiff, Nat.reduceAdd, Nat.reduceLT, Nat.reduceLeDiff, Nat.reduceMul, Nat.reduceSub, Int.reduceToNat, Int.reduceAdd, Int.reduceSub, Int.reduceMul, Int.reduceNeg, Int.reduceLE, Int.reduceLT, Int.reduceEq, Int.reduceBEq, Int.reduceBNe, Nat.reduceBEq, Nat.reduceBNe, aBin, aEq, aEqF, aNilEq, aInt, aStr, aUn, aConv, aNil, aFldAddr, aFld, aIdxAddr, aIdx, aBui, aLoad, aStore, aLits, aLit, aMake, aMakeW, aMapSet, aLook, kfind, keq, kok, lookOut, aMk, aRange, aNext, aBytes, aApp, srcOf, aSlice, aBound, modeCut, apart, aFill, aval, aGd, ACall, AV.wk, AV.wk2, AV.wk1, AV.cells, AV.solid, AV.ro, AV.ro1, ← List.map_take, ← List.map_drop, reduceCtorEq, Option.isNone_some, Option.isSome_none, tf0, tf1, tf2, tf3, tf4, tf5, tf6, tf7, tf8, tf9, tf10, tf11, tf12, tf13, tf14, tf15, tf16, tf17, tf18, tf19, tf20, tf21, tf22, tf23, tf24, tf25, tf26, tf27, tf28, tf29, List.length_reverse, el, hl, ht])
   refine call_pure (rsplit_c n (by omega) (by omega)) (by rfl) (by rfl) (by rfl) ?_
   have h3 := sp_lt (n := n) (by omega)
   have h4 := sp_pos n
   simp only [climb, if_neg h1]
   by_cases hs : i < sp n
   ·rw [if_pos hs]
    have hc := climb_len r i (sp n) x hx
    have hi' := ih i (sp n) x hs (by omega) (by omega) hx hall'
    generalize climb r i (sp n) x = C at *
    obtain ⟨a, L, ok⟩ := C
    simp only at hc hi' ⊢
    (try simp only [AWs_eq, ARgs_eq, AOps_eq, iteP_true, iteP_false]); (try simp -implicitDefEqProofs (disch := (first | omega | (simp only [List.length_append, List.length_cons, List.length_map, List.length_nil, List.length_take, List.length_drop]; omega))) only [↓zpre, zpost, cst1, ↓reduceIte, Nat.reduceEqDiff, Nat.reduceAdd, Nat.reduceLT, Nat.reduceLeDiff, Nat.reduceMul, Nat.reduceSub, Int.reduceToNat, Int.reduceAdd, Int.reduceSub, Int.reduceMul, Int.reduceNeg, Int.reduceLE, Int.reduceLT, Int.reduceEq, Int.reduceBEq, Int.reduceBNe, Nat.reduceBEq, Nat.reduceBNe, aBin, aEq, aEqF, aNilEq, aInt, aStr, aUn, aConv, aNil, aFldAddr, aFld, aIdxAddr, aIdx, aBui, aLoad, aStore, aLits, aLit, aMake, aMakeW, aMapSet, aLook, kfind, keq, kok, lookOut, aMk, aRange, aNext, aBytes, aApp, srcOf, aSlice, aBound, modeCut, apart, aFill, aval, aGd, ACall, AV.wk, AV.wk2, AV.wk1, AV.cells, AV.solid, AV.ro, AV.ro1, ← List.map_take, ← List.map_drop, reduceCtorEq, Option.isNone_some, Option.isSome_none, tf0, tf1, tf2, tf3, tf4, tf5, tf6, tf7, tf8, tf9, tf10, tf11, tf12, tf13, tf14, tf15, tf16, tf17, tf18, tf19, tf20, tf21, tf22, tf23, tf24, tf25, tf26, tf27, tf28, tf29, List.length_reverse, el, hl, ht])
    refine call_mk hi' ?_
    cases ok
    ·simp only [Bool.false_eq_true, if_false]
     (try simp only [AWs_eq, ARgs_eq, AOps_eq, iteP_true, iteP_false]); (try simp -implicitDefEqProofs (disch := (first | omega | (simp only [List.length_append, List.length_cons, List.length_map, List.length_nil, List.length_take, List.length_drop]; omega))) only [↓zpre, zpost, cst1, ↓reduceIte, Nat.reduceEqDiff, Nat.reduceAdd, Nat.reduceLT, Nat.reduceLeDiff, Nat.reduceMul, Nat.reduceSub, Int.reduceToNat, Int.reduceAdd, Int.reduceSub, Int.reduceMul, Int.reduceNeg, Int.reduceLE, Int.reduceLT, Int.reduceEq, Int.reduceBEq, Int.reduceBNe, Nat.reduceBEq, Nat.reduceBNe, aBin, aEq, aEqF, aNilEq, aInt, aStr, aUn, aConv, aNil, aFldAddr, aFld, aIdxAddr, aIdx, aBui, aLoad, aStore, aLits, aLit, aMake, aMakeW, aMapSet, aLook, kfind, keq, kok, lookOut, aMk, aRange, aNext, aBytes, aApp, srcOf, aSlice, aBound, modeCut, apart, aFill, aval, aGd, ACall, AV.wk, AV.wk2, AV.wk1, AV.cells, AV.solid, AV.ro, AV.ro1, ← List.map_take, ← List.map_drop, reduceCtorEq, Option.isNone_some, Option.isSome_none, tf0, tf1, tf2, tf3, tf4, tf5, tf6, tf7, tf8, tf9, tf10, tf11, tf12, tf13, tf14, tf15, tf16, tf17, tf18, tf19, tf20, tf21, tf22, tf23, tf24, tf25, tf26, tf27, tf28, tf29, List.length_reverse, el, hl, ht])
     refine ends_retW _ _ (Weak.reserve _ 9 (es := []) (by rfl) 9 1) [1] (by rfl) (subOk_one 1 (by rfl) (by rfl)) (by rfl) (by rfl) (by rfl)
    ·rw [if_pos rfl]
     (try simp only [AWs_eq, ARgs_eq, AOps_eq, iteP_true, iteP_false]); (try simp -implicitDefEqProofs (disch := (first | omega | (simp only [List.length_append, List.length_cons, List.length_map, List.length_nil, List.length_take, List.length_drop]; omega))) only [↓zpre, zpost, cst1, ↓reduceIte, Nat.reduceEqDiff, Nat.reduceAdd, Nat.reduceLT, Nat.reduceLeDiff, Nat.reduceMul, Nat.reduceSub, Int.reduceToNat, Int.reduceAdd, Int.reduceSub, Int.reduceMul, Int.reduceNeg, Int.reduceLE, Int.reduceLT, Int.reduceEq, Int.reduceBEq, Int.reduceBNe, Nat.reduceBEq, Nat.reduceBNe, aBin, aEq, aEqF, aNilEq, aInt, aStr, aUn, aConv, aNil, aFldAddr, aFld, aIdxAddr, aIdx, aBui, aLoad, aStore, aLits, aLit, aMake, aMakeW, aMapSet, aLook, kfind, keq, kok, lookOut, aMk, aRange, aNext, aBytes, aApp, srcOf, aSlice, aBound, modeCut, apart, aFill, aval, aGd, ACall, AV.wk, AV.wk2, AV.wk1, AV.cells, AV.solid, AV.ro, AV.ro1, ← List.map_take, ← List.map_drop, reduceCtorEq, Option.isNone_some, Option.isSome_none, tf0, tf1, tf2, tf3, tf4, tf5, tf6, tf7, tf8, tf9, tf10, tf11, tf12, tf13, tf14, tf15, tf16, tf17, tf18, tf19, tf20, tf21, tf22, tf23, tf24, tf25, tf26, tf27, tf28, tf29, List.length_reverse, el, hl, ht])
     refine call_pure (rnode_c a q hc.1 hq) (by rfl) (by rfl) (by rfl) ?_
     (try simp only [AWs_eq, ARgs_eq, AOps_eq, iteP_true, iteP_false]); (try simp -implicitDefEqProofs (disch := (first | omega | (simp only [List.length_append, List.length_cons, List.length_map, List.length_nil, List.length_take, List.length_drop]; omega))) only [↓zpre, zpost, cst1, ↓reduceIte, Nat.reduceEqDiff, Nat.reduceAdd, Nat.reduceLT, Nat.reduceLeDiff, Nat.reduceMul, Nat.reduceSub, Int.reduceToNat, Int.reduceAdd, Int.reduceSub, Int.reduceMul, Int.reduceNeg, Int.reduceLE, Int.reduceLT, Int.reduceEq, Int.reduceBEq, Int.reduceBNe, Nat.reduceBEq, Nat.reduceBNe, aBin, aEq, aEqF, aNilEq, aInt, aStr, aUn, aConv, aNil, aFldAddr, aFld, aIdxAddr, aIdx, aBui, aLoad, aStore, aLits, aLit, aMake, aMakeW, aMapSet, aLook, kfind, keq, kok, lookOut, aMk, aRange, aNext, aBytes, aApp, srcOf, aSlice, aBound, modeCut, apart, aFill, aval, aGd, ACall, AV.wk, AV.wk2, AV.wk1, AV.cells, AV.solid, AV.ro, AV.ro1, ← List.map_take, ← List.map_drop, reduceCtorEq, Option.isNone_some, Option.isSome_none, tf0, tf1, tf2, tf3, tf4, tf5, tf6, tf7, tf8, tf9, tf10, tf11, tf12, tf13, tf14, tf15, tf16, tf17, tf18, tf19, tf20, tf21, tf22, tf23, tf24, tf25, tf26, tf27, tf28, tf29, List.length_reverse, el, hl, ht])
     refine call_pure (rpre_c a q hc.1 hq) (by rfl) (by rfl) (by rfl) ?_
     (try simp only [AWs_eq, ARgs_eq, AOps_eq, iteP_true, iteP_false]); (try simp -implicitDefEqProofs (disch := (first | omega | (simp only [List.length_append, List.length_cons, List.length_map, List.length_nil, List.length_take, List.length_drop]; omega))) only [↓zpre, zpost, cst1, ↓reduceIte, Nat.reduceEqDiff, Nat.reduceAdd, Nat.reduceLT, Nat.reduceLeDiff, Nat.reduceMul, Nat.reduceSub, Int.reduceToNat, Int.reduceAdd, Int.reduceSub, Int.reduceMul, Int.reduceNeg, Int.reduceLE, Int.reduceLT, Int.reduceEq, Int.reduceBEq, Int.reduceBNe, Nat.reduceBEq, Nat.reduceBNe, aBin, aEq, aEqF, aNilEq, aInt, aStr, aUn, aConv, aNil, aFldAddr, aFld, aIdxAddr, aIdx, aBui, aLoad, aStore, aLits, aLit, aMake, aMakeW, aMapSet, aLook, kfind, keq, kok, lookOut, aMk, aRange, aNext, aBytes, aApp, srcOf, aSlice, aBound, modeCut, apart, aFill, aval, aGd, ACall, AV.wk, AV.wk2, AV.wk1, AV.cells, AV.solid, AV.ro, AV.ro1, ← List.map_take, ← List.map_drop, reduceCtorEq, Option.isNone_some, Option.isSome_none, tf0, tf1, tf2, tf3, tf4, tf5, tf6, tf7, tf8, tf9, tf10, tf11, tf12, tf13, tf14, tf15, tf16, tf17, tf18, tf19, tf20, tf21, tf22, tf23, tf24, tf25, tf26, tf27, tf28, tf29, List.length_reverse, el, hl, ht])
     exact ends_ret (κ := [0]) (by rfl) (subOk_one 0 (by rfl) (by simp [SObj.ren])) (by rfl) (by rfl) (by simp [resV, AV.ren, AV.r2, AV.r1, AV.r0, Mode.ren, idx, ↓upd_apply])
   ·rw [if_neg hs]
    have hc := climb_len r (i - sp n) (n - sp n) x hx
    have hi' := ih (i - sp n) (n - sp n) x (by omega) (by omega) (by omega) hx hall'
    generalize climb r (i - sp n) (n - sp n) x = C at *
    obtain ⟨a, L, ok⟩ := C
    simp only at hc hi' ⊢
    have e1 : (i : Int) - (sp n : Int) = ((i - sp n : Nat) : Int) := by omega
    have e2 : (n : Int) - (sp n : Int) = ((n - sp n : Nat) : Int) := by omega
    (try simp only [AWs_eq, ARgs_eq, AOps_eq, iteP_true, iteP_false]); (try simp -implicitDefEqProofs (disch := (first | omega | (simp only [List.length_append, List.length_cons, List.length_map, List.length_nil, List.length_take, List.length_drop]; omega))) only [↓zpre, zpost, cst1, ↓reduceIte, Nat.reduceEqDiff, Nat.reduceAdd, Nat.reduceLT, Nat.reduceLeDiff, Nat.reduceMul, Nat.reduceSub, Int.reduceToNat, Int.reduceAdd, Int.reduceSub, Int.reduceMul, Int.reduceNeg, Int.reduceLE, Int.reduceLT, Int.reduceEq, Int.reduceBEq, Int.reduceBNe, Nat.reduceBEq, Nat.reduceBNe, aBin, aEq, aEqF, aNilEq, aInt, aStr, aUn, aConv, aNil, aFldAddr, aFld, aIdxAddr, aIdx, aBui, aLoad, aStore, aLits, aLit, aMake, aMakeW, aMapSet, aLook, kfind, keq, kok, lookOut, aMk, aRange, aNext, aBytes, aApp, srcOf, aSlice, aBound, modeCut, apart, aFill, aval, aGd, ACall, AV.wk, AV.wk2, AV.wk1, AV.cells, AV.solid, AV.ro, AV.ro1, ← List.map_take, ← List.map_drop, reduceCtorEq, Option.isNone_some, Option.isSome_none, tf0, tf1, tf2, tf3, tf4, tf5, tf6, tf7, tf8, tf9, tf10, tf11, tf12, tf13, tf14, tf15, tf16, tf17, tf18, tf19, tf20, tf21, tf22, tf23, tf24, tf25, tf26, tf27, tf28, tf29, List.length_reverse, el, hl, ht, e1, e2])
    refine call_mk hi' ?_
    cases ok
    ·simp only [Bool.false_eq_true, if_false]
     (try simp only [AWs_eq, ARgs_eq, AOps_eq, iteP_true, iteP_false]); (try simp -implicitDefEqProofs (disch := (first | omega | (simp only [List.length_append, List.length_cons, List.length_map, List.length_nil, List.length_take, List.length_drop]; omega))) only [↓zpre, zpost, cst1, ↓reduceIte, Nat.reduceEqDiff, Nat.reduceAdd, Nat.reduceLT, Nat.reduceLeDiff, Nat.reduceMul, Nat.reduceSub, Int.reduceToNat, Int.reduceAdd, Int.reduceSub, Int.reduceMul, Int.reduceNeg, Int.reduceLE, Int.reduceLT, Int.reduceEq, Int.reduceBEq, Int.reduceBNe, Nat.reduceBEq, Nat.reduceBNe, aBin, aEq, aEqF, aNilEq, aInt, aStr, aUn, aConv, aNil, aFldAddr, aFld, aIdxAddr, aIdx, aBui, aLoad, aStore, aLits, aLit, aMake, aMakeW, aMapSet, aLook, kfind, keq, kok, lookOut, aMk, aRange, aNext, aBytes, aApp, srcOf, aSlice, aBound, modeCut, apart, aFill, aval, aGd, ACall, AV.wk, AV.wk2, AV.wk1, AV.cells, AV.solid, AV.ro, AV.ro1, ← List.map_take, ← List.map_drop, reduceCtorEq, Option.isNone_some, Option.isSome_none, tf0, tf1, tf2, tf3, tf4, tf5, tf6, tf7, tf8, tf9, tf10, tf11, tf12, tf13, tf14, tf15, tf16, tf17, tf18, tf19, tf20, tf21, tf22, tf23, tf24, tf25, tf26, tf27, tf28, tf29, List.length_reverse, el, hl, ht])
     refine ends_retW _ _ (Weak.reserve _ 9 (es := []) (by rfl) 9 1) [1] (by rfl) (subOk_one 1 (by rfl) (by rfl)) (by rfl) (by rfl) (by rfl)
    ·rw [if_pos rfl]
     (try simp only [AWs_eq, ARgs_eq, AOps_eq, iteP_true, iteP_false]); (try simp -implicitDefEqProofs (disch := (first | omega | (simp only [List.length_append, List.length_cons, List.length_map, List.length_nil, List.length_take, List.length_drop]; omega))) only [↓zpre, zpost, cst1, ↓reduceIte, Nat.reduceEqDiff, Nat.reduceAdd, Nat.reduceLT, Nat.reduceLeDiff, Nat.reduceMul, Nat.reduceSub, Int.reduceToNat, Int.reduceAdd, Int.reduceSub, Int.reduceMul, Int.reduceNeg, Int.reduceLE, Int.reduceLT, Int.reduceEq, Int.reduceBEq, Int.reduceBNe, Nat.reduceBEq, Nat.reduceBNe, aBin, aEq, aEqF, aNilEq, aInt, aStr, aUn, aConv, aNil, aFldAddr, aFld, aIdxAddr, aIdx, aBui, aLoad, aStore, aLits, aLit, aMake, aMakeW, aMapSet, aLook, kfind, keq, kok, lookOut, aMk, aRange, aNext, aBytes, aApp, srcOf, aSlice, aBound, modeCut, apart, aFill, aval, aGd, ACall, AV.wk, AV.wk2, AV.wk1, AV.cells, AV.solid, AV.ro, AV.ro1, ← List.map_take, ← List.map_drop, reduceCtorEq, Option.isNone_some, Option.isSome_none, tf0, tf1, tf2, tf3, tf4, tf5, tf6, tf7, tf8, tf9, tf10, tf11, tf12, tf13, tf14, tf15, tf16, tf17, tf18, tf19, tf20, tf21, tf22, tf23, tf24, tf25, tf26, tf27, tf28, tf29, List.length_reverse, el, hl, ht])
     refine call_pure (rnode_c q a hq hc.1) (by rfl) (by rfl) (by rfl) ?_
     (try simp only [AWs_eq, ARgs_eq, AOps_eq, iteP_true, iteP_false]); (try simp -implicitDefEqProofs (disch := (first | omega | (simp only [List.length_append, List.length_cons, List.length_map, List.length_nil, List.length_take, List.length_drop]; omega))) only [↓zpre, zpost, cst1, ↓reduceIte, Nat.reduceEqDiff, Nat.reduceAdd, Nat.reduceLT, Nat.reduceLeDiff, Nat.reduceMul, Nat.reduceSub, Int.reduceToNat, Int.reduceAdd, Int.reduceSub, Int.reduceMul, Int.reduceNeg, Int.reduceLE, Int.reduceLT, Int.reduceEq, Int.reduceBEq, Int.reduceBNe, Nat.reduceBEq, Nat.reduceBNe, aBin, aEq, aEqF, aNilEq, aInt, aStr, aUn, aConv, aNil, aFldAddr, aFld, aIdxAddr, aIdx, aBui, aLoad, aStore, aLits, aLit, aMake, aMakeW, aMapSet, aLook, kfind, keq, kok, lookOut, aMk, aRange, aNext, aBytes, aApp, srcOf, aSlice, aBound, modeCut, apart, aFill, aval, aGd, ACall, AV.wk, AV.wk2, AV.wk1, AV.cells, AV.solid, AV.ro, AV.ro1, ← List.map_take, ← List.map_drop, reduceCtorEq, Option.isNone_some, Option.isSome_none, tf0, tf1, tf2, tf3, tf4, tf5, tf6, tf7, tf8, tf9, tf10, tf11, tf12, tf13, tf14, tf15, tf16, tf17, tf18, tf19, tf20, tf21, tf22, tf23, tf24, tf25, tf26, tf27, tf28, tf29, List.length_reverse, el, hl, ht])
     refine call_pure (rpre_c q a hq hc.1) (by rfl) (by rfl) (by rfl) ?_
     (try simp only [AWs_eq, ARgs_eq, AOps_eq, iteP_true, iteP_false]); (try simp -implicitDefEqProofs (disch := (first | omega | (simp only [List.length_append, List.length_cons, List.length_map, List.length_nil, List.length_take, List.length_drop]; omega))) only [↓zpre, zpost, cst1, ↓reduceIte, Nat.reduceEqDiff, Nat.reduceAdd, Nat.reduceLT, Nat.reduceLeDiff, Nat.reduceMul, Nat.reduceSub, Int.reduceToNat, Int.reduceAdd, Int.reduceSub, Int.reduceMul, Int.reduceNeg, Int.reduceLE, Int.reduceLT, Int.reduceEq, Int.reduceBEq, Int.reduceBNe, Nat.reduceBEq, Nat.reduceBNe, aBin, aEq, aEqF, aNilEq, aInt, aStr, aUn, aConv, aNil, aFldAddr, aFld, aIdxAddr, aIdx, aBui, aLoad, aStore, aLits, aLit, aMake, aMakeW, aMapSet, aLook, kfind, keq, kok, lookOut, aMk, aRange, aNext, aBytes, aApp, srcOf, aSlice, aBound, modeCut, apart, aFill, aval, aGd, ACall, AV.wk, AV.wk2, AV.wk1, AV.cells, AV.solid, AV.ro, AV.ro1, ← List.map_take, ← List.map_drop, reduceCtorEq, Option.isNone_some, Option.isSome_none, tf0, tf1, tf2, tf3, tf4, tf5, tf6, tf7, tf8, tf9, tf10, tf11, tf12, tf13, tf14, tf15, tf16, tf17, tf18, tf19, tf20, tf21, tf22, tf23, tf24, tf25, tf26, tf27, tf28, tf29, List.length_reverse, el, hl, ht])
     exact ends_ret (κ := [0]) (by rfl) (subOk_one 0 (by rfl) (by simp [SObj.ren])) (by rfl) (by rfl) (by simp [resV, AV.ren, AV.r2, AV.r1, AV.r0, Mode.ren, idx, ↓upd_apply])
end Go.Proofs.YtaphpbiaoofmkaaGreatDoor.Pe
end
section
namespace Go.Proofs.YtaphpbiaoofmkaaGreatDoor.Pe
open Go Go.RowKit Co Sg Ac It Sl
set_option maxRecDepth 100000
set_option maxHeartbeats 4000000
theorem climb_flag : ∀ (p : List By) (i n : Nat) (x : By), (Mk.climb p i n x).2.2 = (Mk.flw p i n x).2
 | [], i, n, x => by
  simp only [Mk.climb, Mk.flw]
  split <;> rfl
 | q :: r, i, n, x => by
  have i1 := climb_flag r i (Mk.sp n) x
  have i2 := climb_flag r (i - Mk.sp n) (n - Mk.sp n) x
  simp only [Mk.climb, Mk.flw]
  by_cases hn : n = 1
  ·rw [if_pos hn, if_pos hn]
  ·rw [if_neg hn, if_neg hn]
   by_cases hs : i < Mk.sp n
   ·rw [if_pos hs, if_pos hs]
    cases hf : (Mk.climb r i (Mk.sp n) x).2.2
    ·rw [if_neg (by decide)]; rw [hf] at i1; exact i1
    ·rw [if_pos rfl]; rw [hf] at i1; exact i1
   ·rw [if_neg hs, if_neg hs]
    cases hf : (Mk.climb r (i - Mk.sp n) (n - Mk.sp n) x).2.2
    ·rw [if_neg (by decide)]; rw [hf] at i2; exact i2
    ·rw [if_pos rfl]; rw [hf] at i2; exact i2
theorem rincl_c (p : List By) (i n : Int) (x root : By) (hn : n ≤ 9223372036854775807) (hx : x.length = 32) (hp : p.length ≤ 1000000) :
  AC Tryz.prog 171 [.st x, .it .i64 i, .it .i64 n, .st root, sls p] [] (.bo (inclT x i n root p)) [] := by
 refine AC.enter2 [261] [] Tryz.func171 rfl (by decide) (by decide) (Nat.le_of_ble_eq_true rfl) (by kernel_rfl) ?_; simp only [eraseC, eraseO, List.map_cons, List.map_nil, List.map_toArray, List.getElem?_toArray, List.getElem?_cons_zero, List.getElem?_cons_succ, Option.bind_some, Option.bind_none, List.append_eq, List.cons_append, List.nil_append]
 have kd := fdigests_c p (by omega)
 have q2 : ((x.length : Int) != 32) = false := bneF (by omega)
 have q2' : ((x.length : Int) == 32) = true := by rw [hx]; rfl
 have hpd : (p.all fun s => (s.length : Int) == 32) = p.all dig := by
  congr 1
  funext s
  unfold dig
  by_cases h : s.length = 32
  ·simp [h]
  ·rw [decide_eq_false h]; exact beqF (by omega)
 unfold inclT
 rw [q2', hpd]
 by_cases c1 : i < 0
 ·rw [decide_eq_false (show ¬ 0 ≤ i by omega)]
  refine runf @c1 ?_
  exact er0
 by_cases c2 : n ≤ i
 ·rw [decide_eq_true (show 0 ≤ i by omega), decide_eq_false (show ¬ i < n by omega)]
  refine runf (an @c1 @c2) ?_
  exact er0
 rw [decide_eq_true (show 0 ≤ i by omega), decide_eq_true (show i < n by omega)]
 cases hd : p.all dig with
 | false =>
  rw [hd] at kd
  refine runf (an @c1 (an @c2 @q2)) ?_
  refine cp kd ?_
  refine run ?_
  exact er0
 | true =>
 rw [hd] at kd
 obtain ⟨i, rfl⟩ := Int.eq_ofNat_of_zero_le (show 0 ≤ i by omega)
 obtain ⟨n, rfl⟩ := Int.eq_ofNat_of_zero_le (show 0 ≤ n by omega)
 have hcl := climb_c p.reverse i n x (by omega) (by omega) (by simp; omega) (by omega) (fun y hy => by have := of_decide_eq_true (List.all_eq_true.1 hd y (by simpa using hy)); omega)
 rw [List.reverse_reverse] at hcl
 have hfl := climb_flag p.reverse i n x
 have hfw := Mk.climb_flw p.reverse i n x
 simp only [Int.toNat_natCast]
 generalize Mk.flw p.reverse i n x = F at *
 generalize Mk.climb p.reverse i n x = C at *
 obtain ⟨f1, f2⟩ := F
 obtain ⟨r1, r2, r3⟩ := C
 simp only at hcl hfl hfw ⊢
 subst hfl
 refine runf (an @c1 (an @c2 @q2)) ?_
 refine cp kd ?_
 refine run ?_
 refine call_mk hcl ?_
 cases r3 with
 | false =>
  refine run ?_
  exact er0
 | true =>
  obtain rfl := (hfw rfl).2
  refine run ?_
  exact er0
end Go.Proofs.YtaphpbiaoofmkaaGreatDoor.Pe
end
section
namespace Go.Proofs.YtaphpbiaoofmkaaGreatDoor.Pe
open Go Go.RowKit Co Sg Ac It Sl
set_option maxRecDepth 100000
set_option maxHeartbeats 4000000
theorem fcheck29_c (ps : List Int) (id : By) (g : Grave) (hp : InL ps) (hr : InR g.rcpt) (hz : Iz g.entry.item) (hsz : g.rcpt.head.size ≤ 9223372036854775807) (hpl : g.path.length ≤ 1000000) : AC Tryz.prog 73 [intsV ps, .st id, graveV g] [] (.bo (checkT ps id g)) [] := by
 refine AC.enter2 [67, 170, 81, 171] [] Tryz.func73 rfl (by decide) (by decide) (Nat.le_of_ble_eq_true rfl) (by kernel_rfl) ?_; simp only [eraseC, eraseO, List.map_cons, List.map_nil, List.map_toArray, List.getElem?_toArray, List.getElem?_cons_zero, List.getElem?_cons_succ, Option.bind_some, Option.bind_none, List.append_eq, List.cons_append, List.nil_append]
 have k1 := fverify29_c ps g.rcpt hp hr
 have k2 := fdel29_c g.entry id hz
 have k3 := rleaf15_c g.entry hz
 have k4' := rincl_c g.path g.at' g.rcpt.head.size (leafE g.entry) g.rcpt.head.root hsz (leafE_len _) hpl
 unfold checkT
 generalize leafE g.entry = x at *
 generalize inclT x g.at' g.rcpt.head.size g.rcpt.head.root g.path = q at *
 cases hv : verifyT ps g.rcpt with
 | false =>
  rw [hv] at k1
  refine run ?_
  refine cp k1 ?_
  refine run ?_
  exact er0
 | true =>
 rw [hv] at k1
 cases hd : delT g.entry id with
 | false =>
  rw [hd] at k2
  refine run ?_
  refine cp k1 ?_
  refine run ?_
  refine cp k2 ?_
  refine run ?_
  exact er0
 | true =>
 rw [hd] at k2
 refine run ?_
 refine cp k1 ?_
 refine run ?_
 refine cp k2 ?_
 refine run ?_
 refine cp k3 ?_
 refine run ?_
 refine cp k4' ?_
 refine run ?_
 exact er0
end Go.Proofs.YtaphpbiaoofmkaaGreatDoor.Pe
end
section
namespace Go.Proofs.YtaphpbiaoofmkaaGreatDoor.Pe
open Go Go.RowKit Co Sg Ac It Sl
set_option maxRecDepth 100000
set_option maxHeartbeats 4000000
theorem fsameTexts_c (a b : List By) (ha : a.length ≤ 1000000) (hb : b.length ≤ 1000000) : AC Tryz.prog 167 [sls a, sls b] [] (.bo (decide (a = b))) [] := by
 refine AC.enter2 [] [] Tryz.func167 rfl (by decide) (by decide) (Nat.le_of_ble_eq_true rfl) (by kernel_rfl) ?_; simp only [eraseC, eraseO, List.map_cons, List.map_nil, List.map_toArray, List.getElem?_toArray, List.getElem?_cons_zero, List.getElem?_cons_succ, Option.bind_some, Option.bind_none, List.append_eq, List.cons_append, List.nil_append]
 by_cases h0 : a.length = b.length
 rotate_left
 ·rw [decide_eq_false (fun h => h0 (by rw [h]))]
  refine run ?_
  exact er0
 refine run ?_
 refine loop_mk (fun m e S => S = [] ∧ e 0 = sls a ∧ e 1 = sls b ∧ ∃ k, e 5 = .it .i64 ((k : Nat) : Int) ∧ k ≤ a.length ∧ a.take k = b.take k ∧ m = a.length - k) a.length ⟨rfl, (by first | rfl | (simp only [↓upd_apply, ↓put_some, ↓reduceIte, Nat.reduceEqDiff, ↓argEnv_zero, ↓argEnv_succ, *]; done)), (by first | rfl | (simp only [↓upd_apply, ↓put_some, ↓reduceIte, Nat.reduceEqDiff, ↓argEnv_zero, ↓argEnv_succ, *]; done)), 0, (by first | rfl | (simp only [↓upd_apply, ↓put_some, ↓reduceIte, Nat.reduceEqDiff, ↓argEnv_zero, ↓argEnv_succ, *]; done)), by omega, rfl, rfl⟩ ?_
 rintro m e S ⟨rfl, h1, h2, k, h3, hk, hab, rfl⟩
 by_cases hlt : k < a.length
 ·have ga : a[k]? = some a[k] := List.getElem?_eq_getElem hlt
  have gb : b[k]? = some (b[k]'(by omega)) := List.getElem?_eq_getElem (by omega)
  by_cases he : a[k] = b[k]'(by omega)
  ·have he' : (a[k] == b[k]'(by omega)) = true := by simp [he]
   refine runf (an @h1 (an @h2 (an @h3 (an @ga (an @gb @he'))))) ?_
   exact round_mk (a.length - (k + 1)) (by omega) ⟨rfl, (by first | rfl | (simp only [↓upd_apply, ↓put_some, ↓reduceIte, Nat.reduceEqDiff, ↓argEnv_zero, ↓argEnv_succ, *]; done)), (by first | rfl | (simp only [↓upd_apply, ↓put_some, ↓reduceIte, Nat.reduceEqDiff, ↓argEnv_zero, ↓argEnv_succ, *]; done)), k + 1, (by first | rfl | (simp only [↓upd_apply, ↓put_some, ↓reduceIte, Nat.reduceEqDiff, ↓argEnv_zero, ↓argEnv_succ, *]; done)), by omega, by rw [List.take_succ_eq_append_getElem hlt, List.take_succ_eq_append_getElem (by omega : k < b.length), hab, he], rfl⟩
  ·have he' : (a[k] == b[k]'(by omega)) = false := by simp [he]
   have : decide (a = b) = false := by rw [decide_eq_false_iff_not]; intro h; subst h; exact he rfl
   rw [this]
   refine runf (an @h1 (an @h2 (an @h3 (an @ga (an @gb @he'))))) ?_
   exact er0
 ·have hk' : k = a.length := by omega
  have : decide (a = b) = true := by
   rw [decide_eq_true_iff, ← List.take_length (l := a), ← List.take_length (l := b), ← h0, ← hk']; exact hab
  rw [this]
  refine runf (an @h1 (an @h2 @h3)) ?_
  exact er0
theorem fsameNums_c (a b : List Int) (ha : a.length ≤ 1000000) (hb : b.length ≤ 1000000) : AC Tryz.prog 76 [intsV a, intsV b] [] (.bo (decide (a = b))) [] := by
 refine AC.enter2 [] [] Tryz.func76 rfl (by decide) (by decide) (Nat.le_of_ble_eq_true rfl) (by kernel_rfl) ?_; simp only [eraseC, eraseO, List.map_cons, List.map_nil, List.map_toArray, List.getElem?_toArray, List.getElem?_cons_zero, List.getElem?_cons_succ, Option.bind_some, Option.bind_none, List.append_eq, List.cons_append, List.nil_append]
 have za : allSz 1 (a.map (AV.it .i64)) = true := allSz_map 1 _ (fun _ => rfl) _
 have zb : allSz 1 (b.map (AV.it .i64)) = true := allSz_map 1 _ (fun _ => rfl) _
 by_cases h0 : a.length = b.length
 rotate_left
 ·rw [decide_eq_false (fun h => h0 (by rw [h]))]
  refine run ?_
  exact er0
 refine run ?_
 refine loop_mk (fun m e S => S = [] ∧ e 0 = intsV a ∧ e 1 = intsV b ∧ ∃ k, e 5 = .it .i64 ((k : Nat) : Int) ∧ k ≤ a.length ∧ a.take k = b.take k ∧ m = a.length - k) a.length ⟨rfl, (by first | rfl | (simp only [↓upd_apply, ↓put_some, ↓reduceIte, Nat.reduceEqDiff, ↓argEnv_zero, ↓argEnv_succ, *]; done)), (by first | rfl | (simp only [↓upd_apply, ↓put_some, ↓reduceIte, Nat.reduceEqDiff, ↓argEnv_zero, ↓argEnv_succ, *]; done)), 0, (by first | rfl | (simp only [↓upd_apply, ↓put_some, ↓reduceIte, Nat.reduceEqDiff, ↓argEnv_zero, ↓argEnv_succ, *]; done)), by omega, rfl, rfl⟩ ?_
 rintro m e S ⟨rfl, h1, h2, k, h3, hk, hab, rfl⟩
 by_cases hlt : k < a.length
 ·have ga : a[k]? = some a[k] := List.getElem?_eq_getElem hlt
  have gb : b[k]? = some (b[k]'(by omega)) := List.getElem?_eq_getElem (by omega)
  by_cases he : a[k] = b[k]'(by omega)
  ·have he' : (a[k] == b[k]'(by omega)) = true := by rw [he]; exact beq_self_eq_true _
   refine runf (an @h1 (an @h2 (an @h3 (an @ga (an @gb (an @he' (an @za @zb))))))) ?_
   exact round_mk (a.length - (k + 1)) (by omega) ⟨rfl, (by first | rfl | (simp only [↓upd_apply, ↓put_some, ↓reduceIte, Nat.reduceEqDiff, ↓argEnv_zero, ↓argEnv_succ, *]; done)), (by first | rfl | (simp only [↓upd_apply, ↓put_some, ↓reduceIte, Nat.reduceEqDiff, ↓argEnv_zero, ↓argEnv_succ, *]; done)), k + 1, (by first | rfl | (simp only [↓upd_apply, ↓put_some, ↓reduceIte, Nat.reduceEqDiff, ↓argEnv_zero, ↓argEnv_succ, *]; done)), by omega, by rw [List.take_succ_eq_append_getElem hlt, List.take_succ_eq_append_getElem (by omega : k < b.length), hab, he], rfl⟩
  ·have he' : (a[k] == b[k]'(by omega)) = false := beqF he
   have : decide (a = b) = false := by rw [decide_eq_false_iff_not]; intro h; subst h; exact he rfl
   rw [this]
   refine runf (an @h1 (an @h2 (an @h3 (an @ga (an @gb (an @he' (an @za @zb))))))) ?_
   exact er0
 ·have hk' : k = a.length := by omega
  have : decide (a = b) = true := by
   rw [decide_eq_true_iff, ← List.take_length (l := a), ← List.take_length (l := b), ← h0, ← hk']; exact hab
  rw [this]
  refine runf (an @h1 (an @h2 @h3)) ?_
  exact er0
theorem fholds29_c (ps : List Int) (id : By) (l : List It.Entry) (log : Int) (r : Receipt) (hp : InL ps) (hr : InR r) (hl : l.length ≤ 1000000) (hz : ∀ e ∈ l, Iz e.item) :
  AC Tryz.prog 176 [intsV ps, .st id, entriesV l, .it .i64 log, rcptV r] [] (.bo (holdsT ps id l log r)) [] := by
 refine AC.enter2 [67, 70, 170] [] Tryz.func176 rfl (by decide) (by decide) (Nat.le_of_ble_eq_true rfl) (by kernel_rfl) ?_; simp only [eraseC, eraseO, List.map_cons, List.map_nil, List.map_toArray, List.getElem?_toArray, List.getElem?_cons_zero, List.getElem?_cons_succ, Option.bind_some, Option.bind_none, List.append_eq, List.cons_append, List.nil_append]
 have hsz := entries_sz l
 have kv := fverify29_c ps r hp hr
 obtain ⟨q, hq⟩ : ∃ q, holdsT ps id l log r = q := ⟨_, rfl⟩
 rw [hq]
 unfold holdsT at hq
 by_cases c1 : r.head.server = log
 rotate_left
 ·have q1 : (r.head.server != log) = true := bneT c1
  rw [decide_eq_false c1] at hq
  obtain rfl : q = false := by rw [← hq]; rfl
  refine runf @q1 ?_
  exact er0
 have q1 : (r.head.server != log) = false := bneF c1
 rw [decide_eq_true c1, Bool.true_and] at hq
 cases hv : verifyT ps r with
 | false =>
  rw [hv] at kv hq
  obtain rfl : q = false := by rw [← hq]; rfl
  refine runf @q1 ?_
  refine cp kv ?_
  refine run ?_
  exact er0
 | true =>
 rw [hv] at kv hq
 rw [Bool.true_and] at hq
 refine runf @q1 ?_
 refine cp kv ?_
 refine run ?_
 refine loop_mk (fun m e S => e 1 = .st id ∧ e 2 = entriesV l ∧ e 9 = .ptr 0 0 ∧ ∃ (k : Nat) (T : Store), e 11 = .it .i64 (k : Int) ∧ S = .cells (rcptV r).cells :: T ∧ k ≤ l.length ∧ (∀ j, j < k → ((proveT l (j : Int) r).2 && delT (l.getD j ⟨0, item0⟩) id) = false) ∧ m = l.length - k) l.length
  ⟨(by first | rfl | (simp only [↓upd_apply, ↓put_some, ↓reduceIte, Nat.reduceEqDiff, ↓argEnv_zero, ↓argEnv_succ, *]; done)), (by first | rfl | (simp only [↓upd_apply, ↓put_some, ↓reduceIte, Nat.reduceEqDiff, ↓argEnv_zero, ↓argEnv_succ, *]; done)), (by first | rfl | (simp only [↓upd_apply, ↓put_some, ↓reduceIte, Nat.reduceEqDiff, ↓argEnv_zero, ↓argEnv_succ, *]; done)), 0, [], (by first | rfl | (simp only [↓upd_apply, ↓put_some, ↓reduceIte, Nat.reduceEqDiff, ↓argEnv_zero, ↓argEnv_succ, *]; done)), rfl, by omega, fun j hj => absurd hj (Nat.not_lt_zero _), rfl⟩ ?_
 rintro m e S ⟨s1, s2, s9, k, T, s11, rfl, hk, hf, rfl⟩
 by_cases hlt : k < l.length
 ·have hg : l[k]? = some (l.getD k ⟨0, item0⟩) := by rw [List.getD_eq_getElem?_getD, List.getElem?_eq_getElem hlt]; rfl
  have hzk : Iz (l.getD k ⟨0, item0⟩).item := by
   rw [List.getD_eq_getElem?_getD, List.getElem?_eq_getElem hlt]
   exact hz _ (List.getElem_mem hlt)
  have hT1 : ∀ o : SObj, (T ++ [o])[T.length]? = some o := fun o => by simp
  have hT2 : ∀ o o' : SObj, (T ++ [o]).set T.length o' = T ++ [o'] := fun o o' => by simp
  have kp := fprove29_c l (k : Int) r hl hz
  have kd := fdel29_c (l.getD k ⟨0, item0⟩) id hzk
  have hyes : ((proveT l (k : Int) r).2 && delT (l.getD k ⟨0, item0⟩) id) = true → q = true := fun h => by
   rw [← hq, List.any_eq_true]
   exact ⟨k, List.mem_range.2 hlt, h⟩
  have hnext : ((proveT l (k : Int) r).2 && delT (l.getD k ⟨0, item0⟩) id) = false → ∀ j, j < k + 1 → ((proveT l (j : Int) r).2 && delT (l.getD j ⟨0, item0⟩) id) = false := fun h j hj => by
   by_cases hjk : j = k
   ·subst hjk; exact h
   ·exact hf j (by omega)
  generalize l.getD k ⟨0, item0⟩ = x at *
  have hlti : (k : Int) < (l.length : Int) := by omega
  generalize proveT l (k : Int) r = pr at *
  obtain ⟨gr, ok⟩ := pr
  simp only at kp hyes hnext
  cases ok with
  | false =>
   refine runf (an @s1 (an @s2 (an @s9 (an @s11 @hlti)))) ?_
   refine cp kp ?_
   refine runf (an @s1 (an @s2 (an @s9 (an @s11 (an @hlti (an @hT1 @hT2)))))) ?_
   exact round_mk (l.length - (k + 1)) (by omega) ⟨(by first | rfl | (simp only [↓upd_apply, ↓put_some, ↓reduceIte, Nat.reduceEqDiff, ↓argEnv_zero, ↓argEnv_succ, *]; done)), (by first | rfl | (simp only [↓upd_apply, ↓put_some, ↓reduceIte, Nat.reduceEqDiff, ↓argEnv_zero, ↓argEnv_succ, *]; done)), (by first | rfl | (simp only [↓upd_apply, ↓put_some, ↓reduceIte, Nat.reduceEqDiff, ↓argEnv_zero, ↓argEnv_succ, *]; done)), k + 1, _, (by first | rfl | (simp only [↓upd_apply, ↓put_some, ↓reduceIte, Nat.reduceEqDiff, ↓argEnv_zero, ↓argEnv_succ, *]; done)), rfl, by omega, hnext rfl, rfl⟩
  | true =>
   rw [Bool.true_and] at hyes hnext
   cases hd : delT x id with
   | false =>
    rw [hd] at kd
    refine runf (an @s1 (an @s2 (an @s9 (an @s11 @hlti)))) ?_
    refine cp kp ?_
    refine runf (an @s1 (an @s2 (an @s9 (an @s11 (an @hlti (an @hT1 (an @hT2 (an @hg @hsz)))))))) ?_
    refine cp kd ?_
    refine runf (an @s1 (an @s2 (an @s9 (an @s11 (an @hlti (an @hT1 @hT2)))))) ?_
    exact round_mk (l.length - (k + 1)) (by omega) ⟨(by first | rfl | (simp only [↓upd_apply, ↓put_some, ↓reduceIte, Nat.reduceEqDiff, ↓argEnv_zero, ↓argEnv_succ, *]; done)), (by first | rfl | (simp only [↓upd_apply, ↓put_some, ↓reduceIte, Nat.reduceEqDiff, ↓argEnv_zero, ↓argEnv_succ, *]; done)), (by first | rfl | (simp only [↓upd_apply, ↓put_some, ↓reduceIte, Nat.reduceEqDiff, ↓argEnv_zero, ↓argEnv_succ, *]; done)), k + 1, _, (by first | rfl | (simp only [↓upd_apply, ↓put_some, ↓reduceIte, Nat.reduceEqDiff, ↓argEnv_zero, ↓argEnv_succ, *]; done)), rfl, by omega, hnext hd, rfl⟩
   | true =>
    rw [hd] at kd
    obtain rfl := hyes hd
    refine runf (an @s1 (an @s2 (an @s9 (an @s11 @hlti)))) ?_
    refine cp kp ?_
    refine runf (an @s1 (an @s2 (an @s9 (an @s11 (an @hlti (an @hT1 (an @hT2 (an @hg @hsz)))))))) ?_
    refine cp kd ?_
    refine runf (an @s1 (an @s2 (an @s9 (an @s11 (an @hlti (an @hT1 @hT2)))))) ?_
    exact er0
 ·have hlti : ¬ (k : Int) < (l.length : Int) := by omega
  obtain rfl : q = false := by
   rw [← hq, List.any_eq_false]
   intro j hj h
   rw [hf j (by have := List.mem_range.1 hj; omega)] at h
   cases h
  refine runf (an @s1 (an @s2 (an @s9 (an @s11 @hlti)))) ?_
  exact er0
theorem fanswered29_c (ps : List Int) (id : By) (l : List It.Entry) (log : Int) (rs : List Receipt) (hp : InL ps) (hpl : ps.length ≤ 1000000) (hl : l.length ≤ 1000000) (hz : ∀ e ∈ l, Iz e.item) (hrl : rs.length ≤ 1000000) (hrs : ∀ r ∈ rs, InR r) :
  AC Tryz.prog 75 [intsV ps, .st id, entriesV l, .it .i64 log, rcptsV rs] [] (intsV (answeredT ps id l log rs)) [] := by
 refine AC.enter2 [176] [] Tryz.func75 rfl (by decide) (by decide) (Nat.le_of_ble_eq_true rfl) (by kernel_rfl) ?_; simp only [eraseC, eraseO, List.map_cons, List.map_nil, List.map_toArray, List.getElem?_toArray, List.getElem?_cons_zero, List.getElem?_cons_succ, Option.bind_some, Option.bind_none, List.append_eq, List.cons_append, List.nil_append]
 have hszr : allSz 9 (rs.map rcptV) = true := allSz_map 9 _ (fun _ => rfl) _
 obtain ⟨F, hF⟩ : ∃ F : Nat → Bool, F = fun s => rs.any fun r => decide (r.frm = ((s : Nat) : Int)) && holdsT ps id l log r := ⟨_, rfl⟩
 have hans : answeredT ps id l log rs = ((List.range ps.length).filter F).map fun s : Nat => (s : Int) := by rw [hF]; rfl
 rw [hans]
 refine run ?_
 refine loop_mk' (fun m e S => e 0 = intsV ps ∧ e 1 = .st id ∧ e 2 = entriesV l ∧ e 3 = .it .i64 log ∧ e 4 = rcptsV rs ∧ ∃ (s : Nat) (acc : List Int), e 12 = .it .i64 (s : Int) ∧ e 11 = .sl (.own 0) (acc.map (AV.it .i64)) ∧ S = [.buf acc.length 3 1] ∧ s ≤ ps.length ∧ acc = ((List.range s).filter F).map (fun s : Nat => (s : Int)) ∧ m = ps.length - s) ps.length _ _ (Weak.reserve 0 11 (es := []) (by rfl) 3 1)
  ⟨(by first | rfl | (simp only [↓upd_apply, ↓put_some, ↓reduceIte, Nat.reduceEqDiff, ↓argEnv_zero, ↓argEnv_succ, *]; done)), (by first | rfl | (simp only [↓upd_apply, ↓put_some, ↓reduceIte, Nat.reduceEqDiff, ↓argEnv_zero, ↓argEnv_succ, *]; done)), (by first | rfl | (simp only [↓upd_apply, ↓put_some, ↓reduceIte, Nat.reduceEqDiff, ↓argEnv_zero, ↓argEnv_succ, *]; done)), (by first | rfl | (simp only [↓upd_apply, ↓put_some, ↓reduceIte, Nat.reduceEqDiff, ↓argEnv_zero, ↓argEnv_succ, *]; done)), (by first | rfl | (simp only [↓upd_apply, ↓put_some, ↓reduceIte, Nat.reduceEqDiff, ↓argEnv_zero, ↓argEnv_succ, *]; done)), 0, [], (by first | rfl | (simp only [↓upd_apply, ↓put_some, ↓reduceIte, Nat.reduceEqDiff, ↓argEnv_zero, ↓argEnv_succ, *]; done)), (by first | rfl | (simp only [↓upd_apply, ↓put_some, ↓reduceIte, Nat.reduceEqDiff, ↓argEnv_zero, ↓argEnv_succ, *]; done)), rfl, by omega, rfl, rfl⟩ ?_
 rintro m e S ⟨s0, s1, s2, s3, s4, s, acc, s12, s11, rfl, hs, hacc, rfl⟩
 have hal : acc.length ≤ s := by
  rw [hacc, List.length_map]
  have := List.length_filter_le F (List.range s)
  rwa [List.length_range] at this
 by_cases hlt : s < ps.length
 rotate_left
 ·have hlti : ¬ (s : Int) < (ps.length : Int) := by omega
  obtain rfl : s = ps.length := by omega
  rw [← hacc]
  refine runf (an @s0 (an @s1 (an @s2 (an @s3 (an @s4 (an @s12 (an @s11 @hlti))))))) ?_
  exact er0w
 have hlti : (s : Int) < (ps.length : Int) := by omega
 have hFs : F s = rs.any fun r => decide (r.frm = (s : Int)) && holdsT ps id l log r := by rw [hF]
 have hrange : List.range (s + 1) = List.range s ++ [s] := List.range_succ
 refine runf (an @s0 (an @s1 (an @s2 (an @s3 (an @s4 (an @s12 (an @s11 @hlti))))))) ?_
 refine loop_mk (fun m e S => e 0 = intsV ps ∧ e 1 = .st id ∧ e 2 = entriesV l ∧ e 3 = .it .i64 log ∧ e 4 = rcptsV rs ∧ e 12 = .it .i64 (s : Int) ∧ e 11 = .sl (.own 0) (acc.map (AV.it .i64)) ∧ S = [.buf acc.length 3 1] ∧ ∃ k : Nat, e 14 = .it .i64 (k : Int) ∧ e 13 = .bo ((rs.take k).any fun r => decide (r.frm = (s : Int)) && holdsT ps id l log r) ∧ k ≤ rs.length ∧ m = rs.length - k) rs.length
  ⟨(by first | rfl | (simp only [↓upd_apply, ↓put_some, ↓reduceIte, Nat.reduceEqDiff, ↓argEnv_zero, ↓argEnv_succ, *]; done)), (by first | rfl | (simp only [↓upd_apply, ↓put_some, ↓reduceIte, Nat.reduceEqDiff, ↓argEnv_zero, ↓argEnv_succ, *]; done)), (by first | rfl | (simp only [↓upd_apply, ↓put_some, ↓reduceIte, Nat.reduceEqDiff, ↓argEnv_zero, ↓argEnv_succ, *]; done)), (by first | rfl | (simp only [↓upd_apply, ↓put_some, ↓reduceIte, Nat.reduceEqDiff, ↓argEnv_zero, ↓argEnv_succ, *]; done)), (by first | rfl | (simp only [↓upd_apply, ↓put_some, ↓reduceIte, Nat.reduceEqDiff, ↓argEnv_zero, ↓argEnv_succ, *]; done)), (by first | rfl | (simp only [↓upd_apply, ↓put_some, ↓reduceIte, Nat.reduceEqDiff, ↓argEnv_zero, ↓argEnv_succ, *]; done)), (by first | rfl | (simp only [↓upd_apply, ↓put_some, ↓reduceIte, Nat.reduceEqDiff, ↓argEnv_zero, ↓argEnv_succ, *]; done)), rfl, 0, (by first | rfl | (simp only [↓upd_apply, ↓put_some, ↓reduceIte, Nat.reduceEqDiff, ↓argEnv_zero, ↓argEnv_succ, *]; done)), (by first | rfl | (simp only [↓upd_apply, ↓put_some, ↓reduceIte, Nat.reduceEqDiff, ↓argEnv_zero, ↓argEnv_succ, *]; done)), by omega, rfl⟩ ?_
 rintro m2 e S ⟨s0, s1, s2, s3, s4, s12, s11, rfl, k, s14, s13, hk, rfl⟩
 by_cases hkt : k < rs.length
 ·have hg : rs[k]? = some rs[k] := List.getElem?_eq_getElem hkt
  have hr := hrs rs[k] (List.getElem_mem hkt)
  have hstep : ((rs.take (k + 1)).any fun r => decide (r.frm = (s : Int)) && holdsT ps id l log r) = (((rs.take k).any fun r => decide (r.frm = (s : Int)) && holdsT ps id l log r) || (decide (rs[k].frm = (s : Int)) && holdsT ps id l log rs[k])) := by
   rw [List.take_succ_eq_append_getElem hkt, List.any_append]
   simp
  generalize rs[k] = r at *
  have kh := fholds29_c ps id l log r hp hr hl hz
  have hkti : (k : Int) < (rs.length : Int) := by omega
  generalize ((rs.take k).any fun r => decide (r.frm = (s : Int)) && holdsT ps id l log r) = b at *
  cases b with
  | true =>
   refine runf (an @s0 (an @s1 (an @s2 (an @s3 (an @s4 (an @s12 (an @s11 (an @s13 (an @s14 @hkti))))))))) ?_
   exact round_mk (rs.length - (k + 1)) (by omega) ⟨(by first | rfl | (simp only [↓upd_apply, ↓put_some, ↓reduceIte, Nat.reduceEqDiff, ↓argEnv_zero, ↓argEnv_succ, *]; done)), (by first | rfl | (simp only [↓upd_apply, ↓put_some, ↓reduceIte, Nat.reduceEqDiff, ↓argEnv_zero, ↓argEnv_succ, *]; done)), (by first | rfl | (simp only [↓upd_apply, ↓put_some, ↓reduceIte, Nat.reduceEqDiff, ↓argEnv_zero, ↓argEnv_succ, *]; done)), (by first | rfl | (simp only [↓upd_apply, ↓put_some, ↓reduceIte, Nat.reduceEqDiff, ↓argEnv_zero, ↓argEnv_succ, *]; done)), (by first | rfl | (simp only [↓upd_apply, ↓put_some, ↓reduceIte, Nat.reduceEqDiff, ↓argEnv_zero, ↓argEnv_succ, *]; done)), (by first | rfl | (simp only [↓upd_apply, ↓put_some, ↓reduceIte, Nat.reduceEqDiff, ↓argEnv_zero, ↓argEnv_succ, *]; done)), (by first | rfl | (simp only [↓upd_apply, ↓put_some, ↓reduceIte, Nat.reduceEqDiff, ↓argEnv_zero, ↓argEnv_succ, *]; done)), rfl, k + 1, (by first | rfl | (simp only [↓upd_apply, ↓put_some, ↓reduceIte, Nat.reduceEqDiff, ↓argEnv_zero, ↓argEnv_succ, *]; done)), by rw [hstep]; exact (by first | rfl | (simp only [↓upd_apply, ↓put_some, ↓reduceIte, Nat.reduceEqDiff, ↓argEnv_zero, ↓argEnv_succ, *]; done)), by omega, rfl⟩
  | false =>
   rw [Bool.false_or] at hstep
   by_cases c1 : r.frm = (s : Int)
   ·have q1 : (r.frm == (s : Int)) = true := by rw [c1]; exact beq_self_eq_true _
    rw [decide_eq_true c1, Bool.true_and] at hstep
    generalize holdsT ps id l log r = h at *
    refine runf (an @s0 (an @s1 (an @s2 (an @s3 (an @s4 (an @s12 (an @s11 (an @s13 (an @s14 (an @hkti (an @hg (an @hszr @q1)))))))))))) ?_
    refine cp kh ?_
    refine runf (an @s0 (an @s1 (an @s2 (an @s3 (an @s4 (an @s12 (an @s11 (an @s13 @s14)))))))) ?_
    exact round_mk (rs.length - (k + 1)) (by omega) ⟨(by first | rfl | (simp only [↓upd_apply, ↓put_some, ↓reduceIte, Nat.reduceEqDiff, ↓argEnv_zero, ↓argEnv_succ, *]; done)), (by first | rfl | (simp only [↓upd_apply, ↓put_some, ↓reduceIte, Nat.reduceEqDiff, ↓argEnv_zero, ↓argEnv_succ, *]; done)), (by first | rfl | (simp only [↓upd_apply, ↓put_some, ↓reduceIte, Nat.reduceEqDiff, ↓argEnv_zero, ↓argEnv_succ, *]; done)), (by first | rfl | (simp only [↓upd_apply, ↓put_some, ↓reduceIte, Nat.reduceEqDiff, ↓argEnv_zero, ↓argEnv_succ, *]; done)), (by first | rfl | (simp only [↓upd_apply, ↓put_some, ↓reduceIte, Nat.reduceEqDiff, ↓argEnv_zero, ↓argEnv_succ, *]; done)), (by first | rfl | (simp only [↓upd_apply, ↓put_some, ↓reduceIte, Nat.reduceEqDiff, ↓argEnv_zero, ↓argEnv_succ, *]; done)), (by first | rfl | (simp only [↓upd_apply, ↓put_some, ↓reduceIte, Nat.reduceEqDiff, ↓argEnv_zero, ↓argEnv_succ, *]; done)), rfl, k + 1, (by first | rfl | (simp only [↓upd_apply, ↓put_some, ↓reduceIte, Nat.reduceEqDiff, ↓argEnv_zero, ↓argEnv_succ, *]; done)), by rw [hstep]; exact (by first | rfl | (simp only [↓upd_apply, ↓put_some, ↓reduceIte, Nat.reduceEqDiff, ↓argEnv_zero, ↓argEnv_succ, *]; done)), by omega, rfl⟩
   ·have q1 : (r.frm == (s : Int)) = false := beqF c1
    rw [decide_eq_false c1, Bool.false_and] at hstep
    refine runf (an @s0 (an @s1 (an @s2 (an @s3 (an @s4 (an @s12 (an @s11 (an @s13 (an @s14 (an @hkti (an @hg (an @hszr @q1)))))))))))) ?_
    exact round_mk (rs.length - (k + 1)) (by omega) ⟨(by first | rfl | (simp only [↓upd_apply, ↓put_some, ↓reduceIte, Nat.reduceEqDiff, ↓argEnv_zero, ↓argEnv_succ, *]; done)), (by first | rfl | (simp only [↓upd_apply, ↓put_some, ↓reduceIte, Nat.reduceEqDiff, ↓argEnv_zero, ↓argEnv_succ, *]; done)), (by first | rfl | (simp only [↓upd_apply, ↓put_some, ↓reduceIte, Nat.reduceEqDiff, ↓argEnv_zero, ↓argEnv_succ, *]; done)), (by first | rfl | (simp only [↓upd_apply, ↓put_some, ↓reduceIte, Nat.reduceEqDiff, ↓argEnv_zero, ↓argEnv_succ, *]; done)), (by first | rfl | (simp only [↓upd_apply, ↓put_some, ↓reduceIte, Nat.reduceEqDiff, ↓argEnv_zero, ↓argEnv_succ, *]; done)), (by first | rfl | (simp only [↓upd_apply, ↓put_some, ↓reduceIte, Nat.reduceEqDiff, ↓argEnv_zero, ↓argEnv_succ, *]; done)), (by first | rfl | (simp only [↓upd_apply, ↓put_some, ↓reduceIte, Nat.reduceEqDiff, ↓argEnv_zero, ↓argEnv_succ, *]; done)), rfl, k + 1, (by first | rfl | (simp only [↓upd_apply, ↓put_some, ↓reduceIte, Nat.reduceEqDiff, ↓argEnv_zero, ↓argEnv_succ, *]; done)), by rw [hstep]; exact (by first | rfl | (simp only [↓upd_apply, ↓put_some, ↓reduceIte, Nat.reduceEqDiff, ↓argEnv_zero, ↓argEnv_succ, *]; done)), by omega, rfl⟩
 ·have hkti : ¬ (k : Int) < (rs.length : Int) := by omega
  have hkl : rs.take k = rs := List.take_of_length_le (by omega)
  rw [hkl, ← hFs] at s13
  cases hb : F s with
  | false =>
   rw [hb] at s13
   refine runf (an @s0 (an @s1 (an @s2 (an @s3 (an @s4 (an @s12 (an @s11 (an @s13 (an @s14 @hkti))))))))) ?_
   exact round_mk (ps.length - (s + 1)) (by omega) ⟨(by first | rfl | (simp only [↓upd_apply, ↓put_some, ↓reduceIte, Nat.reduceEqDiff, ↓argEnv_zero, ↓argEnv_succ, *]; done)), (by first | rfl | (simp only [↓upd_apply, ↓put_some, ↓reduceIte, Nat.reduceEqDiff, ↓argEnv_zero, ↓argEnv_succ, *]; done)), (by first | rfl | (simp only [↓upd_apply, ↓put_some, ↓reduceIte, Nat.reduceEqDiff, ↓argEnv_zero, ↓argEnv_succ, *]; done)), (by first | rfl | (simp only [↓upd_apply, ↓put_some, ↓reduceIte, Nat.reduceEqDiff, ↓argEnv_zero, ↓argEnv_succ, *]; done)), (by first | rfl | (simp only [↓upd_apply, ↓put_some, ↓reduceIte, Nat.reduceEqDiff, ↓argEnv_zero, ↓argEnv_succ, *]; done)), s + 1, acc, (by first | rfl | (simp only [↓upd_apply, ↓put_some, ↓reduceIte, Nat.reduceEqDiff, ↓argEnv_zero, ↓argEnv_succ, *]; done)), (by first | rfl | (simp only [↓upd_apply, ↓put_some, ↓reduceIte, Nat.reduceEqDiff, ↓argEnv_zero, ↓argEnv_succ, *]; done)), rfl, by omega, by rw [hrange, List.filter_append, List.filter_cons_of_neg (by rw [hb]; decide), List.filter_nil, List.append_nil, hacc], rfl⟩
  | true =>
   rw [hb] at s13
   have hsz : allSz 1 (acc.map (AV.it .i64)) = true := allSz_map 1 _ (fun _ => rfl) _
   refine runf (an @s0 (an @s1 (an @s2 (an @s3 (an @s4 (an @s12 (an @s11 (an @s13 (an @s14 (an @hkti @hsz)))))))))) ?_
   exact round_mk (ps.length - (s + 1)) (by omega) ⟨(by first | rfl | (simp only [↓upd_apply, ↓put_some, ↓reduceIte, Nat.reduceEqDiff, ↓argEnv_zero, ↓argEnv_succ, *]; done)), (by first | rfl | (simp only [↓upd_apply, ↓put_some, ↓reduceIte, Nat.reduceEqDiff, ↓argEnv_zero, ↓argEnv_succ, *]; done)), (by first | rfl | (simp only [↓upd_apply, ↓put_some, ↓reduceIte, Nat.reduceEqDiff, ↓argEnv_zero, ↓argEnv_succ, *]; done)), (by first | rfl | (simp only [↓upd_apply, ↓put_some, ↓reduceIte, Nat.reduceEqDiff, ↓argEnv_zero, ↓argEnv_succ, *]; done)), (by first | rfl | (simp only [↓upd_apply, ↓put_some, ↓reduceIte, Nat.reduceEqDiff, ↓argEnv_zero, ↓argEnv_succ, *]; done)), s + 1, acc ++ [(s : Int)], (by first | rfl | (simp only [↓upd_apply, ↓put_some, ↓reduceIte, Nat.reduceEqDiff, ↓argEnv_zero, ↓argEnv_succ, *]; done)), by rw [List.map_append]; exact (by first | rfl | (simp only [↓upd_apply, ↓put_some, ↓reduceIte, Nat.reduceEqDiff, ↓argEnv_zero, ↓argEnv_succ, *]; done)), by rw [List.length_append]; rfl, by omega, by rw [hrange, List.filter_append, List.filter_cons_of_pos hb, List.filter_nil, List.map_append, ← hacc]; rfl, rfl⟩
end Go.Proofs.YtaphpbiaoofmkaaGreatDoor.Pe
end
section
namespace Go.Proofs.YtaphpbiaoofmkaaGreatDoor.Pe
open Go Go.RowKit Co Sg Ac It Sl
set_option maxRecDepth 100000
set_option maxHeartbeats 4000000
theorem shp_head {n us} (h : shp Tryz.prog 140737488351232 (n + 3) 73 us) : ∃ e : Head, us = (headV e).cells ∧ ((-9223372036854775808 ≤ e.server ∧ e.server ≤ 9223372036854775807) ∧ (-9223372036854775808 ≤ e.size ∧ e.size ≤ 9223372036854775807) ∧ (-9223372036854775808 ≤ e.time ∧ e.time ≤ 9223372036854775807) ∧ e.root.length ≤ 140737488351232 ∧ (-9223372036854775808 ≤ e.sig.e ∧ e.sig.e ≤ 9223372036854775807) ∧ (-9223372036854775808 ≤ e.sig.s ∧ e.sig.s ≤ 9223372036854775807)) := by
 have h := shp_struct Tryz.underlying73 h
 obtain ⟨a0, b0, rfl, h0, h⟩ := h
 obtain ⟨a1, b1, rfl, h1, h⟩ := h
 obtain ⟨a2, b2, rfl, h2, h⟩ := h
 obtain ⟨a3, b3, rfl, h3, h⟩ := h
 obtain ⟨a4, b4, rfl, h4, rfl⟩ := h
 obtain ⟨server, rfl, w0⟩ := shp_i64 Tryz.underlying3 h0
 obtain ⟨size, rfl, w1⟩ := shp_i64 Tryz.underlying3 h1
 obtain ⟨root, rfl, w2⟩ := shp_str Tryz.underlying9 h2
 obtain ⟨time, rfl, w3⟩ := shp_i64 Tryz.underlying3 h3
 obtain ⟨sg, rfl, w4, w5⟩ := shp_sigI h4
 exact ⟨⟨server, size, root, time, sg⟩, rfl, w0, w1, w3, w2, w4, w5⟩
end Go.Proofs.YtaphpbiaoofmkaaGreatDoor.Pe
end
section
namespace Go.Proofs.YtaphpbiaoofmkaaGreatDoor.Pe
open Go Go.RowKit Co Sg Ac It Sl
set_option maxRecDepth 100000
set_option maxHeartbeats 4000000
structure InRc (r : Receipt) : Prop where
 inr : InR r
 size : -9223372036854775808 ≤ r.head.size ∧ r.head.size ≤ 9223372036854775807
 root : r.head.root.length ≤ 140737488351232
theorem shp_rcpt {n us} (h : shp Tryz.prog 140737488351232 (n + 4) 75 us) : ∃ e : Receipt, us = (rcptV e).cells ∧ InRc e := by
 have h := shp_struct Tryz.underlying75 h
 obtain ⟨a0, b0, rfl, h0, h⟩ := h
 obtain ⟨a1, b1, rfl, h1, h⟩ := h
 obtain ⟨a2, b2, rfl, h2, rfl⟩ := h
 obtain ⟨frm, rfl, w0⟩ := shp_i64 Tryz.underlying3 h0
 obtain ⟨head, rfl, w1⟩ := shp_head h1
 obtain ⟨sg, rfl, w2, w3⟩ := shp_sigI h2
 exact ⟨⟨frm, head, sg⟩, rfl, ⟨w0, w2⟩, w1.2.1, w1.2.2.2.1⟩
theorem shp_rcpts {n us} (h : shp Tryz.prog 140737488351232 (n + 5) 80 us) : ∃ l : List Receipt, us = [.sl .ro (l.map rcptV)] ∧ l.length ≤ 140737488351232 ∧ ∀ e ∈ l, InRc e :=
 shp_slice rcptV InRc Tryz.underlying80 h fun x hx => by
  obtain ⟨w, rfl, hw⟩ := shp_rcpt hx
  exact ⟨w, by rw [show aggT Tryz.prog 75 = true from by kernel_rfl]; rfl, hw⟩
def zGrave : Value := .agg #[.int .i64 0, .int .i64 0, .int .i64 0, .string ⟨#[]⟩, .int .i64 0, .string ⟨#[]⟩, .int .i64 0, .int .i64 0, .string ⟨#[]⟩, .string ⟨#[]⟩, .int .i64 0, .string ⟨#[]⟩, .slice none 0 0, .string ⟨#[]⟩, .string ⟨#[]⟩, .string ⟨#[]⟩, .string ⟨#[]⟩, .int .i64 0, .slice none 0 0, .int .i64 0, .int .i64 0, .int .i64 0, .int .i64 0, .string ⟨#[]⟩, .int .i64 0, .string ⟨#[]⟩, .int .i64 0, .int .i64 0, .int .i64 0, .int .i64 0, .int .i64 0, .int .i64 0, .int .i64 0, .string ⟨#[]⟩, .int .i64 0, .string ⟨#[]⟩, .int .i64 0, .int .i64 0, .int .i64 0, .int .i64 0, .int .i64 0, .int .i64 0, .string ⟨#[]⟩, .string ⟨#[]⟩, .string ⟨#[]⟩, .slice none 0 0, .int .i64 0, .int .i64 0, .int .i64 0, .int .i64 0, .int .i64 0, .slice none 0 0, .int .i64 0, .int .i64 0, .int .i64 0, .string ⟨#[]⟩, .int .i64 0, .int .i64 0, .int .i64 0, .int .i64 0, .int .i64 0]
structure InG (g : Grave) : Prop where
 at' : -9223372036854775808 ≤ g.at' ∧ g.at' ≤ 9223372036854775807
 entry : InE g.entry
 path : g.path.length ≤ 140737488351232
 rcpt : InRc g.rcpt
theorem shp_grave {n us} (h : shp Tryz.prog 140737488351232 (n + 8) 82 us) : ∃ g : Grave, us = (graveV g).cells ∧ InG g := by
 have h := shp_struct Tryz.underlying82 h
 obtain ⟨a0, b0, rfl, h0, h⟩ := h
 obtain ⟨a1, b1, rfl, h1, h⟩ := h
 obtain ⟨a2, b2, rfl, h2, h⟩ := h
 obtain ⟨a3, b3, rfl, h3, rfl⟩ := h
 obtain ⟨i, rfl, w0⟩ := shp_i64 Tryz.underlying3 h0
 obtain ⟨e, rfl, w1⟩ := shp_entryI h1
 obtain ⟨p, rfl, w2, w3⟩ := shp_strs h2
 obtain ⟨r, rfl, w4⟩ := shp_rcpt h3
 exact ⟨⟨i, e, p, r⟩, by simp [AV.cells], w0, w1, w2, w4⟩
end Go.Proofs.YtaphpbiaoofmkaaGreatDoor.Pe
end
section
namespace Go.Proofs.YtaphpbiaoofmkaaGreatDoor.Pe
open Go Go.RowKit Co Sg Ac It Sl
set_option maxRecDepth 100000
set_option maxHeartbeats 4000000
theorem fsame29_c (g : Grave) (h : Lz g.entry.item) (hp : g.path.length ≤ 1000000) : AC Tryz.prog 71 [graveV g, graveV g] [] (.bo true) [] := by
 refine AC.enter [35, 167] [] Tryz.func71 rfl (by decide) (by decide) (Nat.le_of_ble_eq_true rfl) (by kernel_rfl) ?_; simp only [eraseC, eraseO, List.map_cons, List.map_nil, List.map_toArray, List.getElem?_toArray, List.getElem?_cons_zero, List.getElem?_cons_succ, Option.bind_some, Option.bind_none, List.append_eq, List.cons_append, List.nil_append]
 have k1 := fsameEntry_c g.entry g.entry h h
 have k2 := fsameTexts_c g.path g.path hp hp
 rw [decide_eq_true rfl] at k1 k2
 have e5 : ∀ l : By, (l == l) = true := fun l => beq_self_eq_true _
 have e6 : ∀ l : Int, (l == l) = true := fun l => beq_self_eq_true _
 refine runf (an @e5 @e6) ?_
 refine cp k1 ?_
 refine runf (an @e5 @e6) ?_
 refine cp k2 ?_
 refine runf (an @e5 @e6) ?_
 exact er0
theorem lzz0 : Lz item0 := (show Iz item0 from ⟨szI0, Nat.zero_le _, Nat.zero_le _, dz0⟩).lz
theorem izz0 : Iz item0 := ⟨szI0, Nat.zero_le _, Nat.zero_le _, dz0⟩
theorem checkx_c (ps : List Int) (id : By) (l : List It.Entry) (i : Int) (r : Receipt) (hp : InL ps) (hr : InR r) (hz : ∀ e ∈ l, Iz e.item) (hl : l.length ≤ 1000000) : AC Tryz.prog 72 [intsV ps, .st id, graveV (proveT l i r).1] [] (.bo (checkT ps id (proveT l i r).1)) [] := by
 cases h : (proveT l i r).2 with
 | true => exact checkg_c h hp hr hz hl
 | false =>
  rw [prove_wrong h]
  exact tcheck_c ps id grave0 hp ⟨⟨by decide, by decide⟩, ⟨by decide, by decide⟩⟩ izz0 ⟨by decide, by decide⟩ ⟨by decide, by decide⟩ (Nat.zero_le _)
theorem fcheckx_c (ps : List Int) (id : By) (l : List It.Entry) (i : Int) (r : Receipt) (hp : InL ps) (hr : InR r) (hz : ∀ e ∈ l, Iz e.item) (hl : l.length ≤ 1000000) : AC Tryz.prog 73 [intsV ps, .st id, graveV (proveT l i r).1] [] (.bo (checkT ps id (proveT l i r).1)) [] := by
 cases h : (proveT l i r).2 with
 | true =>
  obtain ⟨h1, h2, h3, h4⟩ := (proveT_ok l i r).1 h
  have e := prove_eq h
  have hpl := path_len ((l.take r.head.size.toNat).map leafE).length ((l.take r.head.size.toNat).map leafE) i.toNat (Nat.le_refl _)
  have hL : ((l.take r.head.size.toNat).map leafE).length ≤ l.length := by rw [List.length_map, List.length_take]; omega
  have hz' : Iz (l.getD i.toNat ⟨0, item0⟩).item := by
   rw [List.getD_eq_getElem?_getD, List.getElem?_eq_getElem (show i.toNat < l.length by omega)]
   exact hz _ (List.getElem_mem _)
  rw [e]
  exact fcheck29_c ps id ⟨i, l.getD i.toNat ⟨0, item0⟩, Mk.path ((l.take r.head.size.toNat).map leafE) i.toNat, r⟩ hp hr hz' (by simp only; omega) (by simp only; omega)
 | false =>
  rw [prove_wrong h]
  exact fcheck29_c ps id grave0 hp ⟨⟨by decide, by decide⟩, ⟨by decide, by decide⟩⟩ izz0 (by decide) (Nat.zero_le _)
theorem provex (l : List It.Entry) (i : Int) (r : Receipt) (hz : ∀ e ∈ l, Iz e.item) (hl : l.length ≤ 1000000) : Lz (proveT l i r).1.entry.item ∧ (proveT l i r).1.path.length ≤ 1000000 := by
 cases h : (proveT l i r).2 with
 | true =>
  obtain ⟨h1, h2, h3, h4⟩ := (proveT_ok l i r).1 h
  have hpl := path_len ((l.take r.head.size.toNat).map leafE).length ((l.take r.head.size.toNat).map leafE) i.toNat (Nat.le_refl _)
  have hL : ((l.take r.head.size.toNat).map leafE).length ≤ l.length := by rw [List.length_map, List.length_take]; omega
  rw [prove_eq h]
  refine ⟨?_, by simp only; omega⟩
  simp only
  rw [List.getD_eq_getElem?_getD, List.getElem?_eq_getElem (show i.toNat < l.length by omega)]
  exact (hz _ (List.getElem_mem _)).lz
 | false =>
  rw [prove_wrong h]
  exact ⟨lzz0, Nat.zero_le _⟩
theorem tombGraves_c (ps : List Int) (id : By) (l : List It.Entry) (at' log : Int) (rs : List Receipt) (g : Grave) (hp : InL ps) (hid : id.length ≤ 140737488351232) (hl : l.length ≤ 140737488351232) (hz : ∀ e ∈ l, InE e) (hrl : rs.length ≤ 140737488351232) (hrs : ∀ r ∈ rs, InRc r) (hg : InG g) :
  AC Tryz.prog 6 [intsV ps, .st id, entriesV l, .it .i64 at', .it .i64 log, rcptsV rs, graveV g] [] (.bo true) [] := by
 refine AC.enter [63, 68, 69, 70, 71, 72, 73, 74, 75, 76] [] Tryz.func6 rfl (by decide) (by decide) (Nat.le_of_ble_eq_true rfl) (by kernel_rfl) ?_; simp only [eraseC, eraseO, List.map_cons, List.map_nil, List.map_toArray, List.getElem?_toArray, List.getElem?_cons_zero, List.getElem?_cons_succ, Option.bind_some, Option.bind_none, List.append_eq, List.cons_append, List.nil_append]
 have kl := light29_c l hl
 have kg := light29_c [g.entry] (by simp)
 refine run ?_
 refine cp small29_c ?_
 by_cases c1 : (30 : Int) < (ps.length : Int)
 ·refine runf @c1 ?_
  exact er0
 cases h2 : light29 l with
 | false =>
  rw [h2] at kl
  refine runf @c1 ?_
  refine cp kl ?_
  refine run ?_
  exact er0
 | true =>
 rw [h2] at kl
 cases h3 : light29 [g.entry] with
 | false =>
  rw [h3] at kg
  refine runf @c1 ?_
  refine cp kl ?_
  refine run ?_
  refine cp kg ?_
  refine run ?_
  exact er0
 | true =>
 rw [h3] at kg
 by_cases c4 : (20 : Int) < (rs.length : Int)
 ·refine runf @c1 ?_
  refine cp kl ?_
  refine run ?_
  refine cp kg ?_
  refine runf @c4 ?_
  exact er0
 by_cases c5 : (100 : Int) < (g.path.length : Int)
 ·refine runf @c1 ?_
  refine cp kl ?_
  refine run ?_
  refine cp kg ?_
  refine runf (an @c4 @c5) ?_
  exact er0
 by_cases c6 : (1000 : Int) < (id.length : Int)
 ·refine runf @c1 ?_
  refine cp kl ?_
  refine run ?_
  refine cp kg ?_
  refine runf (an @c4 (an @c5 @c6)) ?_
  exact er0
 have hll : l.length ≤ 20 := by
  unfold light29 at h2
  simp only [Bool.and_eq_true, decide_eq_true_eq] at h2
  exact h2.2
 have hzz : ∀ e ∈ l, Iz e.item := fun e he => (hz e he).item.iz
 have hszr : allSz 9 (rs.map rcptV) = true := allSz_map 9 _ (fun _ => rfl) _
 have ka := tanswered_c ps id l log rs hp (by omega) (by omega) hzz (by omega) (fun r hr => (hrs r hr).inr)
 have kb := fanswered29_c ps id l log rs hp (by omega) (by omega) hzz (by omega) (fun r hr => (hrs r hr).inr)
 have hal := answered_le ps id l log rs
 have kn := fsameNums_c (answeredT ps id l log rs) (answeredT ps id l log rs) (by omega) (by omega)
 rw [decide_eq_true rfl] at kn
 have kc := tcheck_c ps id g hp hg.rcpt.inr hg.entry.item.iz hg.at' hg.rcpt.size (by omega)
 have kd := fcheck29_c ps id g hp hg.rcpt.inr hg.entry.item.iz hg.rcpt.size.2 (by omega)
 generalize answeredT ps id l log rs = ans at *
 generalize checkT ps id g = cg at *
 have e3 : ∀ b : Bool, (b != b) = false := fun b => by cases b <;> rfl
 have e4 : ∀ b : Bool, (b == b) = true := fun b => by cases b <;> rfl
 refine runf @c1 ?_
 refine cp kl ?_
 refine run ?_
 refine cp kg ?_
 refine runf (an @c4 (an @c5 @c6)) ?_
 refine loop_mk (fun m e S => e 0 = intsV ps ∧ e 1 = .st id ∧ e 2 = entriesV l ∧ e 3 = .it .i64 at' ∧ e 4 = .it .i64 log ∧ e 5 = rcptsV rs ∧ e 13 = .ptr 0 0 ∧ e 15 = .bo true ∧ ∃ (k : Nat) (T : Store), e 16 = .it .i64 (k : Int) ∧ S = .cells (graveV g).cells :: T ∧ k ≤ rs.length ∧ m = rs.length - k) rs.length
  ⟨(by first | rfl | (simp only [↓upd_apply, ↓put_some, ↓reduceIte, Nat.reduceEqDiff, ↓argEnv_zero, ↓argEnv_succ, *]; done)), (by first | rfl | (simp only [↓upd_apply, ↓put_some, ↓reduceIte, Nat.reduceEqDiff, ↓argEnv_zero, ↓argEnv_succ, *]; done)), (by first | rfl | (simp only [↓upd_apply, ↓put_some, ↓reduceIte, Nat.reduceEqDiff, ↓argEnv_zero, ↓argEnv_succ, *]; done)), (by first | rfl | (simp only [↓upd_apply, ↓put_some, ↓reduceIte, Nat.reduceEqDiff, ↓argEnv_zero, ↓argEnv_succ, *]; done)), (by first | rfl | (simp only [↓upd_apply, ↓put_some, ↓reduceIte, Nat.reduceEqDiff, ↓argEnv_zero, ↓argEnv_succ, *]; done)), (by first | rfl | (simp only [↓upd_apply, ↓put_some, ↓reduceIte, Nat.reduceEqDiff, ↓argEnv_zero, ↓argEnv_succ, *]; done)), (by first | rfl | (simp only [↓upd_apply, ↓put_some, ↓reduceIte, Nat.reduceEqDiff, ↓argEnv_zero, ↓argEnv_succ, *]; done)), (by first | rfl | (simp only [↓upd_apply, ↓put_some, ↓reduceIte, Nat.reduceEqDiff, ↓argEnv_zero, ↓argEnv_succ, *]; done)), 0, _, (by first | rfl | (simp only [↓upd_apply, ↓put_some, ↓reduceIte, Nat.reduceEqDiff, ↓argEnv_zero, ↓argEnv_succ, *]; done)), rfl, by omega, rfl⟩ ?_
 rintro m e S ⟨s0, s1, s2, s3, s4, s5, s13, s15, k, T, s16, rfl, hk, rfl⟩
 by_cases hlt : k < rs.length
 ·have hgk : rs[k]? = some rs[k] := List.getElem?_eq_getElem hlt
  have hr := (hrs rs[k] (List.getElem_mem hlt)).inr
  generalize rs[k] = r at *
  have hlti : (k : Int) < (rs.length : Int) := by omega
  have hT1 : ∀ o : SObj, (T ++ [o])[T.length]? = some o := fun o => by simp
  have hT2 : ∀ o o' : SObj, (T ++ [o]).set T.length o' = T ++ [o'] := fun o o' => by simp
  have hT3 : ∀ o o' : SObj, (T ++ [o] ++ [o'])[T.length + 1]? = some o' := fun o o' => by simp
  have hT4 : ∀ o o' o'' : SObj, (T ++ [o] ++ [o']).set (T.length + 1) o'' = T ++ [o] ++ [o''] := fun o o' o'' => by simp
  have hT5 : ∀ o o' : SObj, (T ++ [o] ++ [o'])[T.length]? = some o := fun o o' => by simp
  have q1 := tprove_c l at' r (by omega) hzz
  have q2 := fprove29_c l at' r (by omega) hzz
  have q3 := provex l at' r hzz (by omega)
  have q4 := fsame29_c (proveT l at' r).1 q3.1 q3.2
  have q5 := checkx_c ps id l at' r hp hr hzz (by omega)
  have q6 := fcheckx_c ps id l at' r hp hr hzz (by omega)
  clear q3
  generalize proveT l at' r = q at *
  obtain ⟨x, ok⟩ := q
  simp only at q1 q2 q4 q5 q6
  generalize checkT ps id x = cx at *
  refine runf (an @s0 (an @s1 (an @s2 (an @s3 (an @s5 (an @s16 (an @hlti (an @hgk @hszr)))))))) ?_
  refine cp q1 ?_
  refine runf (an @s0 (an @s1 (an @s2 (an @s3 (an @s5 (an @s16 (an @hgk (an @hszr (an @hT1 @hT2))))))))) ?_
  refine cp q2 ?_
  refine runf (an @s0 (an @s1 (an @s2 (an @s3 (an @s5 (an @s16 (an @hT1 (an @hT2 (an @hT3 (an @hT4 (an @hT5 @e3))))))))))) ?_
  refine cp q4 ?_
  refine runf (an @s0 (an @s1 (an @s2 (an @s3 (an @s5 (an @s16 (an @hT1 (an @hT2 (an @hT3 (an @hT4 @hT5)))))))))) ?_
  refine cp q5 ?_
  refine runf (an @s0 (an @s1 (an @s2 (an @s3 (an @s5 (an @s16 (an @hT1 (an @hT2 (an @hT3 (an @hT4 @hT5)))))))))) ?_
  refine cp q6 ?_
  refine runf (an @s0 (an @s1 (an @s2 (an @s3 (an @s5 (an @s16 @e3)))))) ?_
  exact round_mk (rs.length - (k + 1)) (by omega) ⟨(by first | rfl | (simp only [↓upd_apply, ↓put_some, ↓reduceIte, Nat.reduceEqDiff, ↓argEnv_zero, ↓argEnv_succ, *]; done)), (by first | rfl | (simp only [↓upd_apply, ↓put_some, ↓reduceIte, Nat.reduceEqDiff, ↓argEnv_zero, ↓argEnv_succ, *]; done)), (by first | rfl | (simp only [↓upd_apply, ↓put_some, ↓reduceIte, Nat.reduceEqDiff, ↓argEnv_zero, ↓argEnv_succ, *]; done)), (by first | rfl | (simp only [↓upd_apply, ↓put_some, ↓reduceIte, Nat.reduceEqDiff, ↓argEnv_zero, ↓argEnv_succ, *]; done)), (by first | rfl | (simp only [↓upd_apply, ↓put_some, ↓reduceIte, Nat.reduceEqDiff, ↓argEnv_zero, ↓argEnv_succ, *]; done)), (by first | rfl | (simp only [↓upd_apply, ↓put_some, ↓reduceIte, Nat.reduceEqDiff, ↓argEnv_zero, ↓argEnv_succ, *]; done)), (by first | rfl | (simp only [↓upd_apply, ↓put_some, ↓reduceIte, Nat.reduceEqDiff, ↓argEnv_zero, ↓argEnv_succ, *]; done)), (by first | rfl | (simp only [↓upd_apply, ↓put_some, ↓reduceIte, Nat.reduceEqDiff, ↓argEnv_zero, ↓argEnv_succ, *]; done)), k + 1, _, (by first | rfl | (simp only [↓upd_apply, ↓put_some, ↓reduceIte, Nat.reduceEqDiff, ↓argEnv_zero, ↓argEnv_succ, *]; done)), rfl, by omega, rfl⟩
 ·have hlti : ¬ (k : Int) < (rs.length : Int) := by omega
  refine runf (an @s0 (an @s1 (an @s2 (an @s4 (an @s5 (an @s16 @hlti)))))) ?_
  refine cp ka ?_
  refine runf (an @s0 (an @s1 (an @s2 (an @s4 @s5)))) ?_
  refine cp kb ?_
  refine runf (an @s0 (an @s1 (an @s13 @s15))) ?_
  refine cp kn ?_
  refine runf (an @s0 (an @s1 (an @s13 @s15))) ?_
  refine cp kc ?_
  refine runf (an @s0 (an @s1 (an @s13 @s15))) ?_
  refine cp kd ?_
  refine runf (an @s0 (an @s1 (an @s13 (an @s15 @e4)))) ?_
  exact er0
end Go.Proofs.YtaphpbiaoofmkaaGreatDoor.Pe
end
section
namespace Go.Proofs.YtaphpbiaoofmkaaGreatDoor
open Go Go.RowKit Go.WideShapes Go.ChangeShapes
section
variable {H : Type} {enc : TypeId × Value → H} {P : Program}
theorem post_of_below {f : Func} {s : ChangeSpec} {apart fresh handsOn again : Bool} {W W' : World} {args : Array Value} {v : Value} {ds gs : List (DataW H)} {before pa pv : List MemPlace}
  (hW : DataW.Whole enc P f.params.toList s.vars apart W args.toList ds gs before)
  (hres : ∀ (b : Nat) (sp : Nat → Bool) (hd : Bool), DataW.TrodAll enc P W' b sp hd f.resultTypes.toList (v.resultList f.resultTypes.size) (s.fn H (ds ++ gs)).results [])
  (hargs : ∀ sp : Nat → Bool, (∀ p ∈ before, sp p.block = true) → DataW.TrodAll enc P W' 0 sp true f.params.toList args.toList (s.fn H (ds ++ gs)).args pa)
  (hvars : ∀ sp : Nat → Bool, (∀ p ∈ before, sp p.block = true) → DataW.TrodVars enc P W' sp s.vars (s.fn H (ds ++ gs)).vars pv)
  (hps : before = pa ++ pv) (hb : Below W.heap.size W W')
  (hok : ∀ (j : Nat) (t : TypeId) (r : Value), f.resultTypes[j]? = some t → (v.resultList f.resultTypes.size)[j]? = some r → Value.okWide P W' .any 0 t r) :
  s.post enc P f apart fresh handsOn again W args v W' := by
 have hlt : ∀ p ∈ before, p.block < W.heap.size := fun p hp => hW.lt p hp
 have hold : ∀ p ∈ before, (fun b => decide (b < W.heap.size)) p.block = true := fun p hp => by simpa using hlt p hp
 refine ⟨ds, gs, before, [], pa, pv, hW, hres _ _ _, hargs _ hold, hvars _ hold, World.keptBut_mono (fun p hp => ⟨hp, ?_⟩) (hb.frame (· ∈ before)), fun _ => ?_⟩
 ·rw [hps, List.mem_append] at hp
  exact Or.inr hp
 ·obtain ⟨_, _, _, _, _, hz, hn⟩ := hW
  refine ⟨hok, _, _, ([] ++ pa) ++ pv, ⟨[] ++ pa, pv, trodAll_append (hargs _ (fun _ _ => rfl)) (hres _ _ _), hvars _ (fun _ _ => rfl), rfl, ?_, ?_⟩, ?_⟩
  ·intro b off hp
   have hin : MemPlace.cell b off ∈ before := by rw [hps]; simpa using hp
   rw [hb.frozen (hlt _ hin)]
   exact hz b off hin
  ·intro ha
   have := hn ha
   rw [hps] at this
   simpa using this
  ·intro p hp _
   rw [hps]
   simpa using hp
end
end Go.Proofs.YtaphpbiaoofmkaaGreatDoor
end
section
namespace Go.Proofs.YtaphpbiaoofmkaaGreatDoor
open Go Go.RowKit Sm
theorem own : ownKnob Tryz.prog.godebug = none := by kernel_rfl
theorem gK : Tryz.prog.globalNamed "agora/sum.constants" = some 1 := by kernel_rfl
theorem gI : Tryz.prog.globalNamed "agora/sum.initial" = some 0 := by kernel_rfl
theorem gKType : (Tryz.prog.globals[1]?).map (·.type) = some 220 := by kernel_rfl
theorem gIType : (Tryz.prog.globals[0]?).map (·.type) = some 199 := by kernel_rfl
theorem cellsK : Tryz.prog.cellsOf 220 = 64 := by kernel_rfl
theorem cellsI : Tryz.prog.cellsOf 199 = 8 := by kernel_rfl
theorem cellsU : Tryz.prog.cellsOf 198 = 1 := by kernel_rfl
def zsK : List Int := [1116352408, 1899447441, 3049323471, 3921009573, 961987163, 1508970993, 2453635748, 2870763221, 3624381080, 310598401, 607225278, 1426881987, 1925078388, 2162078206, 2614888103, 3248222580, 3835390401, 4022224774, 264347078, 604807628, 770255983, 1249150122, 1555081692, 1996064986, 2554220882, 2821834349, 2952996808, 3210313671, 3336571891, 3584528711, 113926993, 338241895, 666307205, 773529912, 1294757372, 1396182291, 1695183700, 1986661051, 2177026350, 2456956037, 2730485921, 2820302411, 3259730800, 3345764771, 3516065817, 3600352804, 4094571909, 275423344, 430227734, 506948616, 659060556, 883997877, 958139571, 1322822218, 1537002063, 1747873779, 1955562222, 2024104815, 2227730452, 2361852424, 2428436474, 2756734187, 3204031479, 3329325298]
def zsI : List Int := [1779033703, 3144134277, 1013904242, 2773480762, 1359893119, 2600822924, 528734635, 1541459225]
theorem zsK_eq : zsK = tabK.map (fun x => (x.toNat : Int)) := by decide +kernel
theorem zsI_eq : zsI = init8.list.map (fun x => (x.toNat : Int)) := by decide +kernel
theorem word_at (l : List (BitVec 32)) (i : Nat) (hi : i < l.length) : Value.int .u32 ((l.map (fun x => (x.toNat : Int))).getD i 0) = w32 (l.getD i 0) := by
 simp only [List.getD_eq_getElem?_getD, List.getElem?_map, List.getElem?_eq_getElem hi]
 rfl
def laidList : List (String × DataW Unit) := [("agora/sum.constants", Rows.laid_agora_sum_constants), ("agora/sum.initial", Rows.laid_agora_sum_initial)]
theorem tabs_of {W : World} (h : laidMetH Tryz.prog laidList W) : Tabs W := by
 have h1 : laidMet Tryz.prog (("agora/sum.constants", Lib.tabData .u32 zsK) :: [("agora/sum.initial", Lib.tabData .u32 zsI)]) W := h
 have k1 := Lib.tabIs_of_head gK gKType Tryz.underlying220 Tryz.underlying198 cellsU cellsK h1
 have k2 := Lib.tabIs_of_head gI gIType Tryz.underlying199 Tryz.underlying198 cellsU cellsI (laidMet.tail h1)
 refine ⟨fun i hi => ?_, fun i hi => ?_⟩
 ·rw [k1.cell gK i hi, zsK_eq, word_at tabK i hi]
 ·rw [k2.cell gI i hi, zsI_eq, word_at init8.list i hi]
def withCells (cs : Array Value) : Obj → Obj
 | .cells _ t frozen => .cells cs t frozen
 | o => o
noncomputable def laidWorld (os : Os) : World :=
 { World.holding Tryz.prog os ⟨#[], #[], []⟩ with heap := ((World.holding Tryz.prog os ⟨#[], #[], []⟩).heap.modify 1 (withCells (zsK.map (Value.int .u32)).toArray)).modify 0 (withCells (zsI.map (Value.int .u32)).toArray) }
theorem tab_of {W : World} (h : Tabs W) : ∀ b i v, (Pe.tabs).T b i = some v → W.cell? ⟨b, i, none⟩ = some v := by
 intro b i v hv
 have hv' : (if b = 1 ∧ i < 64 then some (w32 (tabK.getD i 0)) else if b = 0 ∧ i < 8 then some (w32 (init8.list.getD i 0)) else none) = some v := hv
 split at hv'
 ·rename_i hc
  obtain ⟨rfl, hi⟩ := hc
  rw [h.1 i hi]; exact hv'
 ·split at hv'
  ·rename_i hc
   obtain ⟨rfl, hi⟩ := hc
   rw [h.2 i hi]; exact hv'
  ·cases hv'
theorem laidOut : laidOutB Tryz.prog = true := by kernel_rfl
end Go.Proofs.YtaphpbiaoofmkaaGreatDoor
end
