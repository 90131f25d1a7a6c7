/- The walk of the reference's Roots, and of MerkleGrows. -/
import Derived.Test.YthnolonphjfoeaaDoorMkK
namespace Go.Proofs.YthnolonphjfoeaaDoor.Pe
set_option linter.unusedSectionVars false
set_option linter.unusedVariables false
set_option linter.unusedSimpArgs false
open Go Sm Mk
set_option maxRecDepth 100000
theorem rootsR_len : ∀ (p : List By) (m n : Nat) (x : By) (w : Bool), x.length ≤ 1000000 → (∀ y ∈ p, y.length ≤ 1000000) → (rootsR p m n x w).1.length ≤ 1000000 ∧ (rootsR p m n x w).2.1.length ≤ 1000000 ∧ (rootsR p m n x w).2.2.1.length ≤ 2 * p.length
  | [], m, n, x, w, h, ha => by simp only [rootsR]; split <;> simp [h]
  | q :: r, m, n, x, w, h, ha => by
    have hq := ha q (by simp)
    have hr : ∀ y ∈ r, y.length ≤ 1000000 := fun y hy => ha y (by simp [hy])
    simp only [rootsR]; split
    · exact ⟨h, h, by simp⟩
    · split
      · exact ⟨hq, hq, by simp⟩
      · split
        · split
          · have := rootsR_len r m (sp n) x w h hr
            refine ⟨this.1, by rw [node_len]; omega, ?_⟩
            simp only [List.length_append, List.length_cons, List.length_nil]; omega
          · simp
        · split
          · have := rootsR_len r (m - sp n) (n - sp n) x false h hr
            refine ⟨by rw [node_len]; omega, by rw [node_len]; omega, ?_⟩
            simp only [List.length_append, List.length_cons, List.length_nil]; omega
          · simp
set_option maxHeartbeats 3200000 in
theorem rroots_c (p : List By) : ∀ (m n : Nat) (x : By) (w : Bool), 0 < m → m ≤ n → n ≤ 9223372036854775807 → p.length ≤ 1000000 → x.length ≤ 1000000 → (∀ y ∈ p, y.length ≤ 1000000) →
    AC Tryd.prog 26 [.it .i64 m, .it .i64 n, .st x, sls p.reverse, .bo w] [] (.tup [.st (rootsR p m n x w).1, .st (rootsR p m n x w).2.1, .sl (.own 0) ((rootsR p m n x w).2.2.1.map .st), .bo (rootsR p m n x w).2.2.2]) [.buf (rootsR p m n x w).2.2.1.length 9 1] := by
  induction p with
  | nil =>
    intro m n x w h0 hi hn hp hx hall
    refine AC.enter [34, 35, 41] [] Tryd.func26 rfl (by decide) (by decide) (Nat.le_of_ble_eq_true rfl) (by kernel_rfl) ?_; simp only [eraseC, eraseO, List.map_cons, List.map_nil, List.map_toArray, List.getElem?_toArray, List.getElem?_cons_zero, List.getElem?_cons_succ, Option.bind_some, Option.bind_none]
    have : List.reverse ([] : List By) = [] := rfl
    rw [this]
    by_cases h1 : m = n
    · subst h1
      cases w
      · simp only [rootsR, Bool.false_eq_true, and_false, if_false]
        (try simp only [AWs_eq, ARgs_eq, AOps_eq, iteP_true, iteP_false]); (try simp -implicitDefEqProofs (disch := (first | omega | (simp only [List.length_append, List.length_cons, List.length_map, List.length_nil, List.length_take, List.length_drop]; omega))) only [↓zpre, zpost, cst1, ↓reduceIte, Nat.reduceEqDiff, Nat.reduceAdd, Nat.reduceLT, Nat.reduceLeDiff, Nat.reduceMul, Nat.reduceSub, Int.reduceToNat, Int.reduceAdd, Int.reduceSub, Int.reduceMul, Int.reduceNeg, Int.reduceLE, Int.reduceLT, Int.reduceEq, Int.reduceBEq, Int.reduceBNe, Nat.reduceBEq, Nat.reduceBNe, aBin, aInt, aStr, aUn, aConv, aNil, aFldAddr, aFld, aIdxAddr, aIdx, aBui, aLoad, aStore, aLits, aLit, aMake, aBytes, aApp, srcOf, aSlice, aBound, modeCut, apart, aSet, aFill, aval, aGd, ACall, AV.wk, AV.wk2, AV.wk1, AV.cells, AV.solid, AV.ro, AV.ro1, ← List.map_take, ← List.map_drop, reduceCtorEq, tf0, tf1, tf2, tf3, tf4, tf5, tf6, tf7, tf8])
        refine ends_retW _ _ (Weak.reserve _ 12 (es := []) (by rfl) 9 1) [0] (by rfl) (subOk_one 0 (by rfl) (by rfl)) (by rfl) (by rfl) (by rfl)
      · simp only [rootsR, and_self, if_true]
        (try simp only [AWs_eq, ARgs_eq, AOps_eq, iteP_true, iteP_false]); (try simp -implicitDefEqProofs (disch := (first | omega | (simp only [List.length_append, List.length_cons, List.length_map, List.length_nil, List.length_take, List.length_drop]; omega))) only [↓zpre, zpost, cst1, ↓reduceIte, Nat.reduceEqDiff, Nat.reduceAdd, Nat.reduceLT, Nat.reduceLeDiff, Nat.reduceMul, Nat.reduceSub, Int.reduceToNat, Int.reduceAdd, Int.reduceSub, Int.reduceMul, Int.reduceNeg, Int.reduceLE, Int.reduceLT, Int.reduceEq, Int.reduceBEq, Int.reduceBNe, Nat.reduceBEq, Nat.reduceBNe, aBin, aInt, aStr, aUn, aConv, aNil, aFldAddr, aFld, aIdxAddr, aIdx, aBui, aLoad, aStore, aLits, aLit, aMake, aBytes, aApp, srcOf, aSlice, aBound, modeCut, apart, aSet, aFill, aval, aGd, ACall, AV.wk, AV.wk2, AV.wk1, AV.cells, AV.solid, AV.ro, AV.ro1, ← List.map_take, ← List.map_drop, reduceCtorEq, tf0, tf1, tf2, tf3, tf4, tf5, tf6, tf7, tf8])
        refine ends_retW _ _ (Weak.reserve _ 12 (es := []) (by rfl) 9 1) [0] (by rfl) (subOk_one 0 (by rfl) (by rfl)) (by rfl) (by rfl) (by rfl)
    · simp only [rootsR, h1, false_and, if_false]
      (try simp only [AWs_eq, ARgs_eq, AOps_eq, iteP_true, iteP_false]); (try simp -implicitDefEqProofs (disch := (first | omega | (simp only [List.length_append, List.length_cons, List.length_map, List.length_nil, List.length_take, List.length_drop]; omega))) only [↓zpre, zpost, cst1, ↓reduceIte, Nat.reduceEqDiff, Nat.reduceAdd, Nat.reduceLT, Nat.reduceLeDiff, Nat.reduceMul, Nat.reduceSub, Int.reduceToNat, Int.reduceAdd, Int.reduceSub, Int.reduceMul, Int.reduceNeg, Int.reduceLE, Int.reduceLT, Int.reduceEq, Int.reduceBEq, Int.reduceBNe, Nat.reduceBEq, Nat.reduceBNe, aBin, aInt, aStr, aUn, aConv, aNil, aFldAddr, aFld, aIdxAddr, aIdx, aBui, aLoad, aStore, aLits, aLit, aMake, aBytes, aApp, srcOf, aSlice, aBound, modeCut, apart, aSet, aFill, aval, aGd, ACall, AV.wk, AV.wk2, AV.wk1, AV.cells, AV.solid, AV.ro, AV.ro1, ← List.map_take, ← List.map_drop, reduceCtorEq, tf0, tf1, tf2, tf3, tf4, tf5, tf6, tf7, tf8])
      refine ends_retW _ _ (Weak.reserve _ 12 (es := []) (by rfl) 9 1) [0] (by rfl) (subOk_one 0 (by rfl) (by rfl)) (by rfl) (by rfl) (by rfl)
  | cons q r ih =>
    intro m n x w h0 hi hn hp hx hall
    refine AC.enter [34, 35, 41] [] Tryd.func26 rfl (by decide) (by decide) (Nat.le_of_ble_eq_true rfl) (by kernel_rfl) ?_; simp only [eraseC, eraseO, List.map_cons, List.map_nil, List.map_toArray, List.getElem?_toArray, List.getElem?_cons_zero, List.getElem?_cons_succ, Option.bind_some, Option.bind_none]
    have hrev : List.reverse (q :: r) = r.reverse ++ [q] := by simp
    rw [hrev]
    have hp' : r.length + 1 ≤ 1000000 := hp
    have hl := rev_last r q
    have el : ((r.length + 1 : Nat) : Int) - 1 = (r.length : Int) := by omega
    have ht := rev_take r q
    have hall' : ∀ y ∈ r, y.length ≤ 1000000 := fun y hy => hall y (by simp [hy])
    have hq := hall q (by simp)
    by_cases h1 : m = n
    · subst h1
      cases w
      · simp only [rootsR, Bool.false_eq_true, and_false, if_false, if_true]
        (try simp only [AWs_eq, ARgs_eq, AOps_eq, iteP_true, iteP_false]); (try simp -implicitDefEqProofs (disch := (first | omega | (simp only [List.length_append, List.length_cons, List.length_map, List.length_nil, List.length_take, List.length_drop]; omega))) only [↓zpre, zpost, cst1, ↓reduceIte, Nat.reduceEqDiff, Nat.reduceAdd, Nat.reduceLT, Nat.reduceLeDiff, Nat.reduceMul, Nat.reduceSub, Int.reduceToNat, Int.reduceAdd, Int.reduceSub, Int.reduceMul, Int.reduceNeg, Int.reduceLE, Int.reduceLT, Int.reduceEq, Int.reduceBEq, Int.reduceBNe, Nat.reduceBEq, Nat.reduceBNe, aBin, aInt, aStr, aUn, aConv, aNil, aFldAddr, aFld, aIdxAddr, aIdx, aBui, aLoad, aStore, aLits, aLit, aMake, aBytes, aApp, srcOf, aSlice, aBound, modeCut, apart, aSet, aFill, aval, aGd, ACall, AV.wk, AV.wk2, AV.wk1, AV.cells, AV.solid, AV.ro, AV.ro1, ← List.map_take, ← List.map_drop, reduceCtorEq, tf0, tf1, tf2, tf3, tf4, tf5, tf6, tf7, tf8, List.length_reverse, el, hl, ht])
        by_cases hr : r = []
        · subst hr
          (try simp only [AWs_eq, ARgs_eq, AOps_eq, iteP_true, iteP_false]); (try simp -implicitDefEqProofs (disch := (first | omega | (simp only [List.length_append, List.length_cons, List.length_map, List.length_nil, List.length_take, List.length_drop]; omega))) only [↓zpre, zpost, cst1, ↓reduceIte, Nat.reduceEqDiff, Nat.reduceAdd, Nat.reduceLT, Nat.reduceLeDiff, Nat.reduceMul, Nat.reduceSub, Int.reduceToNat, Int.reduceAdd, Int.reduceSub, Int.reduceMul, Int.reduceNeg, Int.reduceLE, Int.reduceLT, Int.reduceEq, Int.reduceBEq, Int.reduceBNe, Nat.reduceBEq, Nat.reduceBNe, aBin, aInt, aStr, aUn, aConv, aNil, aFldAddr, aFld, aIdxAddr, aIdx, aBui, aLoad, aStore, aLits, aLit, aMake, aBytes, aApp, srcOf, aSlice, aBound, modeCut, apart, aSet, aFill, aval, aGd, ACall, AV.wk, AV.wk2, AV.wk1, AV.cells, AV.solid, AV.ro, AV.ro1, ← List.map_take, ← List.map_drop, reduceCtorEq, tf0, tf1, tf2, tf3, tf4, tf5, tf6, tf7, tf8])
          refine ends_retW _ _ (Weak.reserve _ 12 (es := []) (by rfl) 9 1) [0] (by rfl) (subOk_one 0 (by rfl) (by rfl)) (by rfl) (by rfl) (by rfl)
        · have hr0 : r.length ≠ 0 := fun e => hr (List.eq_nil_of_length_eq_zero e)
          have hr' : ((r.length : Int) + 1 == 1) = false := by
            have : r.length ≠ 0 := fun e => hr (List.eq_nil_of_length_eq_zero e)
            rw [beqF]; omega
          rw [decide_eq_false hr]
          (try simp only [AWs_eq, ARgs_eq, AOps_eq, iteP_true, iteP_false]); (try simp -implicitDefEqProofs (disch := (first | omega | (simp only [List.length_append, List.length_cons, List.length_map, List.length_nil, List.length_take, List.length_drop]; omega))) only [↓zpre, zpost, cst1, ↓reduceIte, Nat.reduceEqDiff, Nat.reduceAdd, Nat.reduceLT, Nat.reduceLeDiff, Nat.reduceMul, Nat.reduceSub, Int.reduceToNat, Int.reduceAdd, Int.reduceSub, Int.reduceMul, Int.reduceNeg, Int.reduceLE, Int.reduceLT, Int.reduceEq, Int.reduceBEq, Int.reduceBNe, Nat.reduceBEq, Nat.reduceBNe, aBin, aInt, aStr, aUn, aConv, aNil, aFldAddr, aFld, aIdxAddr, aIdx, aBui, aLoad, aStore, aLits, aLit, aMake, aBytes, aApp, srcOf, aSlice, aBound, modeCut, apart, aSet, aFill, aval, aGd, ACall, AV.wk, AV.wk2, AV.wk1, AV.cells, AV.solid, AV.ro, AV.ro1, ← List.map_take, ← List.map_drop, reduceCtorEq, tf0, tf1, tf2, tf3, tf4, tf5, tf6, tf7, tf8, hr'])
          refine ends_retW _ _ (Weak.reserve _ 12 (es := []) (by rfl) 9 1) [0] (by rfl) (subOk_one 0 (by rfl) (by rfl)) (by rfl) (by rfl) (by first | (simp [resV, AV.ren, AV.r2, AV.r1, AV.r0, Mode.ren, idx, ↓upd_apply, ↓put_some]; done) | (simp [resV, AV.ren, AV.r2, AV.r1, AV.r0, Mode.ren, idx, ↓upd_apply, ↓put_some]; omega) | (simp [resV, AV.ren, AV.r2, AV.r1, AV.r0, Mode.ren, idx, ↓upd_apply, ↓put_some]; exact hr))
      · simp only [rootsR, and_self, if_true]
        (try simp only [AWs_eq, ARgs_eq, AOps_eq, iteP_true, iteP_false]); (try simp -implicitDefEqProofs (disch := (first | omega | (simp only [List.length_append, List.length_cons, List.length_map, List.length_nil, List.length_take, List.length_drop]; omega))) only [↓zpre, zpost, cst1, ↓reduceIte, Nat.reduceEqDiff, Nat.reduceAdd, Nat.reduceLT, Nat.reduceLeDiff, Nat.reduceMul, Nat.reduceSub, Int.reduceToNat, Int.reduceAdd, Int.reduceSub, Int.reduceMul, Int.reduceNeg, Int.reduceLE, Int.reduceLT, Int.reduceEq, Int.reduceBEq, Int.reduceBNe, Nat.reduceBEq, Nat.reduceBNe, aBin, aInt, aStr, aUn, aConv, aNil, aFldAddr, aFld, aIdxAddr, aIdx, aBui, aLoad, aStore, aLits, aLit, aMake, aBytes, aApp, srcOf, aSlice, aBound, modeCut, apart, aSet, aFill, aval, aGd, ACall, AV.wk, AV.wk2, AV.wk1, AV.cells, AV.solid, AV.ro, AV.ro1, ← List.map_take, ← List.map_drop, reduceCtorEq, tf0, tf1, tf2, tf3, tf4, tf5, tf6, tf7, tf8, List.length_reverse, el, hl, ht])
        refine ends_retW _ _ (Weak.reserve _ 12 (es := []) (by rfl) 9 1) [0] (by rfl) (subOk_one 0 (by rfl) (by rfl)) (by rfl) (by rfl) (by rfl)
    · (try simp only [AWs_eq, ARgs_eq, AOps_eq, iteP_true, iteP_false]); (try simp -implicitDefEqProofs (disch := (first | omega | (simp only [List.length_append, List.length_cons, List.length_map, List.length_nil, List.length_take, List.length_drop]; omega))) only [↓zpre, zpost, cst1, ↓reduceIte, Nat.reduceEqDiff, Nat.reduceAdd, Nat.reduceLT, Nat.reduceLeDiff, Nat.reduceMul, Nat.reduceSub, Int.reduceToNat, Int.reduceAdd, Int.reduceSub, Int.reduceMul, Int.reduceNeg, Int.reduceLE, Int.reduceLT, Int.reduceEq, Int.reduceBEq, Int.reduceBNe, Nat.reduceBEq, Nat.reduceBNe, aBin, aInt, aStr, aUn, aConv, aNil, aFldAddr, aFld, aIdxAddr, aIdx, aBui, aLoad, aStore, aLits, aLit, aMake, aBytes, aApp, srcOf, aSlice, aBound, modeCut, apart, aSet, aFill, aval, aGd, ACall, AV.wk, AV.wk2, AV.wk1, AV.cells, AV.solid, AV.ro, AV.ro1, ← List.map_take, ← List.map_drop, reduceCtorEq, tf0, tf1, tf2, tf3, tf4, tf5, tf6, tf7, tf8, List.length_reverse, el, hl, ht])
      refine call_pure (rsplit_c n (by omega) (by omega)) (by rfl) (by rfl) (by rfl) ?_
      have h3 := sp_lt (n := n) (by omega)
      have h4 := sp_pos n
      simp only [rootsR, h1, false_and, if_false]
      by_cases hs : m ≤ sp n
      · rw [if_pos hs]
        have hc := rootsR_len r m (sp n) x w hx hall'
        have hi' := ih m (sp n) x w h0 hs (by omega) (by omega) hx hall'
        generalize rootsR r m (sp n) x w = C at *
        obtain ⟨a, b, L, ok⟩ := C
        simp only at hc hi' ⊢
        (try simp only [AWs_eq, ARgs_eq, AOps_eq, iteP_true, iteP_false]); (try simp -implicitDefEqProofs (disch := (first | omega | (simp only [List.length_append, List.length_cons, List.length_map, List.length_nil, List.length_take, List.length_drop]; omega))) only [↓zpre, zpost, cst1, ↓reduceIte, Nat.reduceEqDiff, Nat.reduceAdd, Nat.reduceLT, Nat.reduceLeDiff, Nat.reduceMul, Nat.reduceSub, Int.reduceToNat, Int.reduceAdd, Int.reduceSub, Int.reduceMul, Int.reduceNeg, Int.reduceLE, Int.reduceLT, Int.reduceEq, Int.reduceBEq, Int.reduceBNe, Nat.reduceBEq, Nat.reduceBNe, aBin, aInt, aStr, aUn, aConv, aNil, aFldAddr, aFld, aIdxAddr, aIdx, aBui, aLoad, aStore, aLits, aLit, aMake, aBytes, aApp, srcOf, aSlice, aBound, modeCut, apart, aSet, aFill, aval, aGd, ACall, AV.wk, AV.wk2, AV.wk1, AV.cells, AV.solid, AV.ro, AV.ro1, ← List.map_take, ← List.map_drop, reduceCtorEq, tf0, tf1, tf2, tf3, tf4, tf5, tf6, tf7, tf8, List.length_reverse, el, hl, ht])
        refine call_mk hi' ?_
        cases ok
        · simp only [Bool.false_eq_true, if_false]
          (try simp only [AWs_eq, ARgs_eq, AOps_eq, iteP_true, iteP_false]); (try simp -implicitDefEqProofs (disch := (first | omega | (simp only [List.length_append, List.length_cons, List.length_map, List.length_nil, List.length_take, List.length_drop]; omega))) only [↓zpre, zpost, cst1, ↓reduceIte, Nat.reduceEqDiff, Nat.reduceAdd, Nat.reduceLT, Nat.reduceLeDiff, Nat.reduceMul, Nat.reduceSub, Int.reduceToNat, Int.reduceAdd, Int.reduceSub, Int.reduceMul, Int.reduceNeg, Int.reduceLE, Int.reduceLT, Int.reduceEq, Int.reduceBEq, Int.reduceBNe, Nat.reduceBEq, Nat.reduceBNe, aBin, aInt, aStr, aUn, aConv, aNil, aFldAddr, aFld, aIdxAddr, aIdx, aBui, aLoad, aStore, aLits, aLit, aMake, aBytes, aApp, srcOf, aSlice, aBound, modeCut, apart, aSet, aFill, aval, aGd, ACall, AV.wk, AV.wk2, AV.wk1, AV.cells, AV.solid, AV.ro, AV.ro1, ← List.map_take, ← List.map_drop, reduceCtorEq, tf0, tf1, tf2, tf3, tf4, tf5, tf6, tf7, tf8, List.length_reverse, el, hl, ht])
          refine ends_retW _ _ (Weak.reserve _ 12 (es := []) (by rfl) 9 1) [1] (by rfl) (subOk_one 1 (by rfl) (by rfl)) (by rfl) (by rfl) (by rfl)
        · rw [if_pos rfl]
          (try simp only [AWs_eq, ARgs_eq, AOps_eq, iteP_true, iteP_false]); (try simp -implicitDefEqProofs (disch := (first | omega | (simp only [List.length_append, List.length_cons, List.length_map, List.length_nil, List.length_take, List.length_drop]; omega))) only [↓zpre, zpost, cst1, ↓reduceIte, Nat.reduceEqDiff, Nat.reduceAdd, Nat.reduceLT, Nat.reduceLeDiff, Nat.reduceMul, Nat.reduceSub, Int.reduceToNat, Int.reduceAdd, Int.reduceSub, Int.reduceMul, Int.reduceNeg, Int.reduceLE, Int.reduceLT, Int.reduceEq, Int.reduceBEq, Int.reduceBNe, Nat.reduceBEq, Nat.reduceBNe, aBin, aInt, aStr, aUn, aConv, aNil, aFldAddr, aFld, aIdxAddr, aIdx, aBui, aLoad, aStore, aLits, aLit, aMake, aBytes, aApp, srcOf, aSlice, aBound, modeCut, apart, aSet, aFill, aval, aGd, ACall, AV.wk, AV.wk2, AV.wk1, AV.cells, AV.solid, AV.ro, AV.ro1, ← List.map_take, ← List.map_drop, reduceCtorEq, tf0, tf1, tf2, tf3, tf4, tf5, tf6, tf7, tf8, List.length_reverse, el, hl, ht])
          refine call_pure (rnode_c b q hc.2.1 hq) (by rfl) (by rfl) (by rfl) ?_
          (try simp only [AWs_eq, ARgs_eq, AOps_eq, iteP_true, iteP_false]); (try simp -implicitDefEqProofs (disch := (first | omega | (simp only [List.length_append, List.length_cons, List.length_map, List.length_nil, List.length_take, List.length_drop]; omega))) only [↓zpre, zpost, cst1, ↓reduceIte, Nat.reduceEqDiff, Nat.reduceAdd, Nat.reduceLT, Nat.reduceLeDiff, Nat.reduceMul, Nat.reduceSub, Int.reduceToNat, Int.reduceAdd, Int.reduceSub, Int.reduceMul, Int.reduceNeg, Int.reduceLE, Int.reduceLT, Int.reduceEq, Int.reduceBEq, Int.reduceBNe, Nat.reduceBEq, Nat.reduceBNe, aBin, aInt, aStr, aUn, aConv, aNil, aFldAddr, aFld, aIdxAddr, aIdx, aBui, aLoad, aStore, aLits, aLit, aMake, aBytes, aApp, srcOf, aSlice, aBound, modeCut, apart, aSet, aFill, aval, aGd, ACall, AV.wk, AV.wk2, AV.wk1, AV.cells, AV.solid, AV.ro, AV.ro1, ← List.map_take, ← List.map_drop, reduceCtorEq, tf0, tf1, tf2, tf3, tf4, tf5, tf6, tf7, tf8, List.length_reverse, el, hl, ht])
          refine call_pure (rpre_c b q hc.2.1 hq) (by rfl) (by rfl) (by rfl) ?_
          (try simp only [AWs_eq, ARgs_eq, AOps_eq, iteP_true, iteP_false]); (try simp -implicitDefEqProofs (disch := (first | omega | (simp only [List.length_append, List.length_cons, List.length_map, List.length_nil, List.length_take, List.length_drop]; omega))) only [↓zpre, zpost, cst1, ↓reduceIte, Nat.reduceEqDiff, Nat.reduceAdd, Nat.reduceLT, Nat.reduceLeDiff, Nat.reduceMul, Nat.reduceSub, Int.reduceToNat, Int.reduceAdd, Int.reduceSub, Int.reduceMul, Int.reduceNeg, Int.reduceLE, Int.reduceLT, Int.reduceEq, Int.reduceBEq, Int.reduceBNe, Nat.reduceBEq, Nat.reduceBNe, aBin, aInt, aStr, aUn, aConv, aNil, aFldAddr, aFld, aIdxAddr, aIdx, aBui, aLoad, aStore, aLits, aLit, aMake, aBytes, aApp, srcOf, aSlice, aBound, modeCut, apart, aSet, aFill, aval, aGd, ACall, AV.wk, AV.wk2, AV.wk1, AV.cells, AV.solid, AV.ro, AV.ro1, ← List.map_take, ← List.map_drop, reduceCtorEq, tf0, tf1, tf2, tf3, tf4, tf5, tf6, tf7, tf8, List.length_reverse, el, hl, ht])
          exact ends_ret (κ := [0]) (by rfl) (subOk_one 0 (by rfl) (by simp [SObj.ren])) (by rfl) (by rfl) (by simp [resV, AV.ren, AV.r2, AV.r1, AV.r0, Mode.ren, idx, ↓upd_apply])
      · rw [if_neg hs]
        have hc := rootsR_len r (m - sp n) (n - sp n) x false hx hall'
        have hi' := ih (m - sp n) (n - sp n) x false (by omega) (by omega) (by omega) (by omega) hx hall'
        generalize rootsR r (m - sp n) (n - sp n) x false = C at *
        obtain ⟨a, b, L, ok⟩ := C
        simp only at hc hi' ⊢
        have e1 : (m : Int) - (sp n : Int) = ((m - sp n : Nat) : Int) := by omega
        have e2 : (n : Int) - (sp n : Int) = ((n - sp n : Nat) : Int) := by omega
        (try simp only [AWs_eq, ARgs_eq, AOps_eq, iteP_true, iteP_false]); (try simp -implicitDefEqProofs (disch := (first | omega | (simp only [List.length_append, List.length_cons, List.length_map, List.length_nil, List.length_take, List.length_drop]; omega))) only [↓zpre, zpost, cst1, ↓reduceIte, Nat.reduceEqDiff, Nat.reduceAdd, Nat.reduceLT, Nat.reduceLeDiff, Nat.reduceMul, Nat.reduceSub, Int.reduceToNat, Int.reduceAdd, Int.reduceSub, Int.reduceMul, Int.reduceNeg, Int.reduceLE, Int.reduceLT, Int.reduceEq, Int.reduceBEq, Int.reduceBNe, Nat.reduceBEq, Nat.reduceBNe, aBin, aInt, aStr, aUn, aConv, aNil, aFldAddr, aFld, aIdxAddr, aIdx, aBui, aLoad, aStore, aLits, aLit, aMake, aBytes, aApp, srcOf, aSlice, aBound, modeCut, apart, aSet, aFill, aval, aGd, ACall, AV.wk, AV.wk2, AV.wk1, AV.cells, AV.solid, AV.ro, AV.ro1, ← List.map_take, ← List.map_drop, reduceCtorEq, tf0, tf1, tf2, tf3, tf4, tf5, tf6, tf7, tf8, List.length_reverse, el, hl, ht, e1, e2])
        refine call_mk hi' ?_
        cases ok
        · simp only [Bool.false_eq_true, if_false]
          (try simp only [AWs_eq, ARgs_eq, AOps_eq, iteP_true, iteP_false]); (try simp -implicitDefEqProofs (disch := (first | omega | (simp only [List.length_append, List.length_cons, List.length_map, List.length_nil, List.length_take, List.length_drop]; omega))) only [↓zpre, zpost, cst1, ↓reduceIte, Nat.reduceEqDiff, Nat.reduceAdd, Nat.reduceLT, Nat.reduceLeDiff, Nat.reduceMul, Nat.reduceSub, Int.reduceToNat, Int.reduceAdd, Int.reduceSub, Int.reduceMul, Int.reduceNeg, Int.reduceLE, Int.reduceLT, Int.reduceEq, Int.reduceBEq, Int.reduceBNe, Nat.reduceBEq, Nat.reduceBNe, aBin, aInt, aStr, aUn, aConv, aNil, aFldAddr, aFld, aIdxAddr, aIdx, aBui, aLoad, aStore, aLits, aLit, aMake, aBytes, aApp, srcOf, aSlice, aBound, modeCut, apart, aSet, aFill, aval, aGd, ACall, AV.wk, AV.wk2, AV.wk1, AV.cells, AV.solid, AV.ro, AV.ro1, ← List.map_take, ← List.map_drop, reduceCtorEq, tf0, tf1, tf2, tf3, tf4, tf5, tf6, tf7, tf8, List.length_reverse, el, hl, ht])
          refine ends_retW _ _ (Weak.reserve _ 12 (es := []) (by rfl) 9 1) [1] (by rfl) (subOk_one 1 (by rfl) (by rfl)) (by rfl) (by rfl) (by rfl)
        · rw [if_pos rfl]
          (try simp only [AWs_eq, ARgs_eq, AOps_eq, iteP_true, iteP_false]); (try simp -implicitDefEqProofs (disch := (first | omega | (simp only [List.length_append, List.length_cons, List.length_map, List.length_nil, List.length_take, List.length_drop]; omega))) only [↓zpre, zpost, cst1, ↓reduceIte, Nat.reduceEqDiff, Nat.reduceAdd, Nat.reduceLT, Nat.reduceLeDiff, Nat.reduceMul, Nat.reduceSub, Int.reduceToNat, Int.reduceAdd, Int.reduceSub, Int.reduceMul, Int.reduceNeg, Int.reduceLE, Int.reduceLT, Int.reduceEq, Int.reduceBEq, Int.reduceBNe, Nat.reduceBEq, Nat.reduceBNe, aBin, aInt, aStr, aUn, aConv, aNil, aFldAddr, aFld, aIdxAddr, aIdx, aBui, aLoad, aStore, aLits, aLit, aMake, aBytes, aApp, srcOf, aSlice, aBound, modeCut, apart, aSet, aFill, aval, aGd, ACall, AV.wk, AV.wk2, AV.wk1, AV.cells, AV.solid, AV.ro, AV.ro1, ← List.map_take, ← List.map_drop, reduceCtorEq, tf0, tf1, tf2, tf3, tf4, tf5, tf6, tf7, tf8, List.length_reverse, el, hl, ht])
          refine call_pure (rnode_c q a hq hc.1) (by rfl) (by rfl) (by rfl) ?_
          (try simp only [AWs_eq, ARgs_eq, AOps_eq, iteP_true, iteP_false]); (try simp -implicitDefEqProofs (disch := (first | omega | (simp only [List.length_append, List.length_cons, List.length_map, List.length_nil, List.length_take, List.length_drop]; omega))) only [↓zpre, zpost, cst1, ↓reduceIte, Nat.reduceEqDiff, Nat.reduceAdd, Nat.reduceLT, Nat.reduceLeDiff, Nat.reduceMul, Nat.reduceSub, Int.reduceToNat, Int.reduceAdd, Int.reduceSub, Int.reduceMul, Int.reduceNeg, Int.reduceLE, Int.reduceLT, Int.reduceEq, Int.reduceBEq, Int.reduceBNe, Nat.reduceBEq, Nat.reduceBNe, aBin, aInt, aStr, aUn, aConv, aNil, aFldAddr, aFld, aIdxAddr, aIdx, aBui, aLoad, aStore, aLits, aLit, aMake, aBytes, aApp, srcOf, aSlice, aBound, modeCut, apart, aSet, aFill, aval, aGd, ACall, AV.wk, AV.wk2, AV.wk1, AV.cells, AV.solid, AV.ro, AV.ro1, ← List.map_take, ← List.map_drop, reduceCtorEq, tf0, tf1, tf2, tf3, tf4, tf5, tf6, tf7, tf8, List.length_reverse, el, hl, ht])
          refine call_pure (rnode_c q b hq hc.2.1) (by rfl) (by rfl) (by rfl) ?_
          (try simp only [AWs_eq, ARgs_eq, AOps_eq, iteP_true, iteP_false]); (try simp -implicitDefEqProofs (disch := (first | omega | (simp only [List.length_append, List.length_cons, List.length_map, List.length_nil, List.length_take, List.length_drop]; omega))) only [↓zpre, zpost, cst1, ↓reduceIte, Nat.reduceEqDiff, Nat.reduceAdd, Nat.reduceLT, Nat.reduceLeDiff, Nat.reduceMul, Nat.reduceSub, Int.reduceToNat, Int.reduceAdd, Int.reduceSub, Int.reduceMul, Int.reduceNeg, Int.reduceLE, Int.reduceLT, Int.reduceEq, Int.reduceBEq, Int.reduceBNe, Nat.reduceBEq, Nat.reduceBNe, aBin, aInt, aStr, aUn, aConv, aNil, aFldAddr, aFld, aIdxAddr, aIdx, aBui, aLoad, aStore, aLits, aLit, aMake, aBytes, aApp, srcOf, aSlice, aBound, modeCut, apart, aSet, aFill, aval, aGd, ACall, AV.wk, AV.wk2, AV.wk1, AV.cells, AV.solid, AV.ro, AV.ro1, ← List.map_take, ← List.map_drop, reduceCtorEq, tf0, tf1, tf2, tf3, tf4, tf5, tf6, tf7, tf8, List.length_reverse, el, hl, ht])
          refine call_pure (rpre_c q a hq hc.1) (by rfl) (by rfl) (by rfl) ?_
          (try simp only [AWs_eq, ARgs_eq, AOps_eq, iteP_true, iteP_false]); (try simp -implicitDefEqProofs (disch := (first | omega | (simp only [List.length_append, List.length_cons, List.length_map, List.length_nil, List.length_take, List.length_drop]; omega))) only [↓zpre, zpost, cst1, ↓reduceIte, Nat.reduceEqDiff, Nat.reduceAdd, Nat.reduceLT, Nat.reduceLeDiff, Nat.reduceMul, Nat.reduceSub, Int.reduceToNat, Int.reduceAdd, Int.reduceSub, Int.reduceMul, Int.reduceNeg, Int.reduceLE, Int.reduceLT, Int.reduceEq, Int.reduceBEq, Int.reduceBNe, Nat.reduceBEq, Nat.reduceBNe, aBin, aInt, aStr, aUn, aConv, aNil, aFldAddr, aFld, aIdxAddr, aIdx, aBui, aLoad, aStore, aLits, aLit, aMake, aBytes, aApp, srcOf, aSlice, aBound, modeCut, apart, aSet, aFill, aval, aGd, ACall, AV.wk, AV.wk2, AV.wk1, AV.cells, AV.solid, AV.ro, AV.ro1, ← List.map_take, ← List.map_drop, reduceCtorEq, tf0, tf1, tf2, tf3, tf4, tf5, tf6, tf7, tf8, List.length_reverse, el, hl, ht])
          refine call_pure (rpre_c q b hq hc.2.1) (by rfl) (by rfl) (by rfl) ?_
          (try simp only [AWs_eq, ARgs_eq, AOps_eq, iteP_true, iteP_false]); (try simp -implicitDefEqProofs (disch := (first | omega | (simp only [List.length_append, List.length_cons, List.length_map, List.length_nil, List.length_take, List.length_drop]; omega))) only [↓zpre, zpost, cst1, ↓reduceIte, Nat.reduceEqDiff, Nat.reduceAdd, Nat.reduceLT, Nat.reduceLeDiff, Nat.reduceMul, Nat.reduceSub, Int.reduceToNat, Int.reduceAdd, Int.reduceSub, Int.reduceMul, Int.reduceNeg, Int.reduceLE, Int.reduceLT, Int.reduceEq, Int.reduceBEq, Int.reduceBNe, Nat.reduceBEq, Nat.reduceBNe, aBin, aInt, aStr, aUn, aConv, aNil, aFldAddr, aFld, aIdxAddr, aIdx, aBui, aLoad, aStore, aLits, aLit, aMake, aBytes, aApp, srcOf, aSlice, aBound, modeCut, apart, aSet, aFill, aval, aGd, ACall, AV.wk, AV.wk2, AV.wk1, AV.cells, AV.solid, AV.ro, AV.ro1, ← List.map_take, ← List.map_drop, reduceCtorEq, tf0, tf1, tf2, tf3, tf4, tf5, tf6, tf7, tf8, List.length_reverse, el, hl, ht])
          exact ends_ret (κ := [0]) (by rfl) (subOk_one 0 (by rfl) (by simp [SObj.ren])) (by rfl) (by rfl) (by simp [resV, AV.ren, AV.r2, AV.r1, AV.r0, Mode.ren, idx, ↓upd_apply])
theorem rootsR_el : ∀ (p : List By) (m n : Nat) (x : By) (w : Bool), x.length ≤ 200 → (∀ y ∈ p, y.length ≤ 200) → (rootsR p m n x w).1.length ≤ 200 ∧ (rootsR p m n x w).2.1.length ≤ 200 ∧ ∀ z ∈ (rootsR p m n x w).2.2.1, z.length ≤ 401
  | [], m, n, x, w, h, hp => by simp only [rootsR]; split <;> simp [h]
  | q :: r, m, n, x, w, h, hp => by
    have hq := hp q (by simp)
    have hr : ∀ y ∈ r, y.length ≤ 200 := fun y hy => hp y (by simp [hy])
    simp only [rootsR]; split
    · exact ⟨h, h, by simp⟩
    · split
      · exact ⟨hq, hq, by simp⟩
      · split
        · have := rootsR_el r m (sp n) x w h hr
          split
          · refine ⟨this.1, by rw [node_len]; omega, fun z hz => ?_⟩
            rcases List.mem_append.1 hz with hz | hz
            · exact this.2.2 z hz
            · rw [List.mem_singleton.1 hz, pre_len]; omega
          · simp
        · have := rootsR_el r (m - sp n) (n - sp n) x false h hr
          split
          · refine ⟨by rw [node_len]; omega, by rw [node_len]; omega, fun z hz => ?_⟩
            rcases List.mem_append.1 hz with hz | hz
            · exact this.2.2 z hz
            · rcases List.mem_cons.1 hz with rfl | hz
              · rw [pre_len]; omega
              · rw [List.mem_singleton.1 hz, pre_len]; omega
          · simp
/-- what an accepted link says -/
theorem extB_of {m n : Nat} {old now : By} {p : List By} (hm : 0 < m) (h : extB m n old now p = true) : m ≤ n ∧ Dig p ∧ roots p.reverse m n old true = (old, now, true) := by
  unfold extB at h
  split at h
  · cases h
  rename_i g0
  simp only [not_or] at g0
  have hd : Dig p := fun y hy => by
    have := g0.2.2.2.2
    simp only [digs, Bool.not_eq_false, List.all_eq_true] at this
    have := this y hy
    simp at this
    omega
  refine ⟨by omega, hd, ?_⟩
  split at h
  · omega
  split at h
  · rename_i g1
    obtain ⟨g1, g2, g3⟩ := g1
    have : p = [] := List.eq_nil_of_length_eq_zero g3
    subst this
    have : m = n := by omega
    subst this
    simp [roots, g2]
  split at h
  · cases h
  simp only [Bool.and_eq_true, beq_iff_eq, Int.toNat_natCast] at h
  exact Prod.ext h.1.2 (Prod.ext h.2 h.1.1)
set_option maxHeartbeats 6400000 in
theorem grows_c (s t p : List By) : AC Tryd.prog 6 [sls s, sls t, sls p] [] (.bo true) [] := by
  refine AC.enter [9, 10, 20, 15, 22, 17, 25] [] Tryd.func6 rfl (by decide) (by decide) (Nat.le_of_ble_eq_true rfl) (by kernel_rfl) ?_; simp only [eraseC, eraseO, List.map_cons, List.map_nil, List.map_toArray, List.getElem?_toArray, List.getElem?_cons_zero, List.getElem?_cons_succ, Option.bind_some, Option.bind_none]
  (try simp only [AWs_eq, ARgs_eq, AOps_eq, iteP_true, iteP_false]); (try simp -implicitDefEqProofs (disch := (first | omega | (simp only [List.length_append, List.length_cons, List.length_map, List.length_nil, List.length_take, List.length_drop]; omega))) only [↓zpre, zpost, cst1, ↓reduceIte, Nat.reduceEqDiff, Nat.reduceAdd, Nat.reduceLT, Nat.reduceLeDiff, Nat.reduceMul, Nat.reduceSub, Int.reduceToNat, Int.reduceAdd, Int.reduceSub, Int.reduceMul, Int.reduceNeg, Int.reduceLE, Int.reduceLT, Int.reduceEq, Int.reduceBEq, Int.reduceBNe, Nat.reduceBEq, Nat.reduceBNe, aBin, aInt, aStr, aUn, aConv, aNil, aFldAddr, aFld, aIdxAddr, aIdx, aBui, aLoad, aStore, aLits, aLit, aMake, aBytes, aApp, srcOf, aSlice, aBound, modeCut, apart, aSet, aFill, aval, aGd, ACall, AV.wk, AV.wk2, AV.wk1, AV.cells, AV.solid, AV.ro, AV.ro1, ← List.map_take, ← List.map_drop, reduceCtorEq, tf0, tf1, tf2, tf3, tf4, tf5, tf6, tf7, tf8])
  refine call_pure small_c (by rfl) (by rfl) (by rfl) ?_
  (try simp only [AWs_eq, ARgs_eq, AOps_eq, iteP_true, iteP_false]); (try simp -implicitDefEqProofs (disch := (first | omega | (simp only [List.length_append, List.length_cons, List.length_map, List.length_nil, List.length_take, List.length_drop]; omega))) only [↓zpre, zpost, cst1, ↓reduceIte, Nat.reduceEqDiff, Nat.reduceAdd, Nat.reduceLT, Nat.reduceLeDiff, Nat.reduceMul, Nat.reduceSub, Int.reduceToNat, Int.reduceAdd, Int.reduceSub, Int.reduceMul, Int.reduceNeg, Int.reduceLE, Int.reduceLT, Int.reduceEq, Int.reduceBEq, Int.reduceBNe, Nat.reduceBEq, Nat.reduceBNe, aBin, aInt, aStr, aUn, aConv, aNil, aFldAddr, aFld, aIdxAddr, aIdx, aBui, aLoad, aStore, aLits, aLit, aMake, aBytes, aApp, srcOf, aSlice, aBound, modeCut, apart, aSet, aFill, aval, aGd, ACall, AV.wk, AV.wk2, AV.wk1, AV.cells, AV.solid, AV.ro, AV.ro1, ← List.map_take, ← List.map_drop, reduceCtorEq, tf0, tf1, tf2, tf3, tf4, tf5, tf6, tf7, tf8])
  refine call_pure (leaves_c s) (by rfl) (by rfl) (by rfl) ?_
  (try simp only [AWs_eq, ARgs_eq, AOps_eq, iteP_true, iteP_false]); (try simp -implicitDefEqProofs (disch := (first | omega | (simp only [List.length_append, List.length_cons, List.length_map, List.length_nil, List.length_take, List.length_drop]; omega))) only [↓zpre, zpost, cst1, ↓reduceIte, Nat.reduceEqDiff, Nat.reduceAdd, Nat.reduceLT, Nat.reduceLeDiff, Nat.reduceMul, Nat.reduceSub, Int.reduceToNat, Int.reduceAdd, Int.reduceSub, Int.reduceMul, Int.reduceNeg, Int.reduceLE, Int.reduceLT, Int.reduceEq, Int.reduceBEq, Int.reduceBNe, Nat.reduceBEq, Nat.reduceBNe, aBin, aInt, aStr, aUn, aConv, aNil, aFldAddr, aFld, aIdxAddr, aIdx, aBui, aLoad, aStore, aLits, aLit, aMake, aBytes, aApp, srcOf, aSlice, aBound, modeCut, apart, aSet, aFill, aval, aGd, ACall, AV.wk, AV.wk2, AV.wk1, AV.cells, AV.solid, AV.ro, AV.ro1, ← List.map_take, ← List.map_drop, reduceCtorEq, tf0, tf1, tf2, tf3, tf4, tf5, tf6, tf7, tf8])
  refine call_pure (leaves_c t) (by rfl) (by rfl) (by rfl) ?_
  cases hs : leavesB s
  · (try simp only [AWs_eq, ARgs_eq, AOps_eq, iteP_true, iteP_false]); (try simp -implicitDefEqProofs (disch := (first | omega | (simp only [List.length_append, List.length_cons, List.length_map, List.length_nil, List.length_take, List.length_drop]; omega))) only [↓zpre, zpost, cst1, ↓reduceIte, Nat.reduceEqDiff, Nat.reduceAdd, Nat.reduceLT, Nat.reduceLeDiff, Nat.reduceMul, Nat.reduceSub, Int.reduceToNat, Int.reduceAdd, Int.reduceSub, Int.reduceMul, Int.reduceNeg, Int.reduceLE, Int.reduceLT, Int.reduceEq, Int.reduceBEq, Int.reduceBNe, Nat.reduceBEq, Nat.reduceBNe, aBin, aInt, aStr, aUn, aConv, aNil, aFldAddr, aFld, aIdxAddr, aIdx, aBui, aLoad, aStore, aLits, aLit, aMake, aBytes, aApp, srcOf, aSlice, aBound, modeCut, apart, aSet, aFill, aval, aGd, ACall, AV.wk, AV.wk2, AV.wk1, AV.cells, AV.solid, AV.ro, AV.ro1, ← List.map_take, ← List.map_drop, reduceCtorEq, tf0, tf1, tf2, tf3, tf4, tf5, tf6, tf7, tf8])
    exact ends_ret0 (by rfl) (by rfl) (by rfl)
  cases ht : leavesB t
  · (try simp only [AWs_eq, ARgs_eq, AOps_eq, iteP_true, iteP_false]); (try simp -implicitDefEqProofs (disch := (first | omega | (simp only [List.length_append, List.length_cons, List.length_map, List.length_nil, List.length_take, List.length_drop]; omega))) only [↓zpre, zpost, cst1, ↓reduceIte, Nat.reduceEqDiff, Nat.reduceAdd, Nat.reduceLT, Nat.reduceLeDiff, Nat.reduceMul, Nat.reduceSub, Int.reduceToNat, Int.reduceAdd, Int.reduceSub, Int.reduceMul, Int.reduceNeg, Int.reduceLE, Int.reduceLT, Int.reduceEq, Int.reduceBEq, Int.reduceBNe, Nat.reduceBEq, Nat.reduceBNe, aBin, aInt, aStr, aUn, aConv, aNil, aFldAddr, aFld, aIdxAddr, aIdx, aBui, aLoad, aStore, aLits, aLit, aMake, aBytes, aApp, srcOf, aSlice, aBound, modeCut, apart, aSet, aFill, aval, aGd, ACall, AV.wk, AV.wk2, AV.wk1, AV.cells, AV.solid, AV.ro, AV.ro1, ← List.map_take, ← List.map_drop, reduceCtorEq, tf0, tf1, tf2, tf3, tf4, tf5, tf6, tf7, tf8])
    exact ends_ret0 (by rfl) (by rfl) (by rfl)
  rw [if_pos rfl, if_pos rfl]
  have hla : (s.map leaf).length ≤ 40 := by rw [List.length_map]; exact (leavesB_of hs).1
  have hlb : (t.map leaf).length ≤ 40 := by rw [List.length_map]; exact (leavesB_of ht).1
  have hda := leaf_dig s
  have hdb := leaf_dig t
  clear hs ht
  generalize s.map leaf = a at *
  generalize t.map leaf = b at *
  have hxa : ∀ x ∈ a, x.length ≤ 1000000 := fun x hx => by rw [hda x hx]; omega
  have hxb : ∀ x ∈ b, x.length ≤ 1000000 := fun x hx => by rw [hdb x hx]; omega
  (try simp only [AWs_eq, ARgs_eq, AOps_eq, iteP_true, iteP_false]); (try simp -implicitDefEqProofs (disch := (first | omega | (simp only [List.length_append, List.length_cons, List.length_map, List.length_nil, List.length_take, List.length_drop]; omega))) only [↓zpre, zpost, cst1, ↓reduceIte, Nat.reduceEqDiff, Nat.reduceAdd, Nat.reduceLT, Nat.reduceLeDiff, Nat.reduceMul, Nat.reduceSub, Int.reduceToNat, Int.reduceAdd, Int.reduceSub, Int.reduceMul, Int.reduceNeg, Int.reduceLE, Int.reduceLT, Int.reduceEq, Int.reduceBEq, Int.reduceBNe, Nat.reduceBEq, Nat.reduceBNe, aBin, aInt, aStr, aUn, aConv, aNil, aFldAddr, aFld, aIdxAddr, aIdx, aBui, aLoad, aStore, aLits, aLit, aMake, aBytes, aApp, srcOf, aSlice, aBound, modeCut, apart, aSet, aFill, aval, aGd, ACall, AV.wk, AV.wk2, AV.wk1, AV.cells, AV.solid, AV.ro, AV.ro1, ← List.map_take, ← List.map_drop, reduceCtorEq, tf0, tf1, tf2, tf3, tf4, tf5, tf6, tf7, tf8])
  refine call_pure (short_c p) (by rfl) (by rfl) (by rfl) ?_
  cases hp : shortB p
  · (try simp only [AWs_eq, ARgs_eq, AOps_eq, iteP_true, iteP_false]); (try simp -implicitDefEqProofs (disch := (first | omega | (simp only [List.length_append, List.length_cons, List.length_map, List.length_nil, List.length_take, List.length_drop]; omega))) only [↓zpre, zpost, cst1, ↓reduceIte, Nat.reduceEqDiff, Nat.reduceAdd, Nat.reduceLT, Nat.reduceLeDiff, Nat.reduceMul, Nat.reduceSub, Int.reduceToNat, Int.reduceAdd, Int.reduceSub, Int.reduceMul, Int.reduceNeg, Int.reduceLE, Int.reduceLT, Int.reduceEq, Int.reduceBEq, Int.reduceBNe, Nat.reduceBEq, Nat.reduceBNe, aBin, aInt, aStr, aUn, aConv, aNil, aFldAddr, aFld, aIdxAddr, aIdx, aBui, aLoad, aStore, aLits, aLit, aMake, aBytes, aApp, srcOf, aSlice, aBound, modeCut, apart, aSet, aFill, aval, aGd, ACall, AV.wk, AV.wk2, AV.wk1, AV.cells, AV.solid, AV.ro, AV.ro1, ← List.map_take, ← List.map_drop, reduceCtorEq, tf0, tf1, tf2, tf3, tf4, tf5, tf6, tf7, tf8])
    exact ends_ret0 (by rfl) (by rfl) (by rfl)
  obtain ⟨hp1, hp2⟩ := shortB_and hp
  have hpx : ∀ x ∈ p, x.length ≤ 1000000 := fun x hx => Nat.le_trans (hp2 x hx) (by omega)
  have hra := root_c a (by omega) hxa
  have hrb := root_c b (by omega) hxb
  have hext := extends_c p a.length b.length (root a) (root b) (by omega) (by omega) hpx
  (try simp only [AWs_eq, ARgs_eq, AOps_eq, iteP_true, iteP_false]); (try simp -implicitDefEqProofs (disch := (first | omega | (simp only [List.length_append, List.length_cons, List.length_map, List.length_nil, List.length_take, List.length_drop]; omega))) only [↓zpre, zpost, cst1, ↓reduceIte, Nat.reduceEqDiff, Nat.reduceAdd, Nat.reduceLT, Nat.reduceLeDiff, Nat.reduceMul, Nat.reduceSub, Int.reduceToNat, Int.reduceAdd, Int.reduceSub, Int.reduceMul, Int.reduceNeg, Int.reduceLE, Int.reduceLT, Int.reduceEq, Int.reduceBEq, Int.reduceBNe, Nat.reduceBEq, Nat.reduceBNe, aBin, aInt, aStr, aUn, aConv, aNil, aFldAddr, aFld, aIdxAddr, aIdx, aBui, aLoad, aStore, aLits, aLit, aMake, aBytes, aApp, srcOf, aSlice, aBound, modeCut, apart, aSet, aFill, aval, aGd, ACall, AV.wk, AV.wk2, AV.wk1, AV.cells, AV.solid, AV.ro, AV.ro1, ← List.map_take, ← List.map_drop, reduceCtorEq, tf0, tf1, tf2, tf3, tf4, tf5, tf6, tf7, tf8])
  refine call_pure hra (by rfl) (by rfl) (by rfl) ?_
  (try simp only [AWs_eq, ARgs_eq, AOps_eq, iteP_true, iteP_false]); (try simp -implicitDefEqProofs (disch := (first | omega | (simp only [List.length_append, List.length_cons, List.length_map, List.length_nil, List.length_take, List.length_drop]; omega))) only [↓zpre, zpost, cst1, ↓reduceIte, Nat.reduceEqDiff, Nat.reduceAdd, Nat.reduceLT, Nat.reduceLeDiff, Nat.reduceMul, Nat.reduceSub, Int.reduceToNat, Int.reduceAdd, Int.reduceSub, Int.reduceMul, Int.reduceNeg, Int.reduceLE, Int.reduceLT, Int.reduceEq, Int.reduceBEq, Int.reduceBNe, Nat.reduceBEq, Nat.reduceBNe, aBin, aInt, aStr, aUn, aConv, aNil, aFldAddr, aFld, aIdxAddr, aIdx, aBui, aLoad, aStore, aLits, aLit, aMake, aBytes, aApp, srcOf, aSlice, aBound, modeCut, apart, aSet, aFill, aval, aGd, ACall, AV.wk, AV.wk2, AV.wk1, AV.cells, AV.solid, AV.ro, AV.ro1, ← List.map_take, ← List.map_drop, reduceCtorEq, tf0, tf1, tf2, tf3, tf4, tf5, tf6, tf7, tf8])
  refine call_pure hrb (by rfl) (by rfl) (by rfl) ?_
  (try simp only [AWs_eq, ARgs_eq, AOps_eq, iteP_true, iteP_false]); (try simp -implicitDefEqProofs (disch := (first | omega | (simp only [List.length_append, List.length_cons, List.length_map, List.length_nil, List.length_take, List.length_drop]; omega))) only [↓zpre, zpost, cst1, ↓reduceIte, Nat.reduceEqDiff, Nat.reduceAdd, Nat.reduceLT, Nat.reduceLeDiff, Nat.reduceMul, Nat.reduceSub, Int.reduceToNat, Int.reduceAdd, Int.reduceSub, Int.reduceMul, Int.reduceNeg, Int.reduceLE, Int.reduceLT, Int.reduceEq, Int.reduceBEq, Int.reduceBNe, Nat.reduceBEq, Nat.reduceBNe, aBin, aInt, aStr, aUn, aConv, aNil, aFldAddr, aFld, aIdxAddr, aIdx, aBui, aLoad, aStore, aLits, aLit, aMake, aBytes, aApp, srcOf, aSlice, aBound, modeCut, apart, aSet, aFill, aval, aGd, ACall, AV.wk, AV.wk2, AV.wk1, AV.cells, AV.solid, AV.ro, AV.ro1, ← List.map_take, ← List.map_drop, reduceCtorEq, tf0, tf1, tf2, tf3, tf4, tf5, tf6, tf7, tf8])
  refine call_pure hext (by rfl) (by rfl) (by rfl) ?_
  cases hb : extB a.length b.length (root a) (root b) p
  · (try simp only [AWs_eq, ARgs_eq, AOps_eq, iteP_true, iteP_false]); (try simp -implicitDefEqProofs (disch := (first | omega | (simp only [List.length_append, List.length_cons, List.length_map, List.length_nil, List.length_take, List.length_drop]; omega))) only [↓zpre, zpost, cst1, ↓reduceIte, Nat.reduceEqDiff, Nat.reduceAdd, Nat.reduceLT, Nat.reduceLeDiff, Nat.reduceMul, Nat.reduceSub, Int.reduceToNat, Int.reduceAdd, Int.reduceSub, Int.reduceMul, Int.reduceNeg, Int.reduceLE, Int.reduceLT, Int.reduceEq, Int.reduceBEq, Int.reduceBNe, Nat.reduceBEq, Nat.reduceBNe, aBin, aInt, aStr, aUn, aConv, aNil, aFldAddr, aFld, aIdxAddr, aIdx, aBui, aLoad, aStore, aLits, aLit, aMake, aBytes, aApp, srcOf, aSlice, aBound, modeCut, apart, aSet, aFill, aval, aGd, ACall, AV.wk, AV.wk2, AV.wk1, AV.cells, AV.solid, AV.ro, AV.ro1, ← List.map_take, ← List.map_drop, reduceCtorEq, tf0, tf1, tf2, tf3, tf4, tf5, tf6, tf7, tf8])
    exact ends_ret0 (by rfl) (by rfl) (by rfl)
  by_cases ha0 : a.length = 0
  · (try simp only [AWs_eq, ARgs_eq, AOps_eq, iteP_true, iteP_false]); (try simp -implicitDefEqProofs (disch := (first | omega | (simp only [List.length_append, List.length_cons, List.length_map, List.length_nil, List.length_take, List.length_drop]; omega))) only [↓zpre, zpost, cst1, ↓reduceIte, Nat.reduceEqDiff, Nat.reduceAdd, Nat.reduceLT, Nat.reduceLeDiff, Nat.reduceMul, Nat.reduceSub, Int.reduceToNat, Int.reduceAdd, Int.reduceSub, Int.reduceMul, Int.reduceNeg, Int.reduceLE, Int.reduceLT, Int.reduceEq, Int.reduceBEq, Int.reduceBNe, Nat.reduceBEq, Nat.reduceBNe, aBin, aInt, aStr, aUn, aConv, aNil, aFldAddr, aFld, aIdxAddr, aIdx, aBui, aLoad, aStore, aLits, aLit, aMake, aBytes, aApp, srcOf, aSlice, aBound, modeCut, apart, aSet, aFill, aval, aGd, ACall, AV.wk, AV.wk2, AV.wk1, AV.cells, AV.solid, AV.ro, AV.ro1, ← List.map_take, ← List.map_drop, reduceCtorEq, tf0, tf1, tf2, tf3, tf4, tf5, tf6, tf7, tf8])
    exact ends_ret0 (by rfl) (by rfl) (by rfl)
  obtain ⟨b1, b2, b3⟩ := extB_of (by omega) hb
  have era := root_rt (l := a) (by omega)
  have erb := root_rt (l := b) (by omega)
  rw [era] at b3 hra hext
  rw [erb] at b3
  have hro := rt_dig (l := a) (by omega) hda
  have key := grows b.length a b p.reverse (rt a) true (Nat.le_refl _) (by omega) b1 hda hdb (Dig.rev b2) hro b3
  have hsm := rsame_c a (b.take a.length) (by omega) (by simp; omega)
  (try simp only [AWs_eq, ARgs_eq, AOps_eq, iteP_true, iteP_false]); (try simp -implicitDefEqProofs (disch := (first | omega | (simp only [List.length_append, List.length_cons, List.length_map, List.length_nil, List.length_take, List.length_drop]; omega))) only [↓zpre, zpost, cst1, ↓reduceIte, Nat.reduceEqDiff, Nat.reduceAdd, Nat.reduceLT, Nat.reduceLeDiff, Nat.reduceMul, Nat.reduceSub, Int.reduceToNat, Int.reduceAdd, Int.reduceSub, Int.reduceMul, Int.reduceNeg, Int.reduceLE, Int.reduceLT, Int.reduceEq, Int.reduceBEq, Int.reduceBNe, Nat.reduceBEq, Nat.reduceBNe, aBin, aInt, aStr, aUn, aConv, aNil, aFldAddr, aFld, aIdxAddr, aIdx, aBui, aLoad, aStore, aLits, aLit, aMake, aBytes, aApp, srcOf, aSlice, aBound, modeCut, apart, aSet, aFill, aval, aGd, ACall, AV.wk, AV.wk2, AV.wk1, AV.cells, AV.solid, AV.ro, AV.ro1, ← List.map_take, ← List.map_drop, reduceCtorEq, tf0, tf1, tf2, tf3, tf4, tf5, tf6, tf7, tf8])
  refine call_pure hsm (by rfl) (by rfl) (by rfl) ?_
  by_cases hsame : a = b.take a.length
  · rw [decide_eq_true hsame]
    (try simp only [AWs_eq, ARgs_eq, AOps_eq, iteP_true, iteP_false]); (try simp -implicitDefEqProofs (disch := (first | omega | (simp only [List.length_append, List.length_cons, List.length_map, List.length_nil, List.length_take, List.length_drop]; omega))) only [↓zpre, zpost, cst1, ↓reduceIte, Nat.reduceEqDiff, Nat.reduceAdd, Nat.reduceLT, Nat.reduceLeDiff, Nat.reduceMul, Nat.reduceSub, Int.reduceToNat, Int.reduceAdd, Int.reduceSub, Int.reduceMul, Int.reduceNeg, Int.reduceLE, Int.reduceLT, Int.reduceEq, Int.reduceBEq, Int.reduceBNe, Nat.reduceBEq, Nat.reduceBNe, aBin, aInt, aStr, aUn, aConv, aNil, aFldAddr, aFld, aIdxAddr, aIdx, aBui, aLoad, aStore, aLits, aLit, aMake, aBytes, aApp, srcOf, aSlice, aBound, modeCut, apart, aSet, aFill, aval, aGd, ACall, AV.wk, AV.wk2, AV.wk1, AV.cells, AV.solid, AV.ro, AV.ro1, ← List.map_take, ← List.map_drop, reduceCtorEq, tf0, tf1, tf2, tf3, tf4, tf5, tf6, tf7, tf8])
    exact ends_ret0 (by rfl) (by rfl) (by rfl)
  have key := key.resolve_left hsame
  rw [decide_eq_false hsame]
  have hcl := rroots_c p.reverse a.length b.length (rt a) true (by omega) b1 (by omega) (by simp; omega) (by omega) (fun y hy => hpx y (by simpa using hy))
  rw [List.reverse_reverse] at hcl
  have hce := (rootsR_el p.reverse a.length b.length (rt a) true (by omega) (fun y hy => hp2 y (by simpa using hy))).2.2
  have hcn := (rootsR_len p.reverse a.length b.length (rt a) true (by omega) (fun y hy => hpx y (by simpa using hy))).2.2
  rw [List.length_reverse] at hcn
  have hia := inputs_c a.length a (Nat.le_refl _) (by omega) hxa
  have hib := inputs_c b.length b (Nat.le_refl _) (by omega) hxb
  have hea := inputs_el a.length a (Nat.le_refl _) hda
  have heb := inputs_el b.length b (Nat.le_refl _) hdb
  have hna := inputs_len a.length a (Nat.le_refl _)
  have hnb := inputs_len b.length b (Nat.le_refl _)
  unfold insR at key
  generalize rootsR p.reverse a.length b.length (rt a) true = C at *
  obtain ⟨c1, c2, L, cok⟩ := C
  simp only at hcl hce hcn key
  generalize inputs a = I at *
  generalize inputs b = J at *
  have hia' : AC Tryd.prog 24 [sls a] [.buf L.length 9 1] (.sl (.own 1) (I.map .st)) [.buf L.length 9 1, .buf I.length 9 1] := AC.fresh1 hia (by rfl) (by rfl) (by rfl) [.buf L.length 9 1]
  have hib' : AC Tryd.prog 24 [sls b] [.buf L.length 9 1, .buf I.length 9 1] (.sl (.own 2) (J.map .st)) [.buf L.length 9 1, .buf I.length 9 1, .buf J.length 9 1] := AC.fresh1 hib (by rfl) (by rfl) (by rfl) [.buf L.length 9 1, .buf I.length 9 1]
  (try simp only [AWs_eq, ARgs_eq, AOps_eq, iteP_true, iteP_false]); (try simp -implicitDefEqProofs (disch := (first | omega | (simp only [List.length_append, List.length_cons, List.length_map, List.length_nil, List.length_take, List.length_drop]; omega))) only [↓zpre, zpost, cst1, ↓reduceIte, Nat.reduceEqDiff, Nat.reduceAdd, Nat.reduceLT, Nat.reduceLeDiff, Nat.reduceMul, Nat.reduceSub, Int.reduceToNat, Int.reduceAdd, Int.reduceSub, Int.reduceMul, Int.reduceNeg, Int.reduceLE, Int.reduceLT, Int.reduceEq, Int.reduceBEq, Int.reduceBNe, Nat.reduceBEq, Nat.reduceBNe, aBin, aInt, aStr, aUn, aConv, aNil, aFldAddr, aFld, aIdxAddr, aIdx, aBui, aLoad, aStore, aLits, aLit, aMake, aBytes, aApp, srcOf, aSlice, aBound, modeCut, apart, aSet, aFill, aval, aGd, ACall, AV.wk, AV.wk2, AV.wk1, AV.cells, AV.solid, AV.ro, AV.ro1, ← List.map_take, ← List.map_drop, reduceCtorEq, tf0, tf1, tf2, tf3, tf4, tf5, tf6, tf7, tf8])
  refine call_pure hra (by rfl) (by rfl) (by rfl) ?_
  (try simp only [AWs_eq, ARgs_eq, AOps_eq, iteP_true, iteP_false]); (try simp -implicitDefEqProofs (disch := (first | omega | (simp only [List.length_append, List.length_cons, List.length_map, List.length_nil, List.length_take, List.length_drop]; omega))) only [↓zpre, zpost, cst1, ↓reduceIte, Nat.reduceEqDiff, Nat.reduceAdd, Nat.reduceLT, Nat.reduceLeDiff, Nat.reduceMul, Nat.reduceSub, Int.reduceToNat, Int.reduceAdd, Int.reduceSub, Int.reduceMul, Int.reduceNeg, Int.reduceLE, Int.reduceLT, Int.reduceEq, Int.reduceBEq, Int.reduceBNe, Nat.reduceBEq, Nat.reduceBNe, aBin, aInt, aStr, aUn, aConv, aNil, aFldAddr, aFld, aIdxAddr, aIdx, aBui, aLoad, aStore, aLits, aLit, aMake, aBytes, aApp, srcOf, aSlice, aBound, modeCut, apart, aSet, aFill, aval, aGd, ACall, AV.wk, AV.wk2, AV.wk1, AV.cells, AV.solid, AV.ro, AV.ro1, ← List.map_take, ← List.map_drop, reduceCtorEq, tf0, tf1, tf2, tf3, tf4, tf5, tf6, tf7, tf8])
  refine call_mk hcl ?_
  (try simp only [AWs_eq, ARgs_eq, AOps_eq, iteP_true, iteP_false]); (try simp -implicitDefEqProofs (disch := (first | omega | (simp only [List.length_append, List.length_cons, List.length_map, List.length_nil, List.length_take, List.length_drop]; omega))) only [↓zpre, zpost, cst1, ↓reduceIte, Nat.reduceEqDiff, Nat.reduceAdd, Nat.reduceLT, Nat.reduceLeDiff, Nat.reduceMul, Nat.reduceSub, Int.reduceToNat, Int.reduceAdd, Int.reduceSub, Int.reduceMul, Int.reduceNeg, Int.reduceLE, Int.reduceLT, Int.reduceEq, Int.reduceBEq, Int.reduceBNe, Nat.reduceBEq, Nat.reduceBNe, aBin, aInt, aStr, aUn, aConv, aNil, aFldAddr, aFld, aIdxAddr, aIdx, aBui, aLoad, aStore, aLits, aLit, aMake, aBytes, aApp, srcOf, aSlice, aBound, modeCut, apart, aSet, aFill, aval, aGd, ACall, AV.wk, AV.wk2, AV.wk1, AV.cells, AV.solid, AV.ro, AV.ro1, ← List.map_take, ← List.map_drop, reduceCtorEq, tf0, tf1, tf2, tf3, tf4, tf5, tf6, tf7, tf8])
  refine call_mk hia' ?_
  (try simp only [AWs_eq, ARgs_eq, AOps_eq, iteP_true, iteP_false]); (try simp -implicitDefEqProofs (disch := (first | omega | (simp only [List.length_append, List.length_cons, List.length_map, List.length_nil, List.length_take, List.length_drop]; omega))) only [↓zpre, zpost, cst1, ↓reduceIte, Nat.reduceEqDiff, Nat.reduceAdd, Nat.reduceLT, Nat.reduceLeDiff, Nat.reduceMul, Nat.reduceSub, Int.reduceToNat, Int.reduceAdd, Int.reduceSub, Int.reduceMul, Int.reduceNeg, Int.reduceLE, Int.reduceLT, Int.reduceEq, Int.reduceBEq, Int.reduceBNe, Nat.reduceBEq, Nat.reduceBNe, aBin, aInt, aStr, aUn, aConv, aNil, aFldAddr, aFld, aIdxAddr, aIdx, aBui, aLoad, aStore, aLits, aLit, aMake, aBytes, aApp, srcOf, aSlice, aBound, modeCut, apart, aSet, aFill, aval, aGd, ACall, AV.wk, AV.wk2, AV.wk1, AV.cells, AV.solid, AV.ro, AV.ro1, ← List.map_take, ← List.map_drop, reduceCtorEq, tf0, tf1, tf2, tf3, tf4, tf5, tf6, tf7, tf8])
  refine call_mk hib' ?_
  (try simp only [AWs_eq, ARgs_eq, AOps_eq, iteP_true, iteP_false]); (try simp -implicitDefEqProofs (disch := (first | omega | (simp only [List.length_append, List.length_cons, List.length_map, List.length_nil, List.length_take, List.length_drop]; omega))) only [↓zpre, zpost, cst1, ↓reduceIte, Nat.reduceEqDiff, Nat.reduceAdd, Nat.reduceLT, Nat.reduceLeDiff, Nat.reduceMul, Nat.reduceSub, Int.reduceToNat, Int.reduceAdd, Int.reduceSub, Int.reduceMul, Int.reduceNeg, Int.reduceLE, Int.reduceLT, Int.reduceEq, Int.reduceBEq, Int.reduceBNe, Nat.reduceBEq, Nat.reduceBNe, aBin, aInt, aStr, aUn, aConv, aNil, aFldAddr, aFld, aIdxAddr, aIdx, aBui, aLoad, aStore, aLits, aLit, aMake, aBytes, aApp, srcOf, aSlice, aBound, modeCut, apart, aSet, aFill, aval, aGd, ACall, AV.wk, AV.wk2, AV.wk1, AV.cells, AV.solid, AV.ro, AV.ro1, ← List.map_take, ← List.map_drop, reduceCtorEq, tf0, tf1, tf2, tf3, tf4, tf5, tf6, tf7, tf8])
  have hcc := clash_c ((I ++ J) ++ L) (by simp; omega) (fun z hz => by
    rcases List.mem_append.1 hz with hz | hz
    · rcases List.mem_append.1 hz with hz | hz
      · exact Nat.le_trans (hea z hz) (by omega)
      · exact Nat.le_trans (heb z hz) (by omega)
    · exact Nat.le_trans (hce z hz) (by omega))
  simp only [sls, List.map_append] at hcc
  rw [clashB_t key] at hcc
  refine call_pure hcc (by rfl) (by rfl) (by rfl) ?_
  (try simp only [AWs_eq, ARgs_eq, AOps_eq, iteP_true, iteP_false]); (try simp -implicitDefEqProofs (disch := (first | omega | (simp only [List.length_append, List.length_cons, List.length_map, List.length_nil, List.length_take, List.length_drop]; omega))) only [↓zpre, zpost, cst1, ↓reduceIte, Nat.reduceEqDiff, Nat.reduceAdd, Nat.reduceLT, Nat.reduceLeDiff, Nat.reduceMul, Nat.reduceSub, Int.reduceToNat, Int.reduceAdd, Int.reduceSub, Int.reduceMul, Int.reduceNeg, Int.reduceLE, Int.reduceLT, Int.reduceEq, Int.reduceBEq, Int.reduceBNe, Nat.reduceBEq, Nat.reduceBNe, aBin, aInt, aStr, aUn, aConv, aNil, aFldAddr, aFld, aIdxAddr, aIdx, aBui, aLoad, aStore, aLits, aLit, aMake, aBytes, aApp, srcOf, aSlice, aBound, modeCut, apart, aSet, aFill, aval, aGd, ACall, AV.wk, AV.wk2, AV.wk1, AV.cells, AV.solid, AV.ro, AV.ro1, ← List.map_take, ← List.map_drop, reduceCtorEq, tf0, tf1, tf2, tf3, tf4, tf5, tf6, tf7, tf8])
  exact ends_ret0 (by rfl) (by rfl) (by rfl)
end Go.Proofs.YthnolonphjfoeaaDoor.Pe
