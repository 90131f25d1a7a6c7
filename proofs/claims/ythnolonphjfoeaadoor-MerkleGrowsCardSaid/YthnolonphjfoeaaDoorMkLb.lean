/- The walk of MerkleProves. -/
import Derived.Test.YthnolonphjfoeaaDoorMkH
import Derived.Test.YthnolonphjfoeaaDoorMkQ
namespace Go.Proofs.YthnolonphjfoeaaDoor.Pe
set_option linter.unusedSectionVars false
set_option linter.unusedVariables false
set_option linter.unusedSimpArgs false
open Go Sm Mk
set_option maxRecDepth 100000
/-- what Includes answers -/
def incB (x : By) (i n : Int) (root : By) (p : List By) : Bool := decide (0 ≤ i) && decide (i < n) && ((x.length : Int) == 32) && (p.all fun s => (s.length : Int) == 32) && (flw p.reverse i.toNat n.toNat x).2 && (flw p.reverse i.toNat n.toNat x).1 == root
theorem includes_b (p : List By) (i n : Int) (x root : By) (hn : n ≤ 9223372036854775807) (hn' : -9223372036854775808 ≤ n) (hi : -9223372036854775808 ≤ i ∧ i ≤ 9223372036854775807) (hp : p.length ≤ 1000000) (hx : x.length ≤ 1000000) (hall : ∀ y ∈ p, y.length ≤ 1000000) :
    AC Tryd.prog 21 [.st x, .it .i64 i, .it .i64 n, .st root, sls p] [] (.bo (incB x i n root p)) [] := includes_c p i n x root hn hn' hi hp hx hall
theorem digs_of {p : List By} (h : Dig p) : (p.all fun s => (s.length : Int) == 32) = true := by
  rw [List.all_eq_true]
  intro x hx
  simp [h x hx]
theorem incB_path {l : List By} {i : Nat} {x : By} (hi : i < l.length) (hx : l[i]? = some x) (hd : Dig l) : incB x i l.length (root l) (path l i) = true := by
  unfold incB
  have h1 := flw_path l.length l i x hi hx (Nat.le_refl _)
  have h2 := hd x (List.mem_of_getElem? hx)
  rw [digs_of (path_dig l.length l i (Nat.le_refl _) hd), Int.toNat_natCast, Int.toNat_natCast, h1, root_rt (by omega)]
  simp [h2]
  omega
theorem incB_lo (x : By) (n : Int) (root : By) (p : List By) : incB x (-1) n root p = false := by
  simp [incB]
theorem incB_hi (x : By) (n : Int) (root : By) (p : List By) : incB x n n root p = false := by
  simp [incB]
theorem root_dig {l : List By} (h : Dig l) : (root l).length = 32 := by
  by_cases h0 : 0 < l.length
  · rw [root_rt h0]; exact rt_dig h0 h
  · have : l = [] := List.eq_nil_of_length_eq_zero (by omega)
    subst this
    exact sha_len _
theorem extB_link {l : List By} {m : Nat} (hm : m ≤ l.length) (hd : Dig l) : extB m l.length (root (l.take m)) (root l) (if m = 0 then [] else link l m true) = true := by
  unfold extB
  rw [if_neg (by
    have h1 := root_dig (hd.take m)
    have h2 := root_dig hd
    have h3 : digs (if m = 0 then [] else link l m true) = true := by
      split
      · rfl
      · exact digs_of (link_dig l.length l m true (by omega) hm (Nat.le_refl _) hd)
    rw [h3]
    simp [h1, h2]
    omega)]
  by_cases h0 : m = 0
  · subst h0
    rw [if_pos ⟨rfl, rfl, rfl⟩]
  rw [if_neg (fun h => h0 (by omega)), if_neg h0]
  by_cases h1 : m = l.length
  · subst h1
    rw [if_pos ⟨rfl, by rw [List.take_length], by rw [link_all]; rfl⟩]
  · rw [if_neg (fun h => h1 (by omega)), if_neg (by omega), Int.toNat_natCast, Int.toNat_natCast, root_rt (l := l) (by omega), root_rt (l := l.take m) (by simp; omega)]
    rw [roots_link l.length l m _ true (by omega) hm (Nat.le_refl _) (fun _ => rfl)]
    simp
theorem leaf_dig (l : List By) : Dig (l.map leaf) := by
  intro x hx
  obtain ⟨y, _, rfl⟩ := List.mem_map.1 hx
  exact sha_len _
set_option maxHeartbeats 3200000 in
theorem proves_c (s : List By) (i m : Int) (hi : -9223372036854775808 ≤ i ∧ i ≤ 9223372036854775807) : AC Tryd.prog 4 [sls s, .it .i64 i, .it .i64 m] [] (.bo true) [] := by
  refine AC.enter [9, 20, 15, 13, 14, 21, 22] [] Tryd.func4 rfl (by decide) (by decide) (Nat.le_of_ble_eq_true rfl) (by kernel_rfl) ?_; simp only [eraseC, eraseO, List.map_cons, List.map_nil, List.map_toArray, List.getElem?_toArray, List.getElem?_cons_zero, List.getElem?_cons_succ, Option.bind_some, Option.bind_none]
  (try simp only [AWs_eq, ARgs_eq, AOps_eq, iteP_true, iteP_false]); (try simp -implicitDefEqProofs (disch := (first | omega | (simp only [List.length_append, List.length_cons, List.length_map, List.length_nil, List.length_take, List.length_drop]; omega))) only [↓zpre, zpost, cst1, ↓reduceIte, Nat.reduceEqDiff, Nat.reduceAdd, Nat.reduceLT, Nat.reduceLeDiff, Nat.reduceMul, Nat.reduceSub, Int.reduceToNat, Int.reduceAdd, Int.reduceSub, Int.reduceMul, Int.reduceNeg, Int.reduceLE, Int.reduceLT, Int.reduceEq, Int.reduceBEq, Int.reduceBNe, Nat.reduceBEq, Nat.reduceBNe, aBin, aInt, aStr, aUn, aConv, aNil, aFldAddr, aFld, aIdxAddr, aIdx, aBui, aLoad, aStore, aLits, aLit, aMake, aBytes, aApp, srcOf, aSlice, aBound, modeCut, apart, aSet, aFill, aval, aGd, ACall, AV.wk, AV.wk2, AV.wk1, AV.cells, AV.solid, AV.ro, AV.ro1, ← List.map_take, ← List.map_drop, reduceCtorEq, tf0, tf1, tf2, tf3, tf4, tf5, tf6, tf7, tf8])
  refine call_pure small_c (by rfl) (by rfl) (by rfl) ?_
  (try simp only [AWs_eq, ARgs_eq, AOps_eq, iteP_true, iteP_false]); (try simp -implicitDefEqProofs (disch := (first | omega | (simp only [List.length_append, List.length_cons, List.length_map, List.length_nil, List.length_take, List.length_drop]; omega))) only [↓zpre, zpost, cst1, ↓reduceIte, Nat.reduceEqDiff, Nat.reduceAdd, Nat.reduceLT, Nat.reduceLeDiff, Nat.reduceMul, Nat.reduceSub, Int.reduceToNat, Int.reduceAdd, Int.reduceSub, Int.reduceMul, Int.reduceNeg, Int.reduceLE, Int.reduceLT, Int.reduceEq, Int.reduceBEq, Int.reduceBNe, Nat.reduceBEq, Nat.reduceBNe, aBin, aInt, aStr, aUn, aConv, aNil, aFldAddr, aFld, aIdxAddr, aIdx, aBui, aLoad, aStore, aLits, aLit, aMake, aBytes, aApp, srcOf, aSlice, aBound, modeCut, apart, aSet, aFill, aval, aGd, ACall, AV.wk, AV.wk2, AV.wk1, AV.cells, AV.solid, AV.ro, AV.ro1, ← List.map_take, ← List.map_drop, reduceCtorEq, tf0, tf1, tf2, tf3, tf4, tf5, tf6, tf7, tf8])
  refine call_pure (leaves_c s) (by rfl) (by rfl) (by rfl) ?_
  cases hs : leavesB s
  · (try simp only [AWs_eq, ARgs_eq, AOps_eq, iteP_true, iteP_false]); (try simp -implicitDefEqProofs (disch := (first | omega | (simp only [List.length_append, List.length_cons, List.length_map, List.length_nil, List.length_take, List.length_drop]; omega))) only [↓zpre, zpost, cst1, ↓reduceIte, Nat.reduceEqDiff, Nat.reduceAdd, Nat.reduceLT, Nat.reduceLeDiff, Nat.reduceMul, Nat.reduceSub, Int.reduceToNat, Int.reduceAdd, Int.reduceSub, Int.reduceMul, Int.reduceNeg, Int.reduceLE, Int.reduceLT, Int.reduceEq, Int.reduceBEq, Int.reduceBNe, Nat.reduceBEq, Nat.reduceBNe, aBin, aInt, aStr, aUn, aConv, aNil, aFldAddr, aFld, aIdxAddr, aIdx, aBui, aLoad, aStore, aLits, aLit, aMake, aBytes, aApp, srcOf, aSlice, aBound, modeCut, apart, aSet, aFill, aval, aGd, ACall, AV.wk, AV.wk2, AV.wk1, AV.cells, AV.solid, AV.ro, AV.ro1, ← List.map_take, ← List.map_drop, reduceCtorEq, tf0, tf1, tf2, tf3, tf4, tf5, tf6, tf7, tf8])
    exact ends_ret0 (by rfl) (by rfl) (by rfl)
  rw [if_pos rfl]
  have hlen : (s.map leaf).length ≤ 40 := by rw [List.length_map]; exact (leavesB_of hs).1
  have hd := leaf_dig s
  clear hs
  generalize s.map leaf = l at *
  have hx : ∀ x ∈ l, x.length ≤ 1000000 := fun x hx => by rw [hd x hx]; omega
  by_cases g0 : i < 0
  · (try simp only [AWs_eq, ARgs_eq, AOps_eq, iteP_true, iteP_false]); (try simp -implicitDefEqProofs (disch := (first | omega | (simp only [List.length_append, List.length_cons, List.length_map, List.length_nil, List.length_take, List.length_drop]; omega))) only [↓zpre, zpost, cst1, ↓reduceIte, Nat.reduceEqDiff, Nat.reduceAdd, Nat.reduceLT, Nat.reduceLeDiff, Nat.reduceMul, Nat.reduceSub, Int.reduceToNat, Int.reduceAdd, Int.reduceSub, Int.reduceMul, Int.reduceNeg, Int.reduceLE, Int.reduceLT, Int.reduceEq, Int.reduceBEq, Int.reduceBNe, Nat.reduceBEq, Nat.reduceBNe, aBin, aInt, aStr, aUn, aConv, aNil, aFldAddr, aFld, aIdxAddr, aIdx, aBui, aLoad, aStore, aLits, aLit, aMake, aBytes, aApp, srcOf, aSlice, aBound, modeCut, apart, aSet, aFill, aval, aGd, ACall, AV.wk, AV.wk2, AV.wk1, AV.cells, AV.solid, AV.ro, AV.ro1, ← List.map_take, ← List.map_drop, reduceCtorEq, tf0, tf1, tf2, tf3, tf4, tf5, tf6, tf7, tf8])
    exact ends_ret0 (by rfl) (by rfl) (by rfl)
  obtain ⟨i, rfl⟩ := Int.eq_ofNat_of_zero_le (by omega : 0 ≤ i)
  by_cases g1 : l.length ≤ i
  · (try simp only [AWs_eq, ARgs_eq, AOps_eq, iteP_true, iteP_false]); (try simp -implicitDefEqProofs (disch := (first | omega | (simp only [List.length_append, List.length_cons, List.length_map, List.length_nil, List.length_take, List.length_drop]; omega))) only [↓zpre, zpost, cst1, ↓reduceIte, Nat.reduceEqDiff, Nat.reduceAdd, Nat.reduceLT, Nat.reduceLeDiff, Nat.reduceMul, Nat.reduceSub, Int.reduceToNat, Int.reduceAdd, Int.reduceSub, Int.reduceMul, Int.reduceNeg, Int.reduceLE, Int.reduceLT, Int.reduceEq, Int.reduceBEq, Int.reduceBNe, Nat.reduceBEq, Nat.reduceBNe, aBin, aInt, aStr, aUn, aConv, aNil, aFldAddr, aFld, aIdxAddr, aIdx, aBui, aLoad, aStore, aLits, aLit, aMake, aBytes, aApp, srcOf, aSlice, aBound, modeCut, apart, aSet, aFill, aval, aGd, ACall, AV.wk, AV.wk2, AV.wk1, AV.cells, AV.solid, AV.ro, AV.ro1, ← List.map_take, ← List.map_drop, reduceCtorEq, tf0, tf1, tf2, tf3, tf4, tf5, tf6, tf7, tf8])
    exact ends_ret0 (by rfl) (by rfl) (by rfl)
  by_cases g2 : m < 0
  · (try simp only [AWs_eq, ARgs_eq, AOps_eq, iteP_true, iteP_false]); (try simp -implicitDefEqProofs (disch := (first | omega | (simp only [List.length_append, List.length_cons, List.length_map, List.length_nil, List.length_take, List.length_drop]; omega))) only [↓zpre, zpost, cst1, ↓reduceIte, Nat.reduceEqDiff, Nat.reduceAdd, Nat.reduceLT, Nat.reduceLeDiff, Nat.reduceMul, Nat.reduceSub, Int.reduceToNat, Int.reduceAdd, Int.reduceSub, Int.reduceMul, Int.reduceNeg, Int.reduceLE, Int.reduceLT, Int.reduceEq, Int.reduceBEq, Int.reduceBNe, Nat.reduceBEq, Nat.reduceBNe, aBin, aInt, aStr, aUn, aConv, aNil, aFldAddr, aFld, aIdxAddr, aIdx, aBui, aLoad, aStore, aLits, aLit, aMake, aBytes, aApp, srcOf, aSlice, aBound, modeCut, apart, aSet, aFill, aval, aGd, ACall, AV.wk, AV.wk2, AV.wk1, AV.cells, AV.solid, AV.ro, AV.ro1, ← List.map_take, ← List.map_drop, reduceCtorEq, tf0, tf1, tf2, tf3, tf4, tf5, tf6, tf7, tf8])
    exact ends_ret0 (by rfl) (by rfl) (by rfl)
  obtain ⟨m, rfl⟩ := Int.eq_ofNat_of_zero_le (by omega : 0 ≤ m)
  by_cases g3 : l.length < m
  · (try simp only [AWs_eq, ARgs_eq, AOps_eq, iteP_true, iteP_false]); (try simp -implicitDefEqProofs (disch := (first | omega | (simp only [List.length_append, List.length_cons, List.length_map, List.length_nil, List.length_take, List.length_drop]; omega))) only [↓zpre, zpost, cst1, ↓reduceIte, Nat.reduceEqDiff, Nat.reduceAdd, Nat.reduceLT, Nat.reduceLeDiff, Nat.reduceMul, Nat.reduceSub, Int.reduceToNat, Int.reduceAdd, Int.reduceSub, Int.reduceMul, Int.reduceNeg, Int.reduceLE, Int.reduceLT, Int.reduceEq, Int.reduceBEq, Int.reduceBNe, Nat.reduceBEq, Nat.reduceBNe, aBin, aInt, aStr, aUn, aConv, aNil, aFldAddr, aFld, aIdxAddr, aIdx, aBui, aLoad, aStore, aLits, aLit, aMake, aBytes, aApp, srcOf, aSlice, aBound, modeCut, apart, aSet, aFill, aval, aGd, ACall, AV.wk, AV.wk2, AV.wk1, AV.cells, AV.solid, AV.ro, AV.ro1, ← List.map_take, ← List.map_drop, reduceCtorEq, tf0, tf1, tf2, tf3, tf4, tf5, tf6, tf7, tf8])
    exact ends_ret0 (by rfl) (by rfl) (by rfl)
  have ga : l[i]? = some l[i] := List.getElem?_eq_getElem (by omega)
  have hxi := hx l[i] (List.getElem_mem _)
  have hpl := path_len l.length l i (Nat.le_refl _)
  have hpd := path_dig l.length l i (Nat.le_refl _) hd
  have hpx : ∀ x ∈ path l i, x.length ≤ 1000000 := fun x hx => by rw [hpd x hx]; omega
  have hro := root_c l (by omega) hx
  have hro2 := root_c (l.take m) (by simp; omega) (fun x hx' => hx x (List.mem_of_mem_take hx'))
  have hpc := path_c l i (by omega) (by omega) hx
  have hlc := link_c l m (by omega) (by omega) hx
  have hi1 := includes_b (path l i) i l.length l[i] (root l) (by omega) (by omega) (by omega) (by omega) hxi hpx
  have hi2 := includes_b (path l i) (-1) l.length l[i] (root l) (by omega) (by omega) (by omega) (by omega) hxi hpx
  have hi3 := includes_b (path l i) l.length l.length l[i] (root l) (by omega) (by omega) (by omega) (by omega) hxi hpx
  rw [incB_path (by omega) ga hd] at hi1
  rw [incB_lo] at hi2
  rw [incB_hi] at hi3
  have hll : (if m = 0 then [] else link l m true).length ≤ 40 := by
    split
    · simp
    · have := link_len l.length l m true (by omega) (by omega) (Nat.le_refl _); omega
  have hld : ∀ y ∈ (if m = 0 then [] else link l m true), y.length ≤ 1000000 := by
    split
    · simp
    · intro y hy; rw [link_dig l.length l m true (by omega) (by omega) (Nat.le_refl _) hd y hy]; omega
  have hex := extends_c (if m = 0 then [] else link l m true) m l.length (root (l.take m)) (root l) (by omega) (by omega) hld
  rw [extB_link (by omega) hd] at hex
  generalize (if m = 0 then [] else link l m true) = LK at *
  generalize path l i = PT at *
  generalize root l = R at *
  (try simp only [AWs_eq, ARgs_eq, AOps_eq, iteP_true, iteP_false]); (try simp -implicitDefEqProofs (disch := (first | omega | (simp only [List.length_append, List.length_cons, List.length_map, List.length_nil, List.length_take, List.length_drop]; omega))) only [↓zpre, zpost, cst1, ↓reduceIte, Nat.reduceEqDiff, Nat.reduceAdd, Nat.reduceLT, Nat.reduceLeDiff, Nat.reduceMul, Nat.reduceSub, Int.reduceToNat, Int.reduceAdd, Int.reduceSub, Int.reduceMul, Int.reduceNeg, Int.reduceLE, Int.reduceLT, Int.reduceEq, Int.reduceBEq, Int.reduceBNe, Nat.reduceBEq, Nat.reduceBNe, aBin, aInt, aStr, aUn, aConv, aNil, aFldAddr, aFld, aIdxAddr, aIdx, aBui, aLoad, aStore, aLits, aLit, aMake, aBytes, aApp, srcOf, aSlice, aBound, modeCut, apart, aSet, aFill, aval, aGd, ACall, AV.wk, AV.wk2, AV.wk1, AV.cells, AV.solid, AV.ro, AV.ro1, ← List.map_take, ← List.map_drop, reduceCtorEq, tf0, tf1, tf2, tf3, tf4, tf5, tf6, tf7, tf8])
  refine call_pure hro (by rfl) (by rfl) (by rfl) ?_
  (try simp only [AWs_eq, ARgs_eq, AOps_eq, iteP_true, iteP_false]); (try simp -implicitDefEqProofs (disch := (first | omega | (simp only [List.length_append, List.length_cons, List.length_map, List.length_nil, List.length_take, List.length_drop]; omega))) only [↓zpre, zpost, cst1, ↓reduceIte, Nat.reduceEqDiff, Nat.reduceAdd, Nat.reduceLT, Nat.reduceLeDiff, Nat.reduceMul, Nat.reduceSub, Int.reduceToNat, Int.reduceAdd, Int.reduceSub, Int.reduceMul, Int.reduceNeg, Int.reduceLE, Int.reduceLT, Int.reduceEq, Int.reduceBEq, Int.reduceBNe, Nat.reduceBEq, Nat.reduceBNe, aBin, aInt, aStr, aUn, aConv, aNil, aFldAddr, aFld, aIdxAddr, aIdx, aBui, aLoad, aStore, aLits, aLit, aMake, aBytes, aApp, srcOf, aSlice, aBound, modeCut, apart, aSet, aFill, aval, aGd, ACall, AV.wk, AV.wk2, AV.wk1, AV.cells, AV.solid, AV.ro, AV.ro1, ← List.map_take, ← List.map_drop, reduceCtorEq, tf0, tf1, tf2, tf3, tf4, tf5, tf6, tf7, tf8])
  refine call_pure hpc (by rfl) (by rfl) (by rfl) ?_
  (try simp only [AWs_eq, ARgs_eq, AOps_eq, iteP_true, iteP_false]); (try simp -implicitDefEqProofs (disch := (first | omega | (simp only [List.length_append, List.length_cons, List.length_map, List.length_nil, List.length_take, List.length_drop]; omega))) only [↓zpre, zpost, cst1, ↓reduceIte, Nat.reduceEqDiff, Nat.reduceAdd, Nat.reduceLT, Nat.reduceLeDiff, Nat.reduceMul, Nat.reduceSub, Int.reduceToNat, Int.reduceAdd, Int.reduceSub, Int.reduceMul, Int.reduceNeg, Int.reduceLE, Int.reduceLT, Int.reduceEq, Int.reduceBEq, Int.reduceBNe, Nat.reduceBEq, Nat.reduceBNe, aBin, aInt, aStr, aUn, aConv, aNil, aFldAddr, aFld, aIdxAddr, aIdx, aBui, aLoad, aStore, aLits, aLit, aMake, aBytes, aApp, srcOf, aSlice, aBound, modeCut, apart, aSet, aFill, aval, aGd, ACall, AV.wk, AV.wk2, AV.wk1, AV.cells, AV.solid, AV.ro, AV.ro1, ← List.map_take, ← List.map_drop, reduceCtorEq, tf0, tf1, tf2, tf3, tf4, tf5, tf6, tf7, tf8])
  refine call_pure hlc (by rfl) (by rfl) (by rfl) ?_
  (try simp only [AWs_eq, ARgs_eq, AOps_eq, iteP_true, iteP_false]); (try simp -implicitDefEqProofs (disch := (first | omega | (simp only [List.length_append, List.length_cons, List.length_map, List.length_nil, List.length_take, List.length_drop]; omega))) only [↓zpre, zpost, cst1, ↓reduceIte, Nat.reduceEqDiff, Nat.reduceAdd, Nat.reduceLT, Nat.reduceLeDiff, Nat.reduceMul, Nat.reduceSub, Int.reduceToNat, Int.reduceAdd, Int.reduceSub, Int.reduceMul, Int.reduceNeg, Int.reduceLE, Int.reduceLT, Int.reduceEq, Int.reduceBEq, Int.reduceBNe, Nat.reduceBEq, Nat.reduceBNe, aBin, aInt, aStr, aUn, aConv, aNil, aFldAddr, aFld, aIdxAddr, aIdx, aBui, aLoad, aStore, aLits, aLit, aMake, aBytes, aApp, srcOf, aSlice, aBound, modeCut, apart, aSet, aFill, aval, aGd, ACall, AV.wk, AV.wk2, AV.wk1, AV.cells, AV.solid, AV.ro, AV.ro1, ← List.map_take, ← List.map_drop, reduceCtorEq, tf0, tf1, tf2, tf3, tf4, tf5, tf6, tf7, tf8, ga])
  refine call_pure hi1 (by rfl) (by rfl) (by rfl) ?_
  (try simp only [AWs_eq, ARgs_eq, AOps_eq, iteP_true, iteP_false]); (try simp -implicitDefEqProofs (disch := (first | omega | (simp only [List.length_append, List.length_cons, List.length_map, List.length_nil, List.length_take, List.length_drop]; omega))) only [↓zpre, zpost, cst1, ↓reduceIte, Nat.reduceEqDiff, Nat.reduceAdd, Nat.reduceLT, Nat.reduceLeDiff, Nat.reduceMul, Nat.reduceSub, Int.reduceToNat, Int.reduceAdd, Int.reduceSub, Int.reduceMul, Int.reduceNeg, Int.reduceLE, Int.reduceLT, Int.reduceEq, Int.reduceBEq, Int.reduceBNe, Nat.reduceBEq, Nat.reduceBNe, aBin, aInt, aStr, aUn, aConv, aNil, aFldAddr, aFld, aIdxAddr, aIdx, aBui, aLoad, aStore, aLits, aLit, aMake, aBytes, aApp, srcOf, aSlice, aBound, modeCut, apart, aSet, aFill, aval, aGd, ACall, AV.wk, AV.wk2, AV.wk1, AV.cells, AV.solid, AV.ro, AV.ro1, ← List.map_take, ← List.map_drop, reduceCtorEq, tf0, tf1, tf2, tf3, tf4, tf5, tf6, tf7, tf8, ga])
  refine call_pure hi2 (by rfl) (by rfl) (by rfl) ?_
  (try simp only [AWs_eq, ARgs_eq, AOps_eq, iteP_true, iteP_false]); (try simp -implicitDefEqProofs (disch := (first | omega | (simp only [List.length_append, List.length_cons, List.length_map, List.length_nil, List.length_take, List.length_drop]; omega))) only [↓zpre, zpost, cst1, ↓reduceIte, Nat.reduceEqDiff, Nat.reduceAdd, Nat.reduceLT, Nat.reduceLeDiff, Nat.reduceMul, Nat.reduceSub, Int.reduceToNat, Int.reduceAdd, Int.reduceSub, Int.reduceMul, Int.reduceNeg, Int.reduceLE, Int.reduceLT, Int.reduceEq, Int.reduceBEq, Int.reduceBNe, Nat.reduceBEq, Nat.reduceBNe, aBin, aInt, aStr, aUn, aConv, aNil, aFldAddr, aFld, aIdxAddr, aIdx, aBui, aLoad, aStore, aLits, aLit, aMake, aBytes, aApp, srcOf, aSlice, aBound, modeCut, apart, aSet, aFill, aval, aGd, ACall, AV.wk, AV.wk2, AV.wk1, AV.cells, AV.solid, AV.ro, AV.ro1, ← List.map_take, ← List.map_drop, reduceCtorEq, tf0, tf1, tf2, tf3, tf4, tf5, tf6, tf7, tf8, ga])
  refine call_pure hi3 (by rfl) (by rfl) (by rfl) ?_
  (try simp only [AWs_eq, ARgs_eq, AOps_eq, iteP_true, iteP_false]); (try simp -implicitDefEqProofs (disch := (first | omega | (simp only [List.length_append, List.length_cons, List.length_map, List.length_nil, List.length_take, List.length_drop]; omega))) only [↓zpre, zpost, cst1, ↓reduceIte, Nat.reduceEqDiff, Nat.reduceAdd, Nat.reduceLT, Nat.reduceLeDiff, Nat.reduceMul, Nat.reduceSub, Int.reduceToNat, Int.reduceAdd, Int.reduceSub, Int.reduceMul, Int.reduceNeg, Int.reduceLE, Int.reduceLT, Int.reduceEq, Int.reduceBEq, Int.reduceBNe, Nat.reduceBEq, Nat.reduceBNe, aBin, aInt, aStr, aUn, aConv, aNil, aFldAddr, aFld, aIdxAddr, aIdx, aBui, aLoad, aStore, aLits, aLit, aMake, aBytes, aApp, srcOf, aSlice, aBound, modeCut, apart, aSet, aFill, aval, aGd, ACall, AV.wk, AV.wk2, AV.wk1, AV.cells, AV.solid, AV.ro, AV.ro1, ← List.map_take, ← List.map_drop, reduceCtorEq, tf0, tf1, tf2, tf3, tf4, tf5, tf6, tf7, tf8, ga])
  refine call_pure hro2 (by rfl) (by rfl) (by rfl) ?_
  (try simp only [AWs_eq, ARgs_eq, AOps_eq, iteP_true, iteP_false]); (try simp -implicitDefEqProofs (disch := (first | omega | (simp only [List.length_append, List.length_cons, List.length_map, List.length_nil, List.length_take, List.length_drop]; omega))) only [↓zpre, zpost, cst1, ↓reduceIte, Nat.reduceEqDiff, Nat.reduceAdd, Nat.reduceLT, Nat.reduceLeDiff, Nat.reduceMul, Nat.reduceSub, Int.reduceToNat, Int.reduceAdd, Int.reduceSub, Int.reduceMul, Int.reduceNeg, Int.reduceLE, Int.reduceLT, Int.reduceEq, Int.reduceBEq, Int.reduceBNe, Nat.reduceBEq, Nat.reduceBNe, aBin, aInt, aStr, aUn, aConv, aNil, aFldAddr, aFld, aIdxAddr, aIdx, aBui, aLoad, aStore, aLits, aLit, aMake, aBytes, aApp, srcOf, aSlice, aBound, modeCut, apart, aSet, aFill, aval, aGd, ACall, AV.wk, AV.wk2, AV.wk1, AV.cells, AV.solid, AV.ro, AV.ro1, ← List.map_take, ← List.map_drop, reduceCtorEq, tf0, tf1, tf2, tf3, tf4, tf5, tf6, tf7, tf8, ga])
  refine call_pure hex (by rfl) (by rfl) (by rfl) ?_
  (try simp only [AWs_eq, ARgs_eq, AOps_eq, iteP_true, iteP_false]); (try simp -implicitDefEqProofs (disch := (first | omega | (simp only [List.length_append, List.length_cons, List.length_map, List.length_nil, List.length_take, List.length_drop]; omega))) only [↓zpre, zpost, cst1, ↓reduceIte, Nat.reduceEqDiff, Nat.reduceAdd, Nat.reduceLT, Nat.reduceLeDiff, Nat.reduceMul, Nat.reduceSub, Int.reduceToNat, Int.reduceAdd, Int.reduceSub, Int.reduceMul, Int.reduceNeg, Int.reduceLE, Int.reduceLT, Int.reduceEq, Int.reduceBEq, Int.reduceBNe, Nat.reduceBEq, Nat.reduceBNe, aBin, aInt, aStr, aUn, aConv, aNil, aFldAddr, aFld, aIdxAddr, aIdx, aBui, aLoad, aStore, aLits, aLit, aMake, aBytes, aApp, srcOf, aSlice, aBound, modeCut, apart, aSet, aFill, aval, aGd, ACall, AV.wk, AV.wk2, AV.wk1, AV.cells, AV.solid, AV.ro, AV.ro1, ← List.map_take, ← List.map_drop, reduceCtorEq, tf0, tf1, tf2, tf3, tf4, tf5, tf6, tf7, tf8, ga])
  exact ends_ret0 (by rfl) (by rfl) (by rfl)
end Go.Proofs.YthnolonphjfoeaaDoor.Pe
