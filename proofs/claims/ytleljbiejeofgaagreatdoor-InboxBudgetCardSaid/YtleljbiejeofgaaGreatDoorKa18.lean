/- Several texts in one, without what this claim does not use (tools/shake.py). -/
import Derived.Test.YtleljbiejeofgaaGreatDoorKa17
set_option linter.unusedSectionVars false
set_option linter.unusedVariables false
set_option linter.unusedSimpArgs false
section
namespace Go.Proofs.YtleljbiejeofgaaGreatDoor.Pe
open Go Go.RowKit Co Sg Ac It Sl Wl
set_option maxRecDepth 100000
set_option maxHeartbeats 8000000
theorem xbrow_sub (b : Bx) {x1 x2 : Int} (T : Store) (j : Nat) {S : Store} (hS : S = XB b ++ T) (hj : 8 ≤ j) (h : S[j]? = some (.row [.it .i64 0, .it .i64 x1, .it .i64 x2] 3 1)) : SubOk [0, 1, 2, 3, 4, 5, 6, 7, j] S (XB b ++ [.row [.it .i64 0, .it .i64 x1, .it .i64 x2] 3 1]) := by
 subst hS
 have hn : [0, 1, 2, 3, 4, 5, 6, 7, j].Nodup := by
  simp only [List.nodup_cons, List.mem_cons, List.not_mem_nil, or_false, not_or, List.nodup_nil, and_true, not_false_eq_true]
  omega
 refine ⟨hn, rfl, fun i o hi => ?_⟩
 match i, hi with
 | 0, hi => cases hi; exact ⟨rfl, rfl⟩
 | 1, hi => cases hi; exact ⟨rfl, rfl⟩
 | 2, hi => cases hi; exact ⟨rfl, rfl⟩
 | 3, hi => cases hi; exact ⟨rfl, rfl⟩
 | 4, hi => cases hi; exact ⟨rfl, rfl⟩
 | 5, hi => cases hi; exact ⟨pfV_ok _ _, congrArg some (pfV_ren _ _).symm⟩
 | 6, hi => cases hi; exact ⟨rfl, rfl⟩
 | 7, hi => cases hi; exact ⟨rfl, rfl⟩
 | 8, hi => cases hi; exact ⟨rfl, h⟩
theorem ibudget_c (who : List Int) (rounds : List Bool) (hrw : ∀ x ∈ who, -9223372036854775808 ≤ x ∧ x ≤ 9223372036854775807) :
  AC Tryz.prog 3 [intsV who, boolsV rounds] [] (.bo true) [] := by
 obtain ⟨d, hcd, kopen⟩ := lopen_c
 have hb0 := bx0_bi hcd
 have ks := small47_c
 have hszr := bools_sz rounds
 have hszw : allSz 1 (who.map (AV.it .i64)) = true := allSz_map 1 _ (fun _ => rfl) _
 by_cases h1 : who.length > 60
 ·have h1' : (who.length : Int) > 60 := by omega
  generalize bx0 d = b0 at *
  refine AC.enter2 [6, 9, 12, 11] [] Tryz.func3 rfl (by decide) (by decide) (Nat.le_of_ble_eq_true rfl) (by kernel_rfl) ?_; refine zev ?_
  refine run ?_
  refine cp ks ?_
  refine run ?_
  refine call_mk d_new ?_
  refine run ?_
  refine call_mk kopen ?_
  refine runf @h1' ?_
  exact er0
 have h1' : ¬ (who.length : Int) > 60 := by omega
 by_cases h2 : rounds.length > 60
 ·have h2' : (rounds.length : Int) > 60 := by omega
  generalize bx0 d = b0 at *
  refine AC.enter2 [6, 9, 12, 11] [] Tryz.func3 rfl (by decide) (by decide) (Nat.le_of_ble_eq_true rfl) (by kernel_rfl) ?_; refine zev ?_
  refine run ?_
  refine cp ks ?_
  refine run ?_
  refine call_mk d_new ?_
  refine run ?_
  refine call_mk kopen ?_
  refine runf (an @h1' @h2') ?_
  exact er0
 have h2' : ¬ (rounds.length : Int) > 60 := by omega
 have hel : (ents [1, 2, 3]).length = 3 := ents_len _
 have hz3 : flat [AV.it .i64 0, .it .i64 0, .it .i64 0] = [AV.it .i64 0, .it .i64 0, .it .i64 0] := rfl
 have ke := entries47_c [1, 2, 3] (by decide) (by decide)
 have hm10 : MirW ((1 : Nat) : Int) (ents [1, 2, 3]) (bx0 d).m1 0 0 := mirW_new _ _
 have hm20 : MirW ((2 : Nat) : Int) (ents [1, 2, 3]) (bx0 d).m2 0 0 := mirW_new _ _
 have hp0 : (bx0 d).pf = none := rfl
 have hc10 : (bx0 d).c1 = mn 0 := rfl
 have hc20 : (bx0 d).c2 = mn 0 := rfl
 generalize bx0 d = b0 at *
 refine AC.enter4 [6, 9, 12, 11] [] [(6, ([], [], [35])), (12, ([], [], [54]))] [] Tryz.func3 rfl (by decide) (by decide) (Nat.le_of_ble_eq_true rfl) (by kernel_rfl) ?_; simp only [eraseC, eraseG, eraseO, List.map_cons, List.map_nil, List.map_toArray, List.getElem?_toArray, List.getElem?_cons_zero, List.getElem?_cons_succ, Option.bind_some, Option.bind_none, List.append_eq, List.cons_append, List.nil_append, eraseC4, eraseC3, hasSp, ordOf, List.isEmpty_nil, List.isEmpty_cons, Bool.and_true, Bool.and_false, Bool.and_self, Bool.false_and, Bool.true_and, List.lookup, Nat.reduceBEq, beq_self_eq_true, List.head?_cons, List.head?_nil, Option.some_beq_some, Option.none_beq_some, Option.isSome_some, Option.isSome_none, Bool.or_true, Bool.true_or, Bool.or_false, Bool.not_true, Bool.not_false, Bool.false_eq_true, if_true, if_false, ↓reduceIte, List.size_toArray, List.length_cons, List.length_nil, List.range_succ_eq_map, List.range_zero, Nat.reduceAdd, List.filterMap_cons, List.filterMap_nil]
 refine run4 ?_
 refine cp ks ?_
 refine run4 ?_
 refine call_mk d_new ?_
 refine run4 ?_
 refine call_mk kopen ?_
 refine runf4 (an @h1' @h2') ?_
 refine cp ke ?_
 refine run4 ?_
 refine wk0 ?_; refine run4 ?_
 refine p4 (by (conv => lhs; simp -implicitDefEqProofs (maxSteps := 4000000) (disch := (first | omega | (simp only [List.length_append, List.length_cons, List.length_map, List.length_nil, List.length_take, List.length_drop]; omega))) only [AppF_append, AppF_lit, aLitW, aAppW, ↓zpre, zpost, cst1, ↓reduceIte, Nat.reduceEqDiff, Nat.reduceAdd, Nat.reduceLT, Nat.reduceLeDiff, Nat.reduceMul, Nat.reduceSub, Int.reduceToNat, Int.reduceAdd, Int.reduceSub, Int.reduceMul, Int.reduceNeg, Int.reduceLE, Int.reduceLT, Int.reduceEq, Int.reduceBEq, Int.reduceBNe, Nat.reduceBEq, Nat.reduceBNe, aBin, aEq, aEqF, aNilEq, aInt, aStr, aUn, aConv, aNil, aFldAddr, aFld, aIdxAddr, aIdx, aBui, aLoad, aStore, aLits, aLit, aMake, aMakeW, aMapSet, aLook, kfind, keq, kok, lookOut, aMk, aRange, aNext, aBytes, aApp, srcOf, aSlice, aBound, modeCut, apart, aFill, aval, aGd, zobj, zfr, ACall, AV.wk, AV.wk2, AV.wk1, AV.cells, AV.solid, AV.ro, AV.ro1, ← List.map_take, ← List.map_drop, reduceCtorEq, Option.isNone_some, Option.isSome_none, tf0, tf1, tf2, tf3, tf4, tf5, tf6, tf7, tf8, tf9, tf10, tf11, tf12, tf13, tf14, tf15, tf16, tf17, tf20, tf21, tf23, tf24, tf25, tf26, tf27, tf28, tf31, hel, hz3]); try rfl) ?_ (hk' := fun _ h => nomatch h)
 repeat (first | refine k4 ?_ (hk := fun _ h => nomatch h) | refine k4r ?_ | (refine a4r ?_; refine runf4 (an @hel @hz3) ?_) | (refine a4 ?_; refine runf4 (an @hel @hz3) ?_)); try refine runf4 (an @hel @hz3) ?_
 refine loop_mk (fun m e S => e 0 = intsV who ∧ e 1 = boolsV rounds ∧ e 5 = .bo true ∧ e 6 = .ptr 3 0 ∧ e 7 = entriesV (ents [1, 2, 3]) ∧ e 8 = .wr 8 3 none ∧ ∃ (i n1 n2 : Nat) (x1 x2 : Int) (b : Bx), e 9 = .it .i64 (i : Int) ∧ S = XB b ++ [.row [.it .i64 0, .it .i64 x1, .it .i64 x2] 3 1] ∧ BI b (i * 4683) ∧ b.pf = none ∧ MirW ((1 : Nat) : Int) (ents [1, 2, 3]) b.m1 n1 i ∧ MirW ((2 : Nat) : Int) (ents [1, 2, 3]) b.m2 n2 i ∧ 0 ≤ x1 ∧ x1 ≤ i ∧ 0 ≤ x2 ∧ x2 ≤ i ∧ b.c1 = mn x1 ∧ b.c2 = mn x2 ∧ i ≤ who.length ∧ m = who.length - i) who.length ⟨zsl, zsl, zsl, zsl, zsl, zsl, 0, 0, 0, 0, 0, b0, zsl, rfl, hb0, hp0, hm10, hm20, by omega, by omega, by omega, by omega, hc10, hc20, by omega, rfl⟩ ?_
 rintro m e S ⟨s0, s1, s5, s6, s7, s8, i, n1, n2, x1, x2, b, s9, rfl, hb, hp, hm1, hm2, g1, g2, g3, g4, hc1, hc2, hi, rfl⟩
 by_cases hlt : i < who.length
 ·have hg : who[i]? = some who[i] := List.getElem?_eq_getElem hlt
  have hw := hrw who[i] (List.getElem_mem hlt)
  generalize who[i] = w at *
  have hlt' : (i : Int) < (who.length : Int) := by omega
  have q2 := pick_in (n := w) (m := 2) (by decide)
  have q3 := pick_in (n := w) (m := 3) (by decide)
  have kp2 := pick47_c w 2 hw (by decide)
  have kp3 := pick47_c w 3 hw (by decide)
  have kp5 := pick47_c w 5 hw (by decide)
  generalize pickN47 w 2 = p2 at *
  generalize pickN47 w 3 = p3 at *
  generalize pickN47 w 5 = p5 at *
  obtain ⟨t, ht⟩ : ∃ t : Nat, (t : Int) = 1 + p3 := ⟨(1 + p3).toNat, by omega⟩
  have ht1 : 1 ≤ t := by omega
  have ht3 : t ≤ 3 := by omega
  have w1 : IntKind.i64.wrap (1 + p3) = (t : Int) := by rw [wrap64 (by omega) (by omega)]; exact ht.symm
  have w4 : IntKind.i64.wrap ((i : Int) + 1) = ((i + 1 : Nat) : Int) := by rw [wrap64 (by omega) (by omega)]; omega
  have kr := iround_c b
  have kb1 := batch47_c 1 (.inl rfl) (ents [1, 2, 3]) (by omega) (ents_iz (by decide)) 0 t (by omega) (by omega)
  have kb2 := batch47_c 2 (.inr rfl) (ents [1, 2, 3]) (by omega) (ents_iz (by decide)) 0 t (by omega) (by omega)
  have hh1 := headTo_hf (s := 1) (.inl rfl) (l := [1, 2, 3]) (by decide) ht1 ht3
  have hh2 := headTo_hf (s := 2) (.inr rfl) (l := [1, 2, 3]) (by decide) ht1 ht3
  have hh1' := hh1.sig
  have hh2' := hh2.sig
  generalize headTo (iKey 1) ((1 : Nat) : Int) (ents [1, 2, 3]) t = hd1 at *
  generalize headTo (iKey 2) ((2 : Nat) : Int) (ents [1, 2, 3]) t = hd2 at *
  clear kopen ke ks
  by_cases hrd : i < rounds.length ∧ rounds[i]? = some true
  ·obtain ⟨hrl, hre⟩ := hrd
   have hrl' : (i : Int) < (rounds.length : Int) := by omega
   have hp2 : p2 = 0 ∨ p2 = 1 := by omega
   rcases hp2 with rfl | rfl
   ·by_cases h5 : p5 = 4
    ·have hsg : (p5 == 4) = true := beq_iff_eq.2 h5
     obtain ⟨c, b', kt, hb', hp', ⟨_, hm1'⟩, ⟨_, hm2'⟩, hcs1, hcs2, hcs⟩ := bud_step1 (step_round hb) (by omega) hp hm1 hm2 (by omega) (x := 0) (by omega) rfl ht1 ht3 hh1'
     refine runf4 (an @s0 (an @s1 (an @s5 (an @s6 (an @s7 (an @s8 (an @s9 (an @hre (an @hrl' (an @hg (an @hszw (an @hszr @hlt')))))))))))) ?_
     refine runf4 (an @s0 (an @s1 (an @s5 (an @s6 (an @s7 (an @s8 @s9)))))) ?_
     refine call_mk (AC.bx kr _) ?_
     generalize hbr : ({ b with c1 := 0, c2 := 0 } : Bx) = br at *
     refine runf4 (an @s0 (an @s1 (an @s5 (an @s6 (an @s7 (an @s8 @s9)))))) ?_
     refine wk0 ?_; refine run4 ?_
     refine p4 (by (conv => lhs; simp -implicitDefEqProofs (maxSteps := 4000000) (disch := (first | omega | (simp only [List.length_append, List.length_cons, List.length_map, List.length_nil, List.length_take, List.length_drop]; omega))) only [AppF_append, AppF_lit, aLitW, aAppW, ↓zpre, zpost, cst1, ↓reduceIte, Nat.reduceEqDiff, Nat.reduceAdd, Nat.reduceLT, Nat.reduceLeDiff, Nat.reduceMul, Nat.reduceSub, Int.reduceToNat, Int.reduceAdd, Int.reduceSub, Int.reduceMul, Int.reduceNeg, Int.reduceLE, Int.reduceLT, Int.reduceEq, Int.reduceBEq, Int.reduceBNe, Nat.reduceBEq, Nat.reduceBNe, aBin, aEq, aEqF, aNilEq, aInt, aStr, aUn, aConv, aNil, aFldAddr, aFld, aIdxAddr, aIdx, aBui, aLoad, aStore, aLits, aLit, aMake, aMakeW, aMapSet, aLook, kfind, keq, kok, lookOut, aMk, aRange, aNext, aBytes, aApp, srcOf, aSlice, aBound, modeCut, apart, aFill, aval, aGd, zobj, zfr, ACall, AV.wk, AV.wk2, AV.wk1, AV.cells, AV.solid, AV.ro, AV.ro1, ← List.map_take, ← List.map_drop, reduceCtorEq, Option.isNone_some, Option.isSome_none, tf0, tf1, tf2, tf3, tf4, tf5, tf6, tf7, tf8, tf9, tf10, tf11, tf12, tf13, tf14, tf15, tf16, tf17, tf20, tf21, tf23, tf24, tf25, tf26, tf27, tf28, tf31, hel, hz3]); try rfl) ?_ (hk' := fun _ h => nomatch h)
     repeat (first | refine k4 ?_ (hk := fun _ h => nomatch h) | refine k4r ?_ | (refine a4r ?_; refine runf4 (an @hel @hz3) ?_) | (refine a4 ?_; refine runf4 (an @hel @hz3) ?_)); try refine runf4 (an @hel @hz3) ?_
     refine runf4 (an @s0 (an @s1 (an @s5 (an @s6 (an @s7 (an @s8 (an @s9 (an @hg @hszw)))))))) ?_
     refine runf4 (an @s0 (an @s1 (an @s5 (an @s6 (an @s7 (an @s8 (an @s9 (an @hg (an @hszw @hz3))))))))) ?_
     refine cp kp2 ?_
     refine runf4 (an @s0 (an @s1 (an @s5 (an @s6 (an @s7 (an @s8 (an @s9 (an @hg @hszw)))))))) ?_
     refine cp kp3 ?_
     refine runf4 (an @s0 (an @s1 (an @s5 (an @s6 (an @s7 (an @s8 (an @s9 (an @hg (an @hszw @w1))))))))) ?_
     refine cp kb1 ?_
     refine runf4 (an @s0 (an @s1 (an @s5 (an @s6 (an @s7 (an @s8 (an @s9 (an @hg @hszw)))))))) ?_
     refine cp kp5 ?_
     refine runf4 (an @s0 (an @s1 (an @s5 (an @s6 (an @s7 (an @s8 (an @s9 @hsg))))))) ?_
     refine runf4 (an @s0 (an @s1 (an @s5 (an @s6 (an @s7 (an @s8 (an @s9 @hsg))))))) ?_
     refine call_mk (AC.bx kt _) ?_
     rcases hcs with ⟨rfl, hx⟩ | ⟨hne, hx⟩
     ·have hge : (0 : Int) ≥ 16 := by omega
      have wx : IntKind.i64.wrap ((0 : Int) + 1) = 0 + 1 := wrap64 (by omega) (by omega)
      exact absurd hx (by omega)
     ·have hge : ¬ (0 : Int) ≥ 16 := by omega
      have hc7 : (c == 7) = false := beq_eq_false_iff_ne.2 hne
      have wx : IntKind.i64.wrap ((0 : Int) + 1) = 0 + 1 := wrap64 (by omega) (by omega)
      refine runf4 (an @s0 (an @s1 (an @s5 (an @s6 (an @s7 (an @s8 (an @s9 (an @hge (an @wx (an @w4 (an @hz3 @hc7))))))))))) ?_
      refine runf4 (an @s0 (an @s1 (an @s5 (an @s6 (an @s7 (an @s8 (an @s9 (an @hge (an @wx (an @w4 (an @hz3 @hc7))))))))))) ?_
      refine runf4 (an @s0 (an @s1 (an @s5 (an @s6 (an @s7 (an @s8 (an @s9 (an @hge (an @wx (an @w4 (an @hz3 @hc7))))))))))) ?_
      exact round_mk' (who.length - (i + 1)) _ (XB b' ++ [.row [.it .i64 0, .it .i64 (0 + 1), .it .i64 (0)] 3 1]) (Weak.sub 0 [0, 1, 2, 3, 4, 5, 6, 7, 9] ((((((((KeepR.nil _ _).cons 0 (intsV who) (intsV who) rfl rfl zsl).cons 1 (boolsV rounds) (boolsV rounds) rfl rfl zsl).cons 5 (.bo true) (.bo true) rfl rfl zsl).cons 6 (.ptr 3 0) (.ptr 3 0) rfl rfl zsl).cons 7 (entriesV (ents [1, 2, 3])) (entriesV (ents [1, 2, 3])) rfl rfl zsl).cons 8 (.wr 8 3 none) (.wr 9 3 none) rfl rfl zsl).cons 9 (.it .i64 ((i + 1 : Nat) : Int)) (.it .i64 ((i + 1 : Nat) : Int)) rfl rfl zsl) (xbrow_sub b' _ 9 rfl (by decide) rfl) rfl) (by omega)
       ⟨rfl, rfl, rfl, rfl, rfl, rfl, i + 1, _, _, 0 + 1, 0, b', rfl, rfl, by rw [Nat.succ_mul]; exact hb', hp', hm1', hm2', by omega, by omega, by omega, by omega, hcs1, (hcs2.trans (by rw [← hbr]; rfl)), hlt, rfl⟩
    ·have hsg : (p5 == 4) = false := beq_eq_false_iff_ne.2 h5
     obtain ⟨c, b', kt, hb', hp', ⟨_, hm1'⟩, ⟨_, hm2'⟩, hcs1, hcs2, hcs⟩ := bud_step1 (step_round hb) (by omega) hp hm1 hm2 (by omega) (x := 0) (by omega) rfl ht1 ht3 hh1
     refine runf4 (an @s0 (an @s1 (an @s5 (an @s6 (an @s7 (an @s8 (an @s9 (an @hre (an @hrl' (an @hg (an @hszw (an @hszr @hlt')))))))))))) ?_
     refine runf4 (an @s0 (an @s1 (an @s5 (an @s6 (an @s7 (an @s8 @s9)))))) ?_
     refine call_mk (AC.bx kr _) ?_
     generalize hbr : ({ b with c1 := 0, c2 := 0 } : Bx) = br at *
     refine runf4 (an @s0 (an @s1 (an @s5 (an @s6 (an @s7 (an @s8 @s9)))))) ?_
     refine wk0 ?_; refine run4 ?_
     refine p4 (by (conv => lhs; simp -implicitDefEqProofs (maxSteps := 4000000) (disch := (first | omega | (simp only [List.length_append, List.length_cons, List.length_map, List.length_nil, List.length_take, List.length_drop]; omega))) only [AppF_append, AppF_lit, aLitW, aAppW, ↓zpre, zpost, cst1, ↓reduceIte, Nat.reduceEqDiff, Nat.reduceAdd, Nat.reduceLT, Nat.reduceLeDiff, Nat.reduceMul, Nat.reduceSub, Int.reduceToNat, Int.reduceAdd, Int.reduceSub, Int.reduceMul, Int.reduceNeg, Int.reduceLE, Int.reduceLT, Int.reduceEq, Int.reduceBEq, Int.reduceBNe, Nat.reduceBEq, Nat.reduceBNe, aBin, aEq, aEqF, aNilEq, aInt, aStr, aUn, aConv, aNil, aFldAddr, aFld, aIdxAddr, aIdx, aBui, aLoad, aStore, aLits, aLit, aMake, aMakeW, aMapSet, aLook, kfind, keq, kok, lookOut, aMk, aRange, aNext, aBytes, aApp, srcOf, aSlice, aBound, modeCut, apart, aFill, aval, aGd, zobj, zfr, ACall, AV.wk, AV.wk2, AV.wk1, AV.cells, AV.solid, AV.ro, AV.ro1, ← List.map_take, ← List.map_drop, reduceCtorEq, Option.isNone_some, Option.isSome_none, tf0, tf1, tf2, tf3, tf4, tf5, tf6, tf7, tf8, tf9, tf10, tf11, tf12, tf13, tf14, tf15, tf16, tf17, tf20, tf21, tf23, tf24, tf25, tf26, tf27, tf28, tf31, hel, hz3]); try rfl) ?_ (hk' := fun _ h => nomatch h)
     repeat (first | refine k4 ?_ (hk := fun _ h => nomatch h) | refine k4r ?_ | (refine a4r ?_; refine runf4 (an @hel @hz3) ?_) | (refine a4 ?_; refine runf4 (an @hel @hz3) ?_)); try refine runf4 (an @hel @hz3) ?_
     refine runf4 (an @s0 (an @s1 (an @s5 (an @s6 (an @s7 (an @s8 (an @s9 (an @hg @hszw)))))))) ?_
     refine runf4 (an @s0 (an @s1 (an @s5 (an @s6 (an @s7 (an @s8 (an @s9 (an @hg (an @hszw @hz3))))))))) ?_
     refine cp kp2 ?_
     refine runf4 (an @s0 (an @s1 (an @s5 (an @s6 (an @s7 (an @s8 (an @s9 (an @hg @hszw)))))))) ?_
     refine cp kp3 ?_
     refine runf4 (an @s0 (an @s1 (an @s5 (an @s6 (an @s7 (an @s8 (an @s9 (an @hg (an @hszw @w1))))))))) ?_
     refine cp kb1 ?_
     refine runf4 (an @s0 (an @s1 (an @s5 (an @s6 (an @s7 (an @s8 (an @s9 (an @hg @hszw)))))))) ?_
     refine cp kp5 ?_
     refine runf4 (an @s0 (an @s1 (an @s5 (an @s6 (an @s7 (an @s8 (an @s9 @hsg))))))) ?_
     refine runf4 (an @s0 (an @s1 (an @s5 (an @s6 (an @s7 (an @s8 (an @s9 @hsg))))))) ?_
     refine call_mk (AC.bx kt _) ?_
     rcases hcs with ⟨rfl, hx⟩ | ⟨hne, hx⟩
     ·have hge : (0 : Int) ≥ 16 := by omega
      have wx : IntKind.i64.wrap ((0 : Int) + 1) = 0 + 1 := wrap64 (by omega) (by omega)
      exact absurd hx (by omega)
     ·have hge : ¬ (0 : Int) ≥ 16 := by omega
      have hc7 : (c == 7) = false := beq_eq_false_iff_ne.2 hne
      have wx : IntKind.i64.wrap ((0 : Int) + 1) = 0 + 1 := wrap64 (by omega) (by omega)
      refine runf4 (an @s0 (an @s1 (an @s5 (an @s6 (an @s7 (an @s8 (an @s9 (an @hge (an @wx (an @w4 (an @hz3 @hc7))))))))))) ?_
      refine runf4 (an @s0 (an @s1 (an @s5 (an @s6 (an @s7 (an @s8 (an @s9 (an @hge (an @wx (an @w4 (an @hz3 @hc7))))))))))) ?_
      refine runf4 (an @s0 (an @s1 (an @s5 (an @s6 (an @s7 (an @s8 (an @s9 (an @hge (an @wx (an @w4 (an @hz3 @hc7))))))))))) ?_
      exact round_mk' (who.length - (i + 1)) _ (XB b' ++ [.row [.it .i64 0, .it .i64 (0 + 1), .it .i64 (0)] 3 1]) (Weak.sub 0 [0, 1, 2, 3, 4, 5, 6, 7, 9] ((((((((KeepR.nil _ _).cons 0 (intsV who) (intsV who) rfl rfl zsl).cons 1 (boolsV rounds) (boolsV rounds) rfl rfl zsl).cons 5 (.bo true) (.bo true) rfl rfl zsl).cons 6 (.ptr 3 0) (.ptr 3 0) rfl rfl zsl).cons 7 (entriesV (ents [1, 2, 3])) (entriesV (ents [1, 2, 3])) rfl rfl zsl).cons 8 (.wr 8 3 none) (.wr 9 3 none) rfl rfl zsl).cons 9 (.it .i64 ((i + 1 : Nat) : Int)) (.it .i64 ((i + 1 : Nat) : Int)) rfl rfl zsl) (xbrow_sub b' _ 9 rfl (by decide) rfl) rfl) (by omega)
       ⟨rfl, rfl, rfl, rfl, rfl, rfl, i + 1, _, _, 0 + 1, 0, b', rfl, rfl, by rw [Nat.succ_mul]; exact hb', hp', hm1', hm2', by omega, by omega, by omega, by omega, hcs1, (hcs2.trans (by rw [← hbr]; rfl)), hlt, rfl⟩
   ·by_cases h5 : p5 = 4
    ·have hsg : (p5 == 4) = true := beq_iff_eq.2 h5
     obtain ⟨c, b', kt, hb', hp', ⟨_, hm1'⟩, ⟨_, hm2'⟩, hcs1, hcs2, hcs⟩ := bud_step2 (step_round hb) (by omega) hp hm1 hm2 (by omega) (x := 0) (by omega) rfl ht1 ht3 hh2'
     refine runf4 (an @s0 (an @s1 (an @s5 (an @s6 (an @s7 (an @s8 (an @s9 (an @hre (an @hrl' (an @hg (an @hszw (an @hszr @hlt')))))))))))) ?_
     refine runf4 (an @s0 (an @s1 (an @s5 (an @s6 (an @s7 (an @s8 @s9)))))) ?_
     refine call_mk (AC.bx kr _) ?_
     generalize hbr : ({ b with c1 := 0, c2 := 0 } : Bx) = br at *
     refine runf4 (an @s0 (an @s1 (an @s5 (an @s6 (an @s7 (an @s8 @s9)))))) ?_
     refine wk0 ?_; refine run4 ?_
     refine p4 (by (conv => lhs; simp -implicitDefEqProofs (maxSteps := 4000000) (disch := (first | omega | (simp only [List.length_append, List.length_cons, List.length_map, List.length_nil, List.length_take, List.length_drop]; omega))) only [AppF_append, AppF_lit, aLitW, aAppW, ↓zpre, zpost, cst1, ↓reduceIte, Nat.reduceEqDiff, Nat.reduceAdd, Nat.reduceLT, Nat.reduceLeDiff, Nat.reduceMul, Nat.reduceSub, Int.reduceToNat, Int.reduceAdd, Int.reduceSub, Int.reduceMul, Int.reduceNeg, Int.reduceLE, Int.reduceLT, Int.reduceEq, Int.reduceBEq, Int.reduceBNe, Nat.reduceBEq, Nat.reduceBNe, aBin, aEq, aEqF, aNilEq, aInt, aStr, aUn, aConv, aNil, aFldAddr, aFld, aIdxAddr, aIdx, aBui, aLoad, aStore, aLits, aLit, aMake, aMakeW, aMapSet, aLook, kfind, keq, kok, lookOut, aMk, aRange, aNext, aBytes, aApp, srcOf, aSlice, aBound, modeCut, apart, aFill, aval, aGd, zobj, zfr, ACall, AV.wk, AV.wk2, AV.wk1, AV.cells, AV.solid, AV.ro, AV.ro1, ← List.map_take, ← List.map_drop, reduceCtorEq, Option.isNone_some, Option.isSome_none, tf0, tf1, tf2, tf3, tf4, tf5, tf6, tf7, tf8, tf9, tf10, tf11, tf12, tf13, tf14, tf15, tf16, tf17, tf20, tf21, tf23, tf24, tf25, tf26, tf27, tf28, tf31, hel, hz3]); try rfl) ?_ (hk' := fun _ h => nomatch h)
     repeat (first | refine k4 ?_ (hk := fun _ h => nomatch h) | refine k4r ?_ | (refine a4r ?_; refine runf4 (an @hel @hz3) ?_) | (refine a4 ?_; refine runf4 (an @hel @hz3) ?_)); try refine runf4 (an @hel @hz3) ?_
     refine runf4 (an @s0 (an @s1 (an @s5 (an @s6 (an @s7 (an @s8 (an @s9 (an @hg @hszw)))))))) ?_
     refine runf4 (an @s0 (an @s1 (an @s5 (an @s6 (an @s7 (an @s8 (an @s9 (an @hg (an @hszw @hz3))))))))) ?_
     refine cp kp2 ?_
     refine runf4 (an @s0 (an @s1 (an @s5 (an @s6 (an @s7 (an @s8 (an @s9 (an @hg @hszw)))))))) ?_
     refine cp kp3 ?_
     refine runf4 (an @s0 (an @s1 (an @s5 (an @s6 (an @s7 (an @s8 (an @s9 (an @hg (an @hszw @w1))))))))) ?_
     refine cp kb2 ?_
     refine runf4 (an @s0 (an @s1 (an @s5 (an @s6 (an @s7 (an @s8 (an @s9 (an @hg @hszw)))))))) ?_
     refine cp kp5 ?_
     refine runf4 (an @s0 (an @s1 (an @s5 (an @s6 (an @s7 (an @s8 (an @s9 @hsg))))))) ?_
     refine runf4 (an @s0 (an @s1 (an @s5 (an @s6 (an @s7 (an @s8 (an @s9 @hsg))))))) ?_
     refine call_mk (AC.bx kt _) ?_
     rcases hcs with ⟨rfl, hx⟩ | ⟨hne, hx⟩
     ·have hge : (0 : Int) ≥ 16 := by omega
      have wx : IntKind.i64.wrap ((0 : Int) + 1) = 0 + 1 := wrap64 (by omega) (by omega)
      exact absurd hx (by omega)
     ·have hge : ¬ (0 : Int) ≥ 16 := by omega
      have hc7 : (c == 7) = false := beq_eq_false_iff_ne.2 hne
      have wx : IntKind.i64.wrap ((0 : Int) + 1) = 0 + 1 := wrap64 (by omega) (by omega)
      refine runf4 (an @s0 (an @s1 (an @s5 (an @s6 (an @s7 (an @s8 (an @s9 (an @hge (an @wx (an @w4 (an @hz3 @hc7))))))))))) ?_
      refine runf4 (an @s0 (an @s1 (an @s5 (an @s6 (an @s7 (an @s8 (an @s9 (an @hge (an @wx (an @w4 (an @hz3 @hc7))))))))))) ?_
      refine runf4 (an @s0 (an @s1 (an @s5 (an @s6 (an @s7 (an @s8 (an @s9 (an @hge (an @wx (an @w4 (an @hz3 @hc7))))))))))) ?_
      exact round_mk' (who.length - (i + 1)) _ (XB b' ++ [.row [.it .i64 0, .it .i64 (0), .it .i64 (0 + 1)] 3 1]) (Weak.sub 0 [0, 1, 2, 3, 4, 5, 6, 7, 9] ((((((((KeepR.nil _ _).cons 0 (intsV who) (intsV who) rfl rfl zsl).cons 1 (boolsV rounds) (boolsV rounds) rfl rfl zsl).cons 5 (.bo true) (.bo true) rfl rfl zsl).cons 6 (.ptr 3 0) (.ptr 3 0) rfl rfl zsl).cons 7 (entriesV (ents [1, 2, 3])) (entriesV (ents [1, 2, 3])) rfl rfl zsl).cons 8 (.wr 8 3 none) (.wr 9 3 none) rfl rfl zsl).cons 9 (.it .i64 ((i + 1 : Nat) : Int)) (.it .i64 ((i + 1 : Nat) : Int)) rfl rfl zsl) (xbrow_sub b' _ 9 rfl (by decide) rfl) rfl) (by omega)
       ⟨rfl, rfl, rfl, rfl, rfl, rfl, i + 1, _, _, 0, 0 + 1, b', rfl, rfl, by rw [Nat.succ_mul]; exact hb', hp', hm1', hm2', by omega, by omega, by omega, by omega, (hcs2.trans (by rw [← hbr]; rfl)), hcs1, hlt, rfl⟩
    ·have hsg : (p5 == 4) = false := beq_eq_false_iff_ne.2 h5
     obtain ⟨c, b', kt, hb', hp', ⟨_, hm1'⟩, ⟨_, hm2'⟩, hcs1, hcs2, hcs⟩ := bud_step2 (step_round hb) (by omega) hp hm1 hm2 (by omega) (x := 0) (by omega) rfl ht1 ht3 hh2
     refine runf4 (an @s0 (an @s1 (an @s5 (an @s6 (an @s7 (an @s8 (an @s9 (an @hre (an @hrl' (an @hg (an @hszw (an @hszr @hlt')))))))))))) ?_
     refine runf4 (an @s0 (an @s1 (an @s5 (an @s6 (an @s7 (an @s8 @s9)))))) ?_
     refine call_mk (AC.bx kr _) ?_
     generalize hbr : ({ b with c1 := 0, c2 := 0 } : Bx) = br at *
     refine runf4 (an @s0 (an @s1 (an @s5 (an @s6 (an @s7 (an @s8 @s9)))))) ?_
     refine wk0 ?_; refine run4 ?_
     refine p4 (by (conv => lhs; simp -implicitDefEqProofs (maxSteps := 4000000) (disch := (first | omega | (simp only [List.length_append, List.length_cons, List.length_map, List.length_nil, List.length_take, List.length_drop]; omega))) only [AppF_append, AppF_lit, aLitW, aAppW, ↓zpre, zpost, cst1, ↓reduceIte, Nat.reduceEqDiff, Nat.reduceAdd, Nat.reduceLT, Nat.reduceLeDiff, Nat.reduceMul, Nat.reduceSub, Int.reduceToNat, Int.reduceAdd, Int.reduceSub, Int.reduceMul, Int.reduceNeg, Int.reduceLE, Int.reduceLT, Int.reduceEq, Int.reduceBEq, Int.reduceBNe, Nat.reduceBEq, Nat.reduceBNe, aBin, aEq, aEqF, aNilEq, aInt, aStr, aUn, aConv, aNil, aFldAddr, aFld, aIdxAddr, aIdx, aBui, aLoad, aStore, aLits, aLit, aMake, aMakeW, aMapSet, aLook, kfind, keq, kok, lookOut, aMk, aRange, aNext, aBytes, aApp, srcOf, aSlice, aBound, modeCut, apart, aFill, aval, aGd, zobj, zfr, ACall, AV.wk, AV.wk2, AV.wk1, AV.cells, AV.solid, AV.ro, AV.ro1, ← List.map_take, ← List.map_drop, reduceCtorEq, Option.isNone_some, Option.isSome_none, tf0, tf1, tf2, tf3, tf4, tf5, tf6, tf7, tf8, tf9, tf10, tf11, tf12, tf13, tf14, tf15, tf16, tf17, tf20, tf21, tf23, tf24, tf25, tf26, tf27, tf28, tf31, hel, hz3]); try rfl) ?_ (hk' := fun _ h => nomatch h)
     repeat (first | refine k4 ?_ (hk := fun _ h => nomatch h) | refine k4r ?_ | (refine a4r ?_; refine runf4 (an @hel @hz3) ?_) | (refine a4 ?_; refine runf4 (an @hel @hz3) ?_)); try refine runf4 (an @hel @hz3) ?_
     refine runf4 (an @s0 (an @s1 (an @s5 (an @s6 (an @s7 (an @s8 (an @s9 (an @hg @hszw)))))))) ?_
     refine runf4 (an @s0 (an @s1 (an @s5 (an @s6 (an @s7 (an @s8 (an @s9 (an @hg (an @hszw @hz3))))))))) ?_
     refine cp kp2 ?_
     refine runf4 (an @s0 (an @s1 (an @s5 (an @s6 (an @s7 (an @s8 (an @s9 (an @hg @hszw)))))))) ?_
     refine cp kp3 ?_
     refine runf4 (an @s0 (an @s1 (an @s5 (an @s6 (an @s7 (an @s8 (an @s9 (an @hg (an @hszw @w1))))))))) ?_
     refine cp kb2 ?_
     refine runf4 (an @s0 (an @s1 (an @s5 (an @s6 (an @s7 (an @s8 (an @s9 (an @hg @hszw)))))))) ?_
     refine cp kp5 ?_
     refine runf4 (an @s0 (an @s1 (an @s5 (an @s6 (an @s7 (an @s8 (an @s9 @hsg))))))) ?_
     refine runf4 (an @s0 (an @s1 (an @s5 (an @s6 (an @s7 (an @s8 (an @s9 @hsg))))))) ?_
     refine call_mk (AC.bx kt _) ?_
     rcases hcs with ⟨rfl, hx⟩ | ⟨hne, hx⟩
     ·have hge : (0 : Int) ≥ 16 := by omega
      have wx : IntKind.i64.wrap ((0 : Int) + 1) = 0 + 1 := wrap64 (by omega) (by omega)
      exact absurd hx (by omega)
     ·have hge : ¬ (0 : Int) ≥ 16 := by omega
      have hc7 : (c == 7) = false := beq_eq_false_iff_ne.2 hne
      have wx : IntKind.i64.wrap ((0 : Int) + 1) = 0 + 1 := wrap64 (by omega) (by omega)
      refine runf4 (an @s0 (an @s1 (an @s5 (an @s6 (an @s7 (an @s8 (an @s9 (an @hge (an @wx (an @w4 (an @hz3 @hc7))))))))))) ?_
      refine runf4 (an @s0 (an @s1 (an @s5 (an @s6 (an @s7 (an @s8 (an @s9 (an @hge (an @wx (an @w4 (an @hz3 @hc7))))))))))) ?_
      refine runf4 (an @s0 (an @s1 (an @s5 (an @s6 (an @s7 (an @s8 (an @s9 (an @hge (an @wx (an @w4 (an @hz3 @hc7))))))))))) ?_
      exact round_mk' (who.length - (i + 1)) _ (XB b' ++ [.row [.it .i64 0, .it .i64 (0), .it .i64 (0 + 1)] 3 1]) (Weak.sub 0 [0, 1, 2, 3, 4, 5, 6, 7, 9] ((((((((KeepR.nil _ _).cons 0 (intsV who) (intsV who) rfl rfl zsl).cons 1 (boolsV rounds) (boolsV rounds) rfl rfl zsl).cons 5 (.bo true) (.bo true) rfl rfl zsl).cons 6 (.ptr 3 0) (.ptr 3 0) rfl rfl zsl).cons 7 (entriesV (ents [1, 2, 3])) (entriesV (ents [1, 2, 3])) rfl rfl zsl).cons 8 (.wr 8 3 none) (.wr 9 3 none) rfl rfl zsl).cons 9 (.it .i64 ((i + 1 : Nat) : Int)) (.it .i64 ((i + 1 : Nat) : Int)) rfl rfl zsl) (xbrow_sub b' _ 9 rfl (by decide) rfl) rfl) (by omega)
       ⟨rfl, rfl, rfl, rfl, rfl, rfl, i + 1, _, _, 0, 0 + 1, b', rfl, rfl, by rw [Nat.succ_mul]; exact hb', hp', hm1', hm2', by omega, by omega, by omega, by omega, (hcs2.trans (by rw [← hbr]; rfl)), hcs1, hlt, rfl⟩
  ·by_cases hrl : i < rounds.length
   ·have hrl' : (i : Int) < (rounds.length : Int) := by omega
    have hre : rounds[i]? = some false := by
     have h9 : rounds[i]? = some rounds[i] := List.getElem?_eq_getElem hrl
     rw [h9]
     cases hq : rounds[i] with
     | false => rfl
     | true => exact absurd ⟨hrl, by rw [h9, hq]⟩ hrd
    have hp2 : p2 = 0 ∨ p2 = 1 := by omega
    rcases hp2 with rfl | rfl
    ·by_cases h5 : p5 = 4
     ·have hsg : (p5 == 4) = true := beq_iff_eq.2 h5
      obtain ⟨c, b', kt, hb', hp', ⟨_, hm1'⟩, ⟨_, hm2'⟩, hcs1, hcs2, hcs⟩ := bud_step1 hb (by omega) hp hm1 hm2 (by omega) (x := x1) (by omega) hc1 ht1 ht3 hh1'
      refine runf4 (an @s0 (an @s1 (an @s5 (an @s6 (an @s7 (an @s8 (an @s9 (an @hre (an @hrl' (an @hg (an @hszw (an @hszr @hlt')))))))))))) ?_
      refine runf4 (an @s0 (an @s1 (an @s5 (an @s6 (an @s7 (an @s8 (an @s9 (an @hg (an @hszw @hz3))))))))) ?_
      refine cp kp2 ?_
      refine runf4 (an @s0 (an @s1 (an @s5 (an @s6 (an @s7 (an @s8 (an @s9 (an @hg @hszw)))))))) ?_
      refine cp kp3 ?_
      refine runf4 (an @s0 (an @s1 (an @s5 (an @s6 (an @s7 (an @s8 (an @s9 (an @hg (an @hszw @w1))))))))) ?_
      refine cp kb1 ?_
      refine runf4 (an @s0 (an @s1 (an @s5 (an @s6 (an @s7 (an @s8 (an @s9 (an @hg @hszw)))))))) ?_
      refine cp kp5 ?_
      refine runf4 (an @s0 (an @s1 (an @s5 (an @s6 (an @s7 (an @s8 (an @s9 @hsg))))))) ?_
      refine runf4 (an @s0 (an @s1 (an @s5 (an @s6 (an @s7 (an @s8 (an @s9 @hsg))))))) ?_
      refine call_mk (AC.bx kt _) ?_
      rcases hcs with ⟨rfl, hx⟩ | ⟨hne, hx⟩
      ·have hge : x1 ≥ 16 := by omega
       have wx : IntKind.i64.wrap (x1 + 1) = x1 + 1 := wrap64 (by omega) (by omega)
       refine runf4 (an @s0 (an @s1 (an @s5 (an @s6 (an @s7 (an @s8 (an @s9 (an @hge (an @wx (an @w4 @hz3)))))))))) ?_
       refine runf4 (an @s0 (an @s1 (an @s5 (an @s6 (an @s7 (an @s8 (an @s9 (an @hge (an @wx (an @w4 @hz3)))))))))) ?_
       refine runf4 (an @s0 (an @s1 (an @s5 (an @s6 (an @s7 (an @s8 (an @s9 (an @hge (an @wx (an @w4 @hz3)))))))))) ?_
       exact round_mk' (who.length - (i + 1)) _ (XB b' ++ [.row [.it .i64 0, .it .i64 (x1 + 1), .it .i64 (x2)] 3 1]) (Weak.sub 0 [0, 1, 2, 3, 4, 5, 6, 7, 8] ((((((((KeepR.nil _ _).cons 0 (intsV who) (intsV who) rfl rfl zsl).cons 1 (boolsV rounds) (boolsV rounds) rfl rfl zsl).cons 5 (.bo true) (.bo true) rfl rfl zsl).cons 6 (.ptr 3 0) (.ptr 3 0) rfl rfl zsl).cons 7 (entriesV (ents [1, 2, 3])) (entriesV (ents [1, 2, 3])) rfl rfl zsl).cons 8 (.wr 8 3 none) (.wr 8 3 none) rfl rfl zsl).cons 9 (.it .i64 ((i + 1 : Nat) : Int)) (.it .i64 ((i + 1 : Nat) : Int)) rfl rfl zsl) (xbrow_sub b' _ 8 rfl (by decide) rfl) rfl) (by omega)
        ⟨rfl, rfl, rfl, rfl, rfl, rfl, i + 1, _, _, x1 + 1, x2, b', rfl, rfl, by rw [Nat.succ_mul]; exact hb', hp', hm1', hm2', by omega, by omega, by omega, by omega, hcs1, (hcs2.trans hc2), hlt, rfl⟩
      ·have hge : ¬ x1 ≥ 16 := by omega
       have hc7 : (c == 7) = false := beq_eq_false_iff_ne.2 hne
       have wx : IntKind.i64.wrap (x1 + 1) = x1 + 1 := wrap64 (by omega) (by omega)
       refine runf4 (an @s0 (an @s1 (an @s5 (an @s6 (an @s7 (an @s8 (an @s9 (an @hge (an @wx (an @w4 (an @hz3 @hc7))))))))))) ?_
       refine runf4 (an @s0 (an @s1 (an @s5 (an @s6 (an @s7 (an @s8 (an @s9 (an @hge (an @wx (an @w4 (an @hz3 @hc7))))))))))) ?_
       refine runf4 (an @s0 (an @s1 (an @s5 (an @s6 (an @s7 (an @s8 (an @s9 (an @hge (an @wx (an @w4 (an @hz3 @hc7))))))))))) ?_
       exact round_mk' (who.length - (i + 1)) _ (XB b' ++ [.row [.it .i64 0, .it .i64 (x1 + 1), .it .i64 (x2)] 3 1]) (Weak.sub 0 [0, 1, 2, 3, 4, 5, 6, 7, 8] ((((((((KeepR.nil _ _).cons 0 (intsV who) (intsV who) rfl rfl zsl).cons 1 (boolsV rounds) (boolsV rounds) rfl rfl zsl).cons 5 (.bo true) (.bo true) rfl rfl zsl).cons 6 (.ptr 3 0) (.ptr 3 0) rfl rfl zsl).cons 7 (entriesV (ents [1, 2, 3])) (entriesV (ents [1, 2, 3])) rfl rfl zsl).cons 8 (.wr 8 3 none) (.wr 8 3 none) rfl rfl zsl).cons 9 (.it .i64 ((i + 1 : Nat) : Int)) (.it .i64 ((i + 1 : Nat) : Int)) rfl rfl zsl) (xbrow_sub b' _ 8 rfl (by decide) rfl) rfl) (by omega)
        ⟨rfl, rfl, rfl, rfl, rfl, rfl, i + 1, _, _, x1 + 1, x2, b', rfl, rfl, by rw [Nat.succ_mul]; exact hb', hp', hm1', hm2', by omega, by omega, by omega, by omega, hcs1, (hcs2.trans hc2), hlt, rfl⟩
     ·have hsg : (p5 == 4) = false := beq_eq_false_iff_ne.2 h5
      obtain ⟨c, b', kt, hb', hp', ⟨_, hm1'⟩, ⟨_, hm2'⟩, hcs1, hcs2, hcs⟩ := bud_step1 hb (by omega) hp hm1 hm2 (by omega) (x := x1) (by omega) hc1 ht1 ht3 hh1
      refine runf4 (an @s0 (an @s1 (an @s5 (an @s6 (an @s7 (an @s8 (an @s9 (an @hre (an @hrl' (an @hg (an @hszw (an @hszr @hlt')))))))))))) ?_
      refine runf4 (an @s0 (an @s1 (an @s5 (an @s6 (an @s7 (an @s8 (an @s9 (an @hg (an @hszw @hz3))))))))) ?_
      refine cp kp2 ?_
      refine runf4 (an @s0 (an @s1 (an @s5 (an @s6 (an @s7 (an @s8 (an @s9 (an @hg @hszw)))))))) ?_
      refine cp kp3 ?_
      refine runf4 (an @s0 (an @s1 (an @s5 (an @s6 (an @s7 (an @s8 (an @s9 (an @hg (an @hszw @w1))))))))) ?_
      refine cp kb1 ?_
      refine runf4 (an @s0 (an @s1 (an @s5 (an @s6 (an @s7 (an @s8 (an @s9 (an @hg @hszw)))))))) ?_
      refine cp kp5 ?_
      refine runf4 (an @s0 (an @s1 (an @s5 (an @s6 (an @s7 (an @s8 (an @s9 @hsg))))))) ?_
      refine runf4 (an @s0 (an @s1 (an @s5 (an @s6 (an @s7 (an @s8 (an @s9 @hsg))))))) ?_
      refine call_mk (AC.bx kt _) ?_
      rcases hcs with ⟨rfl, hx⟩ | ⟨hne, hx⟩
      ·have hge : x1 ≥ 16 := by omega
       have wx : IntKind.i64.wrap (x1 + 1) = x1 + 1 := wrap64 (by omega) (by omega)
       refine runf4 (an @s0 (an @s1 (an @s5 (an @s6 (an @s7 (an @s8 (an @s9 (an @hge (an @wx (an @w4 @hz3)))))))))) ?_
       refine runf4 (an @s0 (an @s1 (an @s5 (an @s6 (an @s7 (an @s8 (an @s9 (an @hge (an @wx (an @w4 @hz3)))))))))) ?_
       refine runf4 (an @s0 (an @s1 (an @s5 (an @s6 (an @s7 (an @s8 (an @s9 (an @hge (an @wx (an @w4 @hz3)))))))))) ?_
       exact round_mk' (who.length - (i + 1)) _ (XB b' ++ [.row [.it .i64 0, .it .i64 (x1 + 1), .it .i64 (x2)] 3 1]) (Weak.sub 0 [0, 1, 2, 3, 4, 5, 6, 7, 8] ((((((((KeepR.nil _ _).cons 0 (intsV who) (intsV who) rfl rfl zsl).cons 1 (boolsV rounds) (boolsV rounds) rfl rfl zsl).cons 5 (.bo true) (.bo true) rfl rfl zsl).cons 6 (.ptr 3 0) (.ptr 3 0) rfl rfl zsl).cons 7 (entriesV (ents [1, 2, 3])) (entriesV (ents [1, 2, 3])) rfl rfl zsl).cons 8 (.wr 8 3 none) (.wr 8 3 none) rfl rfl zsl).cons 9 (.it .i64 ((i + 1 : Nat) : Int)) (.it .i64 ((i + 1 : Nat) : Int)) rfl rfl zsl) (xbrow_sub b' _ 8 rfl (by decide) rfl) rfl) (by omega)
        ⟨rfl, rfl, rfl, rfl, rfl, rfl, i + 1, _, _, x1 + 1, x2, b', rfl, rfl, by rw [Nat.succ_mul]; exact hb', hp', hm1', hm2', by omega, by omega, by omega, by omega, hcs1, (hcs2.trans hc2), hlt, rfl⟩
      ·have hge : ¬ x1 ≥ 16 := by omega
       have hc7 : (c == 7) = false := beq_eq_false_iff_ne.2 hne
       have wx : IntKind.i64.wrap (x1 + 1) = x1 + 1 := wrap64 (by omega) (by omega)
       refine runf4 (an @s0 (an @s1 (an @s5 (an @s6 (an @s7 (an @s8 (an @s9 (an @hge (an @wx (an @w4 (an @hz3 @hc7))))))))))) ?_
       refine runf4 (an @s0 (an @s1 (an @s5 (an @s6 (an @s7 (an @s8 (an @s9 (an @hge (an @wx (an @w4 (an @hz3 @hc7))))))))))) ?_
       refine runf4 (an @s0 (an @s1 (an @s5 (an @s6 (an @s7 (an @s8 (an @s9 (an @hge (an @wx (an @w4 (an @hz3 @hc7))))))))))) ?_
       exact round_mk' (who.length - (i + 1)) _ (XB b' ++ [.row [.it .i64 0, .it .i64 (x1 + 1), .it .i64 (x2)] 3 1]) (Weak.sub 0 [0, 1, 2, 3, 4, 5, 6, 7, 8] ((((((((KeepR.nil _ _).cons 0 (intsV who) (intsV who) rfl rfl zsl).cons 1 (boolsV rounds) (boolsV rounds) rfl rfl zsl).cons 5 (.bo true) (.bo true) rfl rfl zsl).cons 6 (.ptr 3 0) (.ptr 3 0) rfl rfl zsl).cons 7 (entriesV (ents [1, 2, 3])) (entriesV (ents [1, 2, 3])) rfl rfl zsl).cons 8 (.wr 8 3 none) (.wr 8 3 none) rfl rfl zsl).cons 9 (.it .i64 ((i + 1 : Nat) : Int)) (.it .i64 ((i + 1 : Nat) : Int)) rfl rfl zsl) (xbrow_sub b' _ 8 rfl (by decide) rfl) rfl) (by omega)
        ⟨rfl, rfl, rfl, rfl, rfl, rfl, i + 1, _, _, x1 + 1, x2, b', rfl, rfl, by rw [Nat.succ_mul]; exact hb', hp', hm1', hm2', by omega, by omega, by omega, by omega, hcs1, (hcs2.trans hc2), hlt, rfl⟩
    ·by_cases h5 : p5 = 4
     ·have hsg : (p5 == 4) = true := beq_iff_eq.2 h5
      obtain ⟨c, b', kt, hb', hp', ⟨_, hm1'⟩, ⟨_, hm2'⟩, hcs1, hcs2, hcs⟩ := bud_step2 hb (by omega) hp hm1 hm2 (by omega) (x := x2) (by omega) hc2 ht1 ht3 hh2'
      refine runf4 (an @s0 (an @s1 (an @s5 (an @s6 (an @s7 (an @s8 (an @s9 (an @hre (an @hrl' (an @hg (an @hszw (an @hszr @hlt')))))))))))) ?_
      refine runf4 (an @s0 (an @s1 (an @s5 (an @s6 (an @s7 (an @s8 (an @s9 (an @hg (an @hszw @hz3))))))))) ?_
      refine cp kp2 ?_
      refine runf4 (an @s0 (an @s1 (an @s5 (an @s6 (an @s7 (an @s8 (an @s9 (an @hg @hszw)))))))) ?_
      refine cp kp3 ?_
      refine runf4 (an @s0 (an @s1 (an @s5 (an @s6 (an @s7 (an @s8 (an @s9 (an @hg (an @hszw @w1))))))))) ?_
      refine cp kb2 ?_
      refine runf4 (an @s0 (an @s1 (an @s5 (an @s6 (an @s7 (an @s8 (an @s9 (an @hg @hszw)))))))) ?_
      refine cp kp5 ?_
      refine runf4 (an @s0 (an @s1 (an @s5 (an @s6 (an @s7 (an @s8 (an @s9 @hsg))))))) ?_
      refine runf4 (an @s0 (an @s1 (an @s5 (an @s6 (an @s7 (an @s8 (an @s9 @hsg))))))) ?_
      refine call_mk (AC.bx kt _) ?_
      rcases hcs with ⟨rfl, hx⟩ | ⟨hne, hx⟩
      ·have hge : x2 ≥ 16 := by omega
       have wx : IntKind.i64.wrap (x2 + 1) = x2 + 1 := wrap64 (by omega) (by omega)
       refine runf4 (an @s0 (an @s1 (an @s5 (an @s6 (an @s7 (an @s8 (an @s9 (an @hge (an @wx (an @w4 @hz3)))))))))) ?_
       refine runf4 (an @s0 (an @s1 (an @s5 (an @s6 (an @s7 (an @s8 (an @s9 (an @hge (an @wx (an @w4 @hz3)))))))))) ?_
       refine runf4 (an @s0 (an @s1 (an @s5 (an @s6 (an @s7 (an @s8 (an @s9 (an @hge (an @wx (an @w4 @hz3)))))))))) ?_
       exact round_mk' (who.length - (i + 1)) _ (XB b' ++ [.row [.it .i64 0, .it .i64 (x1), .it .i64 (x2 + 1)] 3 1]) (Weak.sub 0 [0, 1, 2, 3, 4, 5, 6, 7, 8] ((((((((KeepR.nil _ _).cons 0 (intsV who) (intsV who) rfl rfl zsl).cons 1 (boolsV rounds) (boolsV rounds) rfl rfl zsl).cons 5 (.bo true) (.bo true) rfl rfl zsl).cons 6 (.ptr 3 0) (.ptr 3 0) rfl rfl zsl).cons 7 (entriesV (ents [1, 2, 3])) (entriesV (ents [1, 2, 3])) rfl rfl zsl).cons 8 (.wr 8 3 none) (.wr 8 3 none) rfl rfl zsl).cons 9 (.it .i64 ((i + 1 : Nat) : Int)) (.it .i64 ((i + 1 : Nat) : Int)) rfl rfl zsl) (xbrow_sub b' _ 8 rfl (by decide) rfl) rfl) (by omega)
        ⟨rfl, rfl, rfl, rfl, rfl, rfl, i + 1, _, _, x1, x2 + 1, b', rfl, rfl, by rw [Nat.succ_mul]; exact hb', hp', hm1', hm2', by omega, by omega, by omega, by omega, (hcs2.trans hc1), hcs1, hlt, rfl⟩
      ·have hge : ¬ x2 ≥ 16 := by omega
       have hc7 : (c == 7) = false := beq_eq_false_iff_ne.2 hne
       have wx : IntKind.i64.wrap (x2 + 1) = x2 + 1 := wrap64 (by omega) (by omega)
       refine runf4 (an @s0 (an @s1 (an @s5 (an @s6 (an @s7 (an @s8 (an @s9 (an @hge (an @wx (an @w4 (an @hz3 @hc7))))))))))) ?_
       refine runf4 (an @s0 (an @s1 (an @s5 (an @s6 (an @s7 (an @s8 (an @s9 (an @hge (an @wx (an @w4 (an @hz3 @hc7))))))))))) ?_
       refine runf4 (an @s0 (an @s1 (an @s5 (an @s6 (an @s7 (an @s8 (an @s9 (an @hge (an @wx (an @w4 (an @hz3 @hc7))))))))))) ?_
       exact round_mk' (who.length - (i + 1)) _ (XB b' ++ [.row [.it .i64 0, .it .i64 (x1), .it .i64 (x2 + 1)] 3 1]) (Weak.sub 0 [0, 1, 2, 3, 4, 5, 6, 7, 8] ((((((((KeepR.nil _ _).cons 0 (intsV who) (intsV who) rfl rfl zsl).cons 1 (boolsV rounds) (boolsV rounds) rfl rfl zsl).cons 5 (.bo true) (.bo true) rfl rfl zsl).cons 6 (.ptr 3 0) (.ptr 3 0) rfl rfl zsl).cons 7 (entriesV (ents [1, 2, 3])) (entriesV (ents [1, 2, 3])) rfl rfl zsl).cons 8 (.wr 8 3 none) (.wr 8 3 none) rfl rfl zsl).cons 9 (.it .i64 ((i + 1 : Nat) : Int)) (.it .i64 ((i + 1 : Nat) : Int)) rfl rfl zsl) (xbrow_sub b' _ 8 rfl (by decide) rfl) rfl) (by omega)
        ⟨rfl, rfl, rfl, rfl, rfl, rfl, i + 1, _, _, x1, x2 + 1, b', rfl, rfl, by rw [Nat.succ_mul]; exact hb', hp', hm1', hm2', by omega, by omega, by omega, by omega, (hcs2.trans hc1), hcs1, hlt, rfl⟩
     ·have hsg : (p5 == 4) = false := beq_eq_false_iff_ne.2 h5
      obtain ⟨c, b', kt, hb', hp', ⟨_, hm1'⟩, ⟨_, hm2'⟩, hcs1, hcs2, hcs⟩ := bud_step2 hb (by omega) hp hm1 hm2 (by omega) (x := x2) (by omega) hc2 ht1 ht3 hh2
      refine runf4 (an @s0 (an @s1 (an @s5 (an @s6 (an @s7 (an @s8 (an @s9 (an @hre (an @hrl' (an @hg (an @hszw (an @hszr @hlt')))))))))))) ?_
      refine runf4 (an @s0 (an @s1 (an @s5 (an @s6 (an @s7 (an @s8 (an @s9 (an @hg (an @hszw @hz3))))))))) ?_
      refine cp kp2 ?_
      refine runf4 (an @s0 (an @s1 (an @s5 (an @s6 (an @s7 (an @s8 (an @s9 (an @hg @hszw)))))))) ?_
      refine cp kp3 ?_
      refine runf4 (an @s0 (an @s1 (an @s5 (an @s6 (an @s7 (an @s8 (an @s9 (an @hg (an @hszw @w1))))))))) ?_
      refine cp kb2 ?_
      refine runf4 (an @s0 (an @s1 (an @s5 (an @s6 (an @s7 (an @s8 (an @s9 (an @hg @hszw)))))))) ?_
      refine cp kp5 ?_
      refine runf4 (an @s0 (an @s1 (an @s5 (an @s6 (an @s7 (an @s8 (an @s9 @hsg))))))) ?_
      refine runf4 (an @s0 (an @s1 (an @s5 (an @s6 (an @s7 (an @s8 (an @s9 @hsg))))))) ?_
      refine call_mk (AC.bx kt _) ?_
      rcases hcs with ⟨rfl, hx⟩ | ⟨hne, hx⟩
      ·have hge : x2 ≥ 16 := by omega
       have wx : IntKind.i64.wrap (x2 + 1) = x2 + 1 := wrap64 (by omega) (by omega)
       refine runf4 (an @s0 (an @s1 (an @s5 (an @s6 (an @s7 (an @s8 (an @s9 (an @hge (an @wx (an @w4 @hz3)))))))))) ?_
       refine runf4 (an @s0 (an @s1 (an @s5 (an @s6 (an @s7 (an @s8 (an @s9 (an @hge (an @wx (an @w4 @hz3)))))))))) ?_
       refine runf4 (an @s0 (an @s1 (an @s5 (an @s6 (an @s7 (an @s8 (an @s9 (an @hge (an @wx (an @w4 @hz3)))))))))) ?_
       exact round_mk' (who.length - (i + 1)) _ (XB b' ++ [.row [.it .i64 0, .it .i64 (x1), .it .i64 (x2 + 1)] 3 1]) (Weak.sub 0 [0, 1, 2, 3, 4, 5, 6, 7, 8] ((((((((KeepR.nil _ _).cons 0 (intsV who) (intsV who) rfl rfl zsl).cons 1 (boolsV rounds) (boolsV rounds) rfl rfl zsl).cons 5 (.bo true) (.bo true) rfl rfl zsl).cons 6 (.ptr 3 0) (.ptr 3 0) rfl rfl zsl).cons 7 (entriesV (ents [1, 2, 3])) (entriesV (ents [1, 2, 3])) rfl rfl zsl).cons 8 (.wr 8 3 none) (.wr 8 3 none) rfl rfl zsl).cons 9 (.it .i64 ((i + 1 : Nat) : Int)) (.it .i64 ((i + 1 : Nat) : Int)) rfl rfl zsl) (xbrow_sub b' _ 8 rfl (by decide) rfl) rfl) (by omega)
        ⟨rfl, rfl, rfl, rfl, rfl, rfl, i + 1, _, _, x1, x2 + 1, b', rfl, rfl, by rw [Nat.succ_mul]; exact hb', hp', hm1', hm2', by omega, by omega, by omega, by omega, (hcs2.trans hc1), hcs1, hlt, rfl⟩
      ·have hge : ¬ x2 ≥ 16 := by omega
       have hc7 : (c == 7) = false := beq_eq_false_iff_ne.2 hne
       have wx : IntKind.i64.wrap (x2 + 1) = x2 + 1 := wrap64 (by omega) (by omega)
       refine runf4 (an @s0 (an @s1 (an @s5 (an @s6 (an @s7 (an @s8 (an @s9 (an @hge (an @wx (an @w4 (an @hz3 @hc7))))))))))) ?_
       refine runf4 (an @s0 (an @s1 (an @s5 (an @s6 (an @s7 (an @s8 (an @s9 (an @hge (an @wx (an @w4 (an @hz3 @hc7))))))))))) ?_
       refine runf4 (an @s0 (an @s1 (an @s5 (an @s6 (an @s7 (an @s8 (an @s9 (an @hge (an @wx (an @w4 (an @hz3 @hc7))))))))))) ?_
       exact round_mk' (who.length - (i + 1)) _ (XB b' ++ [.row [.it .i64 0, .it .i64 (x1), .it .i64 (x2 + 1)] 3 1]) (Weak.sub 0 [0, 1, 2, 3, 4, 5, 6, 7, 8] ((((((((KeepR.nil _ _).cons 0 (intsV who) (intsV who) rfl rfl zsl).cons 1 (boolsV rounds) (boolsV rounds) rfl rfl zsl).cons 5 (.bo true) (.bo true) rfl rfl zsl).cons 6 (.ptr 3 0) (.ptr 3 0) rfl rfl zsl).cons 7 (entriesV (ents [1, 2, 3])) (entriesV (ents [1, 2, 3])) rfl rfl zsl).cons 8 (.wr 8 3 none) (.wr 8 3 none) rfl rfl zsl).cons 9 (.it .i64 ((i + 1 : Nat) : Int)) (.it .i64 ((i + 1 : Nat) : Int)) rfl rfl zsl) (xbrow_sub b' _ 8 rfl (by decide) rfl) rfl) (by omega)
        ⟨rfl, rfl, rfl, rfl, rfl, rfl, i + 1, _, _, x1, x2 + 1, b', rfl, rfl, by rw [Nat.succ_mul]; exact hb', hp', hm1', hm2', by omega, by omega, by omega, by omega, (hcs2.trans hc1), hcs1, hlt, rfl⟩
   ·have hrl' : ¬ (i : Int) < (rounds.length : Int) := by omega
    have hp2 : p2 = 0 ∨ p2 = 1 := by omega
    rcases hp2 with rfl | rfl
    ·by_cases h5 : p5 = 4
     ·have hsg : (p5 == 4) = true := beq_iff_eq.2 h5
      obtain ⟨c, b', kt, hb', hp', ⟨_, hm1'⟩, ⟨_, hm2'⟩, hcs1, hcs2, hcs⟩ := bud_step1 hb (by omega) hp hm1 hm2 (by omega) (x := x1) (by omega) hc1 ht1 ht3 hh1'
      refine runf4 (an @s0 (an @s1 (an @s5 (an @s6 (an @s7 (an @s8 (an @s9 (an @hrl' (an @hg (an @hszw (an @hszr @hlt'))))))))))) ?_
      refine runf4 (an @s0 (an @s1 (an @s5 (an @s6 (an @s7 (an @s8 (an @s9 (an @hg (an @hszw @hz3))))))))) ?_
      refine cp kp2 ?_
      refine runf4 (an @s0 (an @s1 (an @s5 (an @s6 (an @s7 (an @s8 (an @s9 (an @hg @hszw)))))))) ?_
      refine cp kp3 ?_
      refine runf4 (an @s0 (an @s1 (an @s5 (an @s6 (an @s7 (an @s8 (an @s9 (an @hg (an @hszw @w1))))))))) ?_
      refine cp kb1 ?_
      refine runf4 (an @s0 (an @s1 (an @s5 (an @s6 (an @s7 (an @s8 (an @s9 (an @hg @hszw)))))))) ?_
      refine cp kp5 ?_
      refine runf4 (an @s0 (an @s1 (an @s5 (an @s6 (an @s7 (an @s8 (an @s9 @hsg))))))) ?_
      refine runf4 (an @s0 (an @s1 (an @s5 (an @s6 (an @s7 (an @s8 (an @s9 @hsg))))))) ?_
      refine call_mk (AC.bx kt _) ?_
      rcases hcs with ⟨rfl, hx⟩ | ⟨hne, hx⟩
      ·have hge : x1 ≥ 16 := by omega
       have wx : IntKind.i64.wrap (x1 + 1) = x1 + 1 := wrap64 (by omega) (by omega)
       refine runf4 (an @s0 (an @s1 (an @s5 (an @s6 (an @s7 (an @s8 (an @s9 (an @hge (an @wx (an @w4 @hz3)))))))))) ?_
       refine runf4 (an @s0 (an @s1 (an @s5 (an @s6 (an @s7 (an @s8 (an @s9 (an @hge (an @wx (an @w4 @hz3)))))))))) ?_
       refine runf4 (an @s0 (an @s1 (an @s5 (an @s6 (an @s7 (an @s8 (an @s9 (an @hge (an @wx (an @w4 @hz3)))))))))) ?_
       exact round_mk' (who.length - (i + 1)) _ (XB b' ++ [.row [.it .i64 0, .it .i64 (x1 + 1), .it .i64 (x2)] 3 1]) (Weak.sub 0 [0, 1, 2, 3, 4, 5, 6, 7, 8] ((((((((KeepR.nil _ _).cons 0 (intsV who) (intsV who) rfl rfl zsl).cons 1 (boolsV rounds) (boolsV rounds) rfl rfl zsl).cons 5 (.bo true) (.bo true) rfl rfl zsl).cons 6 (.ptr 3 0) (.ptr 3 0) rfl rfl zsl).cons 7 (entriesV (ents [1, 2, 3])) (entriesV (ents [1, 2, 3])) rfl rfl zsl).cons 8 (.wr 8 3 none) (.wr 8 3 none) rfl rfl zsl).cons 9 (.it .i64 ((i + 1 : Nat) : Int)) (.it .i64 ((i + 1 : Nat) : Int)) rfl rfl zsl) (xbrow_sub b' _ 8 rfl (by decide) rfl) rfl) (by omega)
        ⟨rfl, rfl, rfl, rfl, rfl, rfl, i + 1, _, _, x1 + 1, x2, b', rfl, rfl, by rw [Nat.succ_mul]; exact hb', hp', hm1', hm2', by omega, by omega, by omega, by omega, hcs1, (hcs2.trans hc2), hlt, rfl⟩
      ·have hge : ¬ x1 ≥ 16 := by omega
       have hc7 : (c == 7) = false := beq_eq_false_iff_ne.2 hne
       have wx : IntKind.i64.wrap (x1 + 1) = x1 + 1 := wrap64 (by omega) (by omega)
       refine runf4 (an @s0 (an @s1 (an @s5 (an @s6 (an @s7 (an @s8 (an @s9 (an @hge (an @wx (an @w4 (an @hz3 @hc7))))))))))) ?_
       refine runf4 (an @s0 (an @s1 (an @s5 (an @s6 (an @s7 (an @s8 (an @s9 (an @hge (an @wx (an @w4 (an @hz3 @hc7))))))))))) ?_
       refine runf4 (an @s0 (an @s1 (an @s5 (an @s6 (an @s7 (an @s8 (an @s9 (an @hge (an @wx (an @w4 (an @hz3 @hc7))))))))))) ?_
       exact round_mk' (who.length - (i + 1)) _ (XB b' ++ [.row [.it .i64 0, .it .i64 (x1 + 1), .it .i64 (x2)] 3 1]) (Weak.sub 0 [0, 1, 2, 3, 4, 5, 6, 7, 8] ((((((((KeepR.nil _ _).cons 0 (intsV who) (intsV who) rfl rfl zsl).cons 1 (boolsV rounds) (boolsV rounds) rfl rfl zsl).cons 5 (.bo true) (.bo true) rfl rfl zsl).cons 6 (.ptr 3 0) (.ptr 3 0) rfl rfl zsl).cons 7 (entriesV (ents [1, 2, 3])) (entriesV (ents [1, 2, 3])) rfl rfl zsl).cons 8 (.wr 8 3 none) (.wr 8 3 none) rfl rfl zsl).cons 9 (.it .i64 ((i + 1 : Nat) : Int)) (.it .i64 ((i + 1 : Nat) : Int)) rfl rfl zsl) (xbrow_sub b' _ 8 rfl (by decide) rfl) rfl) (by omega)
        ⟨rfl, rfl, rfl, rfl, rfl, rfl, i + 1, _, _, x1 + 1, x2, b', rfl, rfl, by rw [Nat.succ_mul]; exact hb', hp', hm1', hm2', by omega, by omega, by omega, by omega, hcs1, (hcs2.trans hc2), hlt, rfl⟩
     ·have hsg : (p5 == 4) = false := beq_eq_false_iff_ne.2 h5
      obtain ⟨c, b', kt, hb', hp', ⟨_, hm1'⟩, ⟨_, hm2'⟩, hcs1, hcs2, hcs⟩ := bud_step1 hb (by omega) hp hm1 hm2 (by omega) (x := x1) (by omega) hc1 ht1 ht3 hh1
      refine runf4 (an @s0 (an @s1 (an @s5 (an @s6 (an @s7 (an @s8 (an @s9 (an @hrl' (an @hg (an @hszw (an @hszr @hlt'))))))))))) ?_
      refine runf4 (an @s0 (an @s1 (an @s5 (an @s6 (an @s7 (an @s8 (an @s9 (an @hg (an @hszw @hz3))))))))) ?_
      refine cp kp2 ?_
      refine runf4 (an @s0 (an @s1 (an @s5 (an @s6 (an @s7 (an @s8 (an @s9 (an @hg @hszw)))))))) ?_
      refine cp kp3 ?_
      refine runf4 (an @s0 (an @s1 (an @s5 (an @s6 (an @s7 (an @s8 (an @s9 (an @hg (an @hszw @w1))))))))) ?_
      refine cp kb1 ?_
      refine runf4 (an @s0 (an @s1 (an @s5 (an @s6 (an @s7 (an @s8 (an @s9 (an @hg @hszw)))))))) ?_
      refine cp kp5 ?_
      refine runf4 (an @s0 (an @s1 (an @s5 (an @s6 (an @s7 (an @s8 (an @s9 @hsg))))))) ?_
      refine runf4 (an @s0 (an @s1 (an @s5 (an @s6 (an @s7 (an @s8 (an @s9 @hsg))))))) ?_
      refine call_mk (AC.bx kt _) ?_
      rcases hcs with ⟨rfl, hx⟩ | ⟨hne, hx⟩
      ·have hge : x1 ≥ 16 := by omega
       have wx : IntKind.i64.wrap (x1 + 1) = x1 + 1 := wrap64 (by omega) (by omega)
       refine runf4 (an @s0 (an @s1 (an @s5 (an @s6 (an @s7 (an @s8 (an @s9 (an @hge (an @wx (an @w4 @hz3)))))))))) ?_
       refine runf4 (an @s0 (an @s1 (an @s5 (an @s6 (an @s7 (an @s8 (an @s9 (an @hge (an @wx (an @w4 @hz3)))))))))) ?_
       refine runf4 (an @s0 (an @s1 (an @s5 (an @s6 (an @s7 (an @s8 (an @s9 (an @hge (an @wx (an @w4 @hz3)))))))))) ?_
       exact round_mk' (who.length - (i + 1)) _ (XB b' ++ [.row [.it .i64 0, .it .i64 (x1 + 1), .it .i64 (x2)] 3 1]) (Weak.sub 0 [0, 1, 2, 3, 4, 5, 6, 7, 8] ((((((((KeepR.nil _ _).cons 0 (intsV who) (intsV who) rfl rfl zsl).cons 1 (boolsV rounds) (boolsV rounds) rfl rfl zsl).cons 5 (.bo true) (.bo true) rfl rfl zsl).cons 6 (.ptr 3 0) (.ptr 3 0) rfl rfl zsl).cons 7 (entriesV (ents [1, 2, 3])) (entriesV (ents [1, 2, 3])) rfl rfl zsl).cons 8 (.wr 8 3 none) (.wr 8 3 none) rfl rfl zsl).cons 9 (.it .i64 ((i + 1 : Nat) : Int)) (.it .i64 ((i + 1 : Nat) : Int)) rfl rfl zsl) (xbrow_sub b' _ 8 rfl (by decide) rfl) rfl) (by omega)
        ⟨rfl, rfl, rfl, rfl, rfl, rfl, i + 1, _, _, x1 + 1, x2, b', rfl, rfl, by rw [Nat.succ_mul]; exact hb', hp', hm1', hm2', by omega, by omega, by omega, by omega, hcs1, (hcs2.trans hc2), hlt, rfl⟩
      ·have hge : ¬ x1 ≥ 16 := by omega
       have hc7 : (c == 7) = false := beq_eq_false_iff_ne.2 hne
       have wx : IntKind.i64.wrap (x1 + 1) = x1 + 1 := wrap64 (by omega) (by omega)
       refine runf4 (an @s0 (an @s1 (an @s5 (an @s6 (an @s7 (an @s8 (an @s9 (an @hge (an @wx (an @w4 (an @hz3 @hc7))))))))))) ?_
       refine runf4 (an @s0 (an @s1 (an @s5 (an @s6 (an @s7 (an @s8 (an @s9 (an @hge (an @wx (an @w4 (an @hz3 @hc7))))))))))) ?_
       refine runf4 (an @s0 (an @s1 (an @s5 (an @s6 (an @s7 (an @s8 (an @s9 (an @hge (an @wx (an @w4 (an @hz3 @hc7))))))))))) ?_
       exact round_mk' (who.length - (i + 1)) _ (XB b' ++ [.row [.it .i64 0, .it .i64 (x1 + 1), .it .i64 (x2)] 3 1]) (Weak.sub 0 [0, 1, 2, 3, 4, 5, 6, 7, 8] ((((((((KeepR.nil _ _).cons 0 (intsV who) (intsV who) rfl rfl zsl).cons 1 (boolsV rounds) (boolsV rounds) rfl rfl zsl).cons 5 (.bo true) (.bo true) rfl rfl zsl).cons 6 (.ptr 3 0) (.ptr 3 0) rfl rfl zsl).cons 7 (entriesV (ents [1, 2, 3])) (entriesV (ents [1, 2, 3])) rfl rfl zsl).cons 8 (.wr 8 3 none) (.wr 8 3 none) rfl rfl zsl).cons 9 (.it .i64 ((i + 1 : Nat) : Int)) (.it .i64 ((i + 1 : Nat) : Int)) rfl rfl zsl) (xbrow_sub b' _ 8 rfl (by decide) rfl) rfl) (by omega)
        ⟨rfl, rfl, rfl, rfl, rfl, rfl, i + 1, _, _, x1 + 1, x2, b', rfl, rfl, by rw [Nat.succ_mul]; exact hb', hp', hm1', hm2', by omega, by omega, by omega, by omega, hcs1, (hcs2.trans hc2), hlt, rfl⟩
    ·by_cases h5 : p5 = 4
     ·have hsg : (p5 == 4) = true := beq_iff_eq.2 h5
      obtain ⟨c, b', kt, hb', hp', ⟨_, hm1'⟩, ⟨_, hm2'⟩, hcs1, hcs2, hcs⟩ := bud_step2 hb (by omega) hp hm1 hm2 (by omega) (x := x2) (by omega) hc2 ht1 ht3 hh2'
      refine runf4 (an @s0 (an @s1 (an @s5 (an @s6 (an @s7 (an @s8 (an @s9 (an @hrl' (an @hg (an @hszw (an @hszr @hlt'))))))))))) ?_
      refine runf4 (an @s0 (an @s1 (an @s5 (an @s6 (an @s7 (an @s8 (an @s9 (an @hg (an @hszw @hz3))))))))) ?_
      refine cp kp2 ?_
      refine runf4 (an @s0 (an @s1 (an @s5 (an @s6 (an @s7 (an @s8 (an @s9 (an @hg @hszw)))))))) ?_
      refine cp kp3 ?_
      refine runf4 (an @s0 (an @s1 (an @s5 (an @s6 (an @s7 (an @s8 (an @s9 (an @hg (an @hszw @w1))))))))) ?_
      refine cp kb2 ?_
      refine runf4 (an @s0 (an @s1 (an @s5 (an @s6 (an @s7 (an @s8 (an @s9 (an @hg @hszw)))))))) ?_
      refine cp kp5 ?_
      refine runf4 (an @s0 (an @s1 (an @s5 (an @s6 (an @s7 (an @s8 (an @s9 @hsg))))))) ?_
      refine runf4 (an @s0 (an @s1 (an @s5 (an @s6 (an @s7 (an @s8 (an @s9 @hsg))))))) ?_
      refine call_mk (AC.bx kt _) ?_
      rcases hcs with ⟨rfl, hx⟩ | ⟨hne, hx⟩
      ·have hge : x2 ≥ 16 := by omega
       have wx : IntKind.i64.wrap (x2 + 1) = x2 + 1 := wrap64 (by omega) (by omega)
       refine runf4 (an @s0 (an @s1 (an @s5 (an @s6 (an @s7 (an @s8 (an @s9 (an @hge (an @wx (an @w4 @hz3)))))))))) ?_
       refine runf4 (an @s0 (an @s1 (an @s5 (an @s6 (an @s7 (an @s8 (an @s9 (an @hge (an @wx (an @w4 @hz3)))))))))) ?_
       refine runf4 (an @s0 (an @s1 (an @s5 (an @s6 (an @s7 (an @s8 (an @s9 (an @hge (an @wx (an @w4 @hz3)))))))))) ?_
       exact round_mk' (who.length - (i + 1)) _ (XB b' ++ [.row [.it .i64 0, .it .i64 (x1), .it .i64 (x2 + 1)] 3 1]) (Weak.sub 0 [0, 1, 2, 3, 4, 5, 6, 7, 8] ((((((((KeepR.nil _ _).cons 0 (intsV who) (intsV who) rfl rfl zsl).cons 1 (boolsV rounds) (boolsV rounds) rfl rfl zsl).cons 5 (.bo true) (.bo true) rfl rfl zsl).cons 6 (.ptr 3 0) (.ptr 3 0) rfl rfl zsl).cons 7 (entriesV (ents [1, 2, 3])) (entriesV (ents [1, 2, 3])) rfl rfl zsl).cons 8 (.wr 8 3 none) (.wr 8 3 none) rfl rfl zsl).cons 9 (.it .i64 ((i + 1 : Nat) : Int)) (.it .i64 ((i + 1 : Nat) : Int)) rfl rfl zsl) (xbrow_sub b' _ 8 rfl (by decide) rfl) rfl) (by omega)
        ⟨rfl, rfl, rfl, rfl, rfl, rfl, i + 1, _, _, x1, x2 + 1, b', rfl, rfl, by rw [Nat.succ_mul]; exact hb', hp', hm1', hm2', by omega, by omega, by omega, by omega, (hcs2.trans hc1), hcs1, hlt, rfl⟩
      ·have hge : ¬ x2 ≥ 16 := by omega
       have hc7 : (c == 7) = false := beq_eq_false_iff_ne.2 hne
       have wx : IntKind.i64.wrap (x2 + 1) = x2 + 1 := wrap64 (by omega) (by omega)
       refine runf4 (an @s0 (an @s1 (an @s5 (an @s6 (an @s7 (an @s8 (an @s9 (an @hge (an @wx (an @w4 (an @hz3 @hc7))))))))))) ?_
       refine runf4 (an @s0 (an @s1 (an @s5 (an @s6 (an @s7 (an @s8 (an @s9 (an @hge (an @wx (an @w4 (an @hz3 @hc7))))))))))) ?_
       refine runf4 (an @s0 (an @s1 (an @s5 (an @s6 (an @s7 (an @s8 (an @s9 (an @hge (an @wx (an @w4 (an @hz3 @hc7))))))))))) ?_
       exact round_mk' (who.length - (i + 1)) _ (XB b' ++ [.row [.it .i64 0, .it .i64 (x1), .it .i64 (x2 + 1)] 3 1]) (Weak.sub 0 [0, 1, 2, 3, 4, 5, 6, 7, 8] ((((((((KeepR.nil _ _).cons 0 (intsV who) (intsV who) rfl rfl zsl).cons 1 (boolsV rounds) (boolsV rounds) rfl rfl zsl).cons 5 (.bo true) (.bo true) rfl rfl zsl).cons 6 (.ptr 3 0) (.ptr 3 0) rfl rfl zsl).cons 7 (entriesV (ents [1, 2, 3])) (entriesV (ents [1, 2, 3])) rfl rfl zsl).cons 8 (.wr 8 3 none) (.wr 8 3 none) rfl rfl zsl).cons 9 (.it .i64 ((i + 1 : Nat) : Int)) (.it .i64 ((i + 1 : Nat) : Int)) rfl rfl zsl) (xbrow_sub b' _ 8 rfl (by decide) rfl) rfl) (by omega)
        ⟨rfl, rfl, rfl, rfl, rfl, rfl, i + 1, _, _, x1, x2 + 1, b', rfl, rfl, by rw [Nat.succ_mul]; exact hb', hp', hm1', hm2', by omega, by omega, by omega, by omega, (hcs2.trans hc1), hcs1, hlt, rfl⟩
     ·have hsg : (p5 == 4) = false := beq_eq_false_iff_ne.2 h5
      obtain ⟨c, b', kt, hb', hp', ⟨_, hm1'⟩, ⟨_, hm2'⟩, hcs1, hcs2, hcs⟩ := bud_step2 hb (by omega) hp hm1 hm2 (by omega) (x := x2) (by omega) hc2 ht1 ht3 hh2
      refine runf4 (an @s0 (an @s1 (an @s5 (an @s6 (an @s7 (an @s8 (an @s9 (an @hrl' (an @hg (an @hszw (an @hszr @hlt'))))))))))) ?_
      refine runf4 (an @s0 (an @s1 (an @s5 (an @s6 (an @s7 (an @s8 (an @s9 (an @hg (an @hszw @hz3))))))))) ?_
      refine cp kp2 ?_
      refine runf4 (an @s0 (an @s1 (an @s5 (an @s6 (an @s7 (an @s8 (an @s9 (an @hg @hszw)))))))) ?_
      refine cp kp3 ?_
      refine runf4 (an @s0 (an @s1 (an @s5 (an @s6 (an @s7 (an @s8 (an @s9 (an @hg (an @hszw @w1))))))))) ?_
      refine cp kb2 ?_
      refine runf4 (an @s0 (an @s1 (an @s5 (an @s6 (an @s7 (an @s8 (an @s9 (an @hg @hszw)))))))) ?_
      refine cp kp5 ?_
      refine runf4 (an @s0 (an @s1 (an @s5 (an @s6 (an @s7 (an @s8 (an @s9 @hsg))))))) ?_
      refine runf4 (an @s0 (an @s1 (an @s5 (an @s6 (an @s7 (an @s8 (an @s9 @hsg))))))) ?_
      refine call_mk (AC.bx kt _) ?_
      rcases hcs with ⟨rfl, hx⟩ | ⟨hne, hx⟩
      ·have hge : x2 ≥ 16 := by omega
       have wx : IntKind.i64.wrap (x2 + 1) = x2 + 1 := wrap64 (by omega) (by omega)
       refine runf4 (an @s0 (an @s1 (an @s5 (an @s6 (an @s7 (an @s8 (an @s9 (an @hge (an @wx (an @w4 @hz3)))))))))) ?_
       refine runf4 (an @s0 (an @s1 (an @s5 (an @s6 (an @s7 (an @s8 (an @s9 (an @hge (an @wx (an @w4 @hz3)))))))))) ?_
       refine runf4 (an @s0 (an @s1 (an @s5 (an @s6 (an @s7 (an @s8 (an @s9 (an @hge (an @wx (an @w4 @hz3)))))))))) ?_
       exact round_mk' (who.length - (i + 1)) _ (XB b' ++ [.row [.it .i64 0, .it .i64 (x1), .it .i64 (x2 + 1)] 3 1]) (Weak.sub 0 [0, 1, 2, 3, 4, 5, 6, 7, 8] ((((((((KeepR.nil _ _).cons 0 (intsV who) (intsV who) rfl rfl zsl).cons 1 (boolsV rounds) (boolsV rounds) rfl rfl zsl).cons 5 (.bo true) (.bo true) rfl rfl zsl).cons 6 (.ptr 3 0) (.ptr 3 0) rfl rfl zsl).cons 7 (entriesV (ents [1, 2, 3])) (entriesV (ents [1, 2, 3])) rfl rfl zsl).cons 8 (.wr 8 3 none) (.wr 8 3 none) rfl rfl zsl).cons 9 (.it .i64 ((i + 1 : Nat) : Int)) (.it .i64 ((i + 1 : Nat) : Int)) rfl rfl zsl) (xbrow_sub b' _ 8 rfl (by decide) rfl) rfl) (by omega)
        ⟨rfl, rfl, rfl, rfl, rfl, rfl, i + 1, _, _, x1, x2 + 1, b', rfl, rfl, by rw [Nat.succ_mul]; exact hb', hp', hm1', hm2', by omega, by omega, by omega, by omega, (hcs2.trans hc1), hcs1, hlt, rfl⟩
      ·have hge : ¬ x2 ≥ 16 := by omega
       have hc7 : (c == 7) = false := beq_eq_false_iff_ne.2 hne
       have wx : IntKind.i64.wrap (x2 + 1) = x2 + 1 := wrap64 (by omega) (by omega)
       refine runf4 (an @s0 (an @s1 (an @s5 (an @s6 (an @s7 (an @s8 (an @s9 (an @hge (an @wx (an @w4 (an @hz3 @hc7))))))))))) ?_
       refine runf4 (an @s0 (an @s1 (an @s5 (an @s6 (an @s7 (an @s8 (an @s9 (an @hge (an @wx (an @w4 (an @hz3 @hc7))))))))))) ?_
       refine runf4 (an @s0 (an @s1 (an @s5 (an @s6 (an @s7 (an @s8 (an @s9 (an @hge (an @wx (an @w4 (an @hz3 @hc7))))))))))) ?_
       exact round_mk' (who.length - (i + 1)) _ (XB b' ++ [.row [.it .i64 0, .it .i64 (x1), .it .i64 (x2 + 1)] 3 1]) (Weak.sub 0 [0, 1, 2, 3, 4, 5, 6, 7, 8] ((((((((KeepR.nil _ _).cons 0 (intsV who) (intsV who) rfl rfl zsl).cons 1 (boolsV rounds) (boolsV rounds) rfl rfl zsl).cons 5 (.bo true) (.bo true) rfl rfl zsl).cons 6 (.ptr 3 0) (.ptr 3 0) rfl rfl zsl).cons 7 (entriesV (ents [1, 2, 3])) (entriesV (ents [1, 2, 3])) rfl rfl zsl).cons 8 (.wr 8 3 none) (.wr 8 3 none) rfl rfl zsl).cons 9 (.it .i64 ((i + 1 : Nat) : Int)) (.it .i64 ((i + 1 : Nat) : Int)) rfl rfl zsl) (xbrow_sub b' _ 8 rfl (by decide) rfl) rfl) (by omega)
        ⟨rfl, rfl, rfl, rfl, rfl, rfl, i + 1, _, _, x1, x2 + 1, b', rfl, rfl, by rw [Nat.succ_mul]; exact hb', hp', hm1', hm2', by omega, by omega, by omega, by omega, (hcs2.trans hc1), hcs1, hlt, rfl⟩
 ·obtain rfl : i = who.length := by omega
  have hlt' : ¬ (who.length : Int) < (who.length : Int) := by omega
  refine runf4 (an @s0 (an @s1 (an @s5 (an @s6 (an @s7 (an @s8 (an @s9 @hlt'))))))) ?_
  exact er0
end Go.Proofs.YtleljbiejeofgaaGreatDoor.Pe
end
