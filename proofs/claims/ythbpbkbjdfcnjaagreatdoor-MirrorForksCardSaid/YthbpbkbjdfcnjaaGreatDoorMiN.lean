/- The walk of MirrorForks on plain values. -/
import Derived.Test.YthbpbkbjdfcnjaaGreatDoorMiL
import Derived.Test.YthbpbkbjdfcnjaaGreatDoorMiQ
import Derived.Test.YthbpbkbjdfcnjaaGreatDoorPeUW
set_option linter.unusedSectionVars false
set_option linter.unusedVariables false
set_option linter.unusedSimpArgs false
namespace Go.Proofs.YthbpbkbjdfcnjaaGreatDoor.Pe
open Go Go.RowKit Co Sg Ac It Sl
set_option maxRecDepth 100000
set_option maxHeartbeats 4000000
theorem mirrorForks_c (ps : List Int) (server : Int) (k : Key) (l o : List It.Entry) (size : Int) (st : Step) (hp : InL ps) (hk : InK k) (hes : InEs l) (heo : InEs o) (hsz : -9223372036854775808 ≤ size ∧ size ≤ 9223372036854775807) (hst : InS st) :
  AC Tryz.prog 4 [intsV ps, .it .i64 server, keyV k, entriesV l, entriesV o, .it .i64 size, stepV st] [] (.bo true) [] := by
 refine AC.enter4 [11, 12, 13, 14, 15, 16, 17, 22, 23] [] [(17, ([1, 3], [155, 159], [157])), (18, ([], [], []))] [] Tryz.func4 rfl (by decide) (by decide) (Nat.le_of_ble_eq_true rfl) (by kernel_rfl) ?_; simp only [eraseC, eraseO, List.map_cons, List.map_nil, List.map_toArray, List.getElem?_toArray, List.getElem?_cons_zero, List.getElem?_cons_succ, Option.bind_some, Option.bind_none, List.append_eq, List.cons_append, List.nil_append, eraseC4, eraseC3, hasSp, ordOf, List.isEmpty_nil, List.isEmpty_cons, Bool.and_true, Bool.and_false, Bool.and_self, Bool.false_and, Bool.true_and, List.lookup, Nat.reduceBEq, beq_self_eq_true, Option.isSome_some, Option.isSome_none, Bool.or_true, Bool.true_or, Bool.or_false, Bool.not_true, Bool.not_false, Bool.false_eq_true, if_true, if_false, ↓reduceIte, List.size_toArray, List.length_cons, List.length_nil, List.range_succ_eq_map, List.range_zero, Nat.reduceAdd, List.filterMap_cons, List.filterMap_nil]
 have hes1 := hes.len
 have heo1 := heo.len
 have hp1 := hp.len
 have hszp : allSz 1 (ps.map (AV.it .i64)) = true := allSz_map 1 _ (fun _ => rfl) _
 have hszl := entries_sz l
 have hszo := entries_sz o
 have kf1 := few16_c l ps hes1 hp1
 have kf2 := few16_c o ps heo1 hp1
 refine run4 ?_
 refine cp small16_c ?_
 refine run4 ?_
 refine cp kf1 ?_
 cases hf1 : few16 l ps with
 | false =>
  refine runf4 @hf1 ?_
  exact er0
 | true =>
 obtain ⟨hl80, hp20⟩ := few16_iff hf1
 have hl := hes.eok hl80
 refine runf4 @hf1 ?_
 refine cp kf2 ?_
 cases hf2 : few16 o ps with
 | false =>
  refine runf4 @hf2 ?_
  exact er0
 | true =>
 obtain ⟨ho80, _⟩ := few16_iff hf2
 have ho := heo.eok ho80
 by_cases c2 : 0 ≤ server
 rotate_left
 ·refine runf4 @hf2 ?_
  exact er0
 by_cases c3 : server < (ps.length : Int)
 rotate_left
 ·refine runf4 @hf2 ?_
  exact er0
 have hg : ps[server.toNat]? = some (ps.getD server.toNat 0) := by
  rw [List.getD_eq_getElem?_getD, List.getElem?_eq_getElem (show server.toNat < ps.length by omega)]
  rfl
 by_cases c4 : ps.getD server.toNat 0 = k.pub
 rotate_left
 ·generalize ps.getD server.toNat 0 = p at *
  have q4 : (p != k.pub) = true := bneT c4
  refine runf4 (an @hf2 (an @c2 (an @c3 (an @hg (an @hszp @q4))))) ?_
  exact er0
 have hg' := hg
 rw [c4] at hg'
 have q4 : (k.pub != k.pub) = false := bneF rfl
 by_cases c5 : 1 ≤ size
 rotate_left
 ·refine runf4 (an @hf2 (an @c2 (an @c3 (an @hg' (an @hszp @q4))))) ?_
  exact er0
 by_cases c6 : size ≤ 64
 rotate_left
 ·refine runf4 (an @hf2 (an @c2 (an @c3 (an @hg' (an @hszp @q4))))) ?_
  exact er0
 have kr := keyright_c k hk.secret
 have kh1 := honest16_c ps l hp hl
 have kh2 := honest16_c ps o hp ho
 cases hr : k.right with
 | false =>
  rw [hr] at kr
  refine runf4 (an @hf2 (an @c2 (an @c3 (an @hg' (an @hszp @q4))))) ?_
  refine cp kr ?_
  refine run4 ?_
  exact er0
 | true =>
 rw [hr] at kr
 cases hh1 : (times l && l.all (sound ps)) with
 | false =>
  rw [hh1] at kh1
  refine runf4 (an @hf2 (an @c2 (an @c3 (an @hg' (an @hszp @q4))))) ?_
  refine cp kr ?_
  refine run4 ?_
  refine cp kh1 ?_
  refine run4 ?_
  exact er0
 | true =>
 rw [hh1] at kh1
 cases hh2 : (times o && o.all (sound ps)) with
 | false =>
  rw [hh2] at kh2
  refine runf4 (an @hf2 (an @c2 (an @c3 (an @hg' (an @hszp @q4))))) ?_
  refine cp kr ?_
  refine run4 ?_
  refine cp kh1 ?_
  refine run4 ?_
  refine cp kh2 ?_
  refine run4 ?_
  exact er0
 | true =>
 rw [hh2] at kh2
 have g1 := good_of hf1 c2 c3 c4 hr hh1
 have g2 := good_of hf2 c2 c3 c4 hr hh2
 obtain ⟨frm, to⟩ := st
 have hfr := hst.frm
 simp only at hfr
 have kb1 := batch16_c k server l 0 size hk.secret hl
 have kb2 := batch16_c k server o frm to hk.secret ho
 rw [batchOf_eq g1] at kb1
 rw [batchOf_eq g2] at kb2
 refine runf4 (an @hf2 (an @c2 (an @c3 (an @hg' (an @hszp @q4))))) ?_
 refine cp kr ?_
 refine run4 ?_
 refine cp kh1 ?_
 refine run4 ?_
 refine cp kh2 ?_
 refine run4 ?_
 refine cp kb1 ?_
 by_cases hc1 : 1 ≤ size ∧ size ≤ l.length ∧ (0 : Int) ≤ 0 ∧ 0 < size ∧ size - 0 ≤ 64
 rotate_left
 ·rw [if_neg hc1]
  refine run4 ?_
  refine cp kb2 ?_
  refine run4 ?_
  exact er0
 rw [if_pos hc1]
 refine run4 ?_
 refine cp kb2 ?_
 by_cases hc2 : 1 ≤ to ∧ to ≤ o.length ∧ 0 ≤ frm ∧ frm < to ∧ to - frm ≤ 64
 rotate_left
 ·rw [if_neg hc2]
  refine run4 ?_
  exact er0
 rw [if_pos hc2]
 clear kb1 kb2
 obtain ⟨s, rfl⟩ := Int.eq_ofNat_of_zero_le (show 0 ≤ size by omega)
 obtain ⟨t, rfl⟩ := Int.eq_ofNat_of_zero_le (show 0 ≤ to by omega)
 obtain ⟨f, rfl⟩ := Int.eq_ofNat_of_zero_le (show 0 ≤ frm by omega)
 simp only [Int.toNat_natCast, show (0 : Int).toNat = 0 from rfl, List.drop_zero]
 have h1 : f < t := by omega
 have h2 : t ≤ o.length := by omega
 have h3 : t - f ≤ 64 := by omega
 have hsl : s ≤ l.length := by omega
 have hok0 : EOk [] := ⟨by decide, fun e he => by cases he⟩
 have k1 := mtake_c ps ⟨server, [], []⟩ ⟨headTo k server l s, 0, l.take s⟩ hp hok0 (Nat.zero_le _) (Nat.zero_le _) (hl.take s) (by show -9223372036854775808 ≤ (0 : Int) ∧ (0 : Int) ≤ 9223372036854775807; decide)
 have e1 := take_own g1 ⟨server, [], []⟩ rfl (n := 0) (Nat.zero_le _) rfl (frm := 0) (t := s) (by omega) hsl (by omega)
 rw [List.drop_zero, if_neg (by omega), if_neg (by omega)] at e1
 have e1 : Sl.take ps ⟨server, [], []⟩ ⟨headTo k server l s, 0, l.take s⟩ = (⟨server, l.take s, [headTo k server l s]⟩, 0) := e1
 rw [e1] at k1
 have k2 := mtake_c ps ⟨server, l.take s, [headTo k server l s]⟩ ⟨headTo k server o t, f, (o.take t).drop f⟩ hp (hl.take s) (by show (l.take s).length ≤ _; rw [List.length_take]; omega) (by show 1 ≤ 1000000; decide) ((ho.take t).drop f) hfr
 have hF := forks g2 ⟨server, l.take s, [headTo k server l s]⟩ rfl (s := s) (l := l) hsl rfl h1 h2 h3
 have hcode := take_code ps ⟨server, l.take s, [headTo k server l s]⟩ ⟨headTo k server o t, f, (o.take t).drop f⟩
 generalize Sl.take ps ⟨server, l.take s, [headTo k server l s]⟩ ⟨headTo k server o t, f, (o.take t).drop f⟩ = tk at *
 obtain ⟨m3, cd⟩ := tk
 simp only at hF hcode k2
 clear e1
 refine run4 ?_
 refine cp (mnew_c server) ?_
 generalize headTo k server l s = hd1 at *
 generalize headTo k server o t = hd2 at *
 refine run4 ?_
 refine cp k1 ?_
 refine run4 ?_
 refine cp k2 ?_
 have hpass : ∀ {Q : Prop}, (cd = 0 → Q) → (cd ≠ 0 → m3 = mirror0 → Q) → Q := fun a b => by
  by_cases h : cd = 0
  ·exact a h
  ·exact b h (hcode h)
 by_cases hgp : s < f
 ·obtain rfl := hF.gap hgp
  obtain rfl := hcode (by decide)
  have hgI : (s : Int) < (f : Int) := by omega
  have hz1 : mirror0.entries.length = 0 := rfl
  have hz2 : mirror0.heads.length = 0 := rfl
  refine runf4 (an @hgI (an @hz1 @hz2)) ?_
  exact er0
 have hgI : ¬ (s : Int) < (f : Int) := by omega
 have hfs : f ≤ s := by omega
 have hcl := clash_slices l o hsl h2 hfs (by omega)
 have hmin : (if (t : Int) < (s : Int) then (t : Int) else (s : Int)) = ((min s t : Nat) : Int) := by
  split <;> omega
 have hfl : f ≤ l.length := by omega
 have hcm1 : min s t ≤ l.length := by omega
 have hcm2 : min s t ≤ o.length := by omega
 have hszf := entries_sz (l.take f)
 have hszd := entries_sz ((o.take t).drop f)
 have hmap : (l.take f).map entryV ++ ((o.take t).drop f).map entryV = (l.take f ++ (o.take t).drop f).map entryV := List.map_append.symm
 have hdl : ((o.take t).drop f).length = t - f := by rw [List.length_drop, List.length_take]; omega
 have hfl' : (l.take f).length = f := by rw [List.length_take]; omega
 have hlok : EOk (l.take f ++ (o.take t).drop f) := ⟨by rw [List.length_append, hdl, hfl']; omega, fun e he => by
  rcases List.mem_append.1 he with h | h
  ·exact hl.iz e (List.mem_of_mem_take h)
  ·exact ho.iz e (List.mem_of_mem_take (List.mem_of_mem_drop h))⟩
 have ks := fsame15_c ((l.take (min s t)).drop f) ((o.take (min s t)).drop f) ((hl.take _).drop _) ((ho.take _).drop _)
 have kl := fsame15_c (l.take f ++ (o.take t).drop f) (o.take t) hlok (ho.take t)
 have kr1 := sroot_c (l.take f ++ (o.take t).drop f) hlok.len hlok.iz
 have kr2 := sroot_c (o.take t) (ho.take t).len (ho.take t).iz
 have hFf := hF.fork hfs
 have hFs := hF.same hfs
 have hFr := hF.root hfs
 clear hF
 rw [hcl] at hFf hFs hFr
 clear hcl
 generalize decide ((l.take (min s t)).drop f = (o.take (min s t)).drop f) = q at *
 have hz1 : mirror0.entries.length = 0 := rfl
 have hz2 : mirror0.heads.length = 0 := rfl
 have hfla : flat ((l.take f).map entryV) ++ flat (((o.take t).drop f).map entryV) = flat ((l.take f ++ (o.take t).drop f).map entryV) := by rw [← flat_append, hmap]
 have hszlog : allSz 50 ((l.take f ++ (o.take t).drop f).map entryV) = true := entries_sz _
 have hoklog : (flat ((l.take f ++ (o.take t).drop f).map entryV)).all (AV.o1 0) = true := flat_ok _ (fun _ => rfl) _
 have hfl1 : (flat ((l.take f).map entryV)).length = f * 50 := by rw [flat_len entryV 50 (fun _ => rfl), hfl']
 have hlen2 : ((l.take f).map entryV).length = f := by rw [List.length_map, hfl']
 have hnlog : f + (t - f) = ((l.take f ++ (o.take t).drop f).map entryV).length := by rw [List.length_map, List.length_append, hfl', hdl]
 have hoklog' : (flat ((l.take f).map entryV) ++ flat (((o.take t).drop f).map entryV)).all (AV.o1 0) = true := by rw [hfla]; exact hoklog
 by_cases hB : (decide (f < min s t) && !q) = true
 ·obtain rfl := hFf.2 hB
  obtain rfl := hcode (by decide)
  rw [Bool.and_eq_true, decide_eq_true_eq, Bool.not_eq_true'] at hB
  obtain ⟨hfm0, rfl⟩ := hB
  have hfm : ((f : Nat) : Int) < ((min s t : Nat) : Int) := by omega
  refine runf4 (an @hgI (an @hz1 @hz2)) ?_
  refine wk0 ?_; refine run4 ?_
  repeat (first | refine k4 ?_ | refine k4r ?_ | (refine a4r ?_; refine runf4 (an @hszl (an @hszo (an @hszf (an @hszd (an @hfl (an @hfl' (an @hdl (an @hfl1 @hlen2)))))))) ?_) | (refine a4 ?_; refine runf4 (an @hszl (an @hszo (an @hszf (an @hszd (an @hfl (an @hfl' (an @hdl (an @hfl1 @hlen2)))))))) ?_)); try refine runf4 (an @hszl (an @hszo (an @hszf (an @hszd (an @hfl (an @hfl' (an @hdl (an @hfl1 @hlen2)))))))) ?_
  refine p4 (by (conv => lhs; simp -implicitDefEqProofs (maxSteps := 4000000) (disch := (first | omega | (simp only [List.length_append, List.length_cons, List.length_map, List.length_nil, List.length_take, List.length_drop]; omega))) only [AppF_append, aAppW, ↓zpre, zpost, cst1, ↓reduceIte, Nat.reduceEqDiff, Nat.reduceAdd, Nat.reduceLT, Nat.reduceLeDiff, Nat.reduceMul, Nat.reduceSub, Int.reduceToNat, Int.reduceAdd, Int.reduceSub, Int.reduceMul, Int.reduceNeg, Int.reduceLE, Int.reduceLT, Int.reduceEq, Int.reduceBEq, Int.reduceBNe, Nat.reduceBEq, Nat.reduceBNe, aBin, aEq, aEqF, aNilEq, aInt, aStr, aUn, aConv, aNil, aFldAddr, aFld, aIdxAddr, aIdx, aBui, aLoad, aStore, aLits, aLit, aMake, aMakeW, aMapSet, aLook, kfind, keq, kok, lookOut, aMk, aRange, aNext, aBytes, aApp, srcOf, aSlice, aBound, modeCut, apart, aFill, aval, aGd, ACall, AV.wk, AV.wk2, AV.wk1, AV.cells, AV.solid, AV.ro, AV.ro1, ← List.map_take, ← List.map_drop, reduceCtorEq, Option.isNone_some, Option.isSome_none, tf0, tf1, tf2, tf3, tf4, tf5, tf6, tf7, tf8, tf9, tf10, tf11, tf12, tf13, tf14, tf15, tf16, tf17, tf18, tf19, tf20, tf21, tf22, tf23, tf24, tf25, tf26, tf27, tf28, hszl, hszo, hszf, hszd, hfl, hfl', hdl, hfl1, hlen2]); try rfl) ?_
  repeat (first | refine k4 ?_ | refine k4r ?_ | (refine a4r ?_; refine runf4 (an @hszl (an @hszo (an @hszf (an @hszd (an @hfl (an @hfl' (an @hdl (an @hfl1 @hlen2)))))))) ?_) | (refine a4 ?_; refine runf4 (an @hszl (an @hszo (an @hszf (an @hszd (an @hfl (an @hfl' (an @hdl (an @hfl1 @hlen2)))))))) ?_)); try refine runf4 (an @hszl (an @hszo (an @hszf (an @hszd (an @hfl (an @hfl' (an @hdl (an @hfl1 @hlen2)))))))) ?_
  refine wkz 25 6 hfla hnlog hszlog hoklog' ?_
  refine runf4 (an @hszl (an @hszo (an @hszf (an @hszd (an @hfl (an @hfl' (an @hdl (an @hfl1 (an @hlen2 (an @hmin (an @hcm1 (an @hcm2 @hfm)))))))))))) ?_
  refine cp ks ?_
  refine run4 ?_
  exact er0
 have hq1 : f < min s t → q = true := fun h => by
  cases q with
  | true => rfl
  | false => exact absurd (by rw [decide_eq_true h]; rfl) hB
 have hB0 : (decide (f < min s t) && !q) = false := by simpa using hB
 have h5 : cd ≠ 5 := fun h => hB (hFf.1 h)
 have hroot := hFr hB0
 by_cases hS : l.take f ++ (o.take t).drop f = o.take t
 ·obtain rfl : cd = 0 := hFs hB0 hS
  rw [decide_eq_true hS] at kl
  by_cases hfm0 : f < min s t
  ·have hfm : ((f : Nat) : Int) < ((min s t : Nat) : Int) := by omega
   obtain rfl : q = true := hq1 hfm0
   refine runf4 (an @hgI (an @hz1 @hz2)) ?_
   refine wk0 ?_; refine run4 ?_
   repeat (first | refine k4 ?_ | refine k4r ?_ | (refine a4r ?_; refine runf4 (an @hszl (an @hszo (an @hszf (an @hszd (an @hfl (an @hfl' (an @hdl (an @hfl1 @hlen2)))))))) ?_) | (refine a4 ?_; refine runf4 (an @hszl (an @hszo (an @hszf (an @hszd (an @hfl (an @hfl' (an @hdl (an @hfl1 @hlen2)))))))) ?_)); try refine runf4 (an @hszl (an @hszo (an @hszf (an @hszd (an @hfl (an @hfl' (an @hdl (an @hfl1 @hlen2)))))))) ?_
   refine p4 (by (conv => lhs; simp -implicitDefEqProofs (maxSteps := 4000000) (disch := (first | omega | (simp only [List.length_append, List.length_cons, List.length_map, List.length_nil, List.length_take, List.length_drop]; omega))) only [AppF_append, aAppW, ↓zpre, zpost, cst1, ↓reduceIte, Nat.reduceEqDiff, Nat.reduceAdd, Nat.reduceLT, Nat.reduceLeDiff, Nat.reduceMul, Nat.reduceSub, Int.reduceToNat, Int.reduceAdd, Int.reduceSub, Int.reduceMul, Int.reduceNeg, Int.reduceLE, Int.reduceLT, Int.reduceEq, Int.reduceBEq, Int.reduceBNe, Nat.reduceBEq, Nat.reduceBNe, aBin, aEq, aEqF, aNilEq, aInt, aStr, aUn, aConv, aNil, aFldAddr, aFld, aIdxAddr, aIdx, aBui, aLoad, aStore, aLits, aLit, aMake, aMakeW, aMapSet, aLook, kfind, keq, kok, lookOut, aMk, aRange, aNext, aBytes, aApp, srcOf, aSlice, aBound, modeCut, apart, aFill, aval, aGd, ACall, AV.wk, AV.wk2, AV.wk1, AV.cells, AV.solid, AV.ro, AV.ro1, ← List.map_take, ← List.map_drop, reduceCtorEq, Option.isNone_some, Option.isSome_none, tf0, tf1, tf2, tf3, tf4, tf5, tf6, tf7, tf8, tf9, tf10, tf11, tf12, tf13, tf14, tf15, tf16, tf17, tf18, tf19, tf20, tf21, tf22, tf23, tf24, tf25, tf26, tf27, tf28, hszl, hszo, hszf, hszd, hfl, hfl', hdl, hfl1, hlen2]); try rfl) ?_
   repeat (first | refine k4 ?_ | refine k4r ?_ | (refine a4r ?_; refine runf4 (an @hszl (an @hszo (an @hszf (an @hszd (an @hfl (an @hfl' (an @hdl (an @hfl1 @hlen2)))))))) ?_) | (refine a4 ?_; refine runf4 (an @hszl (an @hszo (an @hszf (an @hszd (an @hfl (an @hfl' (an @hdl (an @hfl1 @hlen2)))))))) ?_)); try refine runf4 (an @hszl (an @hszo (an @hszf (an @hszd (an @hfl (an @hfl' (an @hdl (an @hfl1 @hlen2)))))))) ?_
   refine wkz 25 6 hfla hnlog hszlog hoklog' ?_
   refine runf4 (an @hszl (an @hszo (an @hszf (an @hszd (an @hfl (an @hfl' (an @hdl (an @hfl1 (an @hlen2 (an @hmin (an @hcm1 (an @hcm2 @hfm)))))))))))) ?_
   refine cp ks ?_
   refine runf4 (an @hszl (an @hszo (an @hszf (an @hszd (an @hfl (an @hfl' (an @hdl (an @hfl1 (an @hlen2 @h2))))))))) ?_
   refine cp kl ?_
   refine run4 ?_
   exact er0
  ·have hfm : ¬ ((f : Nat) : Int) < ((min s t : Nat) : Int) := by omega
   refine runf4 (an @hgI (an @hz1 @hz2)) ?_
   refine wk0 ?_; refine run4 ?_
   repeat (first | refine k4 ?_ | refine k4r ?_ | (refine a4r ?_; refine runf4 (an @hszl (an @hszo (an @hszf (an @hszd (an @hfl (an @hfl' (an @hdl (an @hfl1 @hlen2)))))))) ?_) | (refine a4 ?_; refine runf4 (an @hszl (an @hszo (an @hszf (an @hszd (an @hfl (an @hfl' (an @hdl (an @hfl1 @hlen2)))))))) ?_)); try refine runf4 (an @hszl (an @hszo (an @hszf (an @hszd (an @hfl (an @hfl' (an @hdl (an @hfl1 @hlen2)))))))) ?_
   refine p4 (by (conv => lhs; simp -implicitDefEqProofs (maxSteps := 4000000) (disch := (first | omega | (simp only [List.length_append, List.length_cons, List.length_map, List.length_nil, List.length_take, List.length_drop]; omega))) only [AppF_append, aAppW, ↓zpre, zpost, cst1, ↓reduceIte, Nat.reduceEqDiff, Nat.reduceAdd, Nat.reduceLT, Nat.reduceLeDiff, Nat.reduceMul, Nat.reduceSub, Int.reduceToNat, Int.reduceAdd, Int.reduceSub, Int.reduceMul, Int.reduceNeg, Int.reduceLE, Int.reduceLT, Int.reduceEq, Int.reduceBEq, Int.reduceBNe, Nat.reduceBEq, Nat.reduceBNe, aBin, aEq, aEqF, aNilEq, aInt, aStr, aUn, aConv, aNil, aFldAddr, aFld, aIdxAddr, aIdx, aBui, aLoad, aStore, aLits, aLit, aMake, aMakeW, aMapSet, aLook, kfind, keq, kok, lookOut, aMk, aRange, aNext, aBytes, aApp, srcOf, aSlice, aBound, modeCut, apart, aFill, aval, aGd, ACall, AV.wk, AV.wk2, AV.wk1, AV.cells, AV.solid, AV.ro, AV.ro1, ← List.map_take, ← List.map_drop, reduceCtorEq, Option.isNone_some, Option.isSome_none, tf0, tf1, tf2, tf3, tf4, tf5, tf6, tf7, tf8, tf9, tf10, tf11, tf12, tf13, tf14, tf15, tf16, tf17, tf18, tf19, tf20, tf21, tf22, tf23, tf24, tf25, tf26, tf27, tf28, hszl, hszo, hszf, hszd, hfl, hfl', hdl, hfl1, hlen2]); try rfl) ?_
   repeat (first | refine k4 ?_ | refine k4r ?_ | (refine a4r ?_; refine runf4 (an @hszl (an @hszo (an @hszf (an @hszd (an @hfl (an @hfl' (an @hdl (an @hfl1 @hlen2)))))))) ?_) | (refine a4 ?_; refine runf4 (an @hszl (an @hszo (an @hszf (an @hszd (an @hfl (an @hfl' (an @hdl (an @hfl1 @hlen2)))))))) ?_)); try refine runf4 (an @hszl (an @hszo (an @hszf (an @hszd (an @hfl (an @hfl' (an @hdl (an @hfl1 @hlen2)))))))) ?_
   refine wkz 25 6 hfla hnlog hszlog hoklog' ?_
   refine runf4 (an @hszl (an @hszo (an @hszf (an @hszd (an @hfl (an @hfl' (an @hdl (an @hfl1 (an @hlen2 (an @hmin (an @hcm1 (an @hcm2 (an @hfm @h2))))))))))))) ?_
   refine cp kl ?_
   refine run4 ?_
   exact er0
 rw [decide_eq_false hS] at kl
 by_cases h17 : cd = 17
 ·subst h17
  obtain rfl := hcode (by decide)
  by_cases hfm0 : f < min s t
  ·have hfm : ((f : Nat) : Int) < ((min s t : Nat) : Int) := by omega
   obtain rfl : q = true := hq1 hfm0
   refine runf4 (an @hgI (an @hz1 @hz2)) ?_
   refine wk0 ?_; refine run4 ?_
   repeat (first | refine k4 ?_ | refine k4r ?_ | (refine a4r ?_; refine runf4 (an @hszl (an @hszo (an @hszf (an @hszd (an @hfl (an @hfl' (an @hdl (an @hfl1 @hlen2)))))))) ?_) | (refine a4 ?_; refine runf4 (an @hszl (an @hszo (an @hszf (an @hszd (an @hfl (an @hfl' (an @hdl (an @hfl1 @hlen2)))))))) ?_)); try refine runf4 (an @hszl (an @hszo (an @hszf (an @hszd (an @hfl (an @hfl' (an @hdl (an @hfl1 @hlen2)))))))) ?_
   refine p4 (by (conv => lhs; simp -implicitDefEqProofs (maxSteps := 4000000) (disch := (first | omega | (simp only [List.length_append, List.length_cons, List.length_map, List.length_nil, List.length_take, List.length_drop]; omega))) only [AppF_append, aAppW, ↓zpre, zpost, cst1, ↓reduceIte, Nat.reduceEqDiff, Nat.reduceAdd, Nat.reduceLT, Nat.reduceLeDiff, Nat.reduceMul, Nat.reduceSub, Int.reduceToNat, Int.reduceAdd, Int.reduceSub, Int.reduceMul, Int.reduceNeg, Int.reduceLE, Int.reduceLT, Int.reduceEq, Int.reduceBEq, Int.reduceBNe, Nat.reduceBEq, Nat.reduceBNe, aBin, aEq, aEqF, aNilEq, aInt, aStr, aUn, aConv, aNil, aFldAddr, aFld, aIdxAddr, aIdx, aBui, aLoad, aStore, aLits, aLit, aMake, aMakeW, aMapSet, aLook, kfind, keq, kok, lookOut, aMk, aRange, aNext, aBytes, aApp, srcOf, aSlice, aBound, modeCut, apart, aFill, aval, aGd, ACall, AV.wk, AV.wk2, AV.wk1, AV.cells, AV.solid, AV.ro, AV.ro1, ← List.map_take, ← List.map_drop, reduceCtorEq, Option.isNone_some, Option.isSome_none, tf0, tf1, tf2, tf3, tf4, tf5, tf6, tf7, tf8, tf9, tf10, tf11, tf12, tf13, tf14, tf15, tf16, tf17, tf18, tf19, tf20, tf21, tf22, tf23, tf24, tf25, tf26, tf27, tf28, hszl, hszo, hszf, hszd, hfl, hfl', hdl, hfl1, hlen2]); try rfl) ?_
   repeat (first | refine k4 ?_ | refine k4r ?_ | (refine a4r ?_; refine runf4 (an @hszl (an @hszo (an @hszf (an @hszd (an @hfl (an @hfl' (an @hdl (an @hfl1 @hlen2)))))))) ?_) | (refine a4 ?_; refine runf4 (an @hszl (an @hszo (an @hszf (an @hszd (an @hfl (an @hfl' (an @hdl (an @hfl1 @hlen2)))))))) ?_)); try refine runf4 (an @hszl (an @hszo (an @hszf (an @hszd (an @hfl (an @hfl' (an @hdl (an @hfl1 @hlen2)))))))) ?_
   refine wkz 25 6 hfla hnlog hszlog hoklog' ?_
   refine runf4 (an @hszl (an @hszo (an @hszf (an @hszd (an @hfl (an @hfl' (an @hdl (an @hfl1 (an @hlen2 (an @hmin (an @hcm1 (an @hcm2 @hfm)))))))))))) ?_
   refine cp ks ?_
   refine runf4 (an @hszl (an @hszo (an @hszf (an @hszd (an @hfl (an @hfl' (an @hdl (an @hfl1 (an @hlen2 @h2))))))))) ?_
   refine cp kl ?_
   refine run4 ?_
   exact er0
  ·have hfm : ¬ ((f : Nat) : Int) < ((min s t : Nat) : Int) := by omega
   refine runf4 (an @hgI (an @hz1 @hz2)) ?_
   refine wk0 ?_; refine run4 ?_
   repeat (first | refine k4 ?_ | refine k4r ?_ | (refine a4r ?_; refine runf4 (an @hszl (an @hszo (an @hszf (an @hszd (an @hfl (an @hfl' (an @hdl (an @hfl1 @hlen2)))))))) ?_) | (refine a4 ?_; refine runf4 (an @hszl (an @hszo (an @hszf (an @hszd (an @hfl (an @hfl' (an @hdl (an @hfl1 @hlen2)))))))) ?_)); try refine runf4 (an @hszl (an @hszo (an @hszf (an @hszd (an @hfl (an @hfl' (an @hdl (an @hfl1 @hlen2)))))))) ?_
   refine p4 (by (conv => lhs; simp -implicitDefEqProofs (maxSteps := 4000000) (disch := (first | omega | (simp only [List.length_append, List.length_cons, List.length_map, List.length_nil, List.length_take, List.length_drop]; omega))) only [AppF_append, aAppW, ↓zpre, zpost, cst1, ↓reduceIte, Nat.reduceEqDiff, Nat.reduceAdd, Nat.reduceLT, Nat.reduceLeDiff, Nat.reduceMul, Nat.reduceSub, Int.reduceToNat, Int.reduceAdd, Int.reduceSub, Int.reduceMul, Int.reduceNeg, Int.reduceLE, Int.reduceLT, Int.reduceEq, Int.reduceBEq, Int.reduceBNe, Nat.reduceBEq, Nat.reduceBNe, aBin, aEq, aEqF, aNilEq, aInt, aStr, aUn, aConv, aNil, aFldAddr, aFld, aIdxAddr, aIdx, aBui, aLoad, aStore, aLits, aLit, aMake, aMakeW, aMapSet, aLook, kfind, keq, kok, lookOut, aMk, aRange, aNext, aBytes, aApp, srcOf, aSlice, aBound, modeCut, apart, aFill, aval, aGd, ACall, AV.wk, AV.wk2, AV.wk1, AV.cells, AV.solid, AV.ro, AV.ro1, ← List.map_take, ← List.map_drop, reduceCtorEq, Option.isNone_some, Option.isSome_none, tf0, tf1, tf2, tf3, tf4, tf5, tf6, tf7, tf8, tf9, tf10, tf11, tf12, tf13, tf14, tf15, tf16, tf17, tf18, tf19, tf20, tf21, tf22, tf23, tf24, tf25, tf26, tf27, tf28, hszl, hszo, hszf, hszd, hfl, hfl', hdl, hfl1, hlen2]); try rfl) ?_
   repeat (first | refine k4 ?_ | refine k4r ?_ | (refine a4r ?_; refine runf4 (an @hszl (an @hszo (an @hszf (an @hszd (an @hfl (an @hfl' (an @hdl (an @hfl1 @hlen2)))))))) ?_) | (refine a4 ?_; refine runf4 (an @hszl (an @hszo (an @hszf (an @hszd (an @hfl (an @hfl' (an @hdl (an @hfl1 @hlen2)))))))) ?_)); try refine runf4 (an @hszl (an @hszo (an @hszf (an @hszd (an @hfl (an @hfl' (an @hdl (an @hfl1 @hlen2)))))))) ?_
   refine wkz 25 6 hfla hnlog hszlog hoklog' ?_
   refine runf4 (an @hszl (an @hszo (an @hszf (an @hszd (an @hfl (an @hfl' (an @hdl (an @hfl1 (an @hlen2 (an @hmin (an @hcm1 (an @hcm2 (an @hfm @h2))))))))))))) ?_
   refine cp kl ?_
   refine run4 ?_
   exact er0
 have q5 : (cd == 5) = false := beqF h5
 have q17 : (cd == 17) = false := beqF h17
 have hrr : rootE (l.take f ++ (o.take t).drop f) = rootE (o.take t) := hroot.resolve_left h17
 rw [hrr] at kr1
 have qrr : (rootE (o.take t) == rootE (o.take t)) = true := beq_self_eq_true _
 generalize rootE (o.take t) = rt at *
 by_cases h0 : cd = 0
 ·subst h0
  by_cases hfm0 : f < min s t
  ·have hfm : ((f : Nat) : Int) < ((min s t : Nat) : Int) := by omega
   obtain rfl : q = true := hq1 hfm0
   refine runf4 (an @hgI (an @hz1 @hz2)) ?_
   refine wk0 ?_; refine run4 ?_
   repeat (first | refine k4 ?_ | refine k4r ?_ | (refine a4r ?_; refine runf4 (an @hszl (an @hszo (an @hszf (an @hszd (an @hfl (an @hfl' (an @hdl (an @hfl1 @hlen2)))))))) ?_) | (refine a4 ?_; refine runf4 (an @hszl (an @hszo (an @hszf (an @hszd (an @hfl (an @hfl' (an @hdl (an @hfl1 @hlen2)))))))) ?_)); try refine runf4 (an @hszl (an @hszo (an @hszf (an @hszd (an @hfl (an @hfl' (an @hdl (an @hfl1 @hlen2)))))))) ?_
   refine p4 (by (conv => lhs; simp -implicitDefEqProofs (maxSteps := 4000000) (disch := (first | omega | (simp only [List.length_append, List.length_cons, List.length_map, List.length_nil, List.length_take, List.length_drop]; omega))) only [AppF_append, aAppW, ↓zpre, zpost, cst1, ↓reduceIte, Nat.reduceEqDiff, Nat.reduceAdd, Nat.reduceLT, Nat.reduceLeDiff, Nat.reduceMul, Nat.reduceSub, Int.reduceToNat, Int.reduceAdd, Int.reduceSub, Int.reduceMul, Int.reduceNeg, Int.reduceLE, Int.reduceLT, Int.reduceEq, Int.reduceBEq, Int.reduceBNe, Nat.reduceBEq, Nat.reduceBNe, aBin, aEq, aEqF, aNilEq, aInt, aStr, aUn, aConv, aNil, aFldAddr, aFld, aIdxAddr, aIdx, aBui, aLoad, aStore, aLits, aLit, aMake, aMakeW, aMapSet, aLook, kfind, keq, kok, lookOut, aMk, aRange, aNext, aBytes, aApp, srcOf, aSlice, aBound, modeCut, apart, aFill, aval, aGd, ACall, AV.wk, AV.wk2, AV.wk1, AV.cells, AV.solid, AV.ro, AV.ro1, ← List.map_take, ← List.map_drop, reduceCtorEq, Option.isNone_some, Option.isSome_none, tf0, tf1, tf2, tf3, tf4, tf5, tf6, tf7, tf8, tf9, tf10, tf11, tf12, tf13, tf14, tf15, tf16, tf17, tf18, tf19, tf20, tf21, tf22, tf23, tf24, tf25, tf26, tf27, tf28, hszl, hszo, hszf, hszd, hfl, hfl', hdl, hfl1, hlen2]); try rfl) ?_
   repeat (first | refine k4 ?_ | refine k4r ?_ | (refine a4r ?_; refine runf4 (an @hszl (an @hszo (an @hszf (an @hszd (an @hfl (an @hfl' (an @hdl (an @hfl1 @hlen2)))))))) ?_) | (refine a4 ?_; refine runf4 (an @hszl (an @hszo (an @hszf (an @hszd (an @hfl (an @hfl' (an @hdl (an @hfl1 @hlen2)))))))) ?_)); try refine runf4 (an @hszl (an @hszo (an @hszf (an @hszd (an @hfl (an @hfl' (an @hdl (an @hfl1 @hlen2)))))))) ?_
   refine wkz 25 6 hfla hnlog hszlog hoklog' ?_
   refine runf4 (an @hszl (an @hszo (an @hszf (an @hszd (an @hfl (an @hfl' (an @hdl (an @hfl1 (an @hlen2 (an @hmin (an @hcm1 (an @hcm2 @hfm)))))))))))) ?_
   refine cp ks ?_
   refine runf4 (an @hszl (an @hszo (an @hszf (an @hszd (an @hfl (an @hfl' (an @hdl (an @hfl1 (an @hlen2 @h2))))))))) ?_
   refine cp kl ?_
   refine runf4 (an @hszo @h2) ?_
   refine cp kr1 ?_
   refine runf4 (an @hszo @h2) ?_
   refine cp kr2 ?_
   refine runf4 @qrr ?_
   exact er0
  ·have hfm : ¬ ((f : Nat) : Int) < ((min s t : Nat) : Int) := by omega
   refine runf4 (an @hgI (an @hz1 @hz2)) ?_
   refine wk0 ?_; refine run4 ?_
   repeat (first | refine k4 ?_ | refine k4r ?_ | (refine a4r ?_; refine runf4 (an @hszl (an @hszo (an @hszf (an @hszd (an @hfl (an @hfl' (an @hdl (an @hfl1 @hlen2)))))))) ?_) | (refine a4 ?_; refine runf4 (an @hszl (an @hszo (an @hszf (an @hszd (an @hfl (an @hfl' (an @hdl (an @hfl1 @hlen2)))))))) ?_)); try refine runf4 (an @hszl (an @hszo (an @hszf (an @hszd (an @hfl (an @hfl' (an @hdl (an @hfl1 @hlen2)))))))) ?_
   refine p4 (by (conv => lhs; simp -implicitDefEqProofs (maxSteps := 4000000) (disch := (first | omega | (simp only [List.length_append, List.length_cons, List.length_map, List.length_nil, List.length_take, List.length_drop]; omega))) only [AppF_append, aAppW, ↓zpre, zpost, cst1, ↓reduceIte, Nat.reduceEqDiff, Nat.reduceAdd, Nat.reduceLT, Nat.reduceLeDiff, Nat.reduceMul, Nat.reduceSub, Int.reduceToNat, Int.reduceAdd, Int.reduceSub, Int.reduceMul, Int.reduceNeg, Int.reduceLE, Int.reduceLT, Int.reduceEq, Int.reduceBEq, Int.reduceBNe, Nat.reduceBEq, Nat.reduceBNe, aBin, aEq, aEqF, aNilEq, aInt, aStr, aUn, aConv, aNil, aFldAddr, aFld, aIdxAddr, aIdx, aBui, aLoad, aStore, aLits, aLit, aMake, aMakeW, aMapSet, aLook, kfind, keq, kok, lookOut, aMk, aRange, aNext, aBytes, aApp, srcOf, aSlice, aBound, modeCut, apart, aFill, aval, aGd, ACall, AV.wk, AV.wk2, AV.wk1, AV.cells, AV.solid, AV.ro, AV.ro1, ← List.map_take, ← List.map_drop, reduceCtorEq, Option.isNone_some, Option.isSome_none, tf0, tf1, tf2, tf3, tf4, tf5, tf6, tf7, tf8, tf9, tf10, tf11, tf12, tf13, tf14, tf15, tf16, tf17, tf18, tf19, tf20, tf21, tf22, tf23, tf24, tf25, tf26, tf27, tf28, hszl, hszo, hszf, hszd, hfl, hfl', hdl, hfl1, hlen2]); try rfl) ?_
   repeat (first | refine k4 ?_ | refine k4r ?_ | (refine a4r ?_; refine runf4 (an @hszl (an @hszo (an @hszf (an @hszd (an @hfl (an @hfl' (an @hdl (an @hfl1 @hlen2)))))))) ?_) | (refine a4 ?_; refine runf4 (an @hszl (an @hszo (an @hszf (an @hszd (an @hfl (an @hfl' (an @hdl (an @hfl1 @hlen2)))))))) ?_)); try refine runf4 (an @hszl (an @hszo (an @hszf (an @hszd (an @hfl (an @hfl' (an @hdl (an @hfl1 @hlen2)))))))) ?_
   refine wkz 25 6 hfla hnlog hszlog hoklog' ?_
   refine runf4 (an @hszl (an @hszo (an @hszf (an @hszd (an @hfl (an @hfl' (an @hdl (an @hfl1 (an @hlen2 (an @hmin (an @hcm1 (an @hcm2 (an @hfm @h2))))))))))))) ?_
   refine cp kl ?_
   refine runf4 (an @hszo @h2) ?_
   refine cp kr1 ?_
   refine runf4 (an @hszo @h2) ?_
   refine cp kr2 ?_
   refine runf4 @qrr ?_
   exact er0
 have q0 : (cd != 0) = true := bneT h0
 obtain rfl := hcode h0
 by_cases hfm0 : f < min s t
 ·have hfm : ((f : Nat) : Int) < ((min s t : Nat) : Int) := by omega
  obtain rfl : q = true := hq1 hfm0
  refine runf4 (an @hgI (an @hz1 (an @hz2 @q0))) ?_
  refine wk0 ?_; refine run4 ?_
  repeat (first | refine k4 ?_ | refine k4r ?_ | (refine a4r ?_; refine runf4 (an @hszl (an @hszo (an @hszf (an @hszd (an @hfl (an @hfl' (an @hdl (an @hfl1 @hlen2)))))))) ?_) | (refine a4 ?_; refine runf4 (an @hszl (an @hszo (an @hszf (an @hszd (an @hfl (an @hfl' (an @hdl (an @hfl1 @hlen2)))))))) ?_)); try refine runf4 (an @hszl (an @hszo (an @hszf (an @hszd (an @hfl (an @hfl' (an @hdl (an @hfl1 @hlen2)))))))) ?_
  refine p4 (by (conv => lhs; simp -implicitDefEqProofs (maxSteps := 4000000) (disch := (first | omega | (simp only [List.length_append, List.length_cons, List.length_map, List.length_nil, List.length_take, List.length_drop]; omega))) only [AppF_append, aAppW, ↓zpre, zpost, cst1, ↓reduceIte, Nat.reduceEqDiff, Nat.reduceAdd, Nat.reduceLT, Nat.reduceLeDiff, Nat.reduceMul, Nat.reduceSub, Int.reduceToNat, Int.reduceAdd, Int.reduceSub, Int.reduceMul, Int.reduceNeg, Int.reduceLE, Int.reduceLT, Int.reduceEq, Int.reduceBEq, Int.reduceBNe, Nat.reduceBEq, Nat.reduceBNe, aBin, aEq, aEqF, aNilEq, aInt, aStr, aUn, aConv, aNil, aFldAddr, aFld, aIdxAddr, aIdx, aBui, aLoad, aStore, aLits, aLit, aMake, aMakeW, aMapSet, aLook, kfind, keq, kok, lookOut, aMk, aRange, aNext, aBytes, aApp, srcOf, aSlice, aBound, modeCut, apart, aFill, aval, aGd, ACall, AV.wk, AV.wk2, AV.wk1, AV.cells, AV.solid, AV.ro, AV.ro1, ← List.map_take, ← List.map_drop, reduceCtorEq, Option.isNone_some, Option.isSome_none, tf0, tf1, tf2, tf3, tf4, tf5, tf6, tf7, tf8, tf9, tf10, tf11, tf12, tf13, tf14, tf15, tf16, tf17, tf18, tf19, tf20, tf21, tf22, tf23, tf24, tf25, tf26, tf27, tf28, hszl, hszo, hszf, hszd, hfl, hfl', hdl, hfl1, hlen2]); try rfl) ?_
  repeat (first | refine k4 ?_ | refine k4r ?_ | (refine a4r ?_; refine runf4 (an @hszl (an @hszo (an @hszf (an @hszd (an @hfl (an @hfl' (an @hdl (an @hfl1 @hlen2)))))))) ?_) | (refine a4 ?_; refine runf4 (an @hszl (an @hszo (an @hszf (an @hszd (an @hfl (an @hfl' (an @hdl (an @hfl1 @hlen2)))))))) ?_)); try refine runf4 (an @hszl (an @hszo (an @hszf (an @hszd (an @hfl (an @hfl' (an @hdl (an @hfl1 @hlen2)))))))) ?_
  refine wkz 25 6 hfla hnlog hszlog hoklog' ?_
  refine runf4 (an @hszl (an @hszo (an @hszf (an @hszd (an @hfl (an @hfl' (an @hdl (an @hfl1 (an @hlen2 (an @hmin (an @hcm1 (an @hcm2 @hfm)))))))))))) ?_
  refine cp ks ?_
  refine runf4 (an @hszl (an @hszo (an @hszf (an @hszd (an @hfl (an @hfl' (an @hdl (an @hfl1 (an @hlen2 (an @h2 @q5)))))))))) ?_
  refine cp kl ?_
  refine runf4 (an @q5 (an @q17 (an @hszo @h2))) ?_
  refine cp kr1 ?_
  refine runf4 (an @q5 (an @q17 (an @hszo @h2))) ?_
  refine cp kr2 ?_
  refine runf4 (an @q5 (an @q17 @qrr)) ?_
  exact er0
 ·have hfm : ¬ ((f : Nat) : Int) < ((min s t : Nat) : Int) := by omega
  refine runf4 (an @hgI (an @hz1 (an @hz2 @q0))) ?_
  refine wk0 ?_; refine run4 ?_
  repeat (first | refine k4 ?_ | refine k4r ?_ | (refine a4r ?_; refine runf4 (an @hszl (an @hszo (an @hszf (an @hszd (an @hfl (an @hfl' (an @hdl (an @hfl1 @hlen2)))))))) ?_) | (refine a4 ?_; refine runf4 (an @hszl (an @hszo (an @hszf (an @hszd (an @hfl (an @hfl' (an @hdl (an @hfl1 @hlen2)))))))) ?_)); try refine runf4 (an @hszl (an @hszo (an @hszf (an @hszd (an @hfl (an @hfl' (an @hdl (an @hfl1 @hlen2)))))))) ?_
  refine p4 (by (conv => lhs; simp -implicitDefEqProofs (maxSteps := 4000000) (disch := (first | omega | (simp only [List.length_append, List.length_cons, List.length_map, List.length_nil, List.length_take, List.length_drop]; omega))) only [AppF_append, aAppW, ↓zpre, zpost, cst1, ↓reduceIte, Nat.reduceEqDiff, Nat.reduceAdd, Nat.reduceLT, Nat.reduceLeDiff, Nat.reduceMul, Nat.reduceSub, Int.reduceToNat, Int.reduceAdd, Int.reduceSub, Int.reduceMul, Int.reduceNeg, Int.reduceLE, Int.reduceLT, Int.reduceEq, Int.reduceBEq, Int.reduceBNe, Nat.reduceBEq, Nat.reduceBNe, aBin, aEq, aEqF, aNilEq, aInt, aStr, aUn, aConv, aNil, aFldAddr, aFld, aIdxAddr, aIdx, aBui, aLoad, aStore, aLits, aLit, aMake, aMakeW, aMapSet, aLook, kfind, keq, kok, lookOut, aMk, aRange, aNext, aBytes, aApp, srcOf, aSlice, aBound, modeCut, apart, aFill, aval, aGd, ACall, AV.wk, AV.wk2, AV.wk1, AV.cells, AV.solid, AV.ro, AV.ro1, ← List.map_take, ← List.map_drop, reduceCtorEq, Option.isNone_some, Option.isSome_none, tf0, tf1, tf2, tf3, tf4, tf5, tf6, tf7, tf8, tf9, tf10, tf11, tf12, tf13, tf14, tf15, tf16, tf17, tf18, tf19, tf20, tf21, tf22, tf23, tf24, tf25, tf26, tf27, tf28, hszl, hszo, hszf, hszd, hfl, hfl', hdl, hfl1, hlen2]); try rfl) ?_
  repeat (first | refine k4 ?_ | refine k4r ?_ | (refine a4r ?_; refine runf4 (an @hszl (an @hszo (an @hszf (an @hszd (an @hfl (an @hfl' (an @hdl (an @hfl1 @hlen2)))))))) ?_) | (refine a4 ?_; refine runf4 (an @hszl (an @hszo (an @hszf (an @hszd (an @hfl (an @hfl' (an @hdl (an @hfl1 @hlen2)))))))) ?_)); try refine runf4 (an @hszl (an @hszo (an @hszf (an @hszd (an @hfl (an @hfl' (an @hdl (an @hfl1 @hlen2)))))))) ?_
  refine wkz 25 6 hfla hnlog hszlog hoklog' ?_
  refine runf4 (an @hszl (an @hszo (an @hszf (an @hszd (an @hfl (an @hfl' (an @hdl (an @hfl1 (an @hlen2 (an @hmin (an @hcm1 (an @hcm2 (an @hfm (an @h2 @q5)))))))))))))) ?_
  refine cp kl ?_
  refine runf4 (an @q5 (an @q17 (an @hszo @h2))) ?_
  refine cp kr1 ?_
  refine runf4 (an @q5 (an @q17 (an @hszo @h2))) ?_
  refine cp kr2 ?_
  refine runf4 (an @q5 (an @q17 @qrr)) ?_
  exact er0
end Go.Proofs.YthbpbkbjdfcnjaaGreatDoor.Pe
