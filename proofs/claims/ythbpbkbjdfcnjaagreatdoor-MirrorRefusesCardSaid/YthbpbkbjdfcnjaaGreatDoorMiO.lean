/- The walk of MirrorRefuses on plain values. Printed by tools/mkmio.py. -/
import Derived.Test.YthbpbkbjdfcnjaaGreatDoorMiL
import Derived.Test.YthbpbkbjdfcnjaaGreatDoorMiV
import Derived.Test.YthbpbkbjdfcnjaaGreatDoorPeGz
import Derived.Test.YthbpbkbjdfcnjaaGreatDoorShH
set_option linter.unusedSectionVars false
set_option linter.unusedVariables false
set_option linter.unusedSimpArgs false
namespace Go.Proofs.YthbpbkbjdfcnjaaGreatDoor.Pe
open Go Go.RowKit Co Sg Ac It Sl
set_option maxRecDepth 100000
set_option maxHeartbeats 4000000
def zEntry : Value := .agg #[.int .i64 0, .int .i64 0, .string ⟨#[]⟩, .int .i64 0, .string ⟨#[]⟩, .int .i64 0, .int .i64 0, .string ⟨#[]⟩, .string ⟨#[]⟩, .int .i64 0, .string ⟨#[]⟩, .slice none 0 0, .string ⟨#[]⟩, .string ⟨#[]⟩, .string ⟨#[]⟩, .string ⟨#[]⟩, .int .i64 0, .slice none 0 0, .int .i64 0, .int .i64 0, .int .i64 0, .int .i64 0, .string ⟨#[]⟩, .int .i64 0, .string ⟨#[]⟩, .int .i64 0, .int .i64 0, .int .i64 0, .int .i64 0, .int .i64 0, .int .i64 0, .int .i64 0, .string ⟨#[]⟩, .int .i64 0, .string ⟨#[]⟩, .int .i64 0, .int .i64 0, .int .i64 0, .int .i64 0, .int .i64 0, .int .i64 0, .string ⟨#[]⟩, .string ⟨#[]⟩, .string ⟨#[]⟩, .slice none 0 0, .int .i64 0, .int .i64 0, .int .i64 0, .int .i64 0, .int .i64 0]
theorem mirrorRefuses_c (ps : List Int) (server : Int) (k : Key) (l : List It.Entry) (st : Step) (h : Head) (x : It.Entry) (at_ : Int) (hp : InL ps) (hk : InK k) (hes : InEs l) (hst : InS st) (hx : InE x) (hat : -9223372036854775808 ≤ at_ ∧ at_ ≤ 9223372036854775807) :
  AC Tryz.prog 5 [intsV ps, .it .i64 server, keyV k, entriesV l, stepV st, headV h, entryV x, .it .i64 at_] [] (.bo true) [] := by
 refine AC.enter4 [11, 12, 13, 14, 15, 16, 17, 24, 23, 25] [] [(20, ([4, 3], [154, 156], [155])), (21, ([], [], [])), (28, ([], [], [216])), (30, ([], [], []))] [] Tryz.func5 rfl (by decide) (by decide) (Nat.le_of_ble_eq_true rfl) (by kernel_rfl) ?_; simp only [eraseC, eraseO, List.map_cons, List.map_nil, List.map_toArray, List.getElem?_toArray, List.getElem?_cons_zero, List.getElem?_cons_succ, Option.bind_some, Option.bind_none, List.append_eq, List.cons_append, List.nil_append, eraseC4, eraseC3, hasSp, ordOf, List.isEmpty_nil, List.isEmpty_cons, Bool.and_true, Bool.and_false, Bool.and_self, Bool.false_and, Bool.true_and, List.lookup, Nat.reduceBEq, beq_self_eq_true, Option.isSome_some, Option.isSome_none, Bool.or_true, Bool.true_or, Bool.or_false, Bool.not_true, Bool.not_false, Bool.false_eq_true, if_true, if_false, ↓reduceIte, List.size_toArray, List.length_cons, List.length_nil, List.range_succ_eq_map, List.range_zero, Nat.reduceAdd, List.filterMap_cons, List.filterMap_nil]
 have hes1 := hes.len
 have hp1 := hp.len
 have hszp : allSz 1 (ps.map (AV.it .i64)) = true := allSz_map 1 _ (fun _ => rfl) _
 have hszl := entries_sz l
 have kf1 := few16_c l ps hes1 hp1
 have kf2 := few16_c [x] ps (by show 1 ≤ _; decide) hp1
 refine run4 ?_
 refine cp small16_c ?_
 refine run4 ?_
 refine cp kf1 ?_
 cases hf1 : few16 l ps with
 | false =>
  refine runf4 @hf1 ?_
  exact er0
 | true =>
 obtain ⟨hl80, hp20⟩ := few16_iff hf1
 have hl := hes.eok hl80
 refine runf4 @hf1 ?_
 refine cp kf2 ?_
 cases hf2 : few16 [x] ps with
 | false =>
  refine runf4 @hf2 ?_
  exact er0
 | true =>
 by_cases c2 : 0 ≤ server
 rotate_left
 ·refine runf4 @hf2 ?_
  exact er0
 by_cases c3 : server < (ps.length : Int)
 rotate_left
 ·refine runf4 @hf2 ?_
  exact er0
 have hg : ps[server.toNat]? = some (ps.getD server.toNat 0) := by
  rw [List.getD_eq_getElem?_getD, List.getElem?_eq_getElem (show server.toNat < ps.length by omega)]
  rfl
 by_cases c4 : ps.getD server.toNat 0 = k.pub
 rotate_left
 ·generalize ps.getD server.toNat 0 = p at *
  have q4 : (p != k.pub) = true := bneT c4
  refine runf4 (an @hf2 (an @c2 (an @c3 (an @hg (an @hszp @q4))))) ?_
  exact er0
 have hg' := hg
 rw [c4] at hg'
 have q4 : (k.pub != k.pub) = false := bneF rfl
 have kr := keyright_c k hk.secret
 have kh1 := honest16_c ps l hp hl
 obtain ⟨frm, to⟩ := st
 have hfr := hst.frm
 simp only at hfr
 have kb1 := batch16_c k server l frm to hk.secret hl
 refine runf4 (an @hf2 (an @c2 (an @c3 (an @hg' (an @hszp @q4))))) ?_
 refine cp kr ?_
 refine run4 ?_
 refine cp kb1 ?_
 cases hr : k.right with
 | false =>
  refine runf4 @hr ?_
  exact er0
 | true =>
 cases hb : (batchOf k server l frm to).2 with
 | false =>
  refine runf4 (an @hr @hb) ?_
  exact er0
 | true =>
 refine runf4 (an @hr @hb) ?_
 refine cp kh1 ?_
 cases hh1 : (times l && l.all (sound ps)) with
 | false =>
  refine runf4 @hh1 ?_
  exact er0
 | true =>
 have g1 := good_of hf1 c2 c3 c4 hr hh1
 by_cases c6 : frm = 0
 rotate_left
 ·have q6 : (frm != 0) = true := bneT c6
  refine runf4 (an @hh1 @q6) ?_
  exact er0
 subst c6
 rw [batchOf_eq g1] at hb ⊢
 by_cases hc1 : 1 ≤ to ∧ to ≤ l.length ∧ (0 : Int) ≤ 0 ∧ 0 < to ∧ to - 0 ≤ 64
 rotate_left
 ·rw [if_neg hc1] at hb
  cases hb
 rw [if_pos hc1]
 clear hb kb1
 obtain ⟨t, rfl⟩ := Int.eq_ofNat_of_zero_le (show 0 ≤ to by omega)
 simp only [Int.toNat_natCast, show (0 : Int).toNat = 0 from rfl, List.drop_zero]
 have h1 : 1 ≤ t := by omega
 have h2 : t ≤ l.length := by omega
 have h3 : t ≤ 64 := by omega
 have hlt := hl.take t
 have hlen : (l.take t).length = t := by rw [List.length_take]; omega
 have hok0 : EOk [] := ⟨by decide, fun e he => by cases he⟩
 obtain ⟨e1, e2, e3, e4, e5⟩ := headTo_ok g1 h1 h2
 have z0 : -9223372036854775808 ≤ (0 : Int) ∧ (0 : Int) ≤ 9223372036854775807 := by decide
 have z1 : -9223372036854775808 ≤ (1 : Int) ∧ (1 : Int) ≤ 9223372036854775807 := by decide
 have T : ∀ (hd : Head) (f : Int) (es : List It.Entry), EOk es → (-9223372036854775808 ≤ f ∧ f ≤ 9223372036854775807) → _ := fun hd f es he hf => mtake_c ps ⟨server, [], []⟩ ⟨hd, f, es⟩ hp hok0 (Nat.zero_le _) (Nat.zero_le _) he hf
 have u1 := T (headTo k server l t) 0 (l.take t) hlt z0
 have r1 := take_own g1 ⟨server, [], []⟩ rfl (n := 0) (Nat.zero_le _) rfl (frm := 0) (t := t) (by omega) h2 (by omega)
 rw [List.drop_zero, if_neg (by omega), if_neg (by omega)] at r1
 have r1 : Sl.take ps ⟨server, [], []⟩ ⟨headTo k server l t, 0, l.take t⟩ = (⟨server, l.take t, [headTo k server l t]⟩, 0) := r1
 rw [r1] at u1
 clear r1
 generalize hhd : headTo k server l t = hd at *
 have u2 := T { hd with sig := h.sig } 0 (l.take t) hlt z0
 have r2 := refuse_sig g1 h1 h2 h3 { hd with sig := h.sig } e1 e2 e3
 have u3 := T { hd with time := h.time } 0 (l.take t) hlt z0
 have r3 := refuse_sig g1 h1 h2 h3 { hd with time := h.time } e1 e2 e3
 have u4 := T hd 1 (l.take t) hlt z1
 have r4 := refuse_from g1 hd (by rw [e2, hlen])
 have hokx : EOk (l.take t ++ [x]) := ⟨by rw [List.length_append, hlen]; show t + 1 ≤ _; omega, fun e he => by
  rcases List.mem_append.1 he with he | he
  ·exact hlt.iz e he
  ·rw [List.mem_singleton.1 he]; exact hx.item.iz⟩
 have u5 := T hd 0 (l.take t ++ [x]) hokx z0
 have r5 := refuse_more g1 hd (l.take t ++ [x]) (by rw [e2, List.length_append, hlen]; rfl)
 have kv1 := sverify_c k.pub { hd with sig := h.sig } hk.pub
 have kv2 := sverify_c k.pub { hd with time := h.time } hk.pub
 generalize Sl.take ps ⟨server, [], []⟩ ⟨{ hd with sig := h.sig }, 0, l.take t⟩ = t2 at *
 generalize Sl.take ps ⟨server, [], []⟩ ⟨{ hd with time := h.time }, 0, l.take t⟩ = t3 at *
 generalize Sl.take ps ⟨server, [], []⟩ ⟨hd, 1, l.take t⟩ = t4 at *
 generalize Sl.take ps ⟨server, [], []⟩ ⟨hd, 0, l.take t ++ [x]⟩ = t5 at *
 obtain ⟨m2, d2⟩ := t2
 obtain ⟨m3, d3⟩ := t3
 obtain ⟨m4, d4⟩ := t4
 obtain ⟨m5, d5⟩ := t5
 simp only at r2 r3 r4 r5 u2 u3 u4 u5
 subst r4 r5
 clear T e1 e3 e4 e5
 generalize verifyH k.pub { hd with sig := h.sig } = v1 at *
 generalize verifyH k.pub { hd with time := h.time } = v2 at *
 have q2 : (d2 == 0) = v1 := by rw [← r2]; cases hd : decide (d2 = 0) <;> simp_all
 have q3 : (d3 == 0) = v2 := by rw [← r3]; cases hd : decide (d3 = 0) <;> simp_all
 have q1 : ((0 : Int) != 0) = false := rfl
 have qv1 : (v1 == v1) = true := by cases v1 <;> rfl
 have qv2 : (v2 == v2) = true := by cases v2 <;> rfl
 have hsza := entries_sz (l.take t)
 have hszx : allSz 50 [entryV x] = true := entries_sz [x]
 have hszax := entries_sz (l.take t ++ [x])
 have hfl1 : (flat ((l.take t).map entryV)).length = t * 50 := by rw [flat_len entryV 50 (fun _ => rfl), hlen]
 have hlen2 : ((l.take t).map entryV).length = t := by rw [List.length_map, hlen]
 have hfax : flat ((l.take t).map entryV) ++ flat [entryV x] = flat ((l.take t ++ [x]).map entryV) := by rw [← flat_append, List.map_append]; rfl
 have hokax : (flat ((l.take t).map entryV) ++ flat [entryV x]).all (AV.o1 0) = true := by rw [hfax]; exact flat_ok _ (fun _ => rfl) _
 have hnax : t + 1 = ((l.take t ++ [x]).map entryV).length := by rw [List.length_map, List.length_append, hlen]; rfl
 refine runf4 (an @hh1 @q1) ?_
 refine cp (mnew_c server) ?_
 refine run4 ?_
 refine cp u1 ?_
 refine run4 ?_
 refine cp u2 ?_
 refine run4 ?_
 refine cp u3 ?_
 refine run4 ?_
 refine cp u4 ?_
 refine run4 ?_
 refine wk0 ?_; refine run4 ?_
 repeat (first | refine k4 ?_ | refine k4r ?_ | (refine a4r ?_; refine runf4 (an @hsza (an @hszx (an @hfl1 (an @hlen @hlen2)))) ?_) | (refine a4 ?_; refine runf4 (an @hsza (an @hszx (an @hfl1 (an @hlen @hlen2)))) ?_)); try refine runf4 (an @hsza (an @hszx (an @hfl1 (an @hlen @hlen2)))) ?_
 refine p4 (by (conv => lhs; simp -implicitDefEqProofs (maxSteps := 4000000) (disch := (first | omega | (simp only [List.length_append, List.length_cons, List.length_map, List.length_nil, List.length_take, List.length_drop]; omega))) only [AppF_append, aAppW, ↓zpre, zpost, cst1, ↓reduceIte, Nat.reduceEqDiff, Nat.reduceAdd, Nat.reduceLT, Nat.reduceLeDiff, Nat.reduceMul, Nat.reduceSub, Int.reduceToNat, Int.reduceAdd, Int.reduceSub, Int.reduceMul, Int.reduceNeg, Int.reduceLE, Int.reduceLT, Int.reduceEq, Int.reduceBEq, Int.reduceBNe, Nat.reduceBEq, Nat.reduceBNe, aBin, aEq, aEqF, aNilEq, aInt, aStr, aUn, aConv, aNil, aFldAddr, aFld, aIdxAddr, aIdx, aBui, aLoad, aStore, aLits, aLit, aMake, aMakeW, aMapSet, aLook, kfind, keq, kok, lookOut, aMk, aRange, aNext, aBytes, aApp, srcOf, aSlice, aBound, modeCut, apart, aFill, aval, aGd, ACall, AV.wk, AV.wk2, AV.wk1, AV.cells, AV.solid, AV.ro, AV.ro1, ← List.map_take, ← List.map_drop, reduceCtorEq, Option.isNone_some, Option.isSome_none, tf0, tf1, tf2, tf3, tf4, tf5, tf6, tf7, tf8, tf9, tf10, tf11, tf12, tf13, tf14, tf15, tf16, tf17, tf18, tf19, tf20, tf21, tf22, tf23, tf24, tf25, tf26, tf27, tf28, hsza, hszx, hfl1, hlen, hlen2]); try rfl) ?_
 repeat (first | refine k4 ?_ | refine k4r ?_ | (refine a4r ?_; refine runf4 (an @hsza (an @hszx (an @hfl1 (an @hlen @hlen2)))) ?_) | (refine a4 ?_; refine runf4 (an @hsza (an @hszx (an @hfl1 (an @hlen @hlen2)))) ?_)); try refine runf4 (an @hsza (an @hszx (an @hfl1 (an @hlen @hlen2)))) ?_
 refine wkzC 13 7 14 hfax hnax hszax hokax ?_
 refine run4 ?_
 refine cp u5 ?_
 refine run4 ?_
 refine cp kv1 ?_
 refine run4 ?_
 refine cp kv2 ?_
 by_cases a1 : 0 ≤ at_
 rotate_left
 ·refine runf4 (an @q2 (an @q3 (an @qv1 @qv2))) ?_
  exact er0
 by_cases a2 : at_ < (t : Int)
 rotate_left
 ·have a2' : (t : Int) ≤ at_ := by omega
  refine runf4 (an @q2 (an @q3 (an @qv1 (an @qv2 @hlen)))) ?_
  exact er0
 obtain ⟨j, rfl⟩ := Int.eq_ofNat_of_zero_le a1
 have a2' : ¬ (t : Int) ≤ (j : Int) := by omega
 have hjt : j < t := by omega
 have hjl : j < l.length := by omega
 have hset : aSet (flat ((l.take t).map entryV)) (j * 50) (entryV x).cells = flat (((l.take t).set j x).map entryV) := aSet_flat entryV 50 (fun _ => rfl) x (l.take t) j (by omega)
 have hszs := entries_sz ((l.take t).set j x)
 have hoks : (flat (((l.take t).set j x).map entryV)).all (AV.o1 0) = true := flat_ok _ (fun _ => rfl) _
 have hns : t = (((l.take t).set j x).map entryV).length := by rw [List.length_map, List.length_set, hlen]
 have hokS : EOk ((l.take t).set j x) := ⟨by rw [List.length_set]; exact hlt.len, fun e he => by
  rcases List.mem_or_eq_of_mem_set he with he | rfl
  ·exact hlt.iz e he
  ·exact hx.item.iz⟩
 have u6 := mtake_c ps ⟨server, [], []⟩ ⟨hd, 0, (l.take t).set j x⟩ hp hok0 (Nat.zero_le _) (Nat.zero_le _) hokS z0
 have r6 := refuse_entry g1 h1 h2 h3 hjt x hd hhd.symm
 have hgl : l[j]? = some l[j] := List.getElem?_eq_getElem hjl
 have ksame := fsameEntry_c x l[j] hx.item.iz.lz (hl.iz _ (List.getElem_mem hjl)).lz
 have kr1 := sroot_c ((l.take t).set j x) hokS.len hokS.iz
 have kr2 := sroot_c (l.take t) hlt.len hlt.iz
 generalize Sl.take ps ⟨server, [], []⟩ ⟨hd, 0, (l.take t).set j x⟩ = t6 at *
 obtain ⟨m6, d6⟩ := t6
 simp only at r6 u6
 generalize hb1 : decide (x = l[j]) = b1 at *
 have q6 : decide (d6 = 0) = (d6 == 0) := rfl
 rw [q6] at r6
 refine runf4 (an @q2 (an @q3 (an @qv1 (an @qv2 (an @hlen @a2'))))) ?_
 refine wk0 ?_; refine run4 ?_
 repeat (first | refine z4 ?_ | refine k4r ?_ | (refine a4r ?_; refine runf4 (an @hsza (an @hszx (an @hfl1 (an @hlen @hlen2)))) ?_) | (refine a4 ?_; refine runf4 (an @hsza (an @hszx (an @hfl1 (an @hlen @hlen2)))) ?_)); try refine runf4 (an @hsza (an @hszx (an @hfl1 (an @hlen @hlen2)))) ?_
 refine zp4 (by (conv => lhs; simp -implicitDefEqProofs (maxSteps := 4000000) (disch := (first | omega | (simp only [List.length_append, List.length_cons, List.length_map, List.length_nil, List.length_take, List.length_drop]; omega))) only [AppF_append, aAppW, ↓zpre, zpost, cst1, ↓reduceIte, Nat.reduceEqDiff, Nat.reduceAdd, Nat.reduceLT, Nat.reduceLeDiff, Nat.reduceMul, Nat.reduceSub, Int.reduceToNat, Int.reduceAdd, Int.reduceSub, Int.reduceMul, Int.reduceNeg, Int.reduceLE, Int.reduceLT, Int.reduceEq, Int.reduceBEq, Int.reduceBNe, Nat.reduceBEq, Nat.reduceBNe, aBin, aEq, aEqF, aNilEq, aInt, aStr, aUn, aConv, aNil, aFldAddr, aFld, aIdxAddr, aIdx, aBui, aLoad, aStore, aLits, aLit, aMake, aMakeW, aMapSet, aLook, kfind, keq, kok, lookOut, aMk, aRange, aNext, aBytes, aApp, srcOf, aSlice, aBound, modeCut, apart, aFill, aval, aGd, ACall, AV.wk, AV.wk2, AV.wk1, AV.cells, AV.solid, AV.ro, AV.ro1, ← List.map_take, ← List.map_drop, reduceCtorEq, Option.isNone_some, Option.isSome_none, tf0, tf1, tf2, tf3, tf4, tf5, tf6, tf7, tf8, tf9, tf10, tf11, tf12, tf13, tf14, tf15, tf16, tf17, tf18, tf19, tf20, tf21, tf22, tf23, tf24, tf25, tf26, tf27, tf28, hsza, hszx, hfl1, hlen, hlen2]); try rfl) ?_
 repeat (first | refine z4 ?_ | refine k4r ?_ | (refine a4r ?_; refine runf4 (an @hsza (an @hszx (an @hfl1 (an @hlen (an @hlen2 @hjt))))) ?_) | (refine a4 ?_; refine runf4 (an @hsza (an @hszx (an @hfl1 (an @hlen (an @hlen2 @hjt))))) ?_)); try refine runf4 (an @hsza (an @hszx (an @hfl1 (an @hlen (an @hlen2 @hjt))))) ?_
 refine wkzC 16 7 17 (hcs := hset) hns hszs (by rw [hset]; exact hoks) ?_
 refine run4 ?_
 refine cp u6 ?_
 refine runf4 (an @hszl @hgl) ?_
 refine cp ksame ?_
 cases hb2 : ((d6 == 0) == b1) with
 | true =>
  refine runf4 (an @q2 (an @q3 (an @qv1 (an @qv2 @hb2)))) ?_
  exact er0
 | false =>
  have hroot : rootE ((l.take t).set j x) = rootE (l.take t) := by
   rcases r6 with h | h
   ·exact h
   ·rw [h] at hb2; cases b1 <;> cases hb2
  rw [hroot] at kr1
  have qrr : (rootE (l.take t) == rootE (l.take t)) = true := beq_self_eq_true _
  generalize rootE (l.take t) = rt at *
  refine runf4 (an @q2 (an @q3 (an @qv1 (an @qv2 @hb2)))) ?_
  refine cp kr1 ?_
  refine runf4 (an @q2 (an @q3 (an @qv1 (an @qv2 @hb2)))) ?_
  refine cp kr2 ?_
  refine runf4 (an @q2 (an @q3 (an @qv1 (an @qv2 (an @hb2 @qrr))))) ?_
  exact er0
end Go.Proofs.YthbpbkbjdfcnjaaGreatDoor.Pe
