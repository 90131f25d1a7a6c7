/- The walk of ForkProves on plain values. Printed by tools/mkfkv.py. -/
import Derived.Test.YthbpbkbjdfcnjaaGreatDoorFkB
import Derived.Test.YthbpbkbjdfcnjaaGreatDoorFkV0
import Derived.Test.YthbpbkbjdfcnjaaGreatDoorPeGz
set_option linter.unusedSectionVars false
set_option linter.unusedVariables false
set_option linter.unusedSimpArgs false
namespace Go.Proofs.YthbpbkbjdfcnjaaGreatDoor.Pe
open Go Go.RowKit Co Sg Ac It Sl
set_option maxRecDepth 100000
set_option maxHeartbeats 4000000
theorem evidS_lenF {e : Evidence} (he : formedE e = true) : (evidB e).length ≤ 1000000 ∧ e.link.length ≤ 64 := by
 obtain ⟨h1, h2, h3, h4, h5⟩ := formedE_iff.1 he
 refine ⟨?_, h4⟩
 have hh : ∀ h : Head, rightH h = true → (text (headB h)).length ≤ 200 := fun h hr => by
  obtain ⟨r1, r2, r3, r4, r5⟩ := rightH_iff.1 hr
  simp only [sigR, Bool.and_eq_true, wi_iff] at r5
  have n1 := numI_le h.server (by omega)
  have n2 := numI_le h.size (by omega)
  have n3 := numI_le h.time (by omega)
  have n4 := numI_le h.sig.e (by omega)
  have n5 := numI_le h.sig.s (by omega)
  have t1 := textT (s := h.root) (n := 32) (by omega) (by omega)
  have tw : (text wHead).length = 5 := rfl
  have hb : (headB h).length ≤ 91 := by
   unfold headB coreH
   rw [if_pos hr]
   simp only [List.length_append]
   omega
  have := textT hb (by omega)
  omega
 have a1 := hh _ h1
 have a2 := hh _ h2
 have a3 := textT (s := e.root) (n := 32) (by omega) (by omega)
 have a4 : (list e.link).length ≤ 900000 := by
  have hn := num_len9 (n := e.link.length) (by omega)
  have hf : (e.link.map text).flatten.length ≤ e.link.length * 41 := by
   have hall : ∀ l : List By, (∀ x ∈ l, x.length = 32) → (l.map text).flatten.length ≤ l.length * 41 := by
    intro l
    induction l with
    | nil => intro _; simp
    | cons x l ih =>
     intro hx
     have i1 := ih fun y hy => hx y (by simp [hy])
     have i2 := textT (s := x) (n := 32) (by rw [hx x (by simp)]; omega) (by omega)
     rw [List.map_cons, List.flatten_cons, List.length_append, List.length_cons, Nat.succ_mul]
     omega
   exact hall _ h5
  have : e.link.length * 41 ≤ 64 * 41 := Nat.mul_le_mul_right _ h4
  unfold list
  rw [List.length_append]
  omega
 unfold evidB
 rw [if_pos he]
 simp only [List.length_append]
 omega
theorem light_iff {l : List It.Entry} (h : light17 l = true) : l.length ≤ 30 := by
 unfold light17 at h
 simp only [Bool.and_eq_true, decide_eq_true_eq] at h
 exact h.1
theorem key_rngF {k : Key} (h : k.right = true) : (-9223372036854775808 ≤ k.secret ∧ k.secret ≤ 9223372036854775807) ∧ (-9223372036854775808 ≤ k.pub ∧ k.pub ≤ 9223372036854775807) := by
 obtain ⟨h1, h2, h3⟩ := Key.right_iff.1 h
 have := pub_range h
 exact ⟨by omega, by omega⟩
theorem forkProves_c (seed : By) (server : Int) (a b : List It.Entry) (ps : List Int) (hsd : seed.length ≤ 140737488351232) (hea : a.length ≤ 140737488351232 ∧ ∀ e ∈ a, InE e) (heb : b.length ≤ 140737488351232 ∧ ∀ e ∈ b, InE e) (hp : InL ps) :
  AC Tryz.prog 7 [.st seed, .it .i64 server, entriesV a, entriesV b, intsV ps] [] (.bo true) [] := by
 refine AC.enter4 [26, 32, 33, 34, 35, 23, 27, 28, 36, 37] [] [(14, ([], [], [98])), (18, ([], [], []))] [] Tryz.func7 rfl (by decide) (by decide) (Nat.le_of_ble_eq_true rfl) (by kernel_rfl) ?_; simp only [eraseC, eraseO, List.map_cons, List.map_nil, List.map_toArray, List.getElem?_toArray, List.getElem?_cons_zero, List.getElem?_cons_succ, Option.bind_some, Option.bind_none, List.append_eq, List.cons_append, List.nil_append, eraseC4, eraseC3, hasSp, ordOf, List.isEmpty_nil, List.isEmpty_cons, Bool.and_true, Bool.and_false, Bool.and_self, Bool.false_and, Bool.true_and, List.lookup, Nat.reduceBEq, beq_self_eq_true, Option.isSome_some, Option.isSome_none, Bool.or_true, Bool.true_or, Bool.or_false, Bool.not_true, Bool.not_false, Bool.false_eq_true, if_true, if_false, ↓reduceIte, List.size_toArray, List.length_cons, List.length_nil, List.range_succ_eq_map, List.range_zero, Nat.reduceAdd, List.filterMap_cons, List.filterMap_nil]
 have hea1 := hea.1
 have heb1 := heb.1
 have hp1 := hp.len
 have kla := light17_c a hea1
 have klb := light17_c b heb1
 have hszp : allSz 1 (ps.map (AV.it .i64)) = true := allSz_map 1 _ (fun _ => rfl) _
 refine run4 ?_
 refine cp small17_c ?_
 by_cases c0 : seed.length ≤ 1000
 rotate_left
 ·have c0' : (1000 : Int) < (seed.length : Int) := by omega
  refine runf4 @c0' ?_
  exact er0
 have c0' : ¬ (1000 : Int) < (seed.length : Int) := by omega
 cases hla : light17 a with
 | false =>
  rw [hla] at kla
  refine runf4 @c0' ?_
  refine cp kla ?_
  refine run4 ?_
  exact er0
 | true =>
 rw [hla] at kla
 cases hlb : light17 b with
 | false =>
  rw [hlb] at klb
  refine runf4 @c0' ?_
  refine cp kla ?_
  refine run4 ?_
  refine cp klb ?_
  refine run4 ?_
  exact er0
 | true =>
 rw [hlb] at klb
 have la := light_iff hla
 have lb := light_iff hlb
 refine runf4 @c0' ?_
 refine cp kla ?_
 refine run4 ?_
 refine cp klb ?_
 by_cases c1 : 0 ≤ server
 rotate_left
 ·refine run4 ?_
  exact er0
 by_cases c2 : server ≤ 5
 rotate_left
 ·refine run4 ?_
  exact er0
 by_cases c3 : ps.length ≤ 20
 rotate_left
 ·have c3' : (20 : Int) < (ps.length : Int) := by omega
  refine runf4 @c3' ?_
  exact er0
 have c3' : ¬ (20 : Int) < (ps.length : Int) := by omega
 obtain ⟨sv, rfl⟩ := Int.eq_ofNat_of_zero_le c1
 have ha : EOk a := ⟨by omega, fun e he => (hea.2 e he).item.iz⟩
 have hb : EOk b := ⟨by omega, fun e he => (heb.2 e he).item.iz⟩
 have kk := keySeed_c seed (by omega)
 have hk := keySeed_right seed
 have hkr := key_rngF hk
 generalize keySeed seed = k at *
 clear kla klb hea heb hla hlb
 have c2' : ¬ (5 : Int) < (sv : Int) := by omega
 by_cases cc : (b.length : Int) < (a.length : Int)
 ·have m := made_of (k := k) hk (server := (sv : Int)) (by omega) (o := b) (l := a) (t := 0) (u := 1) (by omega) (by omega) (by decide) (by decide)
  have kho := shead_c k (sv : Int) b 0 hkr.1 hb.len hb.iz
  have khl := shead_c k (sv : Int) a 1 hkr.1 ha.len ha.iz
  have kmk := fkmake_c a (mkHead k (sv : Int) a 1) (mkHead k (sv : Int) b 0) ha
  rw [m.eq] at kmk
  have kro := sroot_c b hb.len hb.iz
  have krl := sroot_c (a.take b.length) (ha.take _).len (ha.take _).iz
  have hszl := entries_sz a
  have hle : b.length ≤ a.length := by omega
  have mf := m.formed
  have ms := m.srv
  have mc := fun he ps h1 h2 => m.check ps h1 h2 he
  have mn := m.none
  clear m
  generalize evOf k (sv : Int) a b 1 0 = E at *
  generalize mkHead k (sv : Int) a 1 = hl1 at *
  generalize mkHead k (sv : Int) b 0 = ho1 at *
  refine runf4 (an @c3' (an @c2' @cc)) ?_
  refine cp kk ?_
  refine run4 ?_
  refine cp kho ?_
  refine run4 ?_
  refine cp khl ?_
  refine run4 ?_
  refine cp kmk ?_
  by_cases he : rootE (a.take b.length) = rootE b
  ·rw [if_pos he]
   rw [he] at krl
   have q1 : (rootE b != rootE b) = false := by simp
   have z1 : evid0.root = [] := rfl
   have z2 : evid0.link = [] := rfl
   have z3 : (([] : By) == []) = true := rfl
   generalize rootE b = ro at *
   refine runf4 (an @hszl @hle) ?_
   refine cp kro ?_
   refine runf4 (an @hszl @hle) ?_
   refine cp krl ?_
   refine runf4 (an @q1 (an @z1 (an @z2 @z3))) ?_
   exact er0
  rw [if_neg he]
  have mc2 := mc he
  have q1 : (rootE b == rootE (a.take b.length)) = false := by simpa using fun h => he h.symm
  generalize rootE b = ro at *
  generalize rootE (a.take b.length) = rl at *
  refine runf4 (an @hszl @hle) ?_
  refine cp kro ?_
  refine runf4 (an @hszl @hle) ?_
  refine cp krl ?_
  refine runf4 @q1 ?_
  refine wk0 ?_; refine run4 ?_
  repeat (first | refine z4 ?_ | refine k4r ?_ | (refine a4r ?_; refine runf4 @hszp ?_) | (refine a4 ?_; refine runf4 @hszp ?_)); try refine runf4 @hszp ?_
  refine zp4 (by (conv => lhs; simp -implicitDefEqProofs (maxSteps := 4000000) (disch := (first | omega | (simp only [List.length_append, List.length_cons, List.length_map, List.length_nil, List.length_take, List.length_drop]; omega))) only [AppF_append, aAppW, ↓zpre, zpost, cst1, ↓reduceIte, Nat.reduceEqDiff, Nat.reduceAdd, Nat.reduceLT, Nat.reduceLeDiff, Nat.reduceMul, Nat.reduceSub, Int.reduceToNat, Int.reduceAdd, Int.reduceSub, Int.reduceMul, Int.reduceNeg, Int.reduceLE, Int.reduceLT, Int.reduceEq, Int.reduceBEq, Int.reduceBNe, Nat.reduceBEq, Nat.reduceBNe, aBin, aEq, aEqF, aNilEq, aInt, aStr, aUn, aConv, aNil, aFldAddr, aFld, aIdxAddr, aIdx, aBui, aLoad, aStore, aLits, aLit, aMake, aMakeW, aMapSet, aLook, kfind, keq, kok, lookOut, aMk, aRange, aNext, aBytes, aApp, srcOf, aSlice, aBound, modeCut, apart, aFill, aval, aGd, ACall, AV.wk, AV.wk2, AV.wk1, AV.cells, AV.solid, AV.ro, AV.ro1, ← List.map_take, ← List.map_drop, reduceCtorEq, Option.isNone_some, Option.isSome_none, tf0, tf1, tf2, tf3, tf4, tf5, tf6, tf7, tf8, tf9, tf10, tf11, tf12, tf13, tf14, tf15, tf16, tf17, tf18, tf19, tf20, tf21, tf22, tf23, tf24, tf25, tf26, tf27, tf28, hszp]); try rfl) ?_
  repeat (first | refine z4 ?_ | refine k4r ?_ | (refine a4r ?_; refine runf4 @hszp ?_) | (refine a4 ?_; refine runf4 @hszp ?_)); try refine runf4 @hszp ?_
  rw [flat_ints]
  have hlen := evidS_lenF mf
  have kb := fkbytes_c E (by omega)
  have kread := fkread_c (evidB E) hlen.1
  rw [readEv_back mf] at kread
  have ksv := fkserver_c E
  rw [ms] at ksv
  refine loop_mk (fun n e S => e 1 = .it .i64 (sv : Int) ∧ e 11 = .bo true ∧ e 12 = .ptr 0 0 ∧ e 15 = .ptr 3 0 ∧ ∃ (i : Nat) (r : List Int) (c1 c2 : SObj), e 17 = .wr 4 (ps.length + i) none ∧ S = [.cells [.it .i64 k.secret, .it .i64 k.pub], c1, c2, .cells (evV E).cells, .row (r.map (AV.it .i64)) 3 1] ∧ r = ps ++ List.replicate i 1 ∧ ps.length + i ≤ max ps.length (sv + 1) ∧ n + i = 100) 100
   ⟨(by first | rfl | (simp only [↓upd_apply, ↓put_some, ↓reduceIte, Nat.reduceEqDiff, ↓argEnv_zero, ↓argEnv_succ, *]; done)), (by first | rfl | (simp only [↓upd_apply, ↓put_some, ↓reduceIte, Nat.reduceEqDiff, ↓argEnv_zero, ↓argEnv_succ, *]; done)), (by first | rfl | (simp only [↓upd_apply, ↓put_some, ↓reduceIte, Nat.reduceEqDiff, ↓argEnv_zero, ↓argEnv_succ, *]; done)), (by first | rfl | (simp only [↓upd_apply, ↓put_some, ↓reduceIte, Nat.reduceEqDiff, ↓argEnv_zero, ↓argEnv_succ, *]; done)), 0, ps, _, _, (by first | rfl | (simp only [↓upd_apply, ↓put_some, ↓reduceIte, Nat.reduceEqDiff, ↓argEnv_zero, ↓argEnv_succ, *]; done)), rfl, by simp, by omega, rfl⟩ ?_
  rintro n e S ⟨s1, s11, s12, s15, i, r, o1, o2, s17, rfl, hr, him, hn⟩
  have hrl : r.length = ps.length + i := by rw [hr]; simp
  by_cases hlt : ps.length + i ≤ sv
  ·have hlt' : ((ps.length + i : Nat) : Int) ≤ (sv : Int) := by omega
   refine runf4 (an @s1 (an @s11 (an @s12 (an @s15 (an @s17 @hlt'))))) ?_
   exact round_mk (n - 1) (by omega) ⟨(by first | rfl | (simp only [↓upd_apply, ↓put_some, ↓reduceIte, Nat.reduceEqDiff, ↓argEnv_zero, ↓argEnv_succ, *]; done)), (by first | rfl | (simp only [↓upd_apply, ↓put_some, ↓reduceIte, Nat.reduceEqDiff, ↓argEnv_zero, ↓argEnv_succ, *]; done)), (by first | rfl | (simp only [↓upd_apply, ↓put_some, ↓reduceIte, Nat.reduceEqDiff, ↓argEnv_zero, ↓argEnv_succ, *]; done)), (by first | rfl | (simp only [↓upd_apply, ↓put_some, ↓reduceIte, Nat.reduceEqDiff, ↓argEnv_zero, ↓argEnv_succ, *]; done)), i + 1, r ++ [1], o1, o2, (by first | rfl | (simp only [↓upd_apply, ↓put_some, ↓reduceIte, Nat.reduceEqDiff, ↓argEnv_zero, ↓argEnv_succ, *]; done)), by rw [List.map_append]; rfl, by rw [hr, List.replicate_succ', List.append_assoc], by omega, by omega⟩
  have hlt' : ¬ ((ps.length + i : Nat) : Int) ≤ (sv : Int) := by omega
  have hsv : sv < r.length := by omega
  have hset := aSet_map (AV.it .i64) r sv k.pub hsv
  have hkl : (r.set sv k.pub).length = ps.length + i := by rw [List.length_set, hrl]
  have hInK : InL (r.set sv k.pub) := ⟨by omega, fun x hx => by
   rcases List.mem_or_eq_of_mem_set hx with hx | rfl
   ·rw [hr] at hx
    rcases List.mem_append.1 hx with hx | hx
    ·exact hp.rng x hx
    ·rw [List.eq_of_mem_replicate hx]; decide
   ·exact hkr.2⟩
  have hInT : InL ((r.set sv k.pub).take sv) := ⟨by rw [List.length_take]; omega, fun x hx => hInK.rng x (List.mem_of_mem_take hx)⟩
  have kc1 := fkcheck_c (r.set sv k.pub) E hInK (by omega)
  have kc2 := fkcheck_c ((r.set sv k.pub).take sv) E hInT (by omega)
  rw [mc2 (r.set sv k.pub) (by omega) (by rw [Int.toNat_natCast, List.getD_eq_getElem?_getD, List.getElem?_set_self hsv]; rfl)] at kc1
  rw [mn ((r.set sv k.pub).take sv) (by rw [List.length_take]; omega)] at kc2
  have hszk : allSz 1 ((r.set sv k.pub).map (AV.it .i64)) = true := allSz_map 1 _ (fun _ => rfl) _
  have hoks : (aSet (r.map (AV.it .i64)) sv [AV.it .i64 k.pub]).all (AV.o1 0) = true := by rw [hset]; exact ints_ok _
  refine runf4 (an @s1 (an @s11 (an @s12 (an @s15 (an @s17 (an @hlt' @Nat.mul_one)))))) ?_
  refine wkz 17 4 (hset.trans (flat_ints _).symm) (by rw [List.length_map, hkl]) hszk hoks ?_ (hd := (by first | rfl | (simp only [↓upd_apply, ↓put_some, ↓reduceIte, Nat.reduceEqDiff, ↓argEnv_zero, ↓argEnv_succ, *]; done)))
  refine runf4 (an @s1 (an @s11 (an @s12 @s15))) ?_
  refine cp kb ?_
  refine runf4 (an @s1 (an @s11 (an @s12 @s15))) ?_
  refine cp kread ?_
  refine runf4 (an @s1 (an @s11 (an @s12 @s15))) ?_
  refine cp kc1 ?_
  refine runf4 (an @s1 (an @s11 (an @s12 @s15))) ?_
  refine cp kc1 ?_
  refine runf4 (an @s1 (an @s11 (an @s12 @s15))) ?_
  refine cp ksv ?_
  refine runf4 (an @s1 (an @s11 (an @s12 (an @s15 (an @hszk @hkl))))) ?_
  refine cp kc2 ?_
  refine runf4 (an @s1 (an @s11 (an @s12 @s15))) ?_
  exact er0
 ·have m := made_of (k := k) hk (server := (sv : Int)) (by omega) (o := a) (l := b) (t := 0) (u := 1) (by omega) (by omega) (by decide) (by decide)
  have kho := shead_c k (sv : Int) a 0 hkr.1 ha.len ha.iz
  have khl := shead_c k (sv : Int) b 1 hkr.1 hb.len hb.iz
  have kmk := fkmake_c b (mkHead k (sv : Int) b 1) (mkHead k (sv : Int) a 0) hb
  rw [m.eq] at kmk
  have kro := sroot_c a ha.len ha.iz
  have krl := sroot_c (b.take a.length) (hb.take _).len (hb.take _).iz
  have hszl := entries_sz b
  have hle : a.length ≤ b.length := by omega
  have mf := m.formed
  have ms := m.srv
  have mc := fun he ps h1 h2 => m.check ps h1 h2 he
  have mn := m.none
  clear m
  generalize evOf k (sv : Int) b a 1 0 = E at *
  generalize mkHead k (sv : Int) b 1 = hl1 at *
  generalize mkHead k (sv : Int) a 0 = ho1 at *
  refine runf4 (an @c3' (an @c2' @cc)) ?_
  refine cp kk ?_
  refine run4 ?_
  refine cp kho ?_
  refine run4 ?_
  refine cp khl ?_
  refine run4 ?_
  refine cp kmk ?_
  by_cases he : rootE (b.take a.length) = rootE a
  ·rw [if_pos he]
   rw [he] at krl
   have q1 : (rootE a != rootE a) = false := by simp
   have z1 : evid0.root = [] := rfl
   have z2 : evid0.link = [] := rfl
   have z3 : (([] : By) == []) = true := rfl
   generalize rootE a = ro at *
   refine runf4 (an @hszl @hle) ?_
   refine cp kro ?_
   refine runf4 (an @hszl @hle) ?_
   refine cp krl ?_
   refine runf4 (an @q1 (an @z1 (an @z2 @z3))) ?_
   exact er0
  rw [if_neg he]
  have mc2 := mc he
  have q1 : (rootE a == rootE (b.take a.length)) = false := by simpa using fun h => he h.symm
  generalize rootE a = ro at *
  generalize rootE (b.take a.length) = rl at *
  refine runf4 (an @hszl @hle) ?_
  refine cp kro ?_
  refine runf4 (an @hszl @hle) ?_
  refine cp krl ?_
  refine runf4 @q1 ?_
  refine wk0 ?_; refine run4 ?_
  repeat (first | refine z4 ?_ | refine k4r ?_ | (refine a4r ?_; refine runf4 @hszp ?_) | (refine a4 ?_; refine runf4 @hszp ?_)); try refine runf4 @hszp ?_
  refine zp4 (by (conv => lhs; simp -implicitDefEqProofs (maxSteps := 4000000) (disch := (first | omega | (simp only [List.length_append, List.length_cons, List.length_map, List.length_nil, List.length_take, List.length_drop]; omega))) only [AppF_append, aAppW, ↓zpre, zpost, cst1, ↓reduceIte, Nat.reduceEqDiff, Nat.reduceAdd, Nat.reduceLT, Nat.reduceLeDiff, Nat.reduceMul, Nat.reduceSub, Int.reduceToNat, Int.reduceAdd, Int.reduceSub, Int.reduceMul, Int.reduceNeg, Int.reduceLE, Int.reduceLT, Int.reduceEq, Int.reduceBEq, Int.reduceBNe, Nat.reduceBEq, Nat.reduceBNe, aBin, aEq, aEqF, aNilEq, aInt, aStr, aUn, aConv, aNil, aFldAddr, aFld, aIdxAddr, aIdx, aBui, aLoad, aStore, aLits, aLit, aMake, aMakeW, aMapSet, aLook, kfind, keq, kok, lookOut, aMk, aRange, aNext, aBytes, aApp, srcOf, aSlice, aBound, modeCut, apart, aFill, aval, aGd, ACall, AV.wk, AV.wk2, AV.wk1, AV.cells, AV.solid, AV.ro, AV.ro1, ← List.map_take, ← List.map_drop, reduceCtorEq, Option.isNone_some, Option.isSome_none, tf0, tf1, tf2, tf3, tf4, tf5, tf6, tf7, tf8, tf9, tf10, tf11, tf12, tf13, tf14, tf15, tf16, tf17, tf18, tf19, tf20, tf21, tf22, tf23, tf24, tf25, tf26, tf27, tf28, hszp]); try rfl) ?_
  repeat (first | refine z4 ?_ | refine k4r ?_ | (refine a4r ?_; refine runf4 @hszp ?_) | (refine a4 ?_; refine runf4 @hszp ?_)); try refine runf4 @hszp ?_
  rw [flat_ints]
  have hlen := evidS_lenF mf
  have kb := fkbytes_c E (by omega)
  have kread := fkread_c (evidB E) hlen.1
  rw [readEv_back mf] at kread
  have ksv := fkserver_c E
  rw [ms] at ksv
  refine loop_mk (fun n e S => e 1 = .it .i64 (sv : Int) ∧ e 11 = .bo true ∧ e 12 = .ptr 0 0 ∧ e 15 = .ptr 3 0 ∧ ∃ (i : Nat) (r : List Int) (c1 c2 : SObj), e 17 = .wr 4 (ps.length + i) none ∧ S = [.cells [.it .i64 k.secret, .it .i64 k.pub], c1, c2, .cells (evV E).cells, .row (r.map (AV.it .i64)) 3 1] ∧ r = ps ++ List.replicate i 1 ∧ ps.length + i ≤ max ps.length (sv + 1) ∧ n + i = 100) 100
   ⟨(by first | rfl | (simp only [↓upd_apply, ↓put_some, ↓reduceIte, Nat.reduceEqDiff, ↓argEnv_zero, ↓argEnv_succ, *]; done)), (by first | rfl | (simp only [↓upd_apply, ↓put_some, ↓reduceIte, Nat.reduceEqDiff, ↓argEnv_zero, ↓argEnv_succ, *]; done)), (by first | rfl | (simp only [↓upd_apply, ↓put_some, ↓reduceIte, Nat.reduceEqDiff, ↓argEnv_zero, ↓argEnv_succ, *]; done)), (by first | rfl | (simp only [↓upd_apply, ↓put_some, ↓reduceIte, Nat.reduceEqDiff, ↓argEnv_zero, ↓argEnv_succ, *]; done)), 0, ps, _, _, (by first | rfl | (simp only [↓upd_apply, ↓put_some, ↓reduceIte, Nat.reduceEqDiff, ↓argEnv_zero, ↓argEnv_succ, *]; done)), rfl, by simp, by omega, rfl⟩ ?_
  rintro n e S ⟨s1, s11, s12, s15, i, r, o1, o2, s17, rfl, hr, him, hn⟩
  have hrl : r.length = ps.length + i := by rw [hr]; simp
  by_cases hlt : ps.length + i ≤ sv
  ·have hlt' : ((ps.length + i : Nat) : Int) ≤ (sv : Int) := by omega
   refine runf4 (an @s1 (an @s11 (an @s12 (an @s15 (an @s17 @hlt'))))) ?_
   exact round_mk (n - 1) (by omega) ⟨(by first | rfl | (simp only [↓upd_apply, ↓put_some, ↓reduceIte, Nat.reduceEqDiff, ↓argEnv_zero, ↓argEnv_succ, *]; done)), (by first | rfl | (simp only [↓upd_apply, ↓put_some, ↓reduceIte, Nat.reduceEqDiff, ↓argEnv_zero, ↓argEnv_succ, *]; done)), (by first | rfl | (simp only [↓upd_apply, ↓put_some, ↓reduceIte, Nat.reduceEqDiff, ↓argEnv_zero, ↓argEnv_succ, *]; done)), (by first | rfl | (simp only [↓upd_apply, ↓put_some, ↓reduceIte, Nat.reduceEqDiff, ↓argEnv_zero, ↓argEnv_succ, *]; done)), i + 1, r ++ [1], o1, o2, (by first | rfl | (simp only [↓upd_apply, ↓put_some, ↓reduceIte, Nat.reduceEqDiff, ↓argEnv_zero, ↓argEnv_succ, *]; done)), by rw [List.map_append]; rfl, by rw [hr, List.replicate_succ', List.append_assoc], by omega, by omega⟩
  have hlt' : ¬ ((ps.length + i : Nat) : Int) ≤ (sv : Int) := by omega
  have hsv : sv < r.length := by omega
  have hset := aSet_map (AV.it .i64) r sv k.pub hsv
  have hkl : (r.set sv k.pub).length = ps.length + i := by rw [List.length_set, hrl]
  have hInK : InL (r.set sv k.pub) := ⟨by omega, fun x hx => by
   rcases List.mem_or_eq_of_mem_set hx with hx | rfl
   ·rw [hr] at hx
    rcases List.mem_append.1 hx with hx | hx
    ·exact hp.rng x hx
    ·rw [List.eq_of_mem_replicate hx]; decide
   ·exact hkr.2⟩
  have hInT : InL ((r.set sv k.pub).take sv) := ⟨by rw [List.length_take]; omega, fun x hx => hInK.rng x (List.mem_of_mem_take hx)⟩
  have kc1 := fkcheck_c (r.set sv k.pub) E hInK (by omega)
  have kc2 := fkcheck_c ((r.set sv k.pub).take sv) E hInT (by omega)
  rw [mc2 (r.set sv k.pub) (by omega) (by rw [Int.toNat_natCast, List.getD_eq_getElem?_getD, List.getElem?_set_self hsv]; rfl)] at kc1
  rw [mn ((r.set sv k.pub).take sv) (by rw [List.length_take]; omega)] at kc2
  have hszk : allSz 1 ((r.set sv k.pub).map (AV.it .i64)) = true := allSz_map 1 _ (fun _ => rfl) _
  have hoks : (aSet (r.map (AV.it .i64)) sv [AV.it .i64 k.pub]).all (AV.o1 0) = true := by rw [hset]; exact ints_ok _
  refine runf4 (an @s1 (an @s11 (an @s12 (an @s15 (an @s17 (an @hlt' @Nat.mul_one)))))) ?_
  refine wkz 17 4 (hset.trans (flat_ints _).symm) (by rw [List.length_map, hkl]) hszk hoks ?_ (hd := (by first | rfl | (simp only [↓upd_apply, ↓put_some, ↓reduceIte, Nat.reduceEqDiff, ↓argEnv_zero, ↓argEnv_succ, *]; done)))
  refine runf4 (an @s1 (an @s11 (an @s12 @s15))) ?_
  refine cp kb ?_
  refine runf4 (an @s1 (an @s11 (an @s12 @s15))) ?_
  refine cp kread ?_
  refine runf4 (an @s1 (an @s11 (an @s12 @s15))) ?_
  refine cp kc1 ?_
  refine runf4 (an @s1 (an @s11 (an @s12 @s15))) ?_
  refine cp kc1 ?_
  refine runf4 (an @s1 (an @s11 (an @s12 @s15))) ?_
  refine cp ksv ?_
  refine runf4 (an @s1 (an @s11 (an @s12 (an @s15 (an @hszk @hkl))))) ?_
  refine cp kc2 ?_
  refine runf4 (an @s1 (an @s11 (an @s12 @s15))) ?_
  exact er0
end Go.Proofs.YthbpbkbjdfcnjaaGreatDoor.Pe
