/- The walk of ForkGrows on plain values. Printed by tools/mkfkl.py. -/
import Derived.Test.YthbpbkbjdfcnjaaGreatDoorFkB
namespace Go.Proofs.YthbpbkbjdfcnjaaGreatDoor.Pe
set_option linter.unusedSectionVars false
set_option linter.unusedVariables false
set_option linter.unusedSimpArgs false
open Go Go.RowKit Co Sg Ac It Sl
set_option maxRecDepth 100000
set_option maxHeartbeats 4000000
structure InEn (l : List It.Entry) : Prop where
  len : l.length ≤ 140737488351232
  ok : ∀ e ∈ l, InE e
theorem InEn.eok {l : List It.Entry} (h : InEn l) (hl : l.length ≤ 30) : EOk l := ⟨by omega, fun e he => (h.ok e he).item.iz⟩
theorem tl3 (T : Store) (x y z u : SObj) : (T ++ [x] ++ [y] ++ [z] ++ [u])[T.length + 1 + 1 + 1]? = some u := by simp [Nat.add_assoc]
theorem tl3s (T : Store) (x y z u v : SObj) : (T ++ [x] ++ [y] ++ [z] ++ [u]).set (T.length + 1 + 1 + 1) v = T ++ [x] ++ [y] ++ [z] ++ [v] := by simp [Nat.add_assoc]
theorem forkGrows_c (seed : By) (l : List It.Entry) (sizes : List Int) (at_ : Int) (o : List It.Entry) (hseed : seed.length ≤ 140737488351232) (hes : InEn l) (hsi : InL sizes) (hat0 : -9223372036854775808 ≤ at_ ∧ at_ ≤ 9223372036854775807) (heo : InEn o) :
    AC Tryz.prog 10 [.st seed, entriesV l, intsV sizes, .it .i64 at_, entriesV o] [] (.bo true) [] := by
  refine AC.enter2 [26, 32, 33, 15, 34, 44, 17, 42, 23] [] Tryz.func10 rfl (by decide) (by decide) (Nat.le_of_ble_eq_true rfl) (by kernel_rfl) ?_; simp only [eraseC, eraseO, List.map_cons, List.map_nil, List.map_toArray, List.getElem?_toArray, List.getElem?_cons_zero, List.getElem?_cons_succ, Option.bind_some, Option.bind_none, List.append_eq, List.cons_append, List.nil_append]
  have hes1 := hes.len
  have heo1 := heo.len
  have hsi1 := hsi.len
  have kl1 := light17_c l hes1
  have kl2 := light17_c o heo1
  refine run ?_
  refine cp small17_c ?_
  by_cases t1 : seed.length ≤ 1000
  rotate_left
  · have t1' : (1000 : Int) < (seed.length : Int) := by omega
    refine runf @t1' ?_
    exact er0
  have t1' : ¬ (1000 : Int) < (seed.length : Int) := by omega
  by_cases t2 : l.length ≤ 12
  rotate_left
  · have t2' : (12 : Int) < (l.length : Int) := by omega
    refine runf (And.intro @t1' @t2') ?_
    exact er0
  have t2' : ¬ (12 : Int) < (l.length : Int) := by omega
  by_cases t3 : o.length ≤ 12
  rotate_left
  · have t3' : (12 : Int) < (o.length : Int) := by omega
    refine runf (And.intro @t1' (And.intro @t2' @t3')) ?_
    exact er0
  have t3' : ¬ (12 : Int) < (o.length : Int) := by omega
  cases hl1 : light17 l with
  | false =>
    rw [hl1] at kl1
    refine runf (And.intro @t1' (And.intro @t2' @t3')) ?_
    refine cp kl1 ?_
    refine run ?_
    exact er0
  | true =>
  rw [hl1] at kl1
  cases hl2 : light17 o with
  | false =>
    rw [hl2] at kl2
    refine runf (And.intro @t1' (And.intro @t2' @t3')) ?_
    refine cp kl1 ?_
    refine run ?_
    refine cp kl2 ?_
    refine run ?_
    exact er0
  | true =>
  rw [hl2] at kl2
  by_cases t4 : sizes.length ≤ 12
  rotate_left
  · have t4' : (12 : Int) < (sizes.length : Int) := by omega
    refine runf (And.intro @t1' (And.intro @t2' @t3')) ?_
    refine cp kl1 ?_
    refine run ?_
    refine cp kl2 ?_
    refine runf @t4' ?_
    exact er0
  have t4' : ¬ (12 : Int) < (sizes.length : Int) := by omega
  have hl := hes.eok (by omega)
  have ho := heo.eok (by omega)
  have hk := keySeed_right seed
  have kk := keySeed_c seed (by omega)
  generalize keySeed seed = k at *
  have hkr := keyE_rng hk
  have hps : InL [k.pub] := ⟨by show 1 ≤ _; omega, fun i hi => by rw [List.mem_singleton.1 hi]; exact hkr.2⟩
  have kho := shead_c k 0 o 3 hkr.1 ho.len ho.iz
  have hszl := entries_sz l
  have hszs : allSz 1 (sizes.map (AV.it .i64)) = true := allSz_map 1 _ (fun _ => rfl) _
  refine runf (And.intro @t1' (And.intro @t2' @t3')) ?_
  refine cp kl1 ?_
  refine run ?_
  refine cp kl2 ?_
  refine runf @t4' ?_
  refine cp kk ?_
  refine run ?_
  refine cp (mnew_c 0) ?_
  refine run ?_
  refine cp kho ?_
  refine run ?_
  refine loop_mk (fun mm e S => e 1 = entriesV l ∧ e 2 = intsV sizes ∧ e 3 = .it .i64 at_ ∧ e 4 = entriesV o ∧ e 11 = .bo true ∧ e 12 = .ptr 0 0 ∧ e 13 = .sl .full [.it .i64 k.pub] ∧ e 14 = .ptr 1 0 ∧ e 15 = .ptr 2 0 ∧ ∃ (i : Nat) (m : Mirror) (n : Nat) (T : Store), e 16 = .it .i64 (i : Int) ∧ S = .cells [.it .i64 k.secret, .it .i64 k.pub] :: .cells [.it .i64 m.server, entriesV m.entries, headsV m.heads] :: .cells (headL (mkHead k 0 o 3)) :: T ∧ i ≤ sizes.length ∧ Grown k l m n ∧ m.heads.length ≤ i ∧ mm = sizes.length - i) sizes.length
    ⟨(by first | rfl | (simp only [↓upd_apply, ↓put_some, ↓reduceIte, Nat.reduceEqDiff, ↓argEnv_zero, ↓argEnv_succ, *]; done)), (by first | rfl | (simp only [↓upd_apply, ↓put_some, ↓reduceIte, Nat.reduceEqDiff, ↓argEnv_zero, ↓argEnv_succ, *]; done)), (by first | rfl | (simp only [↓upd_apply, ↓put_some, ↓reduceIte, Nat.reduceEqDiff, ↓argEnv_zero, ↓argEnv_succ, *]; done)), (by first | rfl | (simp only [↓upd_apply, ↓put_some, ↓reduceIte, Nat.reduceEqDiff, ↓argEnv_zero, ↓argEnv_succ, *]; done)), (by first | rfl | (simp only [↓upd_apply, ↓put_some, ↓reduceIte, Nat.reduceEqDiff, ↓argEnv_zero, ↓argEnv_succ, *]; done)), (by first | rfl | (simp only [↓upd_apply, ↓put_some, ↓reduceIte, Nat.reduceEqDiff, ↓argEnv_zero, ↓argEnv_succ, *]; done)), (by first | rfl | (simp only [↓upd_apply, ↓put_some, ↓reduceIte, Nat.reduceEqDiff, ↓argEnv_zero, ↓argEnv_succ, *]; done)), (by first | rfl | (simp only [↓upd_apply, ↓put_some, ↓reduceIte, Nat.reduceEqDiff, ↓argEnv_zero, ↓argEnv_succ, *]; done)), (by first | rfl | (simp only [↓upd_apply, ↓put_some, ↓reduceIte, Nat.reduceEqDiff, ↓argEnv_zero, ↓argEnv_succ, *]; done)), 0, ⟨0, [], []⟩, 0, [], (by first | rfl | (simp only [↓upd_apply, ↓put_some, ↓reduceIte, Nat.reduceEqDiff, ↓argEnv_zero, ↓argEnv_succ, *]; done)), rfl, by omega, grown_new k l, Nat.le_refl 0, rfl⟩ ?_
  rintro mm e S ⟨s1, s2, s3, s4, s11, s12, s13, s14, s15, i, m, n, T, s16, rfl, hi, hg, hmh, rfl⟩
  by_cases hlt : i < sizes.length
  rotate_left
  · obtain rfl : i = sizes.length := by omega
    have hx : ¬ ((sizes.length : Nat) : Int) < (sizes.length : Int) := by omega
    refine runf (And.intro @s1 (And.intro @s2 (And.intro @s3 (And.intro @s4 (And.intro @s11 (And.intro @s12 (And.intro @s13 (And.intro @s14 (And.intro @s15 (And.intro @s16 @hx)))))))))) ?_
    exact er0
  have hgs : sizes[i]? = some sizes[i] := List.getElem?_eq_getElem hlt
  generalize sizes[i] = x at *
  by_cases u1 : x < 1
  · refine runf (And.intro @s1 (And.intro @s2 (And.intro @s3 (And.intro @s4 (And.intro @s11 (And.intro @s12 (And.intro @s13 (And.intro @s14 (And.intro @s15 (And.intro @s16 (And.intro @hgs (And.intro @hszs @u1)))))))))))) ?_
    exact round_mk (sizes.length - (i + 1)) (by omega) ⟨(by first | rfl | (simp only [↓upd_apply, ↓put_some, ↓reduceIte, Nat.reduceEqDiff, ↓argEnv_zero, ↓argEnv_succ, *]; done)), (by first | rfl | (simp only [↓upd_apply, ↓put_some, ↓reduceIte, Nat.reduceEqDiff, ↓argEnv_zero, ↓argEnv_succ, *]; done)), (by first | rfl | (simp only [↓upd_apply, ↓put_some, ↓reduceIte, Nat.reduceEqDiff, ↓argEnv_zero, ↓argEnv_succ, *]; done)), (by first | rfl | (simp only [↓upd_apply, ↓put_some, ↓reduceIte, Nat.reduceEqDiff, ↓argEnv_zero, ↓argEnv_succ, *]; done)), (by first | rfl | (simp only [↓upd_apply, ↓put_some, ↓reduceIte, Nat.reduceEqDiff, ↓argEnv_zero, ↓argEnv_succ, *]; done)), (by first | rfl | (simp only [↓upd_apply, ↓put_some, ↓reduceIte, Nat.reduceEqDiff, ↓argEnv_zero, ↓argEnv_succ, *]; done)), (by first | rfl | (simp only [↓upd_apply, ↓put_some, ↓reduceIte, Nat.reduceEqDiff, ↓argEnv_zero, ↓argEnv_succ, *]; done)), (by first | rfl | (simp only [↓upd_apply, ↓put_some, ↓reduceIte, Nat.reduceEqDiff, ↓argEnv_zero, ↓argEnv_succ, *]; done)), (by first | rfl | (simp only [↓upd_apply, ↓put_some, ↓reduceIte, Nat.reduceEqDiff, ↓argEnv_zero, ↓argEnv_succ, *]; done)), i + 1, m, n, _, (by first | rfl | (simp only [↓upd_apply, ↓put_some, ↓reduceIte, Nat.reduceEqDiff, ↓argEnv_zero, ↓argEnv_succ, *]; done)), rfl, by omega, hg, by omega, rfl⟩
  by_cases u2 : (l.length : Int) < x
  · refine runf (And.intro @s1 (And.intro @s2 (And.intro @s3 (And.intro @s4 (And.intro @s11 (And.intro @s12 (And.intro @s13 (And.intro @s14 (And.intro @s15 (And.intro @s16 (And.intro @hgs (And.intro @hszs (And.intro @u1 @u2))))))))))))) ?_
    exact round_mk (sizes.length - (i + 1)) (by omega) ⟨(by first | rfl | (simp only [↓upd_apply, ↓put_some, ↓reduceIte, Nat.reduceEqDiff, ↓argEnv_zero, ↓argEnv_succ, *]; done)), (by first | rfl | (simp only [↓upd_apply, ↓put_some, ↓reduceIte, Nat.reduceEqDiff, ↓argEnv_zero, ↓argEnv_succ, *]; done)), (by first | rfl | (simp only [↓upd_apply, ↓put_some, ↓reduceIte, Nat.reduceEqDiff, ↓argEnv_zero, ↓argEnv_succ, *]; done)), (by first | rfl | (simp only [↓upd_apply, ↓put_some, ↓reduceIte, Nat.reduceEqDiff, ↓argEnv_zero, ↓argEnv_succ, *]; done)), (by first | rfl | (simp only [↓upd_apply, ↓put_some, ↓reduceIte, Nat.reduceEqDiff, ↓argEnv_zero, ↓argEnv_succ, *]; done)), (by first | rfl | (simp only [↓upd_apply, ↓put_some, ↓reduceIte, Nat.reduceEqDiff, ↓argEnv_zero, ↓argEnv_succ, *]; done)), (by first | rfl | (simp only [↓upd_apply, ↓put_some, ↓reduceIte, Nat.reduceEqDiff, ↓argEnv_zero, ↓argEnv_succ, *]; done)), (by first | rfl | (simp only [↓upd_apply, ↓put_some, ↓reduceIte, Nat.reduceEqDiff, ↓argEnv_zero, ↓argEnv_succ, *]; done)), (by first | rfl | (simp only [↓upd_apply, ↓put_some, ↓reduceIte, Nat.reduceEqDiff, ↓argEnv_zero, ↓argEnv_succ, *]; done)), i + 1, m, n, _, (by first | rfl | (simp only [↓upd_apply, ↓put_some, ↓reduceIte, Nat.reduceEqDiff, ↓argEnv_zero, ↓argEnv_succ, *]; done)), rfl, by omega, hg, by omega, rfl⟩
  obtain ⟨t, rfl⟩ := Int.eq_ofNat_of_zero_le (show 0 ≤ x by omega)
  have htl : t ≤ l.length := by omega
  have hmn : m.entries.length = n := by rw [hg.entries, List.length_take]; exact Nat.min_eq_left hg.le
  have hnl := hg.le
  have hmok : EOk m.entries := by rw [hg.entries]; exact hl.take n
  have kh := shead_c k 0 (l.take t) (t : Int) hkr.1 (hl.take t).len (hl.take t).iz
  have km := mmake_c l (mkHead k 0 (l.take t) t) (m.entries.length : Int) 12 hl.len
  obtain ⟨a1, _, _⟩ := mkHead_right (k := k) (server := 0) (l := l.take t) (time := (t : Int)) hk ⟨by decide, by decide⟩ (by rw [List.length_take]; omega) (by omega)
  have hsz2 : (mkHead k 0 (l.take t) t).size = t := by rw [a1]; show ((l.take t).length : Int) = t; rw [List.length_take, Nat.min_eq_left htl]
  clear a1
  have hmk : make l (mkHead k 0 (l.take t) t) (m.entries.length : Int) 12 = if t ≤ n then (batch0, false) else (⟨mkHead k 0 (l.take t) t, n, (l.take t).drop n⟩, true) := by
    unfold make
    rw [hsz2, hmn, Int.toNat_natCast, Int.toNat_natCast]
    by_cases htn : t ≤ n
    · rw [if_pos (by omega), if_pos htn]
    · rw [if_neg (by omega), if_neg (by omega), if_neg htn]
  rw [hmk] at km
  by_cases htn : t ≤ n
  · rw [if_pos htn] at km
    generalize mkHead k 0 (l.take t) t = hd at *
    refine runf (And.intro @s1 (And.intro @s2 (And.intro @s3 (And.intro @s4 (And.intro @s11 (And.intro @s12 (And.intro @s13 (And.intro @s14 (And.intro @s15 (And.intro @s16 (And.intro @hgs (And.intro @hszs (And.intro @u1 (And.intro @u2 (And.intro @hszl @htl))))))))))))))) ?_
    refine cp kh ?_
    refine runf (And.intro @s1 (And.intro @s2 (And.intro @s3 (And.intro @s4 (And.intro @s11 (And.intro @s12 (And.intro @s13 (And.intro @s14 (And.intro @s15 (And.intro @s16 (And.intro @hgs (And.intro @hszs (And.intro @hszl @htl))))))))))))) ?_
    refine cp km ?_
    refine runf (And.intro @s1 (And.intro @s2 (And.intro @s3 (And.intro @s4 (And.intro @s11 (And.intro @s12 (And.intro @s13 (And.intro @s14 (And.intro @s15 (And.intro @s16 (And.intro @tl0 @tl0s))))))))))) ?_
    exact round_mk (sizes.length - (i + 1)) (by omega) ⟨(by first | rfl | (simp only [↓upd_apply, ↓put_some, ↓reduceIte, Nat.reduceEqDiff, ↓argEnv_zero, ↓argEnv_succ, *]; done)), (by first | rfl | (simp only [↓upd_apply, ↓put_some, ↓reduceIte, Nat.reduceEqDiff, ↓argEnv_zero, ↓argEnv_succ, *]; done)), (by first | rfl | (simp only [↓upd_apply, ↓put_some, ↓reduceIte, Nat.reduceEqDiff, ↓argEnv_zero, ↓argEnv_succ, *]; done)), (by first | rfl | (simp only [↓upd_apply, ↓put_some, ↓reduceIte, Nat.reduceEqDiff, ↓argEnv_zero, ↓argEnv_succ, *]; done)), (by first | rfl | (simp only [↓upd_apply, ↓put_some, ↓reduceIte, Nat.reduceEqDiff, ↓argEnv_zero, ↓argEnv_succ, *]; done)), (by first | rfl | (simp only [↓upd_apply, ↓put_some, ↓reduceIte, Nat.reduceEqDiff, ↓argEnv_zero, ↓argEnv_succ, *]; done)), (by first | rfl | (simp only [↓upd_apply, ↓put_some, ↓reduceIte, Nat.reduceEqDiff, ↓argEnv_zero, ↓argEnv_succ, *]; done)), (by first | rfl | (simp only [↓upd_apply, ↓put_some, ↓reduceIte, Nat.reduceEqDiff, ↓argEnv_zero, ↓argEnv_succ, *]; done)), (by first | rfl | (simp only [↓upd_apply, ↓put_some, ↓reduceIte, Nat.reduceEqDiff, ↓argEnv_zero, ↓argEnv_succ, *]; done)), i + 1, m, n, _, (by first | rfl | (simp only [↓upd_apply, ↓put_some, ↓reduceIte, Nat.reduceEqDiff, ↓argEnv_zero, ↓argEnv_succ, *]; done)), rfl, by omega, hg, by omega, rfl⟩
  rw [if_neg htn] at km
  have kt := mtake_c [k.pub] m ⟨mkHead k 0 (l.take t) t, n, (l.take t).drop n⟩ hps hmok (by omega) (by omega) ((hl.take t).drop n) (by show -9223372036854775808 ≤ (n : Int) ∧ (n : Int) ≤ 9223372036854775807; omega)
  have hnx := grown_next hk hg (by omega) (s := t) (by omega) htl
  generalize Sl.take [k.pub] m ⟨mkHead k 0 (l.take t) t, n, (l.take t).drop n⟩ = tk at *
  obtain ⟨m2, cd⟩ := tk
  simp only at kt hnx
  generalize mkHead k 0 (l.take t) t = hd at *
  refine runf (And.intro @s1 (And.intro @s2 (And.intro @s3 (And.intro @s4 (And.intro @s11 (And.intro @s12 (And.intro @s13 (And.intro @s14 (And.intro @s15 (And.intro @s16 (And.intro @hgs (And.intro @hszs (And.intro @u1 (And.intro @u2 (And.intro @hszl @htl))))))))))))))) ?_
  refine cp kh ?_
  refine runf (And.intro @s1 (And.intro @s2 (And.intro @s3 (And.intro @s4 (And.intro @s11 (And.intro @s12 (And.intro @s13 (And.intro @s14 (And.intro @s15 (And.intro @s16 (And.intro @hgs (And.intro @hszs (And.intro @hszl @htl))))))))))))) ?_
  refine cp km ?_
  refine runf (And.intro @s1 (And.intro @s2 (And.intro @s3 (And.intro @s4 (And.intro @s11 (And.intro @s12 (And.intro @s13 (And.intro @s14 (And.intro @s15 (And.intro @s16 (And.intro @tl0 @tl0s))))))))))) ?_
  refine cp kt ?_
  by_cases hcd : cd = 0
  · subst hcd
    obtain ⟨hg2, hh2⟩ := hnx rfl
    have hMl : m2.entries.length = t := by rw [hg2.entries, List.length_take]; exact Nat.min_eq_left hg2.le
    have hNl := hg2.le
    have hMok : EOk m2.entries := by rw [hg2.entries]; exact hl.take t
    have kfh := fkfind_c [k.pub] m2 (mkHead k 0 o 3) hps hMok (by omega)
    have hfh := grown_find hk hg2 (by omega) (o := o) (t := 3) (by omega) (by decide)
    rw [← hg2.entries] at hfh
    generalize findE [k.pub] m2.entries m2.heads (mkHead k 0 o 3) = fr at *
    obtain ⟨fe, fb⟩ := fr
    simp only at hfh kfh
    have kro := sroot_c o ho.len ho.iz
    have krm := sroot_c (m2.entries.take o.length) (hMok.take _).len (hMok.take _).iz
    have hszm := entries_sz m2.entries
    have fin : ∀ {e' : Env}, True := fun {_} => trivial
    by_cases hat : 0 ≤ at_ ∧ at_ ≤ (l.length : Int)
    focus
      obtain ⟨hat1, hat2⟩ := hat
      obtain ⟨a, hae⟩ := Int.eq_ofNat_of_zero_le hat1
      have hal : a ≤ l.length := by omega
      have hai : at_.toNat = a := by omega
      have kha := shead_c k 0 (l.take a) at_ hkr.1 (hl.take a).len (hl.take a).iz
      have kfa := fkfind_c [k.pub] m2 (mkHead k 0 (l.take a) at_) hps hMok (by omega)
      have hfa := grown_find hk hg2 (by omega) (o := l.take a) (t := at_) (by rw [List.length_take]; omega) (by omega)
      have hz : (findE [k.pub] m2.entries m2.heads (mkHead k 0 (l.take a) at_)).2 = false := by
        rw [hfa]
        have hll : (l.take a).length = a := by rw [List.length_take]; omega
        rw [hll]
        by_cases haN : a ≤ t
        · have : (l.take t).take a = l.take a := by rw [List.take_take, Nat.min_eq_left haN]
          rw [this, decide_eq_true (p := rootE (l.take a) = rootE (l.take a)) rfl]
          simp
        · rw [decide_eq_false haN]
          simp
      generalize findE [k.pub] m2.entries m2.heads (mkHead k 0 (l.take a) at_) = fr2 at *
      obtain ⟨fe2, fb2⟩ := fr2
      simp only at hz kfa
      subst hz
      generalize mkHead k 0 (l.take a) at_ = hda at *
      refine runf (And.intro @s1 (And.intro @s2 (And.intro @s3 (And.intro @s4 (And.intro @s11 (And.intro @s12 (And.intro @s13 (And.intro @s14 (And.intro @s15 (And.intro @s16 (And.intro @hal (And.intro @hai (And.intro @hszl (And.intro @tl0 (And.intro @tl0s (And.intro @tl1 (And.intro @tl1s @tl10))))))))))))))))) ?_
      refine cp kha ?_
      refine runf (And.intro @s1 (And.intro @s2 (And.intro @s3 (And.intro @s4 (And.intro @s11 (And.intro @s12 (And.intro @s13 (And.intro @s14 (And.intro @s15 (And.intro @s16 (And.intro @tl0 (And.intro @tl0s (And.intro @tl1 (And.intro @tl1s @tl10)))))))))))))) ?_
      refine cp kfa ?_
      refine runf (And.intro @s1 (And.intro @s2 (And.intro @s3 (And.intro @s4 (And.intro @s11 (And.intro @s12 (And.intro @s13 (And.intro @s14 (And.intro @s15 (And.intro @s16 (And.intro @tl0 (And.intro @tl0s (And.intro @tl1 (And.intro @tl1s (And.intro @tl10 (And.intro @ul2 (And.intro @ul2s (And.intro @ul21 (And.intro @ul20 (And.intro @tl3 @tl3s)))))))))))))))))))) ?_
    rotate_left
    focus
      by_cases hat1 : 0 ≤ at_
      · have hat2 : ¬ at_ ≤ (l.length : Int) := fun h => hat ⟨hat1, h⟩
        refine runf (And.intro @s1 (And.intro @s2 (And.intro @s3 (And.intro @s4 (And.intro @s11 (And.intro @s12 (And.intro @s13 (And.intro @s14 (And.intro @s15 (And.intro @s16 (And.intro @tl0 (And.intro @tl0s (And.intro @tl1 (And.intro @tl1s @tl10)))))))))))))) ?_
        refine cp kfh ?_
        refine runf (And.intro @s1 (And.intro @s2 (And.intro @s3 (And.intro @s4 (And.intro @s11 (And.intro @s12 (And.intro @s13 (And.intro @s14 (And.intro @s15 (And.intro @s16 (And.intro @tl0 (And.intro @tl0s (And.intro @tl1 (And.intro @tl1s (And.intro @tl10 (And.intro @ul2 (And.intro @ul2s (And.intro @ul21 (And.intro @ul20 (And.intro @tl3 @tl3s)))))))))))))))))))) ?_
        by_cases hN : 0 < t
        rotate_left
        · first
          | (exfalso; omega)
          | (have hN' : ¬ (0 : Int) < (m2.entries.length : Int) := by omega
             rw [decide_eq_false hN] at hfh
             subst hfh
             refine runf (And.intro @s1 (And.intro @s2 (And.intro @s3 (And.intro @s4 (And.intro @s11 (And.intro @s12 (And.intro @s13 (And.intro @s14 (And.intro @s15 (And.intro @s16 @hN')))))))))) ?_
             exact round_mk (sizes.length - (i + 1)) (by omega) ⟨(by first | rfl | (simp only [↓upd_apply, ↓put_some, ↓reduceIte, Nat.reduceEqDiff]; exact s1)), (by first | rfl | (simp only [↓upd_apply, ↓put_some, ↓reduceIte, Nat.reduceEqDiff]; exact s2)), (by first | rfl | (simp only [↓upd_apply, ↓put_some, ↓reduceIte, Nat.reduceEqDiff]; exact s3)), (by first | rfl | (simp only [↓upd_apply, ↓put_some, ↓reduceIte, Nat.reduceEqDiff]; exact s4)), (by first | rfl | (simp only [↓upd_apply, ↓put_some, ↓reduceIte, Nat.reduceEqDiff]; exact s11)), (by first | rfl | (simp only [↓upd_apply, ↓put_some, ↓reduceIte, Nat.reduceEqDiff]; exact s12)), (by first | rfl | (simp only [↓upd_apply, ↓put_some, ↓reduceIte, Nat.reduceEqDiff]; exact s13)), (by first | rfl | (simp only [↓upd_apply, ↓put_some, ↓reduceIte, Nat.reduceEqDiff]; exact s14)), (by first | rfl | (simp only [↓upd_apply, ↓put_some, ↓reduceIte, Nat.reduceEqDiff]; exact s15)), i + 1, m2, t, _, (by first | rfl | (simp only [↓upd_apply, ↓put_some, ↓reduceIte, Nat.reduceEqDiff]; rfl)), rfl, by omega, hg2, by omega, rfl⟩)
        have hN' : (0 : Int) < (m2.entries.length : Int) := by omega
        rw [decide_eq_true hN] at hfh
        by_cases hoN : o.length ≤ t
        rotate_left
        · have hoN' : ¬ (o.length : Int) ≤ (m2.entries.length : Int) := by omega
          rw [decide_eq_false hoN] at hfh
          have hfh : fb = false := hfh
          subst hfh
          refine runf (And.intro @s1 (And.intro @s2 (And.intro @s3 (And.intro @s4 (And.intro @s11 (And.intro @s12 (And.intro @s13 (And.intro @s14 (And.intro @s15 (And.intro @s16 (And.intro @hN' @hoN'))))))))))) ?_
          exact round_mk (sizes.length - (i + 1)) (by omega) ⟨(by first | rfl | (simp only [↓upd_apply, ↓put_some, ↓reduceIte, Nat.reduceEqDiff]; exact s1)), (by first | rfl | (simp only [↓upd_apply, ↓put_some, ↓reduceIte, Nat.reduceEqDiff]; exact s2)), (by first | rfl | (simp only [↓upd_apply, ↓put_some, ↓reduceIte, Nat.reduceEqDiff]; exact s3)), (by first | rfl | (simp only [↓upd_apply, ↓put_some, ↓reduceIte, Nat.reduceEqDiff]; exact s4)), (by first | rfl | (simp only [↓upd_apply, ↓put_some, ↓reduceIte, Nat.reduceEqDiff]; exact s11)), (by first | rfl | (simp only [↓upd_apply, ↓put_some, ↓reduceIte, Nat.reduceEqDiff]; exact s12)), (by first | rfl | (simp only [↓upd_apply, ↓put_some, ↓reduceIte, Nat.reduceEqDiff]; exact s13)), (by first | rfl | (simp only [↓upd_apply, ↓put_some, ↓reduceIte, Nat.reduceEqDiff]; exact s14)), (by first | rfl | (simp only [↓upd_apply, ↓put_some, ↓reduceIte, Nat.reduceEqDiff]; exact s15)), i + 1, m2, t, _, (by first | rfl | (simp only [↓upd_apply, ↓put_some, ↓reduceIte, Nat.reduceEqDiff]; rfl)), rfl, by omega, hg2, by omega, rfl⟩
        have hoN' : (o.length : Int) ≤ (m2.entries.length : Int) := by omega
        have hoM : ¬ (m2.entries.length : Int) < (o.length : Int) := by omega
        have hoL : o.length ≤ m2.entries.length := by omega
        rw [decide_eq_true hoN] at hfh
        generalize rootE o = ra at *
        generalize rootE (m2.entries.take o.length) = rb at *
        by_cases he : ra = rb
        · have qe : (ra == rb) = true := by rw [he]; exact beq_self_eq_true _
          rw [decide_eq_true he] at hfh
          have hfh : fb = false := hfh
          subst hfh
          refine runf (And.intro @s1 (And.intro @s2 (And.intro @s3 (And.intro @s4 (And.intro @s11 (And.intro @s12 (And.intro @s13 (And.intro @s14 (And.intro @s15 (And.intro @s16 (And.intro @hN' (And.intro @hoN' (And.intro @hoM (And.intro @hoL @hszm)))))))))))))) ?_
          refine cp kro ?_
          refine runf (And.intro @s1 (And.intro @s2 (And.intro @s3 (And.intro @s4 (And.intro @s11 (And.intro @s12 (And.intro @s13 (And.intro @s14 (And.intro @s15 (And.intro @s16 (And.intro @hN' (And.intro @hoN' (And.intro @hoM (And.intro @hoL @hszm)))))))))))))) ?_
          refine cp krm ?_
          refine runf (And.intro @s1 (And.intro @s2 (And.intro @s3 (And.intro @s4 (And.intro @s11 (And.intro @s12 (And.intro @s13 (And.intro @s14 (And.intro @s15 (And.intro @s16 @qe)))))))))) ?_
          exact round_mk (sizes.length - (i + 1)) (by omega) ⟨(by first | rfl | (simp only [↓upd_apply, ↓put_some, ↓reduceIte, Nat.reduceEqDiff]; exact s1)), (by first | rfl | (simp only [↓upd_apply, ↓put_some, ↓reduceIte, Nat.reduceEqDiff]; exact s2)), (by first | rfl | (simp only [↓upd_apply, ↓put_some, ↓reduceIte, Nat.reduceEqDiff]; exact s3)), (by first | rfl | (simp only [↓upd_apply, ↓put_some, ↓reduceIte, Nat.reduceEqDiff]; exact s4)), (by first | rfl | (simp only [↓upd_apply, ↓put_some, ↓reduceIte, Nat.reduceEqDiff]; exact s11)), (by first | rfl | (simp only [↓upd_apply, ↓put_some, ↓reduceIte, Nat.reduceEqDiff]; exact s12)), (by first | rfl | (simp only [↓upd_apply, ↓put_some, ↓reduceIte, Nat.reduceEqDiff]; exact s13)), (by first | rfl | (simp only [↓upd_apply, ↓put_some, ↓reduceIte, Nat.reduceEqDiff]; exact s14)), (by first | rfl | (simp only [↓upd_apply, ↓put_some, ↓reduceIte, Nat.reduceEqDiff]; exact s15)), i + 1, m2, t, _, (by first | rfl | (simp only [↓upd_apply, ↓put_some, ↓reduceIte, Nat.reduceEqDiff]; rfl)), rfl, by omega, hg2, by omega, rfl⟩
        · have qe := nilI _ _ he
          rw [decide_eq_false he] at hfh
          have hfh : fb = true := hfh
          subst hfh
          refine runf (And.intro @s1 (And.intro @s2 (And.intro @s3 (And.intro @s4 (And.intro @s11 (And.intro @s12 (And.intro @s13 (And.intro @s14 (And.intro @s15 (And.intro @s16 (And.intro @hN' (And.intro @hoN' (And.intro @hoM (And.intro @hoL @hszm)))))))))))))) ?_
          refine cp kro ?_
          refine runf (And.intro @s1 (And.intro @s2 (And.intro @s3 (And.intro @s4 (And.intro @s11 (And.intro @s12 (And.intro @s13 (And.intro @s14 (And.intro @s15 (And.intro @s16 (And.intro @hN' (And.intro @hoN' (And.intro @hoM (And.intro @hoL @hszm)))))))))))))) ?_
          refine cp krm ?_
          refine runf (And.intro @s1 (And.intro @s2 (And.intro @s3 (And.intro @s4 (And.intro @s11 (And.intro @s12 (And.intro @s13 (And.intro @s14 (And.intro @s15 (And.intro @s16 @qe)))))))))) ?_
          clear qe he
          exact round_mk (sizes.length - (i + 1)) (by omega) ⟨(by first | rfl | (simp only [↓upd_apply, ↓put_some, ↓reduceIte, Nat.reduceEqDiff]; exact s1)), (by first | rfl | (simp only [↓upd_apply, ↓put_some, ↓reduceIte, Nat.reduceEqDiff]; exact s2)), (by first | rfl | (simp only [↓upd_apply, ↓put_some, ↓reduceIte, Nat.reduceEqDiff]; exact s3)), (by first | rfl | (simp only [↓upd_apply, ↓put_some, ↓reduceIte, Nat.reduceEqDiff]; exact s4)), (by first | rfl | (simp only [↓upd_apply, ↓put_some, ↓reduceIte, Nat.reduceEqDiff]; exact s11)), (by first | rfl | (simp only [↓upd_apply, ↓put_some, ↓reduceIte, Nat.reduceEqDiff]; exact s12)), (by first | rfl | (simp only [↓upd_apply, ↓put_some, ↓reduceIte, Nat.reduceEqDiff]; exact s13)), (by first | rfl | (simp only [↓upd_apply, ↓put_some, ↓reduceIte, Nat.reduceEqDiff]; exact s14)), (by first | rfl | (simp only [↓upd_apply, ↓put_some, ↓reduceIte, Nat.reduceEqDiff]; exact s15)), i + 1, m2, t, _, (by first | rfl | (simp only [↓upd_apply, ↓put_some, ↓reduceIte, Nat.reduceEqDiff]; rfl)), rfl, by omega, hg2, by omega, rfl⟩
      · refine runf (And.intro @s1 (And.intro @s2 (And.intro @s3 (And.intro @s4 (And.intro @s11 (And.intro @s12 (And.intro @s13 (And.intro @s14 (And.intro @s15 (And.intro @s16 (And.intro @tl0 (And.intro @tl0s (And.intro @tl1 (And.intro @tl1s @tl10)))))))))))))) ?_
        refine cp kfh ?_
        refine runf (And.intro @s1 (And.intro @s2 (And.intro @s3 (And.intro @s4 (And.intro @s11 (And.intro @s12 (And.intro @s13 (And.intro @s14 (And.intro @s15 (And.intro @s16 (And.intro @tl0 (And.intro @tl0s (And.intro @tl1 (And.intro @tl1s (And.intro @tl10 (And.intro @ul2 (And.intro @ul2s (And.intro @ul21 (And.intro @ul20 (And.intro @tl3 @tl3s)))))))))))))))))))) ?_
        by_cases hN : 0 < t
        rotate_left
        · first
          | (exfalso; omega)
          | (have hN' : ¬ (0 : Int) < (m2.entries.length : Int) := by omega
             rw [decide_eq_false hN] at hfh
             subst hfh
             refine runf (And.intro @s1 (And.intro @s2 (And.intro @s3 (And.intro @s4 (And.intro @s11 (And.intro @s12 (And.intro @s13 (And.intro @s14 (And.intro @s15 (And.intro @s16 @hN')))))))))) ?_
             exact round_mk (sizes.length - (i + 1)) (by omega) ⟨(by first | rfl | (simp only [↓upd_apply, ↓put_some, ↓reduceIte, Nat.reduceEqDiff]; exact s1)), (by first | rfl | (simp only [↓upd_apply, ↓put_some, ↓reduceIte, Nat.reduceEqDiff]; exact s2)), (by first | rfl | (simp only [↓upd_apply, ↓put_some, ↓reduceIte, Nat.reduceEqDiff]; exact s3)), (by first | rfl | (simp only [↓upd_apply, ↓put_some, ↓reduceIte, Nat.reduceEqDiff]; exact s4)), (by first | rfl | (simp only [↓upd_apply, ↓put_some, ↓reduceIte, Nat.reduceEqDiff]; exact s11)), (by first | rfl | (simp only [↓upd_apply, ↓put_some, ↓reduceIte, Nat.reduceEqDiff]; exact s12)), (by first | rfl | (simp only [↓upd_apply, ↓put_some, ↓reduceIte, Nat.reduceEqDiff]; exact s13)), (by first | rfl | (simp only [↓upd_apply, ↓put_some, ↓reduceIte, Nat.reduceEqDiff]; exact s14)), (by first | rfl | (simp only [↓upd_apply, ↓put_some, ↓reduceIte, Nat.reduceEqDiff]; exact s15)), i + 1, m2, t, _, (by first | rfl | (simp only [↓upd_apply, ↓put_some, ↓reduceIte, Nat.reduceEqDiff]; rfl)), rfl, by omega, hg2, by omega, rfl⟩)
        have hN' : (0 : Int) < (m2.entries.length : Int) := by omega
        rw [decide_eq_true hN] at hfh
        by_cases hoN : o.length ≤ t
        rotate_left
        · have hoN' : ¬ (o.length : Int) ≤ (m2.entries.length : Int) := by omega
          rw [decide_eq_false hoN] at hfh
          have hfh : fb = false := hfh
          subst hfh
          refine runf (And.intro @s1 (And.intro @s2 (And.intro @s3 (And.intro @s4 (And.intro @s11 (And.intro @s12 (And.intro @s13 (And.intro @s14 (And.intro @s15 (And.intro @s16 (And.intro @hN' @hoN'))))))))))) ?_
          exact round_mk (sizes.length - (i + 1)) (by omega) ⟨(by first | rfl | (simp only [↓upd_apply, ↓put_some, ↓reduceIte, Nat.reduceEqDiff]; exact s1)), (by first | rfl | (simp only [↓upd_apply, ↓put_some, ↓reduceIte, Nat.reduceEqDiff]; exact s2)), (by first | rfl | (simp only [↓upd_apply, ↓put_some, ↓reduceIte, Nat.reduceEqDiff]; exact s3)), (by first | rfl | (simp only [↓upd_apply, ↓put_some, ↓reduceIte, Nat.reduceEqDiff]; exact s4)), (by first | rfl | (simp only [↓upd_apply, ↓put_some, ↓reduceIte, Nat.reduceEqDiff]; exact s11)), (by first | rfl | (simp only [↓upd_apply, ↓put_some, ↓reduceIte, Nat.reduceEqDiff]; exact s12)), (by first | rfl | (simp only [↓upd_apply, ↓put_some, ↓reduceIte, Nat.reduceEqDiff]; exact s13)), (by first | rfl | (simp only [↓upd_apply, ↓put_some, ↓reduceIte, Nat.reduceEqDiff]; exact s14)), (by first | rfl | (simp only [↓upd_apply, ↓put_some, ↓reduceIte, Nat.reduceEqDiff]; exact s15)), i + 1, m2, t, _, (by first | rfl | (simp only [↓upd_apply, ↓put_some, ↓reduceIte, Nat.reduceEqDiff]; rfl)), rfl, by omega, hg2, by omega, rfl⟩
        have hoN' : (o.length : Int) ≤ (m2.entries.length : Int) := by omega
        have hoM : ¬ (m2.entries.length : Int) < (o.length : Int) := by omega
        have hoL : o.length ≤ m2.entries.length := by omega
        rw [decide_eq_true hoN] at hfh
        generalize rootE o = ra at *
        generalize rootE (m2.entries.take o.length) = rb at *
        by_cases he : ra = rb
        · have qe : (ra == rb) = true := by rw [he]; exact beq_self_eq_true _
          rw [decide_eq_true he] at hfh
          have hfh : fb = false := hfh
          subst hfh
          refine runf (And.intro @s1 (And.intro @s2 (And.intro @s3 (And.intro @s4 (And.intro @s11 (And.intro @s12 (And.intro @s13 (And.intro @s14 (And.intro @s15 (And.intro @s16 (And.intro @hN' (And.intro @hoN' (And.intro @hoM (And.intro @hoL @hszm)))))))))))))) ?_
          refine cp kro ?_
          refine runf (And.intro @s1 (And.intro @s2 (And.intro @s3 (And.intro @s4 (And.intro @s11 (And.intro @s12 (And.intro @s13 (And.intro @s14 (And.intro @s15 (And.intro @s16 (And.intro @hN' (And.intro @hoN' (And.intro @hoM (And.intro @hoL @hszm)))))))))))))) ?_
          refine cp krm ?_
          refine runf (And.intro @s1 (And.intro @s2 (And.intro @s3 (And.intro @s4 (And.intro @s11 (And.intro @s12 (And.intro @s13 (And.intro @s14 (And.intro @s15 (And.intro @s16 @qe)))))))))) ?_
          exact round_mk (sizes.length - (i + 1)) (by omega) ⟨(by first | rfl | (simp only [↓upd_apply, ↓put_some, ↓reduceIte, Nat.reduceEqDiff]; exact s1)), (by first | rfl | (simp only [↓upd_apply, ↓put_some, ↓reduceIte, Nat.reduceEqDiff]; exact s2)), (by first | rfl | (simp only [↓upd_apply, ↓put_some, ↓reduceIte, Nat.reduceEqDiff]; exact s3)), (by first | rfl | (simp only [↓upd_apply, ↓put_some, ↓reduceIte, Nat.reduceEqDiff]; exact s4)), (by first | rfl | (simp only [↓upd_apply, ↓put_some, ↓reduceIte, Nat.reduceEqDiff]; exact s11)), (by first | rfl | (simp only [↓upd_apply, ↓put_some, ↓reduceIte, Nat.reduceEqDiff]; exact s12)), (by first | rfl | (simp only [↓upd_apply, ↓put_some, ↓reduceIte, Nat.reduceEqDiff]; exact s13)), (by first | rfl | (simp only [↓upd_apply, ↓put_some, ↓reduceIte, Nat.reduceEqDiff]; exact s14)), (by first | rfl | (simp only [↓upd_apply, ↓put_some, ↓reduceIte, Nat.reduceEqDiff]; exact s15)), i + 1, m2, t, _, (by first | rfl | (simp only [↓upd_apply, ↓put_some, ↓reduceIte, Nat.reduceEqDiff]; rfl)), rfl, by omega, hg2, by omega, rfl⟩
        · have qe := nilI _ _ he
          rw [decide_eq_false he] at hfh
          have hfh : fb = true := hfh
          subst hfh
          refine runf (And.intro @s1 (And.intro @s2 (And.intro @s3 (And.intro @s4 (And.intro @s11 (And.intro @s12 (And.intro @s13 (And.intro @s14 (And.intro @s15 (And.intro @s16 (And.intro @hN' (And.intro @hoN' (And.intro @hoM (And.intro @hoL @hszm)))))))))))))) ?_
          refine cp kro ?_
          refine runf (And.intro @s1 (And.intro @s2 (And.intro @s3 (And.intro @s4 (And.intro @s11 (And.intro @s12 (And.intro @s13 (And.intro @s14 (And.intro @s15 (And.intro @s16 (And.intro @hN' (And.intro @hoN' (And.intro @hoM (And.intro @hoL @hszm)))))))))))))) ?_
          refine cp krm ?_
          refine runf (And.intro @s1 (And.intro @s2 (And.intro @s3 (And.intro @s4 (And.intro @s11 (And.intro @s12 (And.intro @s13 (And.intro @s14 (And.intro @s15 (And.intro @s16 @qe)))))))))) ?_
          clear qe he
          exact round_mk (sizes.length - (i + 1)) (by omega) ⟨(by first | rfl | (simp only [↓upd_apply, ↓put_some, ↓reduceIte, Nat.reduceEqDiff]; exact s1)), (by first | rfl | (simp only [↓upd_apply, ↓put_some, ↓reduceIte, Nat.reduceEqDiff]; exact s2)), (by first | rfl | (simp only [↓upd_apply, ↓put_some, ↓reduceIte, Nat.reduceEqDiff]; exact s3)), (by first | rfl | (simp only [↓upd_apply, ↓put_some, ↓reduceIte, Nat.reduceEqDiff]; exact s4)), (by first | rfl | (simp only [↓upd_apply, ↓put_some, ↓reduceIte, Nat.reduceEqDiff]; exact s11)), (by first | rfl | (simp only [↓upd_apply, ↓put_some, ↓reduceIte, Nat.reduceEqDiff]; exact s12)), (by first | rfl | (simp only [↓upd_apply, ↓put_some, ↓reduceIte, Nat.reduceEqDiff]; exact s13)), (by first | rfl | (simp only [↓upd_apply, ↓put_some, ↓reduceIte, Nat.reduceEqDiff]; exact s14)), (by first | rfl | (simp only [↓upd_apply, ↓put_some, ↓reduceIte, Nat.reduceEqDiff]; exact s15)), i + 1, m2, t, _, (by first | rfl | (simp only [↓upd_apply, ↓put_some, ↓reduceIte, Nat.reduceEqDiff]; rfl)), rfl, by omega, hg2, by omega, rfl⟩
    refine cp kfh ?_
    refine runf (And.intro @s1 (And.intro @s2 (And.intro @s3 (And.intro @s4 (And.intro @s11 (And.intro @s12 (And.intro @s13 (And.intro @s14 (And.intro @s15 (And.intro @s16 (And.intro @tl0 (And.intro @tl0s (And.intro @tl1 (And.intro @tl1s (And.intro @tl10 (And.intro @ul2 (And.intro @ul2s (And.intro @ul21 (And.intro @ul20 (And.intro @tl3 @tl3s)))))))))))))))))))) ?_
    by_cases hN : 0 < t
    rotate_left
    · first
      | (exfalso; omega)
      | (have hN' : ¬ (0 : Int) < (m2.entries.length : Int) := by omega
         rw [decide_eq_false hN] at hfh
         subst hfh
         refine runf (And.intro @s1 (And.intro @s2 (And.intro @s3 (And.intro @s4 (And.intro @s11 (And.intro @s12 (And.intro @s13 (And.intro @s14 (And.intro @s15 (And.intro @s16 @hN')))))))))) ?_
         exact round_mk (sizes.length - (i + 1)) (by omega) ⟨(by first | rfl | (simp only [↓upd_apply, ↓put_some, ↓reduceIte, Nat.reduceEqDiff]; exact s1)), (by first | rfl | (simp only [↓upd_apply, ↓put_some, ↓reduceIte, Nat.reduceEqDiff]; exact s2)), (by first | rfl | (simp only [↓upd_apply, ↓put_some, ↓reduceIte, Nat.reduceEqDiff]; exact s3)), (by first | rfl | (simp only [↓upd_apply, ↓put_some, ↓reduceIte, Nat.reduceEqDiff]; exact s4)), (by first | rfl | (simp only [↓upd_apply, ↓put_some, ↓reduceIte, Nat.reduceEqDiff]; exact s11)), (by first | rfl | (simp only [↓upd_apply, ↓put_some, ↓reduceIte, Nat.reduceEqDiff]; exact s12)), (by first | rfl | (simp only [↓upd_apply, ↓put_some, ↓reduceIte, Nat.reduceEqDiff]; exact s13)), (by first | rfl | (simp only [↓upd_apply, ↓put_some, ↓reduceIte, Nat.reduceEqDiff]; exact s14)), (by first | rfl | (simp only [↓upd_apply, ↓put_some, ↓reduceIte, Nat.reduceEqDiff]; exact s15)), i + 1, m2, t, _, (by first | rfl | (simp only [↓upd_apply, ↓put_some, ↓reduceIte, Nat.reduceEqDiff]; rfl)), rfl, by omega, hg2, by omega, rfl⟩)
    have hN' : (0 : Int) < (m2.entries.length : Int) := by omega
    rw [decide_eq_true hN] at hfh
    by_cases hoN : o.length ≤ t
    rotate_left
    · have hoN' : ¬ (o.length : Int) ≤ (m2.entries.length : Int) := by omega
      rw [decide_eq_false hoN] at hfh
      have hfh : fb = false := hfh
      subst hfh
      refine runf (And.intro @s1 (And.intro @s2 (And.intro @s3 (And.intro @s4 (And.intro @s11 (And.intro @s12 (And.intro @s13 (And.intro @s14 (And.intro @s15 (And.intro @s16 (And.intro @hN' @hoN'))))))))))) ?_
      exact round_mk (sizes.length - (i + 1)) (by omega) ⟨(by first | rfl | (simp only [↓upd_apply, ↓put_some, ↓reduceIte, Nat.reduceEqDiff]; exact s1)), (by first | rfl | (simp only [↓upd_apply, ↓put_some, ↓reduceIte, Nat.reduceEqDiff]; exact s2)), (by first | rfl | (simp only [↓upd_apply, ↓put_some, ↓reduceIte, Nat.reduceEqDiff]; exact s3)), (by first | rfl | (simp only [↓upd_apply, ↓put_some, ↓reduceIte, Nat.reduceEqDiff]; exact s4)), (by first | rfl | (simp only [↓upd_apply, ↓put_some, ↓reduceIte, Nat.reduceEqDiff]; exact s11)), (by first | rfl | (simp only [↓upd_apply, ↓put_some, ↓reduceIte, Nat.reduceEqDiff]; exact s12)), (by first | rfl | (simp only [↓upd_apply, ↓put_some, ↓reduceIte, Nat.reduceEqDiff]; exact s13)), (by first | rfl | (simp only [↓upd_apply, ↓put_some, ↓reduceIte, Nat.reduceEqDiff]; exact s14)), (by first | rfl | (simp only [↓upd_apply, ↓put_some, ↓reduceIte, Nat.reduceEqDiff]; exact s15)), i + 1, m2, t, _, (by first | rfl | (simp only [↓upd_apply, ↓put_some, ↓reduceIte, Nat.reduceEqDiff]; rfl)), rfl, by omega, hg2, by omega, rfl⟩
    have hoN' : (o.length : Int) ≤ (m2.entries.length : Int) := by omega
    have hoM : ¬ (m2.entries.length : Int) < (o.length : Int) := by omega
    have hoL : o.length ≤ m2.entries.length := by omega
    rw [decide_eq_true hoN] at hfh
    generalize rootE o = ra at *
    generalize rootE (m2.entries.take o.length) = rb at *
    by_cases he : ra = rb
    · have qe : (ra == rb) = true := by rw [he]; exact beq_self_eq_true _
      rw [decide_eq_true he] at hfh
      have hfh : fb = false := hfh
      subst hfh
      refine runf (And.intro @s1 (And.intro @s2 (And.intro @s3 (And.intro @s4 (And.intro @s11 (And.intro @s12 (And.intro @s13 (And.intro @s14 (And.intro @s15 (And.intro @s16 (And.intro @hN' (And.intro @hoN' (And.intro @hoM (And.intro @hoL @hszm)))))))))))))) ?_
      refine cp kro ?_
      refine runf (And.intro @s1 (And.intro @s2 (And.intro @s3 (And.intro @s4 (And.intro @s11 (And.intro @s12 (And.intro @s13 (And.intro @s14 (And.intro @s15 (And.intro @s16 (And.intro @hN' (And.intro @hoN' (And.intro @hoM (And.intro @hoL @hszm)))))))))))))) ?_
      refine cp krm ?_
      refine runf (And.intro @s1 (And.intro @s2 (And.intro @s3 (And.intro @s4 (And.intro @s11 (And.intro @s12 (And.intro @s13 (And.intro @s14 (And.intro @s15 (And.intro @s16 @qe)))))))))) ?_
      exact round_mk (sizes.length - (i + 1)) (by omega) ⟨(by first | rfl | (simp only [↓upd_apply, ↓put_some, ↓reduceIte, Nat.reduceEqDiff]; exact s1)), (by first | rfl | (simp only [↓upd_apply, ↓put_some, ↓reduceIte, Nat.reduceEqDiff]; exact s2)), (by first | rfl | (simp only [↓upd_apply, ↓put_some, ↓reduceIte, Nat.reduceEqDiff]; exact s3)), (by first | rfl | (simp only [↓upd_apply, ↓put_some, ↓reduceIte, Nat.reduceEqDiff]; exact s4)), (by first | rfl | (simp only [↓upd_apply, ↓put_some, ↓reduceIte, Nat.reduceEqDiff]; exact s11)), (by first | rfl | (simp only [↓upd_apply, ↓put_some, ↓reduceIte, Nat.reduceEqDiff]; exact s12)), (by first | rfl | (simp only [↓upd_apply, ↓put_some, ↓reduceIte, Nat.reduceEqDiff]; exact s13)), (by first | rfl | (simp only [↓upd_apply, ↓put_some, ↓reduceIte, Nat.reduceEqDiff]; exact s14)), (by first | rfl | (simp only [↓upd_apply, ↓put_some, ↓reduceIte, Nat.reduceEqDiff]; exact s15)), i + 1, m2, t, _, (by first | rfl | (simp only [↓upd_apply, ↓put_some, ↓reduceIte, Nat.reduceEqDiff]; rfl)), rfl, by omega, hg2, by omega, rfl⟩
    · have qe := nilI _ _ he
      rw [decide_eq_false he] at hfh
      have hfh : fb = true := hfh
      subst hfh
      refine runf (And.intro @s1 (And.intro @s2 (And.intro @s3 (And.intro @s4 (And.intro @s11 (And.intro @s12 (And.intro @s13 (And.intro @s14 (And.intro @s15 (And.intro @s16 (And.intro @hN' (And.intro @hoN' (And.intro @hoM (And.intro @hoL @hszm)))))))))))))) ?_
      refine cp kro ?_
      refine runf (And.intro @s1 (And.intro @s2 (And.intro @s3 (And.intro @s4 (And.intro @s11 (And.intro @s12 (And.intro @s13 (And.intro @s14 (And.intro @s15 (And.intro @s16 (And.intro @hN' (And.intro @hoN' (And.intro @hoM (And.intro @hoL @hszm)))))))))))))) ?_
      refine cp krm ?_
      refine runf (And.intro @s1 (And.intro @s2 (And.intro @s3 (And.intro @s4 (And.intro @s11 (And.intro @s12 (And.intro @s13 (And.intro @s14 (And.intro @s15 (And.intro @s16 @qe)))))))))) ?_
      clear qe he
      exact round_mk (sizes.length - (i + 1)) (by omega) ⟨(by first | rfl | (simp only [↓upd_apply, ↓put_some, ↓reduceIte, Nat.reduceEqDiff]; exact s1)), (by first | rfl | (simp only [↓upd_apply, ↓put_some, ↓reduceIte, Nat.reduceEqDiff]; exact s2)), (by first | rfl | (simp only [↓upd_apply, ↓put_some, ↓reduceIte, Nat.reduceEqDiff]; exact s3)), (by first | rfl | (simp only [↓upd_apply, ↓put_some, ↓reduceIte, Nat.reduceEqDiff]; exact s4)), (by first | rfl | (simp only [↓upd_apply, ↓put_some, ↓reduceIte, Nat.reduceEqDiff]; exact s11)), (by first | rfl | (simp only [↓upd_apply, ↓put_some, ↓reduceIte, Nat.reduceEqDiff]; exact s12)), (by first | rfl | (simp only [↓upd_apply, ↓put_some, ↓reduceIte, Nat.reduceEqDiff]; exact s13)), (by first | rfl | (simp only [↓upd_apply, ↓put_some, ↓reduceIte, Nat.reduceEqDiff]; exact s14)), (by first | rfl | (simp only [↓upd_apply, ↓put_some, ↓reduceIte, Nat.reduceEqDiff]; exact s15)), i + 1, m2, t, _, (by first | rfl | (simp only [↓upd_apply, ↓put_some, ↓reduceIte, Nat.reduceEqDiff]; rfl)), rfl, by omega, hg2, by omega, rfl⟩
  · have hcd' : (cd == 0) = false := beqF hcd
    have hMl : m.entries.length = n := by rw [hg.entries, List.length_take]; exact Nat.min_eq_left hg.le
    have hNl := hg.le
    have hMok : EOk m.entries := by rw [hg.entries]; exact hl.take n
    have kfh := fkfind_c [k.pub] m (mkHead k 0 o 3) hps hMok (by omega)
    have hfh := grown_find hk hg (by omega) (o := o) (t := 3) (by omega) (by decide)
    rw [← hg.entries] at hfh
    generalize findE [k.pub] m.entries m.heads (mkHead k 0 o 3) = fr at *
    obtain ⟨fe, fb⟩ := fr
    simp only at hfh kfh
    have kro := sroot_c o ho.len ho.iz
    have krm := sroot_c (m.entries.take o.length) (hMok.take _).len (hMok.take _).iz
    have hszm := entries_sz m.entries
    have fin : ∀ {e' : Env}, True := fun {_} => trivial
    by_cases hat : 0 ≤ at_ ∧ at_ ≤ (l.length : Int)
    focus
      obtain ⟨hat1, hat2⟩ := hat
      obtain ⟨a, hae⟩ := Int.eq_ofNat_of_zero_le hat1
      have hal : a ≤ l.length := by omega
      have hai : at_.toNat = a := by omega
      have kha := shead_c k 0 (l.take a) at_ hkr.1 (hl.take a).len (hl.take a).iz
      have kfa := fkfind_c [k.pub] m (mkHead k 0 (l.take a) at_) hps hMok (by omega)
      have hfa := grown_find hk hg (by omega) (o := l.take a) (t := at_) (by rw [List.length_take]; omega) (by omega)
      have hz : (findE [k.pub] m.entries m.heads (mkHead k 0 (l.take a) at_)).2 = false := by
        rw [hfa]
        have hll : (l.take a).length = a := by rw [List.length_take]; omega
        rw [hll]
        by_cases haN : a ≤ n
        · have : (l.take n).take a = l.take a := by rw [List.take_take, Nat.min_eq_left haN]
          rw [this, decide_eq_true (p := rootE (l.take a) = rootE (l.take a)) rfl]
          simp
        · rw [decide_eq_false haN]
          simp
      generalize findE [k.pub] m.entries m.heads (mkHead k 0 (l.take a) at_) = fr2 at *
      obtain ⟨fe2, fb2⟩ := fr2
      simp only at hz kfa
      subst hz
      generalize mkHead k 0 (l.take a) at_ = hda at *
      refine runf (And.intro @hcd' (And.intro @s1 (And.intro @s2 (And.intro @s3 (And.intro @s4 (And.intro @s11 (And.intro @s12 (And.intro @s13 (And.intro @s14 (And.intro @s15 (And.intro @s16 (And.intro @hal (And.intro @hai (And.intro @hszl (And.intro @tl0 (And.intro @tl0s (And.intro @tl1 (And.intro @tl1s @tl10)))))))))))))))))) ?_
      refine cp kha ?_
      refine runf (And.intro @s1 (And.intro @s2 (And.intro @s3 (And.intro @s4 (And.intro @s11 (And.intro @s12 (And.intro @s13 (And.intro @s14 (And.intro @s15 (And.intro @s16 (And.intro @tl0 (And.intro @tl0s (And.intro @tl1 (And.intro @tl1s @tl10)))))))))))))) ?_
      refine cp kfa ?_
      refine runf (And.intro @s1 (And.intro @s2 (And.intro @s3 (And.intro @s4 (And.intro @s11 (And.intro @s12 (And.intro @s13 (And.intro @s14 (And.intro @s15 (And.intro @s16 (And.intro @tl0 (And.intro @tl0s (And.intro @tl1 (And.intro @tl1s (And.intro @tl10 (And.intro @ul2 (And.intro @ul2s (And.intro @ul21 (And.intro @ul20 (And.intro @tl3 @tl3s)))))))))))))))))))) ?_
    rotate_left
    focus
      by_cases hat1 : 0 ≤ at_
      · have hat2 : ¬ at_ ≤ (l.length : Int) := fun h => hat ⟨hat1, h⟩
        refine runf (And.intro @hcd' (And.intro @s1 (And.intro @s2 (And.intro @s3 (And.intro @s4 (And.intro @s11 (And.intro @s12 (And.intro @s13 (And.intro @s14 (And.intro @s15 (And.intro @s16 (And.intro @tl0 (And.intro @tl0s (And.intro @tl1 (And.intro @tl1s @tl10))))))))))))))) ?_
        refine cp kfh ?_
        refine runf (And.intro @s1 (And.intro @s2 (And.intro @s3 (And.intro @s4 (And.intro @s11 (And.intro @s12 (And.intro @s13 (And.intro @s14 (And.intro @s15 (And.intro @s16 (And.intro @tl0 (And.intro @tl0s (And.intro @tl1 (And.intro @tl1s (And.intro @tl10 (And.intro @ul2 (And.intro @ul2s (And.intro @ul21 (And.intro @ul20 (And.intro @tl3 @tl3s)))))))))))))))))))) ?_
        by_cases hN : 0 < n
        rotate_left
        · first
          | (exfalso; omega)
          | (have hN' : ¬ (0 : Int) < (m.entries.length : Int) := by omega
             rw [decide_eq_false hN] at hfh
             subst hfh
             refine runf (And.intro @s1 (And.intro @s2 (And.intro @s3 (And.intro @s4 (And.intro @s11 (And.intro @s12 (And.intro @s13 (And.intro @s14 (And.intro @s15 (And.intro @s16 @hN')))))))))) ?_
             exact round_mk (sizes.length - (i + 1)) (by omega) ⟨(by first | rfl | (simp only [↓upd_apply, ↓put_some, ↓reduceIte, Nat.reduceEqDiff]; exact s1)), (by first | rfl | (simp only [↓upd_apply, ↓put_some, ↓reduceIte, Nat.reduceEqDiff]; exact s2)), (by first | rfl | (simp only [↓upd_apply, ↓put_some, ↓reduceIte, Nat.reduceEqDiff]; exact s3)), (by first | rfl | (simp only [↓upd_apply, ↓put_some, ↓reduceIte, Nat.reduceEqDiff]; exact s4)), (by first | rfl | (simp only [↓upd_apply, ↓put_some, ↓reduceIte, Nat.reduceEqDiff]; exact s11)), (by first | rfl | (simp only [↓upd_apply, ↓put_some, ↓reduceIte, Nat.reduceEqDiff]; exact s12)), (by first | rfl | (simp only [↓upd_apply, ↓put_some, ↓reduceIte, Nat.reduceEqDiff]; exact s13)), (by first | rfl | (simp only [↓upd_apply, ↓put_some, ↓reduceIte, Nat.reduceEqDiff]; exact s14)), (by first | rfl | (simp only [↓upd_apply, ↓put_some, ↓reduceIte, Nat.reduceEqDiff]; exact s15)), i + 1, m, n, _, (by first | rfl | (simp only [↓upd_apply, ↓put_some, ↓reduceIte, Nat.reduceEqDiff]; rfl)), rfl, by omega, hg, by omega, rfl⟩)
        have hN' : (0 : Int) < (m.entries.length : Int) := by omega
        rw [decide_eq_true hN] at hfh
        by_cases hoN : o.length ≤ n
        rotate_left
        · have hoN' : ¬ (o.length : Int) ≤ (m.entries.length : Int) := by omega
          rw [decide_eq_false hoN] at hfh
          have hfh : fb = false := hfh
          subst hfh
          refine runf (And.intro @s1 (And.intro @s2 (And.intro @s3 (And.intro @s4 (And.intro @s11 (And.intro @s12 (And.intro @s13 (And.intro @s14 (And.intro @s15 (And.intro @s16 (And.intro @hN' @hoN'))))))))))) ?_
          exact round_mk (sizes.length - (i + 1)) (by omega) ⟨(by first | rfl | (simp only [↓upd_apply, ↓put_some, ↓reduceIte, Nat.reduceEqDiff]; exact s1)), (by first | rfl | (simp only [↓upd_apply, ↓put_some, ↓reduceIte, Nat.reduceEqDiff]; exact s2)), (by first | rfl | (simp only [↓upd_apply, ↓put_some, ↓reduceIte, Nat.reduceEqDiff]; exact s3)), (by first | rfl | (simp only [↓upd_apply, ↓put_some, ↓reduceIte, Nat.reduceEqDiff]; exact s4)), (by first | rfl | (simp only [↓upd_apply, ↓put_some, ↓reduceIte, Nat.reduceEqDiff]; exact s11)), (by first | rfl | (simp only [↓upd_apply, ↓put_some, ↓reduceIte, Nat.reduceEqDiff]; exact s12)), (by first | rfl | (simp only [↓upd_apply, ↓put_some, ↓reduceIte, Nat.reduceEqDiff]; exact s13)), (by first | rfl | (simp only [↓upd_apply, ↓put_some, ↓reduceIte, Nat.reduceEqDiff]; exact s14)), (by first | rfl | (simp only [↓upd_apply, ↓put_some, ↓reduceIte, Nat.reduceEqDiff]; exact s15)), i + 1, m, n, _, (by first | rfl | (simp only [↓upd_apply, ↓put_some, ↓reduceIte, Nat.reduceEqDiff]; rfl)), rfl, by omega, hg, by omega, rfl⟩
        have hoN' : (o.length : Int) ≤ (m.entries.length : Int) := by omega
        have hoM : ¬ (m.entries.length : Int) < (o.length : Int) := by omega
        have hoL : o.length ≤ m.entries.length := by omega
        rw [decide_eq_true hoN] at hfh
        generalize rootE o = ra at *
        generalize rootE (m.entries.take o.length) = rb at *
        by_cases he : ra = rb
        · have qe : (ra == rb) = true := by rw [he]; exact beq_self_eq_true _
          rw [decide_eq_true he] at hfh
          have hfh : fb = false := hfh
          subst hfh
          refine runf (And.intro @s1 (And.intro @s2 (And.intro @s3 (And.intro @s4 (And.intro @s11 (And.intro @s12 (And.intro @s13 (And.intro @s14 (And.intro @s15 (And.intro @s16 (And.intro @hN' (And.intro @hoN' (And.intro @hoM (And.intro @hoL @hszm)))))))))))))) ?_
          refine cp kro ?_
          refine runf (And.intro @s1 (And.intro @s2 (And.intro @s3 (And.intro @s4 (And.intro @s11 (And.intro @s12 (And.intro @s13 (And.intro @s14 (And.intro @s15 (And.intro @s16 (And.intro @hN' (And.intro @hoN' (And.intro @hoM (And.intro @hoL @hszm)))))))))))))) ?_
          refine cp krm ?_
          refine runf (And.intro @s1 (And.intro @s2 (And.intro @s3 (And.intro @s4 (And.intro @s11 (And.intro @s12 (And.intro @s13 (And.intro @s14 (And.intro @s15 (And.intro @s16 @qe)))))))))) ?_
          exact round_mk (sizes.length - (i + 1)) (by omega) ⟨(by first | rfl | (simp only [↓upd_apply, ↓put_some, ↓reduceIte, Nat.reduceEqDiff]; exact s1)), (by first | rfl | (simp only [↓upd_apply, ↓put_some, ↓reduceIte, Nat.reduceEqDiff]; exact s2)), (by first | rfl | (simp only [↓upd_apply, ↓put_some, ↓reduceIte, Nat.reduceEqDiff]; exact s3)), (by first | rfl | (simp only [↓upd_apply, ↓put_some, ↓reduceIte, Nat.reduceEqDiff]; exact s4)), (by first | rfl | (simp only [↓upd_apply, ↓put_some, ↓reduceIte, Nat.reduceEqDiff]; exact s11)), (by first | rfl | (simp only [↓upd_apply, ↓put_some, ↓reduceIte, Nat.reduceEqDiff]; exact s12)), (by first | rfl | (simp only [↓upd_apply, ↓put_some, ↓reduceIte, Nat.reduceEqDiff]; exact s13)), (by first | rfl | (simp only [↓upd_apply, ↓put_some, ↓reduceIte, Nat.reduceEqDiff]; exact s14)), (by first | rfl | (simp only [↓upd_apply, ↓put_some, ↓reduceIte, Nat.reduceEqDiff]; exact s15)), i + 1, m, n, _, (by first | rfl | (simp only [↓upd_apply, ↓put_some, ↓reduceIte, Nat.reduceEqDiff]; rfl)), rfl, by omega, hg, by omega, rfl⟩
        · have qe := nilI _ _ he
          rw [decide_eq_false he] at hfh
          have hfh : fb = true := hfh
          subst hfh
          refine runf (And.intro @s1 (And.intro @s2 (And.intro @s3 (And.intro @s4 (And.intro @s11 (And.intro @s12 (And.intro @s13 (And.intro @s14 (And.intro @s15 (And.intro @s16 (And.intro @hN' (And.intro @hoN' (And.intro @hoM (And.intro @hoL @hszm)))))))))))))) ?_
          refine cp kro ?_
          refine runf (And.intro @s1 (And.intro @s2 (And.intro @s3 (And.intro @s4 (And.intro @s11 (And.intro @s12 (And.intro @s13 (And.intro @s14 (And.intro @s15 (And.intro @s16 (And.intro @hN' (And.intro @hoN' (And.intro @hoM (And.intro @hoL @hszm)))))))))))))) ?_
          refine cp krm ?_
          refine runf (And.intro @s1 (And.intro @s2 (And.intro @s3 (And.intro @s4 (And.intro @s11 (And.intro @s12 (And.intro @s13 (And.intro @s14 (And.intro @s15 (And.intro @s16 @qe)))))))))) ?_
          clear qe he
          exact round_mk (sizes.length - (i + 1)) (by omega) ⟨(by first | rfl | (simp only [↓upd_apply, ↓put_some, ↓reduceIte, Nat.reduceEqDiff]; exact s1)), (by first | rfl | (simp only [↓upd_apply, ↓put_some, ↓reduceIte, Nat.reduceEqDiff]; exact s2)), (by first | rfl | (simp only [↓upd_apply, ↓put_some, ↓reduceIte, Nat.reduceEqDiff]; exact s3)), (by first | rfl | (simp only [↓upd_apply, ↓put_some, ↓reduceIte, Nat.reduceEqDiff]; exact s4)), (by first | rfl | (simp only [↓upd_apply, ↓put_some, ↓reduceIte, Nat.reduceEqDiff]; exact s11)), (by first | rfl | (simp only [↓upd_apply, ↓put_some, ↓reduceIte, Nat.reduceEqDiff]; exact s12)), (by first | rfl | (simp only [↓upd_apply, ↓put_some, ↓reduceIte, Nat.reduceEqDiff]; exact s13)), (by first | rfl | (simp only [↓upd_apply, ↓put_some, ↓reduceIte, Nat.reduceEqDiff]; exact s14)), (by first | rfl | (simp only [↓upd_apply, ↓put_some, ↓reduceIte, Nat.reduceEqDiff]; exact s15)), i + 1, m, n, _, (by first | rfl | (simp only [↓upd_apply, ↓put_some, ↓reduceIte, Nat.reduceEqDiff]; rfl)), rfl, by omega, hg, by omega, rfl⟩
      · refine runf (And.intro @hcd' (And.intro @s1 (And.intro @s2 (And.intro @s3 (And.intro @s4 (And.intro @s11 (And.intro @s12 (And.intro @s13 (And.intro @s14 (And.intro @s15 (And.intro @s16 (And.intro @tl0 (And.intro @tl0s (And.intro @tl1 (And.intro @tl1s @tl10))))))))))))))) ?_
        refine cp kfh ?_
        refine runf (And.intro @s1 (And.intro @s2 (And.intro @s3 (And.intro @s4 (And.intro @s11 (And.intro @s12 (And.intro @s13 (And.intro @s14 (And.intro @s15 (And.intro @s16 (And.intro @tl0 (And.intro @tl0s (And.intro @tl1 (And.intro @tl1s (And.intro @tl10 (And.intro @ul2 (And.intro @ul2s (And.intro @ul21 (And.intro @ul20 (And.intro @tl3 @tl3s)))))))))))))))))))) ?_
        by_cases hN : 0 < n
        rotate_left
        · first
          | (exfalso; omega)
          | (have hN' : ¬ (0 : Int) < (m.entries.length : Int) := by omega
             rw [decide_eq_false hN] at hfh
             subst hfh
             refine runf (And.intro @s1 (And.intro @s2 (And.intro @s3 (And.intro @s4 (And.intro @s11 (And.intro @s12 (And.intro @s13 (And.intro @s14 (And.intro @s15 (And.intro @s16 @hN')))))))))) ?_
             exact round_mk (sizes.length - (i + 1)) (by omega) ⟨(by first | rfl | (simp only [↓upd_apply, ↓put_some, ↓reduceIte, Nat.reduceEqDiff]; exact s1)), (by first | rfl | (simp only [↓upd_apply, ↓put_some, ↓reduceIte, Nat.reduceEqDiff]; exact s2)), (by first | rfl | (simp only [↓upd_apply, ↓put_some, ↓reduceIte, Nat.reduceEqDiff]; exact s3)), (by first | rfl | (simp only [↓upd_apply, ↓put_some, ↓reduceIte, Nat.reduceEqDiff]; exact s4)), (by first | rfl | (simp only [↓upd_apply, ↓put_some, ↓reduceIte, Nat.reduceEqDiff]; exact s11)), (by first | rfl | (simp only [↓upd_apply, ↓put_some, ↓reduceIte, Nat.reduceEqDiff]; exact s12)), (by first | rfl | (simp only [↓upd_apply, ↓put_some, ↓reduceIte, Nat.reduceEqDiff]; exact s13)), (by first | rfl | (simp only [↓upd_apply, ↓put_some, ↓reduceIte, Nat.reduceEqDiff]; exact s14)), (by first | rfl | (simp only [↓upd_apply, ↓put_some, ↓reduceIte, Nat.reduceEqDiff]; exact s15)), i + 1, m, n, _, (by first | rfl | (simp only [↓upd_apply, ↓put_some, ↓reduceIte, Nat.reduceEqDiff]; rfl)), rfl, by omega, hg, by omega, rfl⟩)
        have hN' : (0 : Int) < (m.entries.length : Int) := by omega
        rw [decide_eq_true hN] at hfh
        by_cases hoN : o.length ≤ n
        rotate_left
        · have hoN' : ¬ (o.length : Int) ≤ (m.entries.length : Int) := by omega
          rw [decide_eq_false hoN] at hfh
          have hfh : fb = false := hfh
          subst hfh
          refine runf (And.intro @s1 (And.intro @s2 (And.intro @s3 (And.intro @s4 (And.intro @s11 (And.intro @s12 (And.intro @s13 (And.intro @s14 (And.intro @s15 (And.intro @s16 (And.intro @hN' @hoN'))))))))))) ?_
          exact round_mk (sizes.length - (i + 1)) (by omega) ⟨(by first | rfl | (simp only [↓upd_apply, ↓put_some, ↓reduceIte, Nat.reduceEqDiff]; exact s1)), (by first | rfl | (simp only [↓upd_apply, ↓put_some, ↓reduceIte, Nat.reduceEqDiff]; exact s2)), (by first | rfl | (simp only [↓upd_apply, ↓put_some, ↓reduceIte, Nat.reduceEqDiff]; exact s3)), (by first | rfl | (simp only [↓upd_apply, ↓put_some, ↓reduceIte, Nat.reduceEqDiff]; exact s4)), (by first | rfl | (simp only [↓upd_apply, ↓put_some, ↓reduceIte, Nat.reduceEqDiff]; exact s11)), (by first | rfl | (simp only [↓upd_apply, ↓put_some, ↓reduceIte, Nat.reduceEqDiff]; exact s12)), (by first | rfl | (simp only [↓upd_apply, ↓put_some, ↓reduceIte, Nat.reduceEqDiff]; exact s13)), (by first | rfl | (simp only [↓upd_apply, ↓put_some, ↓reduceIte, Nat.reduceEqDiff]; exact s14)), (by first | rfl | (simp only [↓upd_apply, ↓put_some, ↓reduceIte, Nat.reduceEqDiff]; exact s15)), i + 1, m, n, _, (by first | rfl | (simp only [↓upd_apply, ↓put_some, ↓reduceIte, Nat.reduceEqDiff]; rfl)), rfl, by omega, hg, by omega, rfl⟩
        have hoN' : (o.length : Int) ≤ (m.entries.length : Int) := by omega
        have hoM : ¬ (m.entries.length : Int) < (o.length : Int) := by omega
        have hoL : o.length ≤ m.entries.length := by omega
        rw [decide_eq_true hoN] at hfh
        generalize rootE o = ra at *
        generalize rootE (m.entries.take o.length) = rb at *
        by_cases he : ra = rb
        · have qe : (ra == rb) = true := by rw [he]; exact beq_self_eq_true _
          rw [decide_eq_true he] at hfh
          have hfh : fb = false := hfh
          subst hfh
          refine runf (And.intro @s1 (And.intro @s2 (And.intro @s3 (And.intro @s4 (And.intro @s11 (And.intro @s12 (And.intro @s13 (And.intro @s14 (And.intro @s15 (And.intro @s16 (And.intro @hN' (And.intro @hoN' (And.intro @hoM (And.intro @hoL @hszm)))))))))))))) ?_
          refine cp kro ?_
          refine runf (And.intro @s1 (And.intro @s2 (And.intro @s3 (And.intro @s4 (And.intro @s11 (And.intro @s12 (And.intro @s13 (And.intro @s14 (And.intro @s15 (And.intro @s16 (And.intro @hN' (And.intro @hoN' (And.intro @hoM (And.intro @hoL @hszm)))))))))))))) ?_
          refine cp krm ?_
          refine runf (And.intro @s1 (And.intro @s2 (And.intro @s3 (And.intro @s4 (And.intro @s11 (And.intro @s12 (And.intro @s13 (And.intro @s14 (And.intro @s15 (And.intro @s16 @qe)))))))))) ?_
          exact round_mk (sizes.length - (i + 1)) (by omega) ⟨(by first | rfl | (simp only [↓upd_apply, ↓put_some, ↓reduceIte, Nat.reduceEqDiff]; exact s1)), (by first | rfl | (simp only [↓upd_apply, ↓put_some, ↓reduceIte, Nat.reduceEqDiff]; exact s2)), (by first | rfl | (simp only [↓upd_apply, ↓put_some, ↓reduceIte, Nat.reduceEqDiff]; exact s3)), (by first | rfl | (simp only [↓upd_apply, ↓put_some, ↓reduceIte, Nat.reduceEqDiff]; exact s4)), (by first | rfl | (simp only [↓upd_apply, ↓put_some, ↓reduceIte, Nat.reduceEqDiff]; exact s11)), (by first | rfl | (simp only [↓upd_apply, ↓put_some, ↓reduceIte, Nat.reduceEqDiff]; exact s12)), (by first | rfl | (simp only [↓upd_apply, ↓put_some, ↓reduceIte, Nat.reduceEqDiff]; exact s13)), (by first | rfl | (simp only [↓upd_apply, ↓put_some, ↓reduceIte, Nat.reduceEqDiff]; exact s14)), (by first | rfl | (simp only [↓upd_apply, ↓put_some, ↓reduceIte, Nat.reduceEqDiff]; exact s15)), i + 1, m, n, _, (by first | rfl | (simp only [↓upd_apply, ↓put_some, ↓reduceIte, Nat.reduceEqDiff]; rfl)), rfl, by omega, hg, by omega, rfl⟩
        · have qe := nilI _ _ he
          rw [decide_eq_false he] at hfh
          have hfh : fb = true := hfh
          subst hfh
          refine runf (And.intro @s1 (And.intro @s2 (And.intro @s3 (And.intro @s4 (And.intro @s11 (And.intro @s12 (And.intro @s13 (And.intro @s14 (And.intro @s15 (And.intro @s16 (And.intro @hN' (And.intro @hoN' (And.intro @hoM (And.intro @hoL @hszm)))))))))))))) ?_
          refine cp kro ?_
          refine runf (And.intro @s1 (And.intro @s2 (And.intro @s3 (And.intro @s4 (And.intro @s11 (And.intro @s12 (And.intro @s13 (And.intro @s14 (And.intro @s15 (And.intro @s16 (And.intro @hN' (And.intro @hoN' (And.intro @hoM (And.intro @hoL @hszm)))))))))))))) ?_
          refine cp krm ?_
          refine runf (And.intro @s1 (And.intro @s2 (And.intro @s3 (And.intro @s4 (And.intro @s11 (And.intro @s12 (And.intro @s13 (And.intro @s14 (And.intro @s15 (And.intro @s16 @qe)))))))))) ?_
          clear qe he
          exact round_mk (sizes.length - (i + 1)) (by omega) ⟨(by first | rfl | (simp only [↓upd_apply, ↓put_some, ↓reduceIte, Nat.reduceEqDiff]; exact s1)), (by first | rfl | (simp only [↓upd_apply, ↓put_some, ↓reduceIte, Nat.reduceEqDiff]; exact s2)), (by first | rfl | (simp only [↓upd_apply, ↓put_some, ↓reduceIte, Nat.reduceEqDiff]; exact s3)), (by first | rfl | (simp only [↓upd_apply, ↓put_some, ↓reduceIte, Nat.reduceEqDiff]; exact s4)), (by first | rfl | (simp only [↓upd_apply, ↓put_some, ↓reduceIte, Nat.reduceEqDiff]; exact s11)), (by first | rfl | (simp only [↓upd_apply, ↓put_some, ↓reduceIte, Nat.reduceEqDiff]; exact s12)), (by first | rfl | (simp only [↓upd_apply, ↓put_some, ↓reduceIte, Nat.reduceEqDiff]; exact s13)), (by first | rfl | (simp only [↓upd_apply, ↓put_some, ↓reduceIte, Nat.reduceEqDiff]; exact s14)), (by first | rfl | (simp only [↓upd_apply, ↓put_some, ↓reduceIte, Nat.reduceEqDiff]; exact s15)), i + 1, m, n, _, (by first | rfl | (simp only [↓upd_apply, ↓put_some, ↓reduceIte, Nat.reduceEqDiff]; rfl)), rfl, by omega, hg, by omega, rfl⟩
    refine cp kfh ?_
    refine runf (And.intro @s1 (And.intro @s2 (And.intro @s3 (And.intro @s4 (And.intro @s11 (And.intro @s12 (And.intro @s13 (And.intro @s14 (And.intro @s15 (And.intro @s16 (And.intro @tl0 (And.intro @tl0s (And.intro @tl1 (And.intro @tl1s (And.intro @tl10 (And.intro @ul2 (And.intro @ul2s (And.intro @ul21 (And.intro @ul20 (And.intro @tl3 @tl3s)))))))))))))))))))) ?_
    by_cases hN : 0 < n
    rotate_left
    · first
      | (exfalso; omega)
      | (have hN' : ¬ (0 : Int) < (m.entries.length : Int) := by omega
         rw [decide_eq_false hN] at hfh
         subst hfh
         refine runf (And.intro @s1 (And.intro @s2 (And.intro @s3 (And.intro @s4 (And.intro @s11 (And.intro @s12 (And.intro @s13 (And.intro @s14 (And.intro @s15 (And.intro @s16 @hN')))))))))) ?_
         exact round_mk (sizes.length - (i + 1)) (by omega) ⟨(by first | rfl | (simp only [↓upd_apply, ↓put_some, ↓reduceIte, Nat.reduceEqDiff]; exact s1)), (by first | rfl | (simp only [↓upd_apply, ↓put_some, ↓reduceIte, Nat.reduceEqDiff]; exact s2)), (by first | rfl | (simp only [↓upd_apply, ↓put_some, ↓reduceIte, Nat.reduceEqDiff]; exact s3)), (by first | rfl | (simp only [↓upd_apply, ↓put_some, ↓reduceIte, Nat.reduceEqDiff]; exact s4)), (by first | rfl | (simp only [↓upd_apply, ↓put_some, ↓reduceIte, Nat.reduceEqDiff]; exact s11)), (by first | rfl | (simp only [↓upd_apply, ↓put_some, ↓reduceIte, Nat.reduceEqDiff]; exact s12)), (by first | rfl | (simp only [↓upd_apply, ↓put_some, ↓reduceIte, Nat.reduceEqDiff]; exact s13)), (by first | rfl | (simp only [↓upd_apply, ↓put_some, ↓reduceIte, Nat.reduceEqDiff]; exact s14)), (by first | rfl | (simp only [↓upd_apply, ↓put_some, ↓reduceIte, Nat.reduceEqDiff]; exact s15)), i + 1, m, n, _, (by first | rfl | (simp only [↓upd_apply, ↓put_some, ↓reduceIte, Nat.reduceEqDiff]; rfl)), rfl, by omega, hg, by omega, rfl⟩)
    have hN' : (0 : Int) < (m.entries.length : Int) := by omega
    rw [decide_eq_true hN] at hfh
    by_cases hoN : o.length ≤ n
    rotate_left
    · have hoN' : ¬ (o.length : Int) ≤ (m.entries.length : Int) := by omega
      rw [decide_eq_false hoN] at hfh
      have hfh : fb = false := hfh
      subst hfh
      refine runf (And.intro @s1 (And.intro @s2 (And.intro @s3 (And.intro @s4 (And.intro @s11 (And.intro @s12 (And.intro @s13 (And.intro @s14 (And.intro @s15 (And.intro @s16 (And.intro @hN' @hoN'))))))))))) ?_
      exact round_mk (sizes.length - (i + 1)) (by omega) ⟨(by first | rfl | (simp only [↓upd_apply, ↓put_some, ↓reduceIte, Nat.reduceEqDiff]; exact s1)), (by first | rfl | (simp only [↓upd_apply, ↓put_some, ↓reduceIte, Nat.reduceEqDiff]; exact s2)), (by first | rfl | (simp only [↓upd_apply, ↓put_some, ↓reduceIte, Nat.reduceEqDiff]; exact s3)), (by first | rfl | (simp only [↓upd_apply, ↓put_some, ↓reduceIte, Nat.reduceEqDiff]; exact s4)), (by first | rfl | (simp only [↓upd_apply, ↓put_some, ↓reduceIte, Nat.reduceEqDiff]; exact s11)), (by first | rfl | (simp only [↓upd_apply, ↓put_some, ↓reduceIte, Nat.reduceEqDiff]; exact s12)), (by first | rfl | (simp only [↓upd_apply, ↓put_some, ↓reduceIte, Nat.reduceEqDiff]; exact s13)), (by first | rfl | (simp only [↓upd_apply, ↓put_some, ↓reduceIte, Nat.reduceEqDiff]; exact s14)), (by first | rfl | (simp only [↓upd_apply, ↓put_some, ↓reduceIte, Nat.reduceEqDiff]; exact s15)), i + 1, m, n, _, (by first | rfl | (simp only [↓upd_apply, ↓put_some, ↓reduceIte, Nat.reduceEqDiff]; rfl)), rfl, by omega, hg, by omega, rfl⟩
    have hoN' : (o.length : Int) ≤ (m.entries.length : Int) := by omega
    have hoM : ¬ (m.entries.length : Int) < (o.length : Int) := by omega
    have hoL : o.length ≤ m.entries.length := by omega
    rw [decide_eq_true hoN] at hfh
    generalize rootE o = ra at *
    generalize rootE (m.entries.take o.length) = rb at *
    by_cases he : ra = rb
    · have qe : (ra == rb) = true := by rw [he]; exact beq_self_eq_true _
      rw [decide_eq_true he] at hfh
      have hfh : fb = false := hfh
      subst hfh
      refine runf (And.intro @s1 (And.intro @s2 (And.intro @s3 (And.intro @s4 (And.intro @s11 (And.intro @s12 (And.intro @s13 (And.intro @s14 (And.intro @s15 (And.intro @s16 (And.intro @hN' (And.intro @hoN' (And.intro @hoM (And.intro @hoL @hszm)))))))))))))) ?_
      refine cp kro ?_
      refine runf (And.intro @s1 (And.intro @s2 (And.intro @s3 (And.intro @s4 (And.intro @s11 (And.intro @s12 (And.intro @s13 (And.intro @s14 (And.intro @s15 (And.intro @s16 (And.intro @hN' (And.intro @hoN' (And.intro @hoM (And.intro @hoL @hszm)))))))))))))) ?_
      refine cp krm ?_
      refine runf (And.intro @s1 (And.intro @s2 (And.intro @s3 (And.intro @s4 (And.intro @s11 (And.intro @s12 (And.intro @s13 (And.intro @s14 (And.intro @s15 (And.intro @s16 @qe)))))))))) ?_
      exact round_mk (sizes.length - (i + 1)) (by omega) ⟨(by first | rfl | (simp only [↓upd_apply, ↓put_some, ↓reduceIte, Nat.reduceEqDiff]; exact s1)), (by first | rfl | (simp only [↓upd_apply, ↓put_some, ↓reduceIte, Nat.reduceEqDiff]; exact s2)), (by first | rfl | (simp only [↓upd_apply, ↓put_some, ↓reduceIte, Nat.reduceEqDiff]; exact s3)), (by first | rfl | (simp only [↓upd_apply, ↓put_some, ↓reduceIte, Nat.reduceEqDiff]; exact s4)), (by first | rfl | (simp only [↓upd_apply, ↓put_some, ↓reduceIte, Nat.reduceEqDiff]; exact s11)), (by first | rfl | (simp only [↓upd_apply, ↓put_some, ↓reduceIte, Nat.reduceEqDiff]; exact s12)), (by first | rfl | (simp only [↓upd_apply, ↓put_some, ↓reduceIte, Nat.reduceEqDiff]; exact s13)), (by first | rfl | (simp only [↓upd_apply, ↓put_some, ↓reduceIte, Nat.reduceEqDiff]; exact s14)), (by first | rfl | (simp only [↓upd_apply, ↓put_some, ↓reduceIte, Nat.reduceEqDiff]; exact s15)), i + 1, m, n, _, (by first | rfl | (simp only [↓upd_apply, ↓put_some, ↓reduceIte, Nat.reduceEqDiff]; rfl)), rfl, by omega, hg, by omega, rfl⟩
    · have qe := nilI _ _ he
      rw [decide_eq_false he] at hfh
      have hfh : fb = true := hfh
      subst hfh
      refine runf (And.intro @s1 (And.intro @s2 (And.intro @s3 (And.intro @s4 (And.intro @s11 (And.intro @s12 (And.intro @s13 (And.intro @s14 (And.intro @s15 (And.intro @s16 (And.intro @hN' (And.intro @hoN' (And.intro @hoM (And.intro @hoL @hszm)))))))))))))) ?_
      refine cp kro ?_
      refine runf (And.intro @s1 (And.intro @s2 (And.intro @s3 (And.intro @s4 (And.intro @s11 (And.intro @s12 (And.intro @s13 (And.intro @s14 (And.intro @s15 (And.intro @s16 (And.intro @hN' (And.intro @hoN' (And.intro @hoM (And.intro @hoL @hszm)))))))))))))) ?_
      refine cp krm ?_
      refine runf (And.intro @s1 (And.intro @s2 (And.intro @s3 (And.intro @s4 (And.intro @s11 (And.intro @s12 (And.intro @s13 (And.intro @s14 (And.intro @s15 (And.intro @s16 @qe)))))))))) ?_
      clear qe he
      exact round_mk (sizes.length - (i + 1)) (by omega) ⟨(by first | rfl | (simp only [↓upd_apply, ↓put_some, ↓reduceIte, Nat.reduceEqDiff]; exact s1)), (by first | rfl | (simp only [↓upd_apply, ↓put_some, ↓reduceIte, Nat.reduceEqDiff]; exact s2)), (by first | rfl | (simp only [↓upd_apply, ↓put_some, ↓reduceIte, Nat.reduceEqDiff]; exact s3)), (by first | rfl | (simp only [↓upd_apply, ↓put_some, ↓reduceIte, Nat.reduceEqDiff]; exact s4)), (by first | rfl | (simp only [↓upd_apply, ↓put_some, ↓reduceIte, Nat.reduceEqDiff]; exact s11)), (by first | rfl | (simp only [↓upd_apply, ↓put_some, ↓reduceIte, Nat.reduceEqDiff]; exact s12)), (by first | rfl | (simp only [↓upd_apply, ↓put_some, ↓reduceIte, Nat.reduceEqDiff]; exact s13)), (by first | rfl | (simp only [↓upd_apply, ↓put_some, ↓reduceIte, Nat.reduceEqDiff]; exact s14)), (by first | rfl | (simp only [↓upd_apply, ↓put_some, ↓reduceIte, Nat.reduceEqDiff]; exact s15)), i + 1, m, n, _, (by first | rfl | (simp only [↓upd_apply, ↓put_some, ↓reduceIte, Nat.reduceEqDiff]; rfl)), rfl, by omega, hg, by omega, rfl⟩
end Go.Proofs.YthbpbkbjdfcnjaaGreatDoor.Pe
