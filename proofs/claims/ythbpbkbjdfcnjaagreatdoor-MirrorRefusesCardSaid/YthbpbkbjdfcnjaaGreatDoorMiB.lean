/- The walk of mirror.Right on plain values. -/
import Derived.Test.YthbpbkbjdfcnjaaGreatDoorMiA
set_option linter.unusedSectionVars false
set_option linter.unusedVariables false
set_option linter.unusedSimpArgs false
namespace Go.Proofs.YthbpbkbjdfcnjaaGreatDoor.Pe
open Go Go.RowKit Co Sg Ac It Sl
set_option maxRecDepth 100000
set_option maxHeartbeats 4000000
theorem mright_c (ps : List Int) (m : Mirror) (hp : InL ps) (hm : EOk m.entries) (hh : m.heads.length ≤ 1000000) : AC Tryz.prog 21 [intsV ps, mirV m] [] (.bo (rightM ps m)) [] := by
 refine AC.enter2 [51, 56, 57, 24, 58] [] Tryz.func21 rfl (by decide) (by decide) (Nat.le_of_ble_eq_true rfl) (by kernel_rfl) ?_; simp only [eraseC, eraseO, List.map_cons, List.map_nil, List.map_toArray, List.getElem?_toArray, List.getElem?_cons_zero, List.getElem?_cons_succ, Option.bind_some, Option.bind_none, List.append_eq, List.cons_append, List.nil_append]
 have hml := hm.len
 have hpl := hp.len
 have hszm := entries_sz m.entries
 have hszh := heads_sz m.heads
 have hszp : allSz 1 (ps.map (AV.it .i64)) = true := allSz_map 1 _ (fun _ => rfl) _
 have kt := stimes_c m.entries (by omega)
 unfold rightM
 by_cases c1 : 0 ≤ m.server
 rotate_left
 ·rw [decide_eq_false c1]
  refine run ?_
  exact er0
 by_cases c2 : m.server < (ps.length : Int)
 rotate_left
 ·rw [decide_eq_true c1, decide_eq_false c2]
  refine run ?_
  exact er0
 rw [decide_eq_true c1, decide_eq_true c2]
 cases ht : times m.entries with
 | false =>
  rw [ht] at kt
  refine run ?_
  refine cp kt ?_
  refine run ?_
  exact er0
 | true =>
 rw [ht] at kt
 obtain ⟨sv, hsv⟩ := Int.eq_ofNat_of_zero_le (show 0 ≤ m.server by omega)
 have hlt : sv < ps.length := by omega
 have hg : ps[m.server.toNat]? = some (ps.getD m.server.toNat 0) := by
  rw [hsv, Int.toNat_natCast, List.getD_eq_getElem?_getD, List.getElem?_eq_getElem hlt]
  rfl
 have hpr : -9223372036854775808 ≤ ps.getD m.server.toNat 0 ∧ ps.getD m.server.toNat 0 ≤ 9223372036854775807 := by
  rw [hsv, Int.toNat_natCast, List.getD_eq_getElem?_getD, List.getElem?_eq_getElem hlt]
  exact hp.rng _ (List.getElem_mem hlt)
 generalize ps.getD m.server.toNat 0 = p at *
 refine run ?_
 refine cp kt ?_
 refine run ?_
 refine loop_mk (fun mm e S => e 0 = intsV ps ∧ e 3 = .ptr 0 0 ∧ e 32 = entriesV m.entries ∧ e 33 = .it .i64 (m.entries.length : Int) ∧ ∃ (k : Nat) (acc : List By) (T : Store), e 34 = .it .i64 (k : Int) ∧ e 5 = .sl (.own 1) (acc.map .st) ∧ S = .cells [.it .i64 m.server, entriesV m.entries, headsV m.heads] :: .buf acc.length 9 1 :: T ∧ acc = (m.entries.take k).map leafE ∧ (m.entries.take k).all (sound ps) = true ∧ k ≤ m.entries.length ∧ mm = m.entries.length - k) m.entries.length
  ⟨(by first | rfl | (simp only [↓upd_apply, ↓put_some, ↓reduceIte, Nat.reduceEqDiff, ↓argEnv_zero, ↓argEnv_succ, *]; done)), (by first | rfl | (simp only [↓upd_apply, ↓put_some, ↓reduceIte, Nat.reduceEqDiff, ↓argEnv_zero, ↓argEnv_succ, *]; done)), (by first | rfl | (simp only [↓upd_apply, ↓put_some, ↓reduceIte, Nat.reduceEqDiff, ↓argEnv_zero, ↓argEnv_succ, *]; done)), (by first | rfl | (simp only [↓upd_apply, ↓put_some, ↓reduceIte, Nat.reduceEqDiff, ↓argEnv_zero, ↓argEnv_succ, *]; done)), 0, [], [], (by first | rfl | (simp only [↓upd_apply, ↓put_some, ↓reduceIte, Nat.reduceEqDiff, ↓argEnv_zero, ↓argEnv_succ, *]; done)), (by first | rfl | (simp only [↓upd_apply, ↓put_some, ↓reduceIte, Nat.reduceEqDiff, ↓argEnv_zero, ↓argEnv_succ, *]; done)), rfl, by simp, rfl, by omega, rfl⟩ ?_
 rintro mm e S ⟨s0, s3, s32, s33, k, acc, T, s34, s5, rfl, hacc, hall, hk, rfl⟩
 have hal : acc.length = k := by rw [hacc, List.length_map, List.length_take, Nat.min_eq_left hk]
 by_cases hlt2 : k < m.entries.length
 focus
  have hge : m.entries[k]? = some m.entries[k] := List.getElem?_eq_getElem hlt2
  have hz := hm.iz m.entries[k] (List.getElem_mem hlt2)
  have hstep : m.entries.take (k + 1) = m.entries.take k ++ [m.entries[k]] := List.take_succ_eq_append_getElem hlt2
  have hbad : sound ps m.entries[k] = false → m.entries.all (sound ps) = false := fun h => List.all_eq_false.2 ⟨m.entries[k], List.getElem_mem hlt2, by simp [h]⟩
  generalize m.entries[k] = x at *
  have ks := msound_c ps x hz hp
  have kl := sleaf_c x hz
  cases hso : sound ps x with
  | false =>
   rw [hso] at ks
   rw [hbad hso]
   refine runf (an @s0 (an @s3 (an @s32 (an @s33 (an @s34 (an @s5 (an @hge (an @hszm (an @tl0 @tl0s))))))))) ?_
   refine cp ks ?_
   refine runf (an @s0 (an @s3 (an @s32 (an @s33 (an @s34 @s5))))) ?_
   exact er0
  | true =>
   rw [hso] at ks
   refine runf (an @s0 (an @s3 (an @s32 (an @s33 (an @s34 (an @s5 (an @hge (an @hszm (an @tl0 @tl0s))))))))) ?_
   refine cp ks ?_
   refine runf (an @s0 (an @s3 (an @s32 (an @s33 (an @s34 (an @s5 @tl0)))))) ?_
   refine cp kl ?_
   refine runf (an @s0 (an @s3 (an @s32 (an @s33 (an @s34 @s5))))) ?_
   exact round_mk (m.entries.length - (k + 1)) (by omega) ⟨(by first | rfl | (simp only [↓upd_apply, ↓put_some, ↓reduceIte, Nat.reduceEqDiff, ↓argEnv_zero, ↓argEnv_succ, *]; done)), (by first | rfl | (simp only [↓upd_apply, ↓put_some, ↓reduceIte, Nat.reduceEqDiff, ↓argEnv_zero, ↓argEnv_succ, *]; done)), (by first | rfl | (simp only [↓upd_apply, ↓put_some, ↓reduceIte, Nat.reduceEqDiff, ↓argEnv_zero, ↓argEnv_succ, *]; done)), (by first | rfl | (simp only [↓upd_apply, ↓put_some, ↓reduceIte, Nat.reduceEqDiff, ↓argEnv_zero, ↓argEnv_succ, *]; done)), k + 1, acc ++ [leafE x], _, (by first | rfl | (simp only [↓upd_apply, ↓put_some, ↓reduceIte, Nat.reduceEqDiff, ↓argEnv_zero, ↓argEnv_succ, *]; done)), by rw [List.map_append]; exact (by first | rfl | (simp only [↓upd_apply, ↓put_some, ↓reduceIte, Nat.reduceEqDiff, ↓argEnv_zero, ↓argEnv_succ, *]; done)), by rw [List.length_append]; rfl, by rw [hstep, List.map_append, hacc]; rfl, by rw [hstep, List.all_append, hall]; simp [hso], by omega, rfl⟩
 obtain rfl : k = m.entries.length := by omega
 rw [List.take_length] at hacc hall
 rw [hall]
 have hx : ¬ ((m.entries.length : Nat) : Int) < (m.entries.length : Int) := by omega
 refine runf (an @s0 (an @s3 (an @s32 (an @s33 (an @s34 (an @s5 @hx)))))) ?_
 refine loop_mk (fun mm e S => e 0 = intsV ps ∧ e 3 = .ptr 0 0 ∧ e 49 = headsV m.heads ∧ e 50 = .it .i64 (m.heads.length : Int) ∧ e 5 = .sl (.own 1) (acc.map .st) ∧ ∃ (k : Nat) (last : Int) (T : Store), e 51 = .it .i64 (k : Int) ∧ e 8 = .it .i64 last ∧ 0 ≤ last ∧ last ≤ 1000000 ∧ S = .cells [.it .i64 m.server, entriesV m.entries, headsV m.heads] :: .buf acc.length 9 1 :: T ∧ headsOk p m 0 m.heads = headsOk p m last (m.heads.drop k) ∧ k ≤ m.heads.length ∧ mm = m.heads.length - k) m.heads.length
  ⟨(by first | rfl | (simp only [↓upd_apply, ↓put_some, ↓reduceIte, Nat.reduceEqDiff, ↓argEnv_zero, ↓argEnv_succ, *]; done)), (by first | rfl | (simp only [↓upd_apply, ↓put_some, ↓reduceIte, Nat.reduceEqDiff, ↓argEnv_zero, ↓argEnv_succ, *]; done)), (by first | rfl | (simp only [↓upd_apply, ↓put_some, ↓reduceIte, Nat.reduceEqDiff, ↓argEnv_zero, ↓argEnv_succ, *]; done)), (by first | rfl | (simp only [↓upd_apply, ↓put_some, ↓reduceIte, Nat.reduceEqDiff, ↓argEnv_zero, ↓argEnv_succ, *]; done)), (by first | rfl | (simp only [↓upd_apply, ↓put_some, ↓reduceIte, Nat.reduceEqDiff, ↓argEnv_zero, ↓argEnv_succ, *]; done)), 0, 0, T, (by first | rfl | (simp only [↓upd_apply, ↓put_some, ↓reduceIte, Nat.reduceEqDiff, ↓argEnv_zero, ↓argEnv_succ, *]; done)), (by first | rfl | (simp only [↓upd_apply, ↓put_some, ↓reduceIte, Nat.reduceEqDiff, ↓argEnv_zero, ↓argEnv_succ, *]; done)), by omega, by omega, rfl, rfl, by omega, rfl⟩ ?_
 clear s0 s3 s32 s33 s34 s5
 rintro mm e S ⟨s0, s3, s49, s50, s5, k, last, T, s51, s8, hl0, hl1, rfl, hok, hk, rfl⟩
 by_cases hlt3 : k < m.heads.length
 rotate_left
 ·obtain rfl : k = m.heads.length := by omega
  rw [List.drop_length] at hok
  rw [hok]
  have hx : ¬ ((m.heads.length : Nat) : Int) < (m.heads.length : Int) := by omega
  by_cases he : last = (m.entries.length : Int)
  ·rw [show headsOk p m last [] = true from decide_eq_true he]
   refine runf (an @s0 (an @s3 (an @s49 (an @s50 (an @s5 (an @s51 (an @s8 (an @hx @he)))))))) ?_
   exact er0
  ·rw [show headsOk p m last [] = false from decide_eq_false he]
   have qe : (last == (m.entries.length : Int)) = false := beqF he
   refine runf (an @s0 (an @s3 (an @s49 (an @s50 (an @s5 (an @s51 (an @s8 (an @hx @qe)))))))) ?_
   exact er0
 have hge : m.heads[k]? = some m.heads[k] := List.getElem?_eq_getElem hlt3
 have hdr : m.heads.drop k = m.heads[k] :: m.heads.drop (k + 1) := List.drop_eq_getElem_cons hlt3
 rw [hdr] at hok
 generalize m.heads[k] = h at *
 have hlm : m.server < (ps.length : Int) := c2
 have kv := sverify_c p h hpr
 have hun : headsOk p m last (h :: m.heads.drop (k + 1)) = (decide (h.server = m.server) && verifyH p h && decide (last < h.size) && decide (h.size ≤ m.entries.length) && decide (h.root = rootE (m.entries.take h.size.toNat)) && headsOk p m h.size (m.heads.drop (k + 1))) := rfl
 rw [hun] at hok
 by_cases d1 : h.server = m.server
 rotate_left
 ·have q1 : (h.server != m.server) = true := bneT d1
  rw [show headsOk p m 0 m.heads = false from by rw [hok, decide_eq_false d1]; simp]
  refine runf (an @s0 (an @s3 (an @s49 (an @s50 (an @s5 (an @s51 (an @s8 (an @hge (an @hszh (an @tl0 (an @tl0s @q1))))))))))) ?_
  exact er0
 have q1 : (h.server != m.server) = false := bneF d1
 rw [decide_eq_true d1] at hok
 cases hv : verifyH p h with
 | false =>
  rw [hv] at kv hok
  rw [show headsOk p m 0 m.heads = false from by rw [hok]; simp]
  refine runf (an @s0 (an @s3 (an @s49 (an @s50 (an @s5 (an @s51 (an @s8 (an @hge (an @hszh (an @tl0 (an @tl0s (an @q1 (an @c1 (an @hlm (an @hg @hszp))))))))))))))) ?_
  refine cp kv ?_
  refine runf (an @s0 (an @s3 (an @s49 (an @s50 (an @s5 (an @s51 @s8)))))) ?_
  exact er0
 | true =>
 rw [hv] at kv hok
 have hvr := hv
 unfold verifyH at hvr
 rw [Bool.and_eq_true] at hvr
 have hr := rightH_lin.1 hvr.1
 by_cases d3 : last < h.size
 rotate_left
 ·rw [show headsOk p m 0 m.heads = false from by rw [hok, decide_eq_false d3]; simp]
  have d3' : h.size ≤ last := by omega
  refine runf (an @s0 (an @s3 (an @s49 (an @s50 (an @s5 (an @s51 (an @s8 (an @hge (an @hszh (an @tl0 (an @tl0s (an @q1 (an @c1 (an @hlm (an @hg @hszp))))))))))))))) ?_
  refine cp kv ?_
  refine runf (an @s0 (an @s3 (an @s49 (an @s50 (an @s5 (an @s51 (an @s8 (an @tl0 @d3')))))))) ?_
  exact er0
 have d3' : ¬ h.size ≤ last := by omega
 rw [decide_eq_true d3] at hok
 by_cases d4 : h.size ≤ (m.entries.length : Int)
 rotate_left
 ·rw [show headsOk p m 0 m.heads = false from by rw [hok, decide_eq_false d4]; simp]
  have d4' : (acc.length : Int) < h.size := by omega
  refine runf (an @s0 (an @s3 (an @s49 (an @s50 (an @s5 (an @s51 (an @s8 (an @hge (an @hszh (an @tl0 (an @tl0s (an @q1 (an @c1 (an @hlm (an @hg @hszp))))))))))))))) ?_
  refine cp kv ?_
  refine runf (an @s0 (an @s3 (an @s49 (an @s50 (an @s5 (an @s51 (an @s8 (an @tl0 (an @d3' @d4'))))))))) ?_
  exact er0
 have d4' : ¬ (acc.length : Int) < h.size := by omega
 rw [decide_eq_true d4] at hok
 have hn0 : 0 ≤ h.size := by omega
 have hnl : h.size.toNat ≤ acc.length := by omega
 have kr := root_c (acc.take h.size.toNat) (by rw [List.length_take]; omega) (fun x hx => by
  have := List.mem_of_mem_take hx
  rw [hacc] at this
  rw [leaves_dig _ x this]; decide)
 have hro : Mk.root (acc.take h.size.toNat) = rootE (m.entries.take h.size.toNat) := by rw [hacc, ← List.map_take]; rfl
 rw [hro] at kr
 generalize rootE (m.entries.take h.size.toNat) = ro at *
 by_cases d5 : h.root = ro
 ·have q5 : (h.root == ro) = true := by rw [d5]; exact beq_self_eq_true _
  rw [decide_eq_true d5] at hok
  refine runf (an @s0 (an @s3 (an @s49 (an @s50 (an @s5 (an @s51 (an @s8 (an @hge (an @hszh (an @tl0 (an @tl0s (an @q1 (an @c1 (an @hlm (an @hg @hszp))))))))))))))) ?_
  refine cp kv ?_
  refine runf (an @s0 (an @s3 (an @s49 (an @s50 (an @s5 (an @s51 (an @s8 (an @tl0 (an @d3' (an @d4' (an @hn0 @hnl))))))))))) ?_
  refine cp kr ?_
  refine runf (an @s0 (an @s3 (an @s49 (an @s50 (an @s5 (an @s51 (an @s8 (an @tl0 @q5)))))))) ?_
  exact round_mk (m.heads.length - (k + 1)) (by omega) ⟨(by first | rfl | (simp only [↓upd_apply, ↓put_some, ↓reduceIte, Nat.reduceEqDiff, ↓argEnv_zero, ↓argEnv_succ, *]; done)), (by first | rfl | (simp only [↓upd_apply, ↓put_some, ↓reduceIte, Nat.reduceEqDiff, ↓argEnv_zero, ↓argEnv_succ, *]; done)), (by first | rfl | (simp only [↓upd_apply, ↓put_some, ↓reduceIte, Nat.reduceEqDiff, ↓argEnv_zero, ↓argEnv_succ, *]; done)), (by first | rfl | (simp only [↓upd_apply, ↓put_some, ↓reduceIte, Nat.reduceEqDiff, ↓argEnv_zero, ↓argEnv_succ, *]; done)), (by first | rfl | (simp only [↓upd_apply, ↓put_some, ↓reduceIte, Nat.reduceEqDiff, ↓argEnv_zero, ↓argEnv_succ, *]; done)), k + 1, h.size, _, (by first | rfl | (simp only [↓upd_apply, ↓put_some, ↓reduceIte, Nat.reduceEqDiff, ↓argEnv_zero, ↓argEnv_succ, *]; done)), (by first | rfl | (simp only [↓upd_apply, ↓put_some, ↓reduceIte, Nat.reduceEqDiff, ↓argEnv_zero, ↓argEnv_succ, *]; done)), by omega, by omega, rfl, hok, by omega, rfl⟩
 ·have q5 := nilI h.root ro d5
  rw [show headsOk p m 0 m.heads = false from by rw [hok, decide_eq_false d5]; simp]
  refine runf (an @s0 (an @s3 (an @s49 (an @s50 (an @s5 (an @s51 (an @s8 (an @hge (an @hszh (an @tl0 (an @tl0s (an @q1 (an @c1 (an @hlm (an @hg @hszp))))))))))))))) ?_
  refine cp kv ?_
  refine runf (an @s0 (an @s3 (an @s49 (an @s50 (an @s5 (an @s51 (an @s8 (an @tl0 (an @d3' (an @d4' (an @hn0 @hnl))))))))))) ?_
  refine cp kr ?_
  refine runf (an @s0 (an @s3 (an @s49 (an @s50 (an @s5 (an @s51 (an @s8 (an @tl0 @q5)))))))) ?_
  exact er0
end Go.Proofs.YthbpbkbjdfcnjaaGreatDoor.Pe
