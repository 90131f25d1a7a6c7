/- The walk of package fork on plain values. -/
import Derived.Test.YthbpbkbjdfcnjaaGreatDoorMiA
import Derived.Test.YthbpbkbjdfcnjaaGreatDoorFkV0
set_option linter.unusedSectionVars false
set_option linter.unusedVariables false
set_option linter.unusedSimpArgs false
namespace Go.Proofs.YthbpbkbjdfcnjaaGreatDoor.Pe
open Go Go.RowKit Co Sg Ac It Sl
set_option maxRecDepth 100000
set_option maxHeartbeats 4000000
abbrev evV (e : Evidence) : AV := .agg [.it .i64 e.old.server, .it .i64 e.old.size, .st e.old.root, .it .i64 e.old.time, .it .i64 e.old.sig.e, .it .i64 e.old.sig.s, .it .i64 e.new.server, .it .i64 e.new.size, .st e.new.root, .it .i64 e.new.time, .it .i64 e.new.sig.e, .it .i64 e.new.sig.s, .st e.root, sls e.link]
abbrev evL (e : Evidence) : List AV := [.it .i64 e.old.server, .it .i64 e.old.size, .st e.old.root, .it .i64 e.old.time, .it .i64 e.old.sig.e, .it .i64 e.old.sig.s, .it .i64 e.new.server, .it .i64 e.new.size, .st e.new.root, .it .i64 e.new.time, .it .i64 e.new.sig.e, .it .i64 e.new.sig.s, .st e.root, sls e.link]
abbrev headL (h : Head) : List AV := [.it .i64 h.server, .it .i64 h.size, .st h.root, .it .i64 h.time, .it .i64 h.sig.e, .it .i64 h.sig.s]
theorem fkserver_c (e : Evidence) : AC Tryz.prog 37 [evV e] [] (.it .i64 e.old.server) [] := by
 refine AC.enter2 [] [] Tryz.func37 rfl (by decide) (by decide) (Nat.le_of_ble_eq_true rfl) (by kernel_rfl) ?_; simp only [eraseC, eraseO, List.map_cons, List.map_nil, List.map_toArray, List.getElem?_toArray, List.getElem?_cons_zero, List.getElem?_cons_succ, Option.bind_some, Option.bind_none, List.append_eq, List.cons_append, List.nil_append]
 refine run ?_
 exact er0
theorem fkformed_c (e : Evidence) (hl : e.link.length ≤ 140737488355328) : AC Tryz.prog 64 [evV e] [] (.bo (formedE e)) [] := by
 refine AC.enter2 [60] [] Tryz.func64 rfl (by decide) (by decide) (Nat.le_of_ble_eq_true rfl) (by kernel_rfl) ?_; simp only [eraseC, eraseO, List.map_cons, List.map_nil, List.map_toArray, List.getElem?_toArray, List.getElem?_cons_zero, List.getElem?_cons_succ, Option.bind_some, Option.bind_none, List.append_eq, List.cons_append, List.nil_append]
 have k1 := sright_c e.old
 have k2 := sright_c e.new
 unfold formedE
 cases h1 : rightH e.old with
 | false =>
  rw [h1] at k1
  refine run ?_
  refine cp k1 ?_
  refine run ?_
  exact er0
 | true =>
 rw [h1] at k1
 cases h2 : rightH e.new with
 | false =>
  rw [h2] at k2
  refine run ?_
  refine cp k1 ?_
  refine run ?_
  refine cp k2 ?_
  refine run ?_
  exact er0
 | true =>
 rw [h2] at k2
 by_cases h3 : e.root.length = 32
 rotate_left
 ·have h3' : ((e.root.length : Int) != 32) = true := bneT (by omega)
  rw [decide_eq_false h3]
  refine run ?_
  refine cp k1 ?_
  refine run ?_
  refine cp k2 ?_
  refine runf @h3' ?_
  exact er0
 have h3' : ((e.root.length : Int) != 32) = false := bneF (by omega)
 by_cases h4 : e.link.length ≤ 64
 rotate_left
 ·have h4' : (64 : Int) < (e.link.length : Int) := by omega
  rw [decide_eq_true h3, decide_eq_false h4]
  refine run ?_
  refine cp k1 ?_
  refine run ?_
  refine cp k2 ?_
  refine runf (an @h3' @h4') ?_
  exact er0
 have h4' : ¬ (64 : Int) < (e.link.length : Int) := by omega
 rw [decide_eq_true h3, decide_eq_true h4]
 refine run ?_
 refine cp k1 ?_
 refine run ?_
 refine cp k2 ?_
 refine runf (an @h3' @h4') ?_
 refine loop_mk (fun m en S => S = [.cells (evL e)] ∧ en 28 = sls e.link ∧ en 29 = .it .i64 (e.link.length : Int) ∧ ∃ k : Nat, en 30 = .it .i64 (k : Int) ∧ k ≤ e.link.length ∧ (e.link.take k).all dig = true ∧ m = e.link.length - k) e.link.length
  ⟨rfl, (by first | rfl | (simp only [↓upd_apply, ↓put_some, ↓reduceIte, Nat.reduceEqDiff, ↓argEnv_zero, ↓argEnv_succ, *]; done)), (by first | rfl | (simp only [↓upd_apply, ↓put_some, ↓reduceIte, Nat.reduceEqDiff, ↓argEnv_zero, ↓argEnv_succ, *]; done)), 0, (by first | rfl | (simp only [↓upd_apply, ↓put_some, ↓reduceIte, Nat.reduceEqDiff, ↓argEnv_zero, ↓argEnv_succ, *]; done)), by omega, rfl, rfl⟩ ?_
 rintro m en S ⟨rfl, s28, s29, k, s30, hk, hall, rfl⟩
 by_cases hlt : k < e.link.length
 ·have hg : e.link[k]? = some e.link[k] := List.getElem?_eq_getElem hlt
  have hstep : e.link.take (k + 1) = e.link.take k ++ [e.link[k]] := List.take_succ_eq_append_getElem hlt
  have hbad : dig e.link[k] = false → e.link.all dig = false := fun h => List.all_eq_false.2 ⟨e.link[k], List.getElem_mem hlt, by simp [h]⟩
  generalize e.link[k] = x at *
  by_cases hx : x.length = 32
  ·have hx' : ((x.length : Int) != 32) = false := bneF (by omega)
   have hd : dig x = true := decide_eq_true hx
   refine runf (an @s28 (an @s29 (an @s30 (an @hg @hx')))) ?_
   exact round_mk (e.link.length - (k + 1)) (by omega) ⟨rfl, (by first | rfl | (simp only [↓upd_apply, ↓put_some, ↓reduceIte, Nat.reduceEqDiff, ↓argEnv_zero, ↓argEnv_succ, *]; done)), (by first | rfl | (simp only [↓upd_apply, ↓put_some, ↓reduceIte, Nat.reduceEqDiff, ↓argEnv_zero, ↓argEnv_succ, *]; done)), k + 1, (by first | rfl | (simp only [↓upd_apply, ↓put_some, ↓reduceIte, Nat.reduceEqDiff, ↓argEnv_zero, ↓argEnv_succ, *]; done)), by omega, by rw [hstep, List.all_append, hall]; simp [hd], rfl⟩
  ·have hx' : ((x.length : Int) != 32) = true := bneT (by omega)
   rw [hbad (decide_eq_false hx)]
   refine runf (an @s28 (an @s29 (an @s30 (an @hg @hx')))) ?_
   exact er0
 ·obtain rfl : k = e.link.length := by omega
  rw [List.take_length] at hall
  rw [hall]
  have hx : ¬ ((e.link.length : Nat) : Int) < (e.link.length : Int) := by omega
  refine runf (an @s28 (an @s29 (an @s30 @hx))) ?_
  exact er0
theorem fkmake_c (l : List It.Entry) (now old : Head) (hl : EOk l) : AC Tryz.prog 35 [entriesV l, headV now, headV old] [] (.tup [evV (mkEv l now old).1, .bo (mkEv l now old).2]) [] := by
 refine AC.enter2 [57, 58, 85] [] Tryz.func35 rfl (by decide) (by decide) (Nat.le_of_ble_eq_true rfl) (by kernel_rfl) ?_; simp only [eraseC, eraseO, List.map_cons, List.map_nil, List.map_toArray, List.getElem?_toArray, List.getElem?_cons_zero, List.getElem?_cons_succ, Option.bind_some, Option.bind_none, List.append_eq, List.cons_append, List.nil_append]
 have hll := hl.len
 have hsz := entries_sz l
 unfold mkEv
 by_cases c1 : now.server = old.server
 rotate_left
 ·have q1 : (now.server != old.server) = true := bneT c1
  rw [if_pos (.inl c1)]
  refine runf @q1 ?_
  exact er0w
 have q1 : (now.server != old.server) = false := bneF c1
 by_cases c2 : old.size < 0
 ·rw [if_pos (.inr (.inl c2))]
  refine runf (an @q1 @c2) ?_
  exact er0w
 by_cases c3 : now.size < old.size
 ·rw [if_pos (.inr (.inr (.inl c3)))]
  refine runf (an @q1 (an @c2 @c3)) ?_
  exact er0w
 by_cases c4 : (l.length : Int) < now.size
 ·rw [if_pos (.inr (.inr (.inr c4)))]
  refine runf (an @q1 (an @c2 (an @c3 @c4))) ?_
  exact er0w
 rw [if_neg (by rintro (h | h | h | h); exact h c1; exact c2 h; exact c3 h; exact c4 h)]
 have hn0 : 0 ≤ now.size := by omega
 have ho0 : 0 ≤ old.size := by omega
 have hnl : now.size.toNat ≤ l.length := by omega
 have hszn := entries_sz (l.take now.size.toNat)
 have hol : (l.take now.size.toNat).length = now.size.toNat := by rw [List.length_take]; omega
 have hon : old.size.toNat ≤ (l.take now.size.toNat).length := by omega
 have hlt2 : l.take old.size.toNat = (l.take now.size.toNat).take old.size.toNat := by rw [List.take_take, Nat.min_eq_left (by omega)]
 have hok := hl.take now.size.toNat
 have hokl := hok.len
 rw [hlt2]
 generalize hln : l.take now.size.toNat = ln at *
 have hoi : (ln.length : Int) = now.size := by omega
 refine runf (an @q1 (an @c2 (an @c3 (an @c4 (an @hn0 (an @hnl (an @hsz @hln))))))) ?_
 refine loop_mk (fun m e S => e 4 = .ptr 0 0 ∧ e 5 = .ptr 1 0 ∧ e 6 = .ptr 2 0 ∧ e 45 = entriesV ln ∧ e 46 = .it .i64 (ln.length : Int) ∧ ∃ (k : Nat) (acc : List By) (T : Store), e 47 = .it .i64 (k : Int) ∧ e 8 = .sl (.own 3) (acc.map .st) ∧ S = .cells (headL now) :: .cells (headL old) :: .cells [.it .i64 0, .it .i64 0, .st [], .it .i64 0, .it .i64 0, .it .i64 0, .it .i64 0, .it .i64 0, .st [], .it .i64 0, .it .i64 0, .it .i64 0, .st [], .sl .full []] :: .buf acc.length 9 1 :: T ∧ acc = (ln.take k).map leafE ∧ k ≤ ln.length ∧ m = ln.length - k) ln.length
  ⟨(by first | rfl | (simp only [↓upd_apply, ↓put_some, ↓reduceIte, Nat.reduceEqDiff, ↓argEnv_zero, ↓argEnv_succ, *]; done)), (by first | rfl | (simp only [↓upd_apply, ↓put_some, ↓reduceIte, Nat.reduceEqDiff, ↓argEnv_zero, ↓argEnv_succ, *]; done)), (by first | rfl | (simp only [↓upd_apply, ↓put_some, ↓reduceIte, Nat.reduceEqDiff, ↓argEnv_zero, ↓argEnv_succ, *]; done)), (by first | rfl | (simp only [↓upd_apply, ↓put_some, ↓reduceIte, Nat.reduceEqDiff, ↓argEnv_zero, ↓argEnv_succ, *]; done)), (by first | rfl | (simp only [↓upd_apply, ↓put_some, ↓reduceIte, Nat.reduceEqDiff, ↓argEnv_zero, ↓argEnv_succ, *]; done)), 0, [], [], (by first | rfl | (simp only [↓upd_apply, ↓put_some, ↓reduceIte, Nat.reduceEqDiff, ↓argEnv_zero, ↓argEnv_succ, *]; done)), (by first | rfl | (simp only [↓upd_apply, ↓put_some, ↓reduceIte, Nat.reduceEqDiff, ↓argEnv_zero, ↓argEnv_succ, *]; done)), rfl, by simp, by omega, rfl⟩ ?_
 rintro m e S ⟨s4, s5, s6, s45, s46, k, acc, T, s47, s8, rfl, hacc, hk, rfl⟩
 have hal : acc.length = k := by rw [hacc, List.length_map, List.length_take, Nat.min_eq_left hk]
 by_cases hlt : k < ln.length
 ·have hg : ln[k]? = some ln[k] := List.getElem?_eq_getElem hlt
  have hz := hok.iz ln[k] (List.getElem_mem hlt)
  have hst : acc ++ [leafE ln[k]] = (ln.take (k + 1)).map leafE := by rw [List.take_succ_eq_append_getElem hlt, List.map_append, ← hacc]; rfl
  generalize ln[k] = x at *
  have kx := sleaf_c x hz
  refine runf (an @s4 (an @s5 (an @s6 (an @s45 (an @s46 (an @s47 (an @s8 (an @hg (an @hszn (an @tl0 @tl0s)))))))))) ?_
  refine cp kx ?_
  refine runf (an @s4 (an @s5 (an @s6 (an @s45 (an @s46 (an @s47 @s8)))))) ?_
  exact round_mk (ln.length - (k + 1)) (by omega) ⟨(by first | rfl | (simp only [↓upd_apply, ↓put_some, ↓reduceIte, Nat.reduceEqDiff, ↓argEnv_zero, ↓argEnv_succ, *]; done)), (by first | rfl | (simp only [↓upd_apply, ↓put_some, ↓reduceIte, Nat.reduceEqDiff, ↓argEnv_zero, ↓argEnv_succ, *]; done)), (by first | rfl | (simp only [↓upd_apply, ↓put_some, ↓reduceIte, Nat.reduceEqDiff, ↓argEnv_zero, ↓argEnv_succ, *]; done)), (by first | rfl | (simp only [↓upd_apply, ↓put_some, ↓reduceIte, Nat.reduceEqDiff, ↓argEnv_zero, ↓argEnv_succ, *]; done)), (by first | rfl | (simp only [↓upd_apply, ↓put_some, ↓reduceIte, Nat.reduceEqDiff, ↓argEnv_zero, ↓argEnv_succ, *]; done)), k + 1, acc ++ [leafE x], _, (by first | rfl | (simp only [↓upd_apply, ↓put_some, ↓reduceIte, Nat.reduceEqDiff, ↓argEnv_zero, ↓argEnv_succ, *]; done)), by rw [List.map_append]; exact (by first | rfl | (simp only [↓upd_apply, ↓put_some, ↓reduceIte, Nat.reduceEqDiff, ↓argEnv_zero, ↓argEnv_succ, *]; done)), by rw [List.length_append]; rfl, hst, by omega, rfl⟩
 obtain rfl : k = ln.length := by omega
 rw [List.take_length] at hacc
 have hx : ¬ ((ln.length : Nat) : Int) < (ln.length : Int) := by omega
 have hx32 : ∀ x ∈ acc, x.length ≤ 1000000 := fun x hx => by rw [hacc] at hx; rw [leaves_dig _ x hx]; decide
 have hoa : old.size.toNat ≤ acc.length := by omega
 have kr1 := root_c (acc.take old.size.toNat) (by rw [List.length_take]; omega) (fun x hx => hx32 x (List.mem_of_mem_take hx))
 have kr2 := root_c acc (by omega) hx32
 have kl := link_c acc old.size.toNat hoa (by omega) hx32
 have e1 : Mk.root (acc.take old.size.toNat) = rootE (ln.take old.size.toNat) := by rw [hacc, ← List.map_take]; rfl
 have e2 : Mk.root acc = rootE ln := by rw [hacc]; rfl
 have e3 : (if old.size.toNat = 0 then [] else Mk.link acc old.size.toNat true) = linkE (ln.map leafE) old.size.toNat := by rw [hacc]; rfl
 have e4 : ((old.size.toNat : Nat) : Int) = old.size := by omega
 rw [e1] at kr1
 rw [e2] at kr2
 rw [e3, e4] at kl
 generalize rootE (ln.take old.size.toNat) = ro at *
 generalize rootE ln = rn at *
 generalize linkE (ln.map leafE) old.size.toNat = lk at *
 rw [upd_self s6]
 refine runf (an @s4 (an @s5 (an @s6 (an @s45 (an @s46 (an @s47 (an @s8 (an @hx (an @ho0 @hoa))))))))) ?_
 refine cp kr1 ?_
 refine runf (an @s4 (an @s5 (an @s6 (an @s45 (an @s46 (an @s47 @s8)))))) ?_
 refine cp kr2 ?_
 by_cases d1 : rn = now.root
 rotate_left
 ·have p1 := nilI _ _ d1
  rw [if_pos (.inl d1)]
  refine runf (an @s4 (an @s5 (an @s6 (an @s45 (an @s46 (an @s47 (an @s8 @p1))))))) ?_
  exact er0w
 have p1 : (rn == now.root) = true := by rw [d1]; exact beq_self_eq_true _
 by_cases d2 : ro = old.root
 ·have p2 : (ro == old.root) = true := by rw [d2]; exact beq_self_eq_true _
  rw [if_pos (.inr d2)]
  refine runf (an @s4 (an @s5 (an @s6 (an @s45 (an @s46 (an @s47 (an @s8 (an @p1 @p2)))))))) ?_
  exact er0w
 have p2 := nilI _ _ d2
 rw [if_neg (by rintro (h | h); exact h d1; exact d2 h)]
 refine runf (an @s4 (an @s5 (an @s6 (an @s45 (an @s46 (an @s47 (an @s8 (an @p1 @p2)))))))) ?_
 refine cp kl ?_
 refine runf (an @s4 (an @s5 (an @s6 (an @s45 (an @s46 (an @s47 @s8)))))) ?_
 exact er0w
theorem fkcheck_c (ps : List Int) (e : Evidence) (hp : InL ps) (hl : e.link.length ≤ 1000000) : AC Tryz.prog 36 [intsV ps, evV e] [] (.bo (checkE ps e)) [] := by
 refine AC.enter2 [64, 24, 86] [] Tryz.func36 rfl (by decide) (by decide) (Nat.le_of_ble_eq_true rfl) (by kernel_rfl) ?_; simp only [eraseC, eraseO, List.map_cons, List.map_nil, List.map_toArray, List.getElem?_toArray, List.getElem?_cons_zero, List.getElem?_cons_succ, Option.bind_some, Option.bind_none, List.append_eq, List.cons_append, List.nil_append]
 have hpl := hp.len
 have kf := fkformed_c e (by omega)
 have hszp : allSz 1 (ps.map (AV.it .i64)) = true := allSz_map 1 _ (fun _ => rfl) _
 unfold checkE
 cases hf : formedE e with
 | false =>
  rw [hf] at kf
  refine run ?_
  refine cp kf ?_
  refine run ?_
  exact er0
 | true =>
 rw [hf] at kf
 obtain ⟨h1, h2, h3, h4, h5⟩ := formedE_iff.1 hf
 have r1 := rightH_lin.1 h1
 have r2 := rightH_lin.1 h2
 by_cases c1 : e.old.server = e.new.server
 rotate_left
 ·have q1 : (e.old.server != e.new.server) = true := bneT c1
  rw [decide_eq_false c1]
  refine run ?_
  refine cp kf ?_
  refine runf @q1 ?_
  exact er0
 have q1 : (e.old.server != e.new.server) = false := bneF c1
 by_cases c2 : e.old.server < (ps.length : Int)
 rotate_left
 ·rw [decide_eq_true c1, decide_eq_false c2]
  refine run ?_
  refine cp kf ?_
  refine runf (an @q1 @c2) ?_
  exact er0
 rw [decide_eq_true c1, decide_eq_true c2]
 have c0 : 0 ≤ e.old.server := by omega
 have hlt : e.old.server.toNat < ps.length := by omega
 have hg : ps[e.old.server.toNat]? = some (ps.getD e.old.server.toNat 0) := by
  rw [List.getD_eq_getElem?_getD, List.getElem?_eq_getElem hlt]
  rfl
 have hpr : -9223372036854775808 ≤ ps.getD e.old.server.toNat 0 ∧ ps.getD e.old.server.toNat 0 ≤ 9223372036854775807 := by
  rw [List.getD_eq_getElem?_getD, List.getElem?_eq_getElem hlt]
  exact hp.rng _ (List.getElem_mem hlt)
 generalize ps.getD e.old.server.toNat 0 = p at *
 have k1 := sverify_c p e.old hpr
 have k2 := sverify_c p e.new hpr
 have k3 := extends_c e.link e.old.size e.new.size e.root e.new.root (by omega) hl (fun y hy => by rw [h5 y hy]; decide)
 generalize extB e.old.size e.new.size e.root e.new.root e.link = xb at *
 cases hv1 : verifyH p e.old with
 | false =>
  rw [hv1] at k1
  refine run ?_
  refine cp kf ?_
  refine runf (an @q1 (an @c2 (an @c0 (an @hg @hszp)))) ?_
  refine cp k1 ?_
  refine run ?_
  exact er0
 | true =>
 rw [hv1] at k1
 cases hv2 : verifyH p e.new with
 | false =>
  rw [hv2] at k2
  refine run ?_
  refine cp kf ?_
  refine runf (an @q1 (an @c2 (an @c0 (an @hg @hszp)))) ?_
  refine cp k1 ?_
  refine run ?_
  refine cp k2 ?_
  refine run ?_
  exact er0
 | true =>
 rw [hv2] at k2
 by_cases hr : e.root = e.old.root
 ·have qr : (e.root == e.old.root) = true := by rw [hr]; exact beq_self_eq_true _
  rw [decide_eq_true hr]
  refine run ?_
  refine cp kf ?_
  refine runf (an @q1 (an @c2 (an @c0 (an @hg @hszp)))) ?_
  refine cp k1 ?_
  refine run ?_
  refine cp k2 ?_
  refine runf @qr ?_
  exact er0
 ·have qr := nilI _ _ hr
  rw [decide_eq_false hr]
  refine run ?_
  refine cp kf ?_
  refine runf (an @q1 (an @c2 (an @c0 (an @hg @hszp)))) ?_
  refine cp k1 ?_
  refine run ?_
  refine cp k2 ?_
  refine runf @qr ?_
  refine cp k3 ?_
  refine run ?_
  exact er0
theorem linkE_len (l : List By) (m : Nat) (hm : m ≤ l.length) : (linkE l m).length ≤ l.length := by
 unfold linkE
 split
 ·exact Nat.zero_le _
 ·exact link_len l.length l m true (by omega) hm (Nat.le_refl _)
theorem fkfind_c (ps : List Int) (m : Mirror) (h : Head) (hp : InL ps) (hm : EOk m.entries) (hh : m.heads.length ≤ 1000000) : AC Tryz.prog 42 [intsV ps, mirV m, headV h] [] (.tup [evV (findE ps m.entries m.heads h).1, .bo (findE ps m.entries m.heads h).2]) [] := by
 refine AC.enter2 [35, 36] [] Tryz.func42 rfl (by decide) (by decide) (Nat.le_of_ble_eq_true rfl) (by kernel_rfl) ?_; simp only [eraseC, eraseO, List.map_cons, List.map_nil, List.map_toArray, List.getElem?_toArray, List.getElem?_cons_zero, List.getElem?_cons_succ, Option.bind_some, Option.bind_none, List.append_eq, List.cons_append, List.nil_append]
 have hszh := heads_sz m.heads
 cases hgl : m.heads.getLast? with
 | none =>
  have h0 : m.heads = [] := List.getLast?_eq_none_iff.1 hgl
  have hl0 : m.heads.length = 0 := by rw [h0]; rfl
  have hv : findE ps m.entries m.heads h = (evid0, false) := by unfold findE; rw [hgl]
  rw [hv]
  refine runf @hl0 ?_
  exact er0w
 | some x =>
  have hpos : 0 < m.heads.length := by
   cases hh : m.heads with
   | nil => rw [hh] at hgl; cases hgl
   | cons a b => simp
  obtain ⟨n, hn⟩ : ∃ n, m.heads.length = n + 1 := ⟨m.heads.length - 1, by omega⟩
  have hg : m.heads[n]? = some x := by rw [List.getLast?_eq_getElem?, hn] at hgl; simpa using hgl
  have hc : (m.heads.length : Int) - 1 = (n : Int) := by omega
  have hl0 : ((m.heads.length : Int) == 0) = false := beqF (by omega)
  have k1 := fkmake_c m.entries x h hm
  have hlk : (mkEv m.entries x h).1.link.length ≤ 1000000 := by
   unfold mkEv
   split
   ·exact Nat.zero_le _
   ·split
    ·exact Nat.zero_le _
    ·rename_i c1 c2
     have := hm.len
     have hlen : ((m.entries.take x.size.toNat).map leafE).length ≤ 1000000 := by rw [List.length_map, List.length_take]; omega
     refine Nat.le_trans (linkE_len _ _ ?_) hlen
     rw [List.length_map, List.length_take]
     omega
  have k2 := fkcheck_c ps (mkEv m.entries x h).1 hp hlk
  have hv : findE ps m.entries m.heads h = if (mkEv m.entries x h).2 = true ∧ checkE ps (mkEv m.entries x h).1 = true then ((mkEv m.entries x h).1, true) else (evid0, false) := by unfold findE; rw [hgl]
  generalize mkEv m.entries x h = r at *
  obtain ⟨ev, ok⟩ := r
  simp only at k1 k2 hv
  cases ok with
  | false =>
   rw [if_neg (fun h => by cases h.1)] at hv
   rw [hv]
   refine runf (an @hl0 (an @hc (an @hg @hszh))) ?_
   refine cp k1 ?_
   refine run ?_
   exact er0w
  | true =>
   cases hck : checkE ps ev with
   | false =>
    rw [hck] at k2
    rw [if_neg (fun h => by rw [hck] at h; cases h.2)] at hv
    rw [hv]
    refine runf (an @hl0 (an @hc (an @hg @hszh))) ?_
    refine cp k1 ?_
    refine run ?_
    refine cp k2 ?_
    refine run ?_
    exact er0w
   | true =>
    rw [hck] at k2
    rw [if_pos ⟨rfl, hck⟩] at hv
    rw [hv]
    refine runf (an @hl0 (an @hc (an @hg @hszh))) ?_
    refine cp k1 ?_
    refine run ?_
    refine cp k2 ?_
    refine run ?_
    exact er0w
end Go.Proofs.YthbpbkbjdfcnjaaGreatDoor.Pe
