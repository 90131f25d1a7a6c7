/- Several texts in one. -/
import Derived.Test.YtaphpbiaoofmkaaGreatDoorItW
import Derived.Test.YtaphpbiaoofmkaaGreatDoorAcF
set_option linter.unusedSectionVars false
set_option linter.unusedVariables false
set_option linter.unusedSimpArgs false
namespace Go.Proofs.YtaphpbiaoofmkaaGreatDoor.Pe
open Go Go.RowKit Co Sg Ac It
set_option maxRecDepth 100000
set_option maxHeartbeats 4000000
theorem item0_wrong : It.right item0 = false := by decide +kernel
theorem read_nil' : It.read [] = (item0, false) := Prod.ext (It.read_wrong It.read_nil) It.read_nil
theorem readEntry_nil : readEntry [] = (entry0, false) := by
 have h : (It.read ((rNum ⟨[], false⟩).2.take (rNum ⟨[], false⟩).2.rest.length).1).2 = false := It.read_nil
 unfold readEntry
 exact if_neg (fun e => by rw [h] at e; cases e.1)
theorem izI0 : Iz item0 := ⟨szI0, by decide, by decide, dz0⟩
theorem entry0_nil : entryB entry0 = [] := by unfold entryB; rw [if_neg]; rw [show entry0.item = item0 from rfl, item0_wrong]; simp
theorem small13_c : AC Tryz.prog 28 [] [] (.bo true) [] := by
 refine AC.enter [30, 32, 36, 38, 40, 57, 42, 59, 45, 43] [] Tryz.func28 rfl (by decide) (by decide) (Nat.le_of_ble_eq_true rfl) (by kernel_rfl) ?_; simp only [eraseC, eraseO, List.map_cons, List.map_nil, List.map_toArray, List.getElem?_toArray, List.getElem?_cons_zero, List.getElem?_cons_succ, Option.bind_some, Option.bind_none, List.append_eq, List.cons_append, List.nil_append]
 have k1 := readI_c [] (by decide)
 rw [read_nil'] at k1
 have k2 := readEntry_c [] (by decide)
 rw [readEntry_nil] at k2
 have k3 := rightI_c item0 izI0
 rw [item0_wrong] at k3
 have k4 := bytesI_c item0 izI0
 have e4 := It.bytes_wrong item0_wrong
 have k5 := digest_c item0 izI0
 have e5 : It.digest item0 = [] := by unfold It.digest; rw [e4]; rfl
 rw [e5] at k5
 rw [e4] at k4
 have k6 : AC _ _ _ [] (itemV item0) [] := ofAct_c act0 (by decide) (by decide)
 have k7 := sameI_c item0 item0 lz0 lz0
 rw [decide_eq_true (p := item0 = item0) rfl] at k7
 have k8 := ofClaim_c claim0
 have k9 := sameI_c item0 (ofClaim claim0) lz0 ⟨by decide, by decide, by decide⟩
 rw [decide_eq_false (p := item0 = ofClaim claim0) (by decide)] at k9
 have k10 := entryBytes_c entry0 izI0
 rw [entry0_nil] at k10
 have k11 := signed_c [] item0 izI0 (by simp)
 have e11 : It.signed [] item0 = false := by unfold It.signed; rw [item0_wrong]; rfl
 rw [e11] at k11
 clear e4 e5 e11
 refine run ?_
 refine cp k1 ?_
 refine run ?_
 refine cp k2 ?_
 refine run ?_
 refine cp k3 ?_
 refine run ?_
 refine cp k4 ?_
 refine run ?_
 refine cp k5 ?_
 refine run ?_
 refine cp k6 ?_
 refine run ?_
 refine cp k7 ?_
 refine run ?_
 refine cp k8 ?_
 refine run ?_
 refine cp k9 ?_
 refine run ?_
 refine cp k10 ?_
 refine run ?_
 refine cp k11 ?_
 refine run ?_
 exact er0
theorem fstep {α β : Type} (g : α → List β) {l : List α} {k : Nat} (hk : k < l.length) : ((l.take (k + 1)).map g).flatten = ((l.take k).map g).flatten ++ g l[k] := by
 rw [List.take_succ_eq_append_getElem hk, List.map_append, List.flatten_append]
 congr 1
 exact List.append_nil _
theorem fsize {α β : Type} (g : α → List β) (n : Nat) (hg : ∀ x, (g x).length = n) (l : List α) : (l.map g).flatten.length = l.length * n := by
 induction l with
 | nil => simp
 | cons a l ih => rw [List.map_cons, List.flatten_cons, List.length_append, hg, ih, List.length_cons, Nat.succ_mul]; omega
def three (w : Wrap) : List By := [w.box.nonce, w.box.data, w.box.tag]
def base16 (i : It.Item) : List By := [i.act.author, i.act.prev, i.act.object, i.act.target, i.act.group, i.act.text, i.act.body.nonce, i.act.body.data, i.act.body.tag, i.claim.actor, i.claim.prev, i.ballot.actor, i.ballot.claim, i.decision.actor, i.decision.object, i.decision.text]
def strs (i : It.Item) : List By := base16 i ++ (i.act.to ++ i.decision.to) ++ (i.act.wraps.map three).flatten
def fewI (i : It.Item) : Bool := decide (i.act.to.length ≤ 70) && decide (i.act.wraps.length ≤ 70) && decide (i.decision.to.length ≤ 70) && (strs i).all (fun s => decide (s.length ≤ 5000))
abbrev decL (d : It.Decision) : List AV := [.it .i64 d.server, .it .i64 d.number, .it .i64 d.kind, .st d.actor, .st d.object, .st d.text, sls d.to, .it .i64 d.n, .it .i64 d.frm, .it .i64 d.til, .it .i64 d.sig.e, .it .i64 d.sig.s]
theorem few13_c (i : It.Item) : AC Tryz.prog 29 [itemV i] [] (.bo (fewI i)) [] := by
 refine AC.enter2 [] [] Tryz.func29 rfl (by decide) (by decide) (Nat.le_of_ble_eq_true rfl) (by kernel_rfl) ?_; simp only [eraseC, eraseO, List.map_cons, List.map_nil, List.map_toArray, List.getElem?_toArray, List.getElem?_cons_zero, List.getElem?_cons_succ, Option.bind_some, Option.bind_none, List.append_eq, List.cons_append, List.nil_append]
 unfold fewI
 by_cases t1 : i.act.to.length ≤ 70
 rotate_left
 ·rw [decide_eq_false t1]
  refine run ?_
  exact er0
 by_cases t2 : i.act.wraps.length ≤ 70
 rotate_left
 ·rw [decide_eq_true t1, decide_eq_false t2]
  refine run ?_
  exact er0
 by_cases t3 : i.decision.to.length ≤ 70
 rotate_left
 ·rw [decide_eq_true t1, decide_eq_true t2, decide_eq_false t3]
  refine run ?_
  exact er0
 rw [decide_eq_true t1, decide_eq_true t2, decide_eq_true t3]
 unfold strs
 have hmap : i.act.to.map AV.st ++ i.decision.to.map AV.st = (i.act.to ++ i.decision.to).map AV.st := List.map_append.symm
 have hlen : (i.act.to ++ i.decision.to).length = i.act.to.length + i.decision.to.length := List.length_append
 generalize i.act.to ++ i.decision.to = td at *
 have hb16 : (base16 i).length = 16 := rfl
 have hsz : allSz 5 (i.act.wraps.map wrapV) = true := allSz_map 5 wrapV (fun _ => rfl) _
 refine runf @hmap ?_
 refine loop_mk (fun m e S => e 1 = .ptr 0 0 ∧ e 3 = .ptr 1 0 ∧ ∃ (k n : Nat) (cur : List By), e 6 = .it .i64 (k : Int) ∧ e 5 = .sl (.own 3) (cur.map .st) ∧ S = [.cells (itemL i), .cells (actL i.act), .cells (decL i.decision), .buf n 9 1] ∧ n = cur.length ∧ cur = base16 i ++ td ++ ((i.act.wraps.take k).map three).flatten ∧ k ≤ i.act.wraps.length ∧ m = i.act.wraps.length - k) i.act.wraps.length
  ⟨(by first | rfl | (simp only [↓upd_apply, ↓put_some, ↓reduceIte, Nat.reduceEqDiff, ↓argEnv_zero, ↓argEnv_succ, *]; done)), (by first | rfl | (simp only [↓upd_apply, ↓put_some, ↓reduceIte, Nat.reduceEqDiff, ↓argEnv_zero, ↓argEnv_succ, *]; done)), 0, _, base16 i ++ td, (by first | rfl | (simp only [↓upd_apply, ↓put_some, ↓reduceIte, Nat.reduceEqDiff, ↓argEnv_zero, ↓argEnv_succ, *]; done)), (by first | rfl | (simp only [↓upd_apply, ↓put_some, ↓reduceIte, Nat.reduceEqDiff, ↓argEnv_zero, ↓argEnv_succ, *]; done)), rfl, by rw [List.length_append, hb16, hlen]; omega, by simp, by omega, rfl⟩ ?_
 rintro m e S ⟨s1, s3, k, n, cur, s6, s5, rfl, hn, hcur, hk, rfl⟩
 have hcl : cur.length ≤ 366 := by
  have := fsize three 3 (fun _ => rfl) (i.act.wraps.take k)
  rw [List.length_take] at this
  rw [hcur, List.length_append, List.length_append, this]
  omega
 by_cases hlt : k < i.act.wraps.length
 focus
  have hg : i.act.wraps[k]? = some i.act.wraps[k] := List.getElem?_eq_getElem hlt
  have hst := fstep three hlt
  generalize i.act.wraps[k] = x at *
  have hm3 : cur.map AV.st ++ [AV.st x.box.nonce, AV.st x.box.data, AV.st x.box.tag] = (cur ++ three x).map AV.st := by rw [List.map_append]; rfl
  refine runf (an @s1 (an @s3 (an @s6 (an @s5 (an @hg (an @hsz (an @hn @hm3))))))) ?_
  exact round_mk (i.act.wraps.length - (k + 1)) (by omega) ⟨(by first | rfl | (simp only [↓upd_apply, ↓put_some, ↓reduceIte, Nat.reduceEqDiff, ↓argEnv_zero, ↓argEnv_succ, *]; done)), (by first | rfl | (simp only [↓upd_apply, ↓put_some, ↓reduceIte, Nat.reduceEqDiff, ↓argEnv_zero, ↓argEnv_succ, *]; done)), k + 1, _, cur ++ three x, (by first | rfl | (simp only [↓upd_apply, ↓put_some, ↓reduceIte, Nat.reduceEqDiff, ↓argEnv_zero, ↓argEnv_succ, *]; done)), (by first | rfl | (simp only [↓upd_apply, ↓put_some, ↓reduceIte, Nat.reduceEqDiff, ↓argEnv_zero, ↓argEnv_succ, *]; done)), rfl, by rw [List.length_append]; rfl, by rw [hst, hcur, List.append_assoc], by omega, rfl⟩
 obtain rfl : k = i.act.wraps.length := by omega
 rw [List.take_length] at hcur
 rw [← hcur]
 clear hcur
 have hszc : allSz 1 (cur.map AV.st) = true := allSz_map 1 _ (fun _ => rfl) _
 refine runf (an @s1 (an @s3 (an @s6 @s5))) ?_
 refine loop_mk (fun m e S => ∃ (k : Nat), e 7 = .it .i64 (k : Int) ∧ e 5 = .sl (.own 3) (cur.map .st) ∧ k ≤ cur.length ∧ (∀ s ∈ cur.take k, s.length ≤ 5000) ∧ m = cur.length - k) cur.length ⟨0, (by first | rfl | (simp only [↓upd_apply, ↓put_some, ↓reduceIte, Nat.reduceEqDiff, ↓argEnv_zero, ↓argEnv_succ, *]; done)), (by first | rfl | (simp only [↓upd_apply, ↓put_some, ↓reduceIte, Nat.reduceEqDiff, ↓argEnv_zero, ↓argEnv_succ, *]; done)), by omega, by simp, rfl⟩ ?_
 clear s1 s3 s6 s5
 rintro m e S ⟨k, s7, s5, hk, hall, rfl⟩
 by_cases hlt : k < cur.length
 ·have hg : cur[k]? = some cur[k] := List.getElem?_eq_getElem hlt
  have hmem := List.getElem_mem hlt
  have htk : cur.take (k + 1) = cur.take k ++ [cur[k]] := List.take_succ_eq_append_getElem hlt
  generalize cur[k] = x at *
  by_cases hx : x.length ≤ 5000
  ·have hx' : ¬ (5000 : Int) < x.length := by omega
   refine runf (an @s7 (an @s5 (an @hg (an @hszc @hx')))) ?_
   exact round_mk (cur.length - (k + 1)) (by omega) ⟨k + 1, (by first | rfl | (simp only [↓upd_apply, ↓put_some, ↓reduceIte, Nat.reduceEqDiff, ↓argEnv_zero, ↓argEnv_succ, *]; done)), (by first | rfl | (simp only [↓upd_apply, ↓put_some, ↓reduceIte, Nat.reduceEqDiff, ↓argEnv_zero, ↓argEnv_succ, *]; done)), by omega, by rw [htk]; intro s hs; rcases List.mem_append.1 hs with h | h; exact hall s h; rw [List.mem_singleton.1 h]; exact hx, rfl⟩
  ·have hx' : (5000 : Int) < x.length := by omega
   have hf : cur.all (fun s => decide (s.length ≤ 5000)) = false := by
    rw [Bool.eq_false_iff]
    intro h
    have := (List.all_eq_true.1 h) x hmem
    exact hx (of_decide_eq_true this)
   rw [hf]
   refine runf (an @s7 (an @s5 (an @hg (an @hszc @hx')))) ?_
   exact er0
 ·obtain rfl : k = cur.length := by omega
  rw [List.take_length] at hall
  have hf : cur.all (fun s => decide (s.length ≤ 5000)) = true := List.all_eq_true.2 fun s hs => decide_eq_true (hall s hs)
  rw [hf]
  refine runf (an @s7 @s5) ?_
  exact er0
structure InI (i : It.Item) : Prop where
 act : In i.act
 iz : Iz i
 ci : ∀ x ∈ [i.claim.base, i.claim.gen, i.claim.home, i.claim.pub, i.claim.time], -9223372036854775808 ≤ x ∧ x ≤ 9223372036854775807
 bi : ∀ x ∈ [i.ballot.server, i.ballot.gen, i.ballot.time], -9223372036854775808 ≤ x ∧ x ≤ 9223372036854775807
 di : ∀ x ∈ [i.decision.server, i.decision.number, i.decision.kind, i.decision.n, i.decision.frm, i.decision.til], -9223372036854775808 ≤ x ∧ x ≤ 9223372036854775807
 si : ∀ x ∈ [i.claim.sig.e, i.claim.sig.s, i.ballot.sig.e, i.ballot.sig.s, i.decision.sig.e, i.decision.sig.s], -9223372036854775808 ≤ x ∧ x ≤ 9223372036854775807
theorem shp_sigI {n us} (h : shp Tryz.prog 140737488351232 (n + 2) 27 us) : ∃ s : Sig, us = [.it .i64 s.e, .it .i64 s.s] ∧ (-9223372036854775808 ≤ s.e ∧ s.e ≤ 9223372036854775807) ∧ (-9223372036854775808 ≤ s.s ∧ s.s ≤ 9223372036854775807) := by
 have h := shp_struct Tryz.underlying27 h
 obtain ⟨a0, b0, rfl, h0, h⟩ := h
 obtain ⟨a1, b1, rfl, h1, rfl⟩ := h
 obtain ⟨i0, rfl, w0⟩ := shp_i64 Tryz.underlying3 h0
 obtain ⟨i1, rfl, w1⟩ := shp_i64 Tryz.underlying3 h1
 exact ⟨⟨i0, i1⟩, rfl, w0, w1⟩
theorem shp_claimI {n us} (h : shp Tryz.prog 140737488351232 (n + 3) 43 us) : ∃ c : It.Claim, us = (claimV c).cells ∧ c.actor.length ≤ 140737488355328 ∧ (∀ x ∈ [c.base, c.gen, c.home, c.pub, c.time], -9223372036854775808 ≤ x ∧ x ≤ 9223372036854775807) ∧ (∀ x ∈ [c.sig.e, c.sig.s], -9223372036854775808 ≤ x ∧ x ≤ 9223372036854775807) := by
 have h := shp_struct Tryz.underlying43 h
 obtain ⟨a0, b0, rfl, h0, h⟩ := h
 obtain ⟨a1, b1, rfl, h1, h⟩ := h
 obtain ⟨a2, b2, rfl, h2, h⟩ := h
 obtain ⟨a3, b3, rfl, h3, h⟩ := h
 obtain ⟨a4, b4, rfl, h4, h⟩ := h
 obtain ⟨a5, b5, rfl, h5, h⟩ := h
 obtain ⟨a6, b6, rfl, h6, h⟩ := h
 obtain ⟨a7, b7, rfl, h7, rfl⟩ := h
 obtain ⟨actor, rfl, w0⟩ := shp_str Tryz.underlying9 h0
 obtain ⟨base, rfl, w1⟩ := shp_i64 Tryz.underlying3 h1
 obtain ⟨prev, rfl, w2⟩ := shp_str Tryz.underlying9 h2
 obtain ⟨gen, rfl, w3⟩ := shp_i64 Tryz.underlying3 h3
 obtain ⟨home, rfl, w4⟩ := shp_i64 Tryz.underlying3 h4
 obtain ⟨pub, rfl, w5⟩ := shp_i64 Tryz.underlying3 h5
 obtain ⟨time, rfl, w6⟩ := shp_i64 Tryz.underlying3 h6
 obtain ⟨sg, rfl, w7, w7q⟩ := shp_sigI h7
 refine ⟨⟨actor, base, prev, gen, home, pub, time, sg⟩, rfl, Nat.le_trans w0 (by decide), by simp only [List.forall_mem_cons, List.not_mem_nil, false_implies, implies_true, and_true]; omega, by simp only [List.forall_mem_cons, List.not_mem_nil, false_implies, implies_true, and_true]; omega⟩
theorem shp_ballotI {n us} (h : shp Tryz.prog 140737488351232 (n + 3) 45 us) : ∃ c : It.Ballot, us = (ballotV c).cells ∧ c.actor.length ≤ 140737488355328 ∧ (∀ x ∈ [c.server, c.gen, c.time], -9223372036854775808 ≤ x ∧ x ≤ 9223372036854775807) ∧ (∀ x ∈ [c.sig.e, c.sig.s], -9223372036854775808 ≤ x ∧ x ≤ 9223372036854775807) := by
 have h := shp_struct Tryz.underlying45 h
 obtain ⟨a0, b0, rfl, h0, h⟩ := h
 obtain ⟨a1, b1, rfl, h1, h⟩ := h
 obtain ⟨a2, b2, rfl, h2, h⟩ := h
 obtain ⟨a3, b3, rfl, h3, h⟩ := h
 obtain ⟨a4, b4, rfl, h4, h⟩ := h
 obtain ⟨a5, b5, rfl, h5, rfl⟩ := h
 obtain ⟨server, rfl, w0⟩ := shp_i64 Tryz.underlying3 h0
 obtain ⟨actor, rfl, w1⟩ := shp_str Tryz.underlying9 h1
 obtain ⟨gen, rfl, w2⟩ := shp_i64 Tryz.underlying3 h2
 obtain ⟨claim, rfl, w3⟩ := shp_str Tryz.underlying9 h3
 obtain ⟨time, rfl, w4⟩ := shp_i64 Tryz.underlying3 h4
 obtain ⟨sg, rfl, w5, w5q⟩ := shp_sigI h5
 refine ⟨⟨server, actor, gen, claim, time, sg⟩, rfl, Nat.le_trans w1 (by decide), by simp only [List.forall_mem_cons, List.not_mem_nil, false_implies, implies_true, and_true]; omega, by simp only [List.forall_mem_cons, List.not_mem_nil, false_implies, implies_true, and_true]; omega⟩
theorem shp_decisionI {n us} (h : shp Tryz.prog 140737488351232 (n + 3) 47 us) : ∃ c : It.Decision, us = (decisionV c).cells ∧ Dz c ∧ (∀ x ∈ [c.server, c.number, c.kind, c.n, c.frm, c.til], -9223372036854775808 ≤ x ∧ x ≤ 9223372036854775807) ∧ (∀ x ∈ [c.sig.e, c.sig.s], -9223372036854775808 ≤ x ∧ x ≤ 9223372036854775807) := by
 have h := shp_struct Tryz.underlying47 h
 obtain ⟨a0, b0, rfl, h0, h⟩ := h
 obtain ⟨a1, b1, rfl, h1, h⟩ := h
 obtain ⟨a2, b2, rfl, h2, h⟩ := h
 obtain ⟨a3, b3, rfl, h3, h⟩ := h
 obtain ⟨a4, b4, rfl, h4, h⟩ := h
 obtain ⟨a5, b5, rfl, h5, h⟩ := h
 obtain ⟨a6, b6, rfl, h6, h⟩ := h
 obtain ⟨a7, b7, rfl, h7, h⟩ := h
 obtain ⟨a8, b8, rfl, h8, h⟩ := h
 obtain ⟨a9, b9, rfl, h9, h⟩ := h
 obtain ⟨a10, b10, rfl, h10, rfl⟩ := h
 obtain ⟨server, rfl, w0⟩ := shp_i64 Tryz.underlying3 h0
 obtain ⟨number, rfl, w1⟩ := shp_i64 Tryz.underlying3 h1
 obtain ⟨kind, rfl, w2⟩ := shp_i64 Tryz.underlying3 h2
 obtain ⟨actor, rfl, w3⟩ := shp_str Tryz.underlying9 h3
 obtain ⟨object, rfl, w4⟩ := shp_str Tryz.underlying9 h4
 obtain ⟨txt, rfl, w5⟩ := shp_str Tryz.underlying9 h5
 obtain ⟨to, rfl, w6, w6q⟩ := shp_strs h6
 obtain ⟨n1, rfl, w7⟩ := shp_i64 Tryz.underlying3 h7
 obtain ⟨frm, rfl, w8⟩ := shp_i64 Tryz.underlying3 h8
 obtain ⟨til, rfl, w9⟩ := shp_i64 Tryz.underlying3 h9
 obtain ⟨sg, rfl, w10, w10q⟩ := shp_sigI h10
 refine ⟨⟨server, number, kind, actor, object, txt, to, n1, frm, til, sg⟩, rfl, ⟨Nat.le_trans w3 (by decide), Nat.le_trans w6 (by decide), fun s hs => Nat.le_trans (w6q s hs) (by decide)⟩, by simp only [List.forall_mem_cons, List.not_mem_nil, false_implies, implies_true, and_true]; omega, by simp only [List.forall_mem_cons, List.not_mem_nil, false_implies, implies_true, and_true]; omega⟩
theorem shp_itemI {n us} (h : shp Tryz.prog 140737488351232 (n + 6) 49 us) : ∃ i : It.Item, us = (itemV i).cells ∧ InI i := by
 have h := shp_struct Tryz.underlying49 h
 obtain ⟨a0, b0, rfl, h0, h⟩ := h
 obtain ⟨a1, b1, rfl, h1, h⟩ := h
 obtain ⟨a2, b2, rfl, h2, h⟩ := h
 obtain ⟨a3, b3, rfl, h3, h⟩ := h
 obtain ⟨a4, b4, rfl, h4, rfl⟩ := h
 obtain ⟨kind, rfl, w0⟩ := shp_i64 Tryz.underlying3 h0
 obtain ⟨a, rfl, w1⟩ := shp_actA h1
 obtain ⟨c, rfl, w2, w2c, w2s⟩ := shp_claimI h2
 obtain ⟨b, rfl, w3, w3c, w3s⟩ := shp_ballotI h3
 obtain ⟨d, rfl, w4, w4c, w4s⟩ := shp_decisionI h4
 refine ⟨⟨kind, a, c, b, d⟩, rfl, w1, ⟨w1.sz, w2, w3, w4⟩, w2c, w3c, w4c, ?_⟩
 simp only [List.forall_mem_cons, List.not_mem_nil, false_implies, implies_true, and_true] at w2s w3s w4s ⊢
 exact ⟨w2s.1, w2s.2, w3s.1, w3s.2, w4s.1, w4s.2⟩
end Go.Proofs.YtaphpbiaoofmkaaGreatDoor.Pe
namespace Go.Proofs.YtaphpbiaoofmkaaGreatDoor.Pe
open Go Go.RowKit Co Sg Ac It
set_option maxRecDepth 100000
set_option maxHeartbeats 4000000
def zItem : Value := .agg #[.int .i64 0, .string ⟨#[]⟩, .int .i64 0, .string ⟨#[]⟩, .int .i64 0, .int .i64 0, .string ⟨#[]⟩, .string ⟨#[]⟩, .int .i64 0, .string ⟨#[]⟩, .slice none 0 0, .string ⟨#[]⟩, .string ⟨#[]⟩, .string ⟨#[]⟩, .string ⟨#[]⟩, .int .i64 0, .slice none 0 0, .int .i64 0, .int .i64 0, .int .i64 0, .int .i64 0, .string ⟨#[]⟩, .int .i64 0, .string ⟨#[]⟩, .int .i64 0, .int .i64 0, .int .i64 0, .int .i64 0, .int .i64 0, .int .i64 0, .int .i64 0, .string ⟨#[]⟩, .int .i64 0, .string ⟨#[]⟩, .int .i64 0, .int .i64 0, .int .i64 0, .int .i64 0, .int .i64 0, .int .i64 0, .string ⟨#[]⟩, .string ⟨#[]⟩, .string ⟨#[]⟩, .slice none 0 0, .int .i64 0, .int .i64 0, .int .i64 0, .int .i64 0, .int .i64 0]
theorem textT {s : By} {n : Nat} (h : s.length ≤ n) (hn : n ≤ 1000000) : (text s).length ≤ n + 9 := by
 have := num_len9 (n := s.length) (by omega)
 unfold text
 rw [List.length_append]
 omega
theorem coreR_len {i : It.Item} (h : It.right i = true) (h0 : i.kind ≠ 0) : (coreOf i).length ≤ 20000 := by
 unfold coreOf
 rcases right_kind h with e | e | e | e
 ·exact absurd e h0
 ·rw [if_pos e]
  have s := claim_sm ((right_claim e).1 h).1
  have h1 := s.actor; have h2 := s.base; have h3 := s.prev; have h4 := s.gen; have h5 := s.home; have h6 := s.pub; have h7 := s.time
  have l1 := textT (n := 16) (s := i.claim.actor) (by omega) (by omega)
  have l2 := textT (n := 32) (s := i.claim.prev) (by omega) (by omega)
  have n1 := numI_le i.claim.base (by omega)
  have n2 := numI_le i.claim.gen (by omega)
  have n3 := numI_le i.claim.home (by omega)
  have n4 := numI_le i.claim.pub (by omega)
  have n5 := numI_le i.claim.time (by omega)
  unfold claimB
  simp only [List.length_append]
  omega
 ·rw [if_neg (by omega), if_pos e]
  have s := ballot_sm ((right_ballot e).1 h).1
  have h1 := s.actor; have h2 := s.server; have h3 := s.claim; have h4 := s.gen; have h5 := s.time
  have l1 := textT (n := 16) (s := i.ballot.actor) (by omega) (by omega)
  have l2 := textT (n := 32) (s := i.ballot.claim) (by omega) (by omega)
  have n1 := numI_le i.ballot.server (by omega)
  have n2 := numI_le i.ballot.gen (by omega)
  have n3 := numI_le i.ballot.time (by omega)
  unfold ballotB
  simp only [List.length_append]
  omega
 ·rw [if_neg (by omega), if_neg (by omega)]
  have s := decision_sm ((right_decision e).1 h).1
  have h1 := s.actor; have h2 := s.server; have h3 := s.number; have h4 := s.kind; have h5 := s.object; have h6 := s.text; have h7 := s.to; have h8 := s.n; have h9 := s.frm; have h10 := s.til
  have l1 := textT (n := 16) (s := i.decision.actor) (by omega) (by omega)
  have l2 := textT (n := 32) (s := i.decision.object) (by omega) (by omega)
  have l3 := textT (n := 4096) (s := i.decision.text) (by omega) (by omega)
  have l4 := list_len16 ⟨h7.1, fun s hs => Nat.le_of_eq (h7.2 s hs)⟩
  have n1 := numI_le i.decision.server (by omega)
  have n2 := numI_le i.decision.number (by omega)
  have n3 := numI_le i.decision.kind (by omega)
  have n4 := numI_le i.decision.n (by omega)
  have n5 := numI_le i.decision.frm (by omega)
  have n6 := numI_le i.decision.til (by omega)
  unfold decisionB
  simp only [List.length_append]
  omega
theorem bytesIt_len6 (i : It.Item) : (It.bytes i).length ≤ 200000 := by
 cases hr : It.right i with
 | false => rw [It.bytes_wrong hr]; decide
 | true =>
  have hk := right_kind hr
  have n0 := numI_le i.kind (by omega)
  rw [bytes_right hr]
  unfold bodyB
  rw [List.length_append]
  by_cases h0 : i.kind = 0
  ·rw [if_pos h0]
   have := bytes_len (a := i.act)
   omega
  ·rw [if_neg h0]
   have hs := sig_right hr h0
   simp only [sigR, Bool.and_eq_true, wi_iff] at hs
   have n1 := numI_le (sigOf i).e (by omega)
   have n2 := numI_le (sigOf i).s (by omega)
   have hc := coreR_len hr h0
   simp only [List.length_append]
   omega
theorem read_x : (It.read [120]).2 = false := by decide +kernel
theorem digest_wrong {i : It.Item} (h : It.right i = false) : It.digest i = [] := by unfold It.digest; rw [It.bytes_wrong h]; rfl
theorem sha_ne (l : By) : Sm.sha l ≠ [] := by
 intro e
 have h : (Sm.sha l).length = 32 := rfl
 rw [e] at h
 cases h
theorem digest_ne {i : It.Item} (h : It.right i = true) : It.digest i ≠ [] := by
 unfold It.digest
 rw [if_neg (It.bytes_ne h)]
 exact sha_ne _
end Go.Proofs.YtaphpbiaoofmkaaGreatDoor.Pe
