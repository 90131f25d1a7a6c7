/- The walk of package slog on plain values: leaves, roots, heads. -/
import Derived.Test.YthbpbkbjdfcnjaaGreatDoorItV
import Derived.Test.YthbpbkbjdfcnjaaGreatDoorSlV
import Derived.Test.YthbpbkbjdfcnjaaGreatDoorMkW
set_option linter.unusedSectionVars false
set_option linter.unusedVariables false
set_option linter.unusedSimpArgs false
namespace Go.Proofs.YthbpbkbjdfcnjaaGreatDoor.Pe
open Go Go.RowKit Co Sg Ac It Sl
set_option maxRecDepth 100000
set_option maxHeartbeats 4000000
abbrev headV (h : Head) : AV := .agg [.it .i64 h.server, .it .i64 h.size, .st h.root, .it .i64 h.time, .it .i64 h.sig.e, .it .i64 h.sig.s]
abbrev entriesV (l : List It.Entry) : AV := .sl .ro (l.map entryV)
abbrev headsV (l : List Head) : AV := .sl .ro (l.map headV)
theorem entryB_len (e : It.Entry) : (entryB e).length ≤ 200009 := by
 unfold entryB
 split
 ·rename_i h
  rw [Bool.and_eq_true] at h
  have h1 := wi_iff.1 h.1
  have := numI_le e.time (by omega)
  have := bytesIt_len6 e.item
  rw [List.length_append]
  omega
 ·exact Nat.zero_le _
theorem entries_sz (l : List It.Entry) : allSz 50 (l.map entryV) = true := allSz_map 50 entryV (fun _ => rfl) _
theorem heads_sz (l : List Head) : allSz 6 (l.map headV) = true := allSz_map 6 headV (fun _ => rfl) _
theorem sleaf_c (e : It.Entry) (h : Iz e.item) : AC Tryz.prog 57 [entryV e] [] (.st (leafE e)) [] := by
 refine AC.enter [53, 107] [] Tryz.func57 rfl (by decide) (by decide) (Nat.le_of_ble_eq_true rfl) (by kernel_rfl) ?_; simp only [eraseC, eraseO, List.map_cons, List.map_nil, List.map_toArray, List.getElem?_toArray, List.getElem?_cons_zero, List.getElem?_cons_succ, Option.bind_some, Option.bind_none, List.append_eq, List.cons_append, List.nil_append]
 have hl := entryB_len e
 have k1 := entryBytes_c e h
 have k2 := leaf_c (entryB e) (by omega)
 refine run ?_
 refine cp k1 ?_
 refine run ?_
 refine cp k2 ?_
 refine run ?_
 exact er0
theorem sroot_c (l : List It.Entry) (hl : l.length ≤ 1000000) (hz : ∀ e ∈ l, Iz e.item) : AC Tryz.prog 23 [entriesV l] [] (.st (rootE l)) [] := by
 refine AC.enter [57, 58] [] Tryz.func23 rfl (by decide) (by decide) (Nat.le_of_ble_eq_true rfl) (by kernel_rfl) ?_; simp only [eraseC, eraseO, List.map_cons, List.map_nil, List.map_toArray, List.getElem?_toArray, List.getElem?_cons_zero, List.getElem?_cons_succ, Option.bind_some, Option.bind_none, List.append_eq, List.cons_append, List.nil_append]
 have hsz := entries_sz l
 refine run ?_
 refine loop_mk (fun m e S => e 9 = entriesV l ∧ e 10 = .it .i64 (l.length : Int) ∧ ∃ (k : Nat) (acc : List By) (T : Store), e 11 = .it .i64 (k : Int) ∧ e 3 = .sl (.own 0) (acc.map .st) ∧ S = .buf acc.length 9 1 :: T ∧ acc = (l.take k).map leafE ∧ k ≤ l.length ∧ m = l.length - k) l.length
  ⟨(by first | rfl | (simp only [↓upd_apply, ↓put_some, ↓reduceIte, Nat.reduceEqDiff, ↓argEnv_zero, ↓argEnv_succ, *]; done)), (by first | rfl | (simp only [↓upd_apply, ↓put_some, ↓reduceIte, Nat.reduceEqDiff, ↓argEnv_zero, ↓argEnv_succ, *]; done)), 0, [], [], (by first | rfl | (simp only [↓upd_apply, ↓put_some, ↓reduceIte, Nat.reduceEqDiff, ↓argEnv_zero, ↓argEnv_succ, *]; done)), (by first | rfl | (simp only [↓upd_apply, ↓put_some, ↓reduceIte, Nat.reduceEqDiff, ↓argEnv_zero, ↓argEnv_succ, *]; done)), rfl, by simp, by omega, rfl⟩ ?_
 rintro m e S ⟨s9, s10, k, acc, T, s11, s3, rfl, hacc, hk, rfl⟩
 have hT1 : ∀ y : SObj, (T ++ [y])[T.length]? = some y := fun y => by simp
 have hT2 : ∀ y z : SObj, (T ++ [y]).set T.length z = T ++ [z] := fun y z => by simp
 have hal : acc.length = k := by rw [hacc, List.length_map, List.length_take, Nat.min_eq_left hk]
 by_cases hlt : k < l.length
 ·have hg : l[k]? = some l[k] := List.getElem?_eq_getElem hlt
  have hzk := hz l[k] (List.getElem_mem hlt)
  have hst : acc ++ [leafE l[k]] = (l.take (k + 1)).map leafE := by rw [List.take_succ_eq_append_getElem hlt, List.map_append, ← hacc]; rfl
  generalize l[k] = x at *
  have kx := sleaf_c x hzk
  refine runf (an @s9 (an @s10 (an @s11 (an @s3 (an @hg (an @hsz (an @hT1 @hT2))))))) ?_
  refine cp kx ?_
  refine runf (an @s9 (an @s10 (an @s11 @s3))) ?_
  exact round_mk (l.length - (k + 1)) (by omega) ⟨(by first | rfl | (simp only [↓upd_apply, ↓put_some, ↓reduceIte, Nat.reduceEqDiff, ↓argEnv_zero, ↓argEnv_succ, *]; done)), (by first | rfl | (simp only [↓upd_apply, ↓put_some, ↓reduceIte, Nat.reduceEqDiff, ↓argEnv_zero, ↓argEnv_succ, *]; done)), k + 1, acc ++ [leafE x], _, (by first | rfl | (simp only [↓upd_apply, ↓put_some, ↓reduceIte, Nat.reduceEqDiff, ↓argEnv_zero, ↓argEnv_succ, *]; done)), by rw [List.map_append]; exact (by first | rfl | (simp only [↓upd_apply, ↓put_some, ↓reduceIte, Nat.reduceEqDiff, ↓argEnv_zero, ↓argEnv_succ, *]; done)), by rw [List.length_append]; rfl, hst, by omega, rfl⟩
 ·obtain rfl : k = l.length := by omega
  rw [List.take_length] at hacc
  have kr := root_c acc (by omega) (fun x hx => by rw [hacc] at hx; rw [leaves_dig l x hx]; decide)
  rw [show rootE l = Mk.root acc from by rw [hacc]; rfl]
  refine runf (an @s9 (an @s10 (an @s11 @s3))) ?_
  refine cp kr ?_
  refine runf @s3 ?_
  exact er0
theorem rightH_lin {h : Head} : rightH h = true ↔ (0 ≤ h.server ∧ h.server ≤ 19) ∧ (0 ≤ h.size ∧ h.size ≤ 1073741824) ∧ (0 ≤ h.time ∧ h.time ≤ 1099511627776) ∧ h.root.length = 32 ∧ (0 ≤ h.sig.e ∧ h.sig.e ≤ 2305843009213693949) ∧ (0 ≤ h.sig.s ∧ h.sig.s ≤ 2305843009213693949) := by
 rw [rightH_iff]
 simp only [sigR, Bool.and_eq_true, wi_iff]
theorem sright_c (h : Head) : AC Tryz.prog 60 [headV h] [] (.bo (rightH h)) [] := by
 refine AC.enter [] [] Tryz.func60 rfl (by decide) (by decide) (Nat.le_of_ble_eq_true rfl) (by kernel_rfl) ?_; simp only [eraseC, eraseO, List.map_cons, List.map_nil, List.map_toArray, List.getElem?_toArray, List.getElem?_cons_zero, List.getElem?_cons_succ, Option.bind_some, Option.bind_none, List.append_eq, List.cons_append, List.nil_append]
 have hf : ¬ ((0 ≤ h.server ∧ h.server ≤ 19) ∧ (0 ≤ h.size ∧ h.size ≤ 1073741824) ∧ (0 ≤ h.time ∧ h.time ≤ 1099511627776) ∧ h.root.length = 32 ∧ (0 ≤ h.sig.e ∧ h.sig.e ≤ 2305843009213693949) ∧ (0 ≤ h.sig.s ∧ h.sig.s ≤ 2305843009213693949)) → rightH h = false := fun hn => Bool.eq_false_iff.2 fun r => hn (rightH_lin.1 r)
 by_cases h1 : 0 ≤ h.server
 rotate_left
 ·rw [hf (by omega)]
  refine run ?_
  exact er0
 by_cases h2 : h.server < 20
 rotate_left
 ·rw [hf (by omega)]
  refine run ?_
  exact er0
 by_cases h3 : 0 ≤ h.size
 rotate_left
 ·rw [hf (by omega)]
  refine run ?_
  exact er0
 by_cases h4 : h.size ≤ 1073741824
 rotate_left
 ·rw [hf (by omega)]
  refine run ?_
  exact er0
 by_cases h5 : 0 ≤ h.time
 rotate_left
 ·rw [hf (by omega)]
  refine run ?_
  exact er0
 by_cases h6 : h.time ≤ 1099511627776
 rotate_left
 ·rw [hf (by omega)]
  refine run ?_
  exact er0
 by_cases h7 : h.root.length = 32
 rotate_left
 ·have h7' : ¬ (h.root.length : Int) = 32 := by omega
  rw [hf (by omega)]
  refine runf @h7' ?_
  exact er0
 have h7' : (h.root.length : Int) = 32 := by omega
 by_cases h8 : 0 ≤ h.sig.e
 rotate_left
 ·rw [hf (by omega)]
  refine runf @h7' ?_
  exact er0
 by_cases h9 : h.sig.e ≤ 2305843009213693949
 rotate_left
 ·rw [hf (by omega)]
  refine runf @h7' ?_
  exact er0
 by_cases h10 : 0 ≤ h.sig.s
 rotate_left
 ·rw [hf (by omega)]
  refine runf @h7' ?_
  exact er0
 by_cases h11 : h.sig.s ≤ 2305843009213693949
 rotate_left
 ·rw [hf (by omega)]
  refine runf @h7' ?_
  exact er0
 rw [rightH_lin.2 (by omega)]
 refine runf @h7' ?_
 exact er0
theorem text32 {s : By} (h : s.length ≤ 1000000) : (text s).length ≤ 1000009 := text_len h
theorem coreH_len {h : Head} (h1 : h.server < 9223372036854775808) (h2 : h.size < 9223372036854775808) (h3 : h.time < 9223372036854775808) (h4 : h.root.length ≤ 1000000) : (coreH h).length ≤ 1000100 := by
 have n1 := numI_le h.server h1
 have n2 := numI_le h.size h2
 have n3 := numI_le h.time h3
 have t1 := text_len h4
 have tw : (text wHead).length = 5 := rfl
 unfold coreH
 simp only [List.length_append]
 omega
theorem score_c (h : Head) (hr : rightH h = true) : AC Tryz.prog 62 [headV h] [] (.st (coreH h)) [] := by
 refine AC.enter [65, 103] [] Tryz.func62 rfl (by decide) (by decide) (Nat.le_of_ble_eq_true rfl) (by kernel_rfl) ?_; simp only [eraseC, eraseO, List.map_cons, List.map_nil, List.map_toArray, List.getElem?_toArray, List.getElem?_cons_zero, List.getElem?_cons_succ, Option.bind_some, Option.bind_none, List.append_eq, List.cons_append, List.nil_append]
 have hh := rightH_lin.1 hr
 have n1 := numI_le h.server (by omega)
 have n2 := numI_le h.size (by omega)
 have n3 := numI_le h.time (by omega)
 have t1 := text_len (s := h.root) (by omega)
 have tw : (text wHead).length = 5 := rfl
 unfold coreH
 refine run ?_
 refine cp (text_c wHead (by simp)) ?_
 refine run ?_
 refine cp (num_c h.server (by omega) (by omega)) ?_
 refine run ?_
 refine cp (num_c h.size (by omega) (by omega)) ?_
 refine run ?_
 refine cp (text_c h.root (by omega)) ?_
 refine run ?_
 refine cp (num_c h.time (by omega) (by omega)) ?_
 refine run ?_
 exact er0
theorem coreR_lenH {h : Head} (hr : rightH h = true) : (coreH h).length ≤ 1000100 := by
 have hh := rightH_lin.1 hr
 exact coreH_len (by omega) (by omega) (by omega) (by omega)
theorem sverify_c (p : Int) (h : Head) (hp : -9223372036854775808 ≤ p ∧ p ≤ 9223372036854775807) : AC Tryz.prog 24 [.it .i64 p, headV h] [] (.bo (verifyH p h)) [] := by
 refine AC.enter [60, 62, 61] [] Tryz.func24 rfl (by decide) (by decide) (Nat.le_of_ble_eq_true rfl) (by kernel_rfl) ?_; simp only [eraseC, eraseO, List.map_cons, List.map_nil, List.map_toArray, List.getElem?_toArray, List.getElem?_cons_zero, List.getElem?_cons_succ, Option.bind_some, Option.bind_none, List.append_eq, List.cons_append, List.nil_append]
 have kr := sright_c h
 unfold verifyH
 cases hr : rightH h with
 | false =>
  rw [hr] at kr
  refine run ?_
  refine cp kr ?_
  refine run ?_
  exact er0
 | true =>
  rw [hr] at kr
  have hh := rightH_lin.1 hr
  have hc := coreR_lenH hr
  have kc := score_c h hr
  have kv := verify_c p (coreH h) h.sig (by omega) hp (by omega)
  refine run ?_
  refine cp kr ?_
  refine run ?_
  refine cp kc ?_
  refine run ?_
  refine cp kv ?_
  refine run ?_
  exact er0
theorem shead_c (k : Key) (server : Int) (l : List It.Entry) (time : Int) (hk : -9223372036854775808 ≤ k.secret ∧ k.secret ≤ 9223372036854775807) (hl : l.length ≤ 1000000) (hz : ∀ e ∈ l, Iz e.item) :
  AC Tryz.prog 34 [keyV k, .it .i64 server, entriesV l, .it .i64 time] [] (headV (mkHead k server l time)) [] := by
 refine AC.enter [13, 23, 60, 62, 84] [] Tryz.func34 rfl (by decide) (by decide) (Nat.le_of_ble_eq_true rfl) (by kernel_rfl) ?_; simp only [eraseC, eraseO, List.map_cons, List.map_nil, List.map_toArray, List.getElem?_toArray, List.getElem?_cons_zero, List.getElem?_cons_succ, Option.bind_some, Option.bind_none, List.append_eq, List.cons_append, List.nil_append]
 have k1 := keyright_c k hk
 have k2 := sroot_c l hl hz
 unfold mkHead
 cases hr : k.right with
 | false =>
  rw [if_neg (by simp)]
  rw [hr] at k1
  refine run ?_
  refine cp k1 ?_
  refine run ?_
  exact er0
 | true =>
  rw [if_pos rfl]
  rw [hr] at k1
  have k3 := sright_c ⟨server, l.length, rootE l, time, sig0⟩
  cases hh : rightH ⟨server, l.length, rootE l, time, sig0⟩ with
  | false =>
   rw [hh] at k3
   simp only [hh, Bool.false_eq_true, if_false]
   refine run ?_
   refine cp k1 ?_
   refine run ?_
   refine cp k2 ?_
   refine run ?_
   refine cp k3 ?_
   refine run ?_
   exact er0
  | true =>
   rw [hh] at k3
   simp only [hh, if_true]
   have k4 := score_c ⟨server, l.length, rootE l, time, sig0⟩ hh
   have hc := coreR_lenH hh
   have k5 := sign_c k (coreH ⟨server, l.length, rootE l, time, sig0⟩) (by omega) hk
   generalize coreH ⟨server, l.length, rootE l, time, sig0⟩ = c at *
   generalize sign k c = sg at *
   refine run ?_
   refine cp k1 ?_
   refine run ?_
   refine cp k2 ?_
   refine run ?_
   refine cp k3 ?_
   refine run ?_
   refine cp k4 ?_
   refine run ?_
   refine cp k5 ?_
   refine run ?_
   exact er0
theorem times_bad {l : List It.Entry} {k : Nat} (hk : k + 1 < l.length) (h : l[k + 1].time < l[k].time) : times l = false := by
 rw [Bool.eq_false_iff]
 intro ht
 have := times_iff.1 ht k hk
 omega
theorem stimes_c (l : List It.Entry) (hl : l.length ≤ 140737488355328) : AC Tryz.prog 51 [entriesV l] [] (.bo (times l)) [] := by
 refine AC.enter2 [] [] Tryz.func51 rfl (by decide) (by decide) (Nat.le_of_ble_eq_true rfl) (by kernel_rfl) ?_; simp only [eraseC, eraseO, List.map_cons, List.map_nil, List.map_toArray, List.getElem?_toArray, List.getElem?_cons_zero, List.getElem?_cons_succ, Option.bind_some, Option.bind_none, List.append_eq, List.cons_append, List.nil_append]
 have hsz := entries_sz l
 refine run ?_
 refine loop_mk (fun m e S => S = [] ∧ e 0 = entriesV l ∧ ∃ k : Nat, e 3 = .it .i64 ((k + 1 : Nat) : Int) ∧ (∀ j (h : j + 1 < l.length), j < k → l[j].time ≤ l[j + 1].time) ∧ m = l.length - k) l.length
  ⟨rfl, (by first | rfl | (simp only [↓upd_apply, ↓put_some, ↓reduceIte, Nat.reduceEqDiff, ↓argEnv_zero, ↓argEnv_succ, *]; done)), 0, (by first | rfl | (simp only [↓upd_apply, ↓put_some, ↓reduceIte, Nat.reduceEqDiff, ↓argEnv_zero, ↓argEnv_succ, *]; done)), fun j _ h => absurd h (Nat.not_lt_zero _), rfl⟩ ?_
 rintro m e S ⟨rfl, s0, k, s3, hall, rfl⟩
 by_cases hlt : k + 1 < l.length
 rotate_left
 ·rw [times_iff.2 fun j h => hall j h (by omega)]
  have hlt' : ¬ ((k + 1 : Nat) : Int) < (l.length : Int) := by omega
  refine runf (an @s0 (an @s3 @hlt')) ?_
  exact er0
 have hlt' : ((k + 1 : Nat) : Int) < (l.length : Int) := by omega
 have hg1 : l[k + 1]? = some l[k + 1] := List.getElem?_eq_getElem hlt
 have hg0 : l[k]? = some l[k] := List.getElem?_eq_getElem (by omega)
 have hc : ((k + 1 : Nat) : Int) - 1 = (k : Int) := by omega
 have hbad := times_bad hlt
 have hgood : l[k].time ≤ l[k + 1].time → ∀ j (h : j + 1 < l.length), j < k + 1 → l[j].time ≤ l[j + 1].time := fun h j hj hjk => by
  by_cases e : j = k
  ·subst e; exact h
  ·exact hall j hj (by omega)
 generalize l[k + 1] = x at *
 generalize l[k] = y at *
 by_cases ht : x.time < y.time
 ·rw [hbad ht]
  refine runf (an @s0 (an @s3 (an @hlt' (an @hg1 (an @hg0 (an @hc @hsz)))))) ?_
  exact er0
 ·refine runf (an @s0 (an @s3 (an @hlt' (an @hg1 (an @hg0 (an @hc @hsz)))))) ?_
  exact round_mk (l.length - (k + 1)) (by omega) ⟨rfl, (by first | rfl | (simp only [↓upd_apply, ↓put_some, ↓reduceIte, Nat.reduceEqDiff, ↓argEnv_zero, ↓argEnv_succ, *]; done)), k + 1, (by first | rfl | (simp only [↓upd_apply, ↓put_some, ↓reduceIte, Nat.reduceEqDiff, ↓argEnv_zero, ↓argEnv_succ, *]; done)), hgood (by omega), rfl⟩
theorem headB_len (h : Head) : (headB h).length ≤ 1000200 := by
 unfold headB
 split
 ·rename_i hr
  have hh := rightH_lin.1 hr
  have := coreR_lenH hr
  have n1 := numI_le h.sig.e (by omega)
  have n2 := numI_le h.sig.s (by omega)
  simp only [List.length_append]
  omega
 ·exact Nat.zero_le _
theorem sheadBytes_c (h : Head) : AC Tryz.prog 66 [headV h] [] (.st (headB h)) [] := by
 refine AC.enter [60, 62, 103] [] Tryz.func66 rfl (by decide) (by decide) (Nat.le_of_ble_eq_true rfl) (by kernel_rfl) ?_; simp only [eraseC, eraseO, List.map_cons, List.map_nil, List.map_toArray, List.getElem?_toArray, List.getElem?_cons_zero, List.getElem?_cons_succ, Option.bind_some, Option.bind_none, List.append_eq, List.cons_append, List.nil_append]
 have kr := sright_c h
 unfold headB
 cases hr : rightH h with
 | false =>
  rw [hr] at kr
  rw [if_neg (by simp)]
  refine run ?_
  refine cp kr ?_
  refine run ?_
  exact er0
 | true =>
  rw [hr] at kr
  rw [if_pos rfl]
  have hh := rightH_lin.1 hr
  have hc := coreR_lenH hr
  have kc := score_c h hr
  have n1 := numI_le h.sig.e (by omega)
  have n2 := numI_le h.sig.s (by omega)
  generalize coreH h = c at *
  refine run ?_
  refine cp kr ?_
  refine run ?_
  refine cp kc ?_
  refine run ?_
  refine cp (num_c h.sig.e (by omega) (by omega)) ?_
  refine run ?_
  refine cp (num_c h.sig.s (by omega) (by omega)) ?_
  refine run ?_
  exact er0
theorem readHead_c (s : By) (hs : s.length ≤ 1000000) : AC Tryz.prog 72 [.st s] [] (.tup [headV (readHead s).1, .bo (readHead s).2]) [] := by
 refine AC.enter [60, 66] [] Tryz.func72 rfl (by decide) (by decide) (Nat.le_of_ble_eq_true rfl) (by kernel_rfl) ?_; simp only [eraseC, eraseO, List.map_cons, List.map_nil, List.map_toArray, List.getElem?_toArray, List.getElem?_cons_zero, List.getElem?_cons_succ, Option.bind_some, Option.bind_none, List.append_eq, List.cons_append, List.nil_append]
 obtain ⟨n, x0, e0, b0, d0, k0⟩ := rtext_s ⟨s, false⟩ hs
 obtain ⟨server, x1, e1, b1, d1, k1⟩ := rnum_s x0 b0
 obtain ⟨size, x2, e2, b2, d2, k2⟩ := rnum_s x1 b1
 obtain ⟨root, x3, e3, b3, d3, k3⟩ := rtext_s x2 b2
 obtain ⟨time, x4, e4, b4, d4, k4⟩ := rnum_s x3 b3
 obtain ⟨se, x5, e5, b5, d5, k5⟩ := rnum_s x4 b4
 obtain ⟨ss, x6, e6, b6, d6, k6⟩ := rnum_s x5 b5
 have hread : readHead s = if n = wHead ∧ x6.done = true ∧ rightH ⟨server, size, root, time, ⟨se, ss⟩⟩ = true ∧ headB ⟨server, size, root, time, ⟨se, ss⟩⟩ = s then (⟨server, size, root, time, ⟨se, ss⟩⟩, true) else (head0, false) := by
  unfold readHead rHead rSig
  simp only [e0, e1, e2, e3, e4, e5, e6]
 have kd := done_c x6
 change AC _ _ _ _ (.bo x6.done) _ at kd
 have kr := sright_c ⟨server, size, root, time, ⟨se, ss⟩⟩
 have kb := sheadBytes_c ⟨server, size, root, time, ⟨se, ss⟩⟩
 generalize headB ⟨server, size, root, time, ⟨se, ss⟩⟩ = bs at *
 generalize rightH ⟨server, size, root, time, ⟨se, ss⟩⟩ = rr at *
 generalize x6.done = dn at *
 refine run ?_
 refine call_mk (AC.newAt (open_c s) _) ?_
 refine run ?_
 refine c1 1 k0 ?_
 by_cases hn : n = wHead
 rotate_left
 ·rw [if_neg (fun h => hn h.1)] at hread
  rw [hread]
  have hne := nilI n wHead hn
  refine runf @hne ?_
  exact er0w
 subst hn
 refine run ?_
 refine c1 1 k1 ?_
 refine run ?_
 refine c1 1 k2 ?_
 refine run ?_
 refine c1 1 k3 ?_
 refine run ?_
 refine c1 1 k4 ?_
 refine run ?_
 refine c1 1 k5 ?_
 refine run ?_
 refine c1 1 k6 ?_
 refine run ?_
 refine c1 1 kd ?_
 cases dn with
 | false =>
  rw [if_neg (fun h => by cases h.2.1)] at hread
  rw [hread]
  refine run ?_
  exact er0w
 | true =>
  refine run ?_
  refine cp kr ?_
  cases rr with
  | false =>
   rw [if_neg (fun h => by cases h.2.2.1)] at hread
   rw [hread]
   refine run ?_
   exact er0w
  | true =>
   refine run ?_
   refine cp kb ?_
   by_cases hb : bs = s
   ·subst hb
    rw [if_pos ⟨rfl, rfl, rfl, rfl⟩] at hread
    rw [hread]
    refine run ?_
    exact er0w
   ·rw [if_neg (fun h => hb h.2.2.2)] at hread
    rw [hread]
    have hne := nilI bs s hb
    refine runf @hne ?_
    exact er0w
end Go.Proofs.YthbpbkbjdfcnjaaGreatDoor.Pe
