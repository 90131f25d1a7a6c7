/- Reference 12 on plain values: reading, signing, verifying. -/
import Derived.Test.YtaphpbiaoofmkaaGreatDoorRfP12
import Derived.Test.YtaphpbiaoofmkaaGreatDoorRfE
import Derived.Test.YtaphpbiaoofmkaaGreatDoorRfL
import Derived.Test.YtaphpbiaoofmkaaGreatDoorItW
set_option linter.unusedSectionVars false
set_option linter.unusedVariables false
set_option linter.unusedSimpArgs false
namespace Go.Proofs.YtaphpbiaoofmkaaGreatDoor.Pe
open Go Go.RowKit Co Sg Ac
set_option maxRecDepth 100000
set_option maxHeartbeats 4000000
theorem Weak.reserveK [Tab] (N0 : Nat) {e : Env} {S : Store} (l i : Nat) {cs es : List AV} (hS : S[l]? = some (.cells cs)) (hi : cs[i]? = some (.sl .full es)) (ty : TypeId) (sz : Nat) : Weak N0 e S e (S.set l (.cells (cs.set i (.sl (.own S.length) es))) ++ [.buf es.length ty sz]) := by
 rintro N w0 g0 a w hn ⟨h1, h2, g, h3, h4, h5⟩
 obtain ⟨g', h6, h7, h8, h9, h10⟩ := h3.reserve es.length ty sz
 have hlS := (List.getElem?_eq_some_iff.1 hS).1
 have hic := (List.getElem?_eq_some_iff.1 hi).1
 have hn3 := h3.nid
 have hn6 := h6.nid
 rw [List.length_append, List.length_singleton] at hn6
 refine ⟨h1, h2, g', ⟨by rw [List.length_append, List.length_set, List.length_singleton]; exact hn6, fun k o hk => ?_, h6.disj, h6.lt, h6.tab⟩, fun t => (h4 t).le h7.toLe, h5.trans h7⟩
 by_cases hkl : k = l
 ·subst hkl
  rw [List.getElem?_append_left (by rw [List.length_set]; exact hlS), List.getElem?_set_self hlS] at hk
  cases hk
  obtain ⟨k1, k2, k3, arr, T, fr, k4, k5, k6, k7, k8⟩ := h6.obj k (.cells cs) (get_app hS _)
  refine ⟨k1, k2, k3, arr, T, fr, k4, k5, by rw [List.length_set]; exact k6, k7, fun j u v hu hv => ?_⟩
  by_cases hj : j = i
  ·subst hj
   rw [List.getElem?_set_self hic] at hu
   cases hu
   refine (k8 j _ v hi hv).own_full (by omega) ?_ ?_
   ·rw [← hn3]; exact h9
   ·rw [← hn3]; exact h10
  ·rw [List.getElem?_set_ne (Ne.symm hj)] at hu
   exact k8 j u v hu hv
 ·refine h6.obj k o ?_
  by_cases hkS : k < S.length
  ·rw [List.getElem?_append_left (by rw [List.length_set]; exact hkS), List.getElem?_set_ne (Ne.symm hkl)] at hk
   rw [List.getElem?_append_left hkS]
   exact hk
  ·rw [List.getElem?_append_right (by rw [List.length_set]; omega), List.length_set] at hk
   rw [List.getElem?_append_right (by omega)]
   exact hk
theorem fposting_c (k : Int) : AC Tryz.prog 22 [.it .i64 k] [] (.bo (posting k)) [] := by
 refine AC.enter [] [] Tryz.func22 rfl (by decide) (by decide) (Nat.le_of_ble_eq_true rfl) (by kernel_rfl) ?_; simp only [eraseC, eraseO, List.map_cons, List.map_nil, List.map_toArray, List.getElem?_toArray, List.getElem?_cons_zero, List.getElem?_cons_succ, Option.bind_some, Option.bind_none, List.append_eq, List.cons_append, List.nil_append]
 by_cases c1 : 1 ≤ k
 ·by_cases c2 : k ≤ 3
  ·have hp : posting k = true := by
    unfold posting
    simp only [Bool.or_eq_true, decide_eq_true_eq]
    omega
   rw [hp]
   refine runf (an @c1 @c2) ?_
   exact er0
  ·have hp : posting k = false := by
    unfold posting
    simp only [Bool.or_eq_false_iff, decide_eq_false_iff_not]
    omega
   rw [hp]
   refine runf (an @c1 @c2) ?_
   exact er0
 ·have hp : posting k = false := by
   unfold posting
   simp only [Bool.or_eq_false_iff, decide_eq_false_iff_not]
   omega
  rw [hp]
  refine runf @c1 ?_
  exact er0
theorem fverify12_c (p : Int) (a : Ac.Act) (h : Sz a) (hp : -9223372036854775808 ≤ p ∧ p ≤ 9223372036854775807) : AC Tryz.prog 18 [.it .i64 p, actV a] [] (.bo (verifyA p a)) [] := by
 refine AC.enter [20, 24, 107] [] Tryz.func18 rfl (by decide) (by decide) (Nat.le_of_ble_eq_true rfl) (by kernel_rfl) ?_; simp only [eraseC, eraseO, List.map_cons, List.map_nil, List.map_toArray, List.getElem?_toArray, List.getElem?_cons_zero, List.getElem?_cons_succ, Option.bind_some, Option.bind_none, List.append_eq, List.cons_append, List.nil_append]
 unfold verifyA
 have hl := core_len (a := a)
 refine run ?_
 refine cp (fright12_c a h) ?_
 cases hr : right a with
 | false => refine run ?_; exact er0
 | true =>
  have hs := (right_sm hr).sig
  simp only [sigR, Bool.and_eq_true, wi_iff] at hs
  refine run ?_
  refine cp (fcore12_c a h) ?_
  refine run ?_
  refine cp (rverify_c p (core a) a.sig (by omega)) ?_
  refine run ?_
  exact er0
theorem fsign12_c (k : Key) (a : Ac.Act) (h : Sz a) (t1 : a.to.length ≤ 1000000) (t2 : a.wraps.length ≤ 1000000) (hk : -9223372036854775808 ≤ k.secret ∧ k.secret ≤ 9223372036854775807) : AC Tryz.prog 15 [keyV k, actV a] [] (actV (signA k a)) [] := by
 refine AC.enter [20, 104, 24, 105] [] Tryz.func15 rfl (by decide) (by decide) (Nat.le_of_ble_eq_true rfl) (by kernel_rfl) ?_; simp only [eraseC, eraseO, List.map_cons, List.map_nil, List.map_toArray, List.getElem?_toArray, List.getElem?_cons_zero, List.getElem?_cons_succ, Option.bind_some, Option.bind_none, List.append_eq, List.cons_append, List.nil_append]
 have h0 : Sz { a with sig := sig0 } := ⟨h.author, h.target, h.group, h.text, h.tos, h.to, h.wraps⟩
 unfold signA
 simp only
 have hl := core_len (a := { a with sig := sig0 })
 have z1 : allSz 1 (a.to.map AV.st) = true := allSz_map 1 AV.st (fun _ => rfl) _
 have z2 : allSz 5 (a.wraps.map wrapV) = true := allSz_map 5 wrapV (fun _ => rfl) _
 have f1 : fits a.to.length 16 = true := by simp [fits]; omega
 have f2 : ∀ b, b ≤ 1000 → fits a.wraps.length b = true := fun b hb => by
  have : a.wraps.length * b ≤ 1000000 * 1000 := Nat.mul_le_mul t2 hb
  simp [fits]; omega
 refine runf (an @z1 (an @z2 (an @f1 @f2))) ?_
 refine cp (fright12_c { a with sig := sig0 } h0) ?_
 refine run ?_
 refine cp (rkeyright_c k hk) ?_
 cases hr : right { a with sig := sig0 } with
 | false =>
  rw [if_neg (by simp)]
  refine run ?_
  exact er0w
 | true =>
  cases hkr : k.right with
  | false =>
   rw [if_neg (by simp)]
   refine run ?_
   exact er0w
  | true =>
   rw [if_pos (by rfl)]
   refine run ?_
   refine cp (fcore12_c { a with sig := sig0 } h0) ?_
   refine run ?_
   refine cp (rsign_c k _ (by omega) hk) ?_
   refine run ?_
   exact er0w
theorem ftext_x (x : R) (hx : x.rest.length ≤ 1000000) : ∃ s y, x.text = (s, y) ∧ y.rest.length ≤ 1000000 ∧ s.length ≤ 1000000 ∧ Wf y ∧ AC Tryz.prog 94 [.ptr 0 0] [rd x] (.st s) [rd y] := by
 have := text_rest x
 exact ⟨x.text.1, x.text.2, rfl, by omega, by omega, wf_text x, frtext_c x (by omega)⟩
theorem fnum_x (x : R) (hx : x.rest.length ≤ 1000000) : ∃ (n : Int) (y : R), rNum x = (n, y) ∧ y.rest.length ≤ 1000000 ∧ (0 ≤ n ∧ n < 9223372036854775808) ∧ AC Tryz.prog 95 [.ptr 0 0] [rd x] (.it .i64 n) [rd y] := by
 have := num_rest x
 have := num_lt x
 exact ⟨x.num.1, x.num.2, rfl, by omega, by omega, frnum_c x (by omega)⟩
theorem flist_x (x : R) (hx : x.rest.length ≤ 1000000) (hw : Wf x) : ∃ l y, x.list = (l, y) ∧ y.rest.length ≤ 1000000 ∧ (∀ s ∈ l, s.length ≤ 1000000) ∧ l.length ≤ 1000000 ∧ AC Tryz.prog 96 [.ptr 0 0] [rd x] (sls l) [rd y] := by
 have h := list_rest x
 exact ⟨x.list.1, x.list.2, rfl, by omega, fun s hs => by have := h.2.1 s hs; omega, by omega, frlist_c x hx hw⟩
theorem freadBox_c (x : R) (hx : x.rest.length ≤ 1000000) : AC Tryz.prog 97 [.ptr 0 0] [rd x] (boxV (rBox x).1) [rd (rBox x).2] := by
 refine AC.enter [] [] Tryz.func97 rfl (by decide) (by decide) (Nat.le_of_ble_eq_true rfl) (by kernel_rfl) ?_; simp only [eraseC, eraseO, List.map_cons, List.map_nil, List.map_toArray, List.getElem?_toArray, List.getElem?_cons_zero, List.getElem?_cons_succ, Option.bind_some, Option.bind_none, List.append_eq, List.cons_append, List.nil_append]
 obtain ⟨s1, x1, e1, b1, c1', _, k1⟩ := ftext_x x hx
 obtain ⟨s2, x2, e2, b2, c2', _, k2⟩ := ftext_x x1 b1
 obtain ⟨s3, x3, e3, b3, c3', _, k3⟩ := ftext_x x2 b2
 have hb : rBox x = (⟨s1, s2, s3⟩, x3) := by unfold rBox; simp only [e1, e2, e3]
 rw [hb]
 refine run ?_
 refine c1 0 k1 ?_
 refine run ?_
 refine c1 0 k2 ?_
 refine run ?_
 refine c1 0 k3 ?_
 refine run ?_
 exact er1
theorem fbox_x (x : R) (hx : x.rest.length ≤ 1000000) : ∃ (b : Box) (y : R), rBox x = (b, y) ∧ y.rest.length ≤ 1000000 ∧ AC Tryz.prog 97 [.ptr 0 0] [rd x] (boxV b) [rd y] := by
 have h := rBox_rest x
 exact ⟨(rBox x).1, (rBox x).2, rfl, by omega, freadBox_c x hx⟩
theorem upd_selfT {e : Env} {d : Nat} {v : AV} (h : e d = v) : e = upd e d v := funext fun t => by
 by_cases ht : t = d
 ·subst ht; rw [upd_same]; exact h
 ·rw [upd_ne e ht]
theorem rWrapsF_rest : ∀ (n : Nat) (x : R), (rWrapsF n x).2.rest.length ≤ x.rest.length ∧ (rWrapsF n x).1.length ≤ x.rest.length
 | 0, x => ⟨Nat.le_refl _, by simp [rWrapsF]⟩
 | n + 1, x => by
  have h1 := rWrap_rest x
  have h2 := rWrapsF_rest n (rWrap x).2
  unfold rWrapsF
  by_cases he : x.rest = []
  ·rw [if_pos he]; exact ⟨Nat.le_refl _, by simp⟩
  ·rw [if_neg he]
   have hp : 0 < x.rest.length := List.length_pos_iff.2 he
   simp only [List.length_cons]
   rcases h1 with h1 | h1
   ·rw [h1] at h2; simp only [List.length_nil] at h2; omega
   ·omega
theorem fread12_c (s : By) (hs : s.length ≤ 1000000) : AC Tryz.prog 13 [.st s] [] (.tup [actV (Ac.read s).1, .bo (Ac.read s).2]) [] := by
 refine AC.enter [26] [] Tryz.func13 rfl (by decide) (by decide) (Nat.le_of_ble_eq_true rfl) (by kernel_rfl) ?_; simp only [eraseC, eraseO, List.map_cons, List.map_nil, List.map_toArray, List.getElem?_toArray, List.getElem?_cons_zero, List.getElem?_cons_succ, Option.bind_some, Option.bind_none, List.append_eq, List.cons_append, List.nil_append]
 have hread := read_ref s
 obtain ⟨nm, x0, e0, b0, d0, w0, k0⟩ := ftext_x ⟨s, false⟩ hs
 rw [e0] at hread
 simp only at hread
 obtain ⟨author, x1, e1, b1, d1, w1, k1⟩ := ftext_x x0 b0
 obtain ⟨seq, x2, e2, b2, d2, k2⟩ := fnum_x x1 b1
 obtain ⟨prev, x3, e3, b3, d3, w3, k3⟩ := ftext_x x2 b2
 obtain ⟨kind, x4, e4, b4, d4, k4⟩ := fnum_x x3 b3
 obtain ⟨time, x5, e5, b5, d5, k5⟩ := fnum_x x4 b4
 obtain ⟨object, x6, e6, b6, d6, w6, k6⟩ := ftext_x x5 b5
 obtain ⟨target, x7, e7, b7, d7, w7, k7⟩ := ftext_x x6 b6
 obtain ⟨scope, x8, e8, b8, d8, k8⟩ := fnum_x x7 b7
 obtain ⟨group, x9, e9, b9, d9, w9, k9⟩ := ftext_x x8 b8
 obtain ⟨to, x10, e10, b10, d10, d10', k10⟩ := flist_x x9 b9 w9
 obtain ⟨text, x11, e11, b11, d11, w11, k11⟩ := ftext_x x10 b10
 obtain ⟨body, x12, e12, b12, k12⟩ := fbox_x x11 b11
 obtain ⟨epoch, x13, e13, b13, d13, k13⟩ := fnum_x x12 b12
 have hn := num_lt x13
 have hnr := num_rest x13
 have k14 := frnum_c x13 (by omega)
 have hra : rActF x0 = (let wraps := rWrapsF x13.num.1 x13.num.2; let n := rNum wraps.2; let m := rNum n.2; let e := rNum m.2; let s := rNum e.2; (⟨author, seq, prev, kind, time, object, target, scope, group, to, text, body, epoch, wraps.1, n.1, m.1, ⟨e.1, s.1⟩⟩, s.2)) := by
  unfold rActF
  simp only [e1, e2, e3, e4, e5, e6, e7, e8, e9, e10, e11, e12, e13]
 rw [hra] at hread
 simp only at hread
 clear hra e0 e1 e2 e3 e4 e5 e6 e7 e8 e9 e10 e11 e12 e13 b0 b1 b2 b3 b4 b5 b6 b7 b8 b9 b10 b11 b12
 generalize x13.num = q at *
 obtain ⟨n, y⟩ := q
 simp only at hn hnr k14 hread
 refine run ?_
 refine call_mk (AC.newAt (fopen_c s) _) ?_
 refine run ?_
 refine c1 1 k0 ?_
 refine run ?_
 refine c1 1 k1 ?_
 refine run ?_
 refine c1 1 k2 ?_
 refine run ?_
 refine c1 1 k3 ?_
 refine run ?_
 refine c1 1 k4 ?_
 refine run ?_
 refine c1 1 k5 ?_
 refine run ?_
 refine c1 1 k6 ?_
 refine run ?_
 refine c1 1 k7 ?_
 refine run ?_
 refine c1 1 k8 ?_
 refine run ?_
 refine c1 1 k9 ?_
 refine run ?_
 refine c1 1 k10 ?_
 refine run ?_
 refine c1 1 k11 ?_
 refine run ?_
 refine c1 1 k12 ?_
 refine run ?_
 refine c1 1 k13 ?_
 refine run ?_
 refine c1 1 k14 ?_
 clear k0 k1 k2 k3 k4 k5 k6 k7 k8 k9 k10 k11 k12 k13 k14
 refine run ?_
 refine loop_mk' (fun m e S => e 0 = .st s ∧ e 2 = .ptr 0 0 ∧ e 4 = .ptr 1 0 ∧ e 5 = .st nm ∧ e 6 = .ptr 2 0 ∧ e 7 = .it .i64 (n : Int) ∧ ∃ (c : Nat) (acc : List Wrap) (z : R) (T : Store), e 8 = .it .i64 (c : Int) ∧
   S = .cells [.st [], .it .i64 0, .st [], .it .i64 0, .it .i64 0, .st [], .st [], .it .i64 0, .st [], .sl .full [], .st [], .st [], .st [], .st [], .it .i64 0, .sl .full [], .it .i64 0, .it .i64 0, .it .i64 0, .it .i64 0] :: rd z :: .cells [.st author, .it .i64 seq, .st prev, .it .i64 kind, .it .i64 time, .st object, .st target, .it .i64 scope, .st group, sls to, .st text, .st body.nonce, .st body.data, .st body.tag, .it .i64 epoch, .sl (.own 3) (acc.map wrapV), .it .i64 0, .it .i64 0, .it .i64 0, .it .i64 0] :: .buf acc.length 105 5 :: T ∧
   c ≤ n ∧ acc.length + z.rest.length ≤ 1000000 ∧ rWrapsF n y = (acc ++ (rWrapsF (n - c) z).1, (rWrapsF (n - c) z).2) ∧ m = n - c) n _ _ (Weak.reserveK 0 2 15 (es := []) (by rfl) (by rfl) 105 5)
  ⟨(by first | rfl | (simp only [↓upd_apply, ↓put_some, ↓reduceIte, Nat.reduceEqDiff, ↓argEnv_zero, ↓argEnv_succ, *]; done)), (by first | rfl | (simp only [↓upd_apply, ↓put_some, ↓reduceIte, Nat.reduceEqDiff, ↓argEnv_zero, ↓argEnv_succ, *]; done)), (by first | rfl | (simp only [↓upd_apply, ↓put_some, ↓reduceIte, Nat.reduceEqDiff, ↓argEnv_zero, ↓argEnv_succ, *]; done)), (by first | rfl | (simp only [↓upd_apply, ↓put_some, ↓reduceIte, Nat.reduceEqDiff, ↓argEnv_zero, ↓argEnv_succ, *]; done)), (by first | rfl | (simp only [↓upd_apply, ↓put_some, ↓reduceIte, Nat.reduceEqDiff, ↓argEnv_zero, ↓argEnv_succ, *]; done)), (by first | rfl | (simp only [↓upd_apply, ↓put_some, ↓reduceIte, Nat.reduceEqDiff, ↓argEnv_zero, ↓argEnv_succ, *]; done)), 0, [], y, [], (by first | rfl | (simp only [↓upd_apply, ↓put_some, ↓reduceIte, Nat.reduceEqDiff, ↓argEnv_zero, ↓argEnv_succ, *]; done)), rfl, by omega, by simp; omega, by simp, rfl⟩ ?_
 rintro m e S ⟨s0, s2, s4, s5, s6, s7, c, acc, z, T, s8, rfl, hc, hz, hrw, rfl⟩
 have hT1 : ∀ o : SObj, (T ++ [o])[T.length]? = some o := fun o => by simp
 have hT2 : ∀ o o' : SObj, (T ++ [o]).set T.length o' = T ++ [o'] := fun o o' => by simp
 by_cases hgo : c < n ∧ z.rest ≠ []
 ·obtain ⟨hcn, hne⟩ := hgo
  obtain ⟨n1, y1, f1, g1, i1, l1⟩ := fnum_x z (by omega)
  obtain ⟨n2, y2, f2, g2, i2, l2⟩ := fnum_x y1 g1
  obtain ⟨bx, y3, f3, g3, l3⟩ := fbox_x y2 g2
  have hw : rWrap z = (⟨n1, n2, bx⟩, y3) := by unfold rWrap; simp only [f1, f2, f3]
  have hwr := rWrap_rest z
  rw [hw] at hwr
  simp only at hwr
  have hp : 0 < z.rest.length := List.length_pos_iff.2 hne
  obtain ⟨j, hj⟩ : ∃ j, n - c = j + 1 := ⟨n - c - 1, by omega⟩
  have hst : rWrapsF (j + 1) z = ((⟨n1, n2, bx⟩ : Wrap) :: (rWrapsF j y3).1, (rWrapsF j y3).2) := by
   rw [rWrapsF, if_neg hne, hw]
  rw [hj, hst] at hrw
  have hz3 : acc.length + 1 + y3.rest.length ≤ 1000000 := by
   rcases hwr with h | h
   ·rw [h]; simp only [List.length_nil]; omega
   ·omega
  have hcni : (c : Int) < (n : Int) := by omega
  have hpi : (0 : Int) < (z.rest.length : Int) := by omega
  have hsz : allSz 5 (acc.map wrapV) = true := allSz_map 5 wrapV (fun _ => rfl) _
  refine runf (an @s0 (an @s2 (an @s4 (an @s5 (an @s6 (an @s7 (an @s8 @hcni))))))) ?_
  refine c1 1 (fleft_c z) ?_
  refine runf (an @s0 (an @s2 (an @s4 (an @s5 (an @s6 (an @s7 (an @s8 @hpi))))))) ?_
  refine c1 1 l1 ?_
  refine runf (an @s0 (an @s2 (an @s4 (an @s5 (an @s6 (an @s7 @s8)))))) ?_
  refine c1 1 l2 ?_
  refine runf (an @s0 (an @s2 (an @s4 (an @s5 (an @s6 (an @s7 @s8)))))) ?_
  refine c1 1 l3 ?_
  refine runf (an @s0 (an @s2 (an @s4 (an @s5 (an @s6 (an @s7 (an @s8 (an @hT1 (an @hT2 @hsz))))))))) ?_
  exact round_mk (n - (c + 1)) (by omega) ⟨(by first | rfl | (simp only [↓upd_apply, ↓put_some, ↓reduceIte, Nat.reduceEqDiff, ↓argEnv_zero, ↓argEnv_succ, *]; done)), (by first | rfl | (simp only [↓upd_apply, ↓put_some, ↓reduceIte, Nat.reduceEqDiff, ↓argEnv_zero, ↓argEnv_succ, *]; done)), (by first | rfl | (simp only [↓upd_apply, ↓put_some, ↓reduceIte, Nat.reduceEqDiff, ↓argEnv_zero, ↓argEnv_succ, *]; done)), (by first | rfl | (simp only [↓upd_apply, ↓put_some, ↓reduceIte, Nat.reduceEqDiff, ↓argEnv_zero, ↓argEnv_succ, *]; done)), (by first | rfl | (simp only [↓upd_apply, ↓put_some, ↓reduceIte, Nat.reduceEqDiff, ↓argEnv_zero, ↓argEnv_succ, *]; done)), (by first | rfl | (simp only [↓upd_apply, ↓put_some, ↓reduceIte, Nat.reduceEqDiff, ↓argEnv_zero, ↓argEnv_succ, *]; done)), c + 1, acc ++ [⟨n1, n2, bx⟩], y3, _, (by first | rfl | (simp only [↓upd_apply, ↓put_some, ↓reduceIte, Nat.reduceEqDiff, ↓argEnv_zero, ↓argEnv_succ, *]; done)), by rw [List.map_append, List.length_append]; rfl, by omega, by rw [List.length_append, List.length_singleton]; omega, by rw [hrw, show n - (c + 1) = j from by omega, List.append_assoc]; rfl, rfl⟩
 have hrw' : rWrapsF n y = (acc, z) := by
  rw [hrw]
  by_cases hcn : c < n
  ·have hne : z.rest = [] := Classical.byContradiction fun h => hgo ⟨hcn, h⟩
   obtain ⟨j, hj⟩ : ∃ j, n - c = j + 1 := ⟨n - c - 1, by omega⟩
   rw [hj, rWrapsF, if_pos hne]
   simp
  ·rw [show n - c = 0 from by omega, rWrapsF]
   simp
 rw [hrw'] at hread
 simp only at hread
 obtain ⟨nn, x15, e15, b15, d15, k15⟩ := fnum_x z (by omega)
 obtain ⟨mm, x16, e16, b16, d16, k16⟩ := fnum_x x15 b15
 obtain ⟨se, x17, e17, b17, d17, k17⟩ := fnum_x x16 b16
 obtain ⟨ss, x18, e18, b18, d18, k18⟩ := fnum_x x17 b17
 simp only [e15, e16, e17, e18] at hread
 have hsz : Sz ⟨author, seq, prev, kind, time, object, target, scope, group, to, text, body, epoch, acc, nn, mm, ⟨se, ss⟩⟩ :=
  ⟨by show author.length ≤ _; omega, by show target.length ≤ _; omega, by show group.length ≤ _; omega, by show text.length ≤ _; omega, fun s hs => by have := d10 s hs; omega, by show to.length ≤ _; omega, by show acc.length ≤ _; omega⟩
 have kb := fbytes12_c _ hsz
 have kd := fdone_c x18
 change AC _ _ _ _ (.bo x18.done) _ at kd
 clear e15 e16 e17 e18 b15 b16 b17 b18 d15 d16 d17 d18 hsz hrw hrw'
 rw [upd_selfT s2]
 by_cases hcn : c < n
 focus
  have hem : z.rest = [] := Classical.byContradiction fun h => hgo ⟨hcn, h⟩
  have hcni : (c : Int) < (n : Int) := by omega
  have hl0 : ¬ (0 : Int) < (z.rest.length : Int) := by rw [hem]; simp
  refine runf (an @s0 (an @s2 (an @s4 (an @s5 (an @s6 (an @s7 (an @s8 @hcni))))))) ?_
  refine c1 1 (fleft_c z) ?_
  refine runf (an @s0 (an @s2 (an @s4 (an @s5 (an @s6 (an @s7 (an @s8 @hl0))))))) ?_
 rotate_left
 focus
  have hcni : ¬ (c : Int) < (n : Int) := by omega
  refine runf (an @s0 (an @s2 (an @s4 (an @s5 (an @s6 (an @s7 (an @s8 @hcni))))))) ?_
 all_goals
  refine c1 1 k15 ?_
  refine runf (an @s0 (an @s2 (an @s4 (an @s5 @s6)))) ?_
  refine c1 1 k16 ?_
  refine runf (an @s0 (an @s2 (an @s4 (an @s5 @s6)))) ?_
  refine c1 1 k17 ?_
  refine runf (an @s0 (an @s2 (an @s4 (an @s5 @s6)))) ?_
  refine c1 1 k18 ?_
  refine runf (an @s0 (an @s2 (an @s4 (an @s5 @s6)))) ?_
  refine c1 1 kd ?_
  cases hdn : x18.done with
  | false =>
   rw [hdn, if_neg (fun h => by cases h.1)] at hread
   rw [← hread]
   refine runf (an @s0 (an @s2 (an @s4 (an @s5 @s6)))) ?_
   exact er0w
  | true =>
   rw [hdn] at hread
   by_cases hn : nm = wAct
   rotate_left
   ·rw [if_neg (fun h => hn h.2.1)] at hread
    have hne := nilB nm wAct hn
    rw [← hread]
    refine runf (an @s0 (an @s2 (an @s4 (an @s5 (an @s6 @hne))))) ?_
    exact er0w
   have hne : (nm == wAct) = true := by rw [hn]; exact beq_self_eq_true _
   refine runf (an @s0 (an @s2 (an @s4 (an @s5 (an @s6 @hne))))) ?_
   refine cp kb ?_
   generalize Ac.bytes _ = bs at *
   by_cases hbs : bs = s
   ·rw [if_pos ⟨rfl, hn, hbs⟩] at hread
    rw [← hread]
    have hnb : (bs == s) = true := by rw [hbs]; exact beq_self_eq_true _
    refine runf (an @s0 (an @s2 (an @s4 (an @s5 (an @s6 @hnb))))) ?_
    exact er0w
   ·rw [if_neg (fun h => hbs h.2.2)] at hread
    rw [← hread]
    have hnb := nilB bs s hbs
    refine runf (an @s0 (an @s2 (an @s4 (an @s5 (an @s6 @hnb))))) ?_
    exact er0w
end Go.Proofs.YtaphpbiaoofmkaaGreatDoor.Pe
