/- Package wal on plain values: a builder as an object; Rewrite. -/
import Derived.Test.YtjicccjpooahoaaWlE
import Derived.Test.YtjicccjpooahoaaBl
set_option linter.unusedSectionVars false
set_option linter.unusedVariables false
set_option linter.unusedSimpArgs false
namespace Go.Proofs.Ytjicccjpooahoaa.Pe
open Go Go.RowKit Co Dm Wl
set_option maxRecDepth 100000
set_option maxHeartbeats 4000000
theorem Weak.ext [Tab] (N0 : Nat) {e : Env} {S : Store} {X X' : World → Nat → (Nat → Prop) → Prop} (l : Nat) (hS : S[l]? = some (.ext X)) (h : ∀ w p T, X w p T → X' w p T) : Weak N0 e S e (S.set l (.ext X')) := by
 rintro N w0 g0 a w hn ⟨h1, h2, g, h3, h4, h5⟩
 have hlS := (List.getElem?_eq_some_iff.1 hS).1
 refine ⟨h1, h2, g, ⟨by rw [List.length_set]; exact h3.nid, fun k o hk => ?_, h3.disj, h3.lt, h3.tab⟩, h4, h5⟩
 by_cases hkl : k = l
 ·subst hkl
  rw [List.getElem?_set_self hlS] at hk
  cases hk
  obtain ⟨k1, k2, k3, k4⟩ := h3.obj k _ hS
  exact ⟨k1, k2, k3, fun w' hw' => h _ _ _ (k4 w' hw')⟩
 ·rw [List.getElem?_set_ne (Ne.symm hkl)] at hk
  exact h3.obj k o hk
abbrev XB (l : By) : SObj := .ext fun w p S => BRep w S p l
theorem xb_mono (l : By) : ∀ w p (S T : Nat → Prop), BRep w S p l → (∀ b, S b → T b) → BRep w T p l := fun _ _ _ _ h hs => h.more hs
theorem xb_keep (l : By) : ∀ (w w' : World) p (S : Nat → Prop), BRep w S p l → (∀ b, S b ∧ b < w.heap.size → w'.heap[b]? = w.heap[b]?) → BRep w' (fun b => S b ∧ b < w.heap.size) p l := fun _ _ _ _ h hs => h.keepS hs
theorem fresh_b : ∀ w p T, Fresh 74 w p T → BRep w T p [] := fun w p T ⟨h1, h2⟩ => ⟨_, _, h2, .inl rfl, Fil.nil w, fun _ => rfl, h1, fun c hc => by cases hc⟩
theorem b_write (l s : By) (h0 : 0 < s.length) (hb : l.length + s.length ≤ 140737488355328) :
  AC Try.prog 35 [.ptr 0 0, .st s] [XB l] (.tup [.it .i64 (s.length : Int), .ot .nilIface]) [XB (l ++ s)] := by
 refine AC.ofFr (by kernel_rfl) (xb_mono l) (xb_keep _) fun w g S cargs hargs hbuf _ hG hSp hS hX => ?_
 obtain ⟨v0, c0, rfl, h0', hargs⟩ := lrel_cons hargs
 obtain ⟨v1, c1, rfl, h1, hargs⟩ := lrelc hargs
 obtain rfl : c1 = [] := by simpa using lrel_nil hargs
 obtain rfl := rel_ptr h0'; obtain rfl := rel_st h1
 refine (ws_any hX hS ⟨s.toArray⟩ (by simpa [ByteArray.size] using h0) (by simpa [ByteArray.size] using hb)).mono fun r w' ⟨e, hD, hF⟩ => ?_
 refine ⟨_, e, fun g' => ?_, hD, hF⟩
 have := rel_tup2 (w := w') (g := g') (.it _ .i64 (s.length : Int)) (.ot _ .nilIface rfl)
 simpa [ByteArray.size] using this
theorem b_string (l : By) (hb : l.length ≤ 140737488355328) : AC Try.prog 37 [.ptr 0 0] [XB l] (.st l) [.ext fun _ _ _ => True] := by
 refine AC.ofFr (by kernel_rfl) (xb_mono l) (fun _ _ _ _ _ _ => trivial) fun w g S cargs hargs hbuf _ hG hSp hS hX => ?_
 obtain ⟨v0, c0, rfl, h0, hargs⟩ := lrel_cons hargs
 obtain rfl : c0 = [] := by simpa using lrel_nil hargs
 obtain rfl := rel_ptr h0
 exact (bs_any hX hb).mono fun r w' ⟨e, hF⟩ => ⟨_, e, fun g' => .st _ _, trivial, hF⟩
theorem wcloneO_c (l : List By) (hl : l.length ≤ 16777216) : AC Try.prog 39 [.sl .ro (l.map AV.st)] [] (.sl (.own 0) (l.map AV.st)) [.buf l.length 9 1] := by
 cases l with
 | nil =>
  refine AC.emptiesW fun A c => ?_
  refine AC.enter [] [] Try.func39 rfl (by decide) (by decide) (Nat.le_of_ble_eq_true rfl) (by kernel_rfl) ?_; simp only [eraseC, eraseG, eraseO, List.map_cons, List.map_nil, List.map_toArray, List.getElem?_toArray, List.getElem?_cons_zero, List.getElem?_cons_succ, Option.bind_some, Option.bind_none, List.append_eq, List.cons_append, List.nil_append]
  cases A with
  | none =>
   refine run ?_
   exact ends_retW _ _ (Weak.reserve 0 2 (es := []) rfl 9 1) [0] (by rfl) (subOk_one 0 (by rfl) (by rfl)) (by rfl) (by rfl) (by rfl)
  | some A =>
   refine run ?_
   exact ends_ret [0] (by rfl) (subOk_one 0 (by rfl) (by rfl)) (by rfl) (by rfl) (by rfl)
 | cons x l =>
  have hs1 : allSz 1 ((x :: l).map AV.st) = true := allSz_map 1 AV.st (fun _ => rfl) _
  have hl' : l.length ≤ 16777216 := by simp only [List.length_cons] at hl; omega
  simp only [List.map_cons] at hs1 ⊢
  refine AC.enter [] [] Try.func39 rfl (by decide) (by decide) (Nat.le_of_ble_eq_true rfl) (by kernel_rfl) ?_; simp only [eraseC, eraseG, eraseO, List.map_cons, List.map_nil, List.map_toArray, List.getElem?_toArray, List.getElem?_cons_zero, List.getElem?_cons_succ, Option.bind_some, Option.bind_none, List.append_eq, List.cons_append, List.nil_append]
  refine runf @hs1 ?_
  exact ends_ret [0] (by rfl) (subOk_one 0 (by rfl) (by rfl)) (by rfl) (by rfl) (by rfl)
theorem wcloneO_at (l : List By) (hl : l.length ≤ 16777216) (T : Store) : AC Try.prog 39 [.sl .ro (l.map AV.st)] T (.sl (.own T.length) (l.map AV.st)) (T ++ [.buf l.length 9 1]) :=
 AC.fresh1 (wcloneO_c l hl) (by rfl) (by rfl) (by rfl) T
theorem rec1_le (s : By) (h : s.length ≤ 1048576) : (rec1 s).length ≤ 1048600 := by
 have h1 := num_le 8 s.length (by omega)
 have h2 := ck_len s
 simp only [rec1, List.length_append]
 omega
theorem recs_le : ∀ (l : List By), okL l → (recs l).length ≤ l.length * 1048600
 | [], _ => by simp [recs]
 | s :: l, h => by
  have h1 := recs_le l (fun x hx => h x (by simp [hx]))
  have h2 := rec1_le s (h s (by simp))
  rw [recs_cons, List.length_append, List.length_cons]
  omega
theorem lg_one (d : Dk) (f : Int) (rows : List By) (o : SObj) : SubOk (List.range 3) (LG d f rows ++ [o]) (LG d f rows) := subOk_pre (S := LG d f rows) (T := [o]) 3 rfl rfl
abbrev LW (d : Dk) (f : Int) (rows : List By) (n : Nat) : Store := [XD d, .cells [.ptr 0 0, .it .i64 f, .sl (.own 3) (rows.map .st)], .buf n 9 1, .buf rows.length 9 1]
theorem lw_new (d : Dk) (f : Int) (rows : List By) (n : Nat) (o : SObj) : SubOk [0, 1, 2, 4] [XD d, .cells [.ptr 0 0, .it .i64 f, .sl (.own 4) (rows.map .st)], .buf n 9 1, o, .buf rows.length 9 1] (LW d f rows n) := ⟨by decide, rfl, fun i o hi => by
 match i, hi with
 | 0, hi => cases hi; exact ⟨rfl, rfl⟩
 | 1, hi => cases hi; exact ⟨rfl, rfl⟩
 | 2, hi => cases hi; exact ⟨rfl, rfl⟩
 | 3, hi => cases hi; exact ⟨rfl, rfl⟩⟩
theorem wrew_c (d : Dk) (f : Int) (rows l : List By) (hf : 0 ≤ f ∧ f ≤ 6) (hl : l.length ≤ 16777216) (S' : Store)
  (h0 : (rewriteD d f l).1 = 0 → S' = LW (rewriteD d f l).2 f l rows.length) (h1 : (rewriteD d f l).1 ≠ 0 → S' = LG (rewriteD d f l).2 f rows) :
  AC Try.prog 16 [.ptr 1 0, .sl .ro (l.map .st)] (LG d f rows) (.it .i64 (rewriteD d f l).1) S' := by
 refine AC.enter4 [36] [] [(16, ([1], [42, 46], []))] [] Try.func16 rfl (by decide) (by decide) (Nat.le_of_ble_eq_true rfl) (by kernel_rfl) ?_; simp only [eraseC, eraseG, eraseO, List.map_cons, List.map_nil, List.map_toArray, List.getElem?_toArray, List.getElem?_cons_zero, List.getElem?_cons_succ, Option.bind_some, Option.bind_none, List.append_eq, List.cons_append, List.nil_append, eraseC4, eraseC3, hasSp, ordOf, List.isEmpty_nil, List.isEmpty_cons, Bool.and_true, Bool.and_false, Bool.and_self, Bool.false_and, Bool.true_and, List.lookup, Nat.reduceBEq, beq_self_eq_true, Option.isSome_some, Option.isSome_none, Bool.or_true, Bool.true_or, Bool.or_false, Bool.not_true, Bool.not_false, Bool.false_eq_true, if_true, if_false, ↓reduceIte, List.size_toArray, List.length_cons, List.length_nil, List.range_succ_eq_map, List.range_zero, Nat.reduceAdd, List.filterMap_cons, List.filterMap_nil]
 have hrw : rewriteD d f l = (if ∃ s ∈ l, 1048576 < s.length then (7, d) else
  if (clearD d f).1 ≠ 0 then clearD d f else
  if (appendD (clearD d f).2 (f + 1) (recs l)).1 ≠ 0 then appendD (clearD d f).2 (f + 1) (recs l) else
  if (flushD (appendD (clearD d f).2 (f + 1) (recs l)).2 (f + 1)).1 ≠ 0 then flushD (appendD (clearD d f).2 (f + 1) (recs l)).2 (f + 1) else
  turnD (flushD (appendD (clearD d f).2 (f + 1) (recs l)).2 (f + 1)).2 f (f + 1)) := rfl
 have hs1 : allSz 1 (l.map AV.st) = true := allSz_map 1 AV.st (fun _ => rfl) _
 refine run4 ?_
 refine loop_mk (fun m e S => S = LG d f rows ∧ e 0 = .ptr 1 0 ∧ e 1 = .sl .ro (l.map .st) ∧ e 14 = .sl .ro (l.map .st) ∧ e 15 = .it .i64 (l.length : Int) ∧ ∃ k : Nat, e 16 = .it .i64 (k : Int) ∧ k ≤ l.length ∧ okL (l.take k) ∧ m = l.length - k) l.length ⟨rfl, (by first | rfl | (simp only [↓upd_apply, ↓put_some, ↓reduceIte, Nat.reduceEqDiff, ↓argEnv_zero, ↓argEnv_succ, *]; done)), (by first | rfl | (simp only [↓upd_apply, ↓put_some, ↓reduceIte, Nat.reduceEqDiff, ↓argEnv_zero, ↓argEnv_succ, *]; done)), (by first | rfl | (simp only [↓upd_apply, ↓put_some, ↓reduceIte, Nat.reduceEqDiff, ↓argEnv_zero, ↓argEnv_succ, *]; done)), (by first | rfl | (simp only [↓upd_apply, ↓put_some, ↓reduceIte, Nat.reduceEqDiff, ↓argEnv_zero, ↓argEnv_succ, *]; done)), 0, (by first | rfl | (simp only [↓upd_apply, ↓put_some, ↓reduceIte, Nat.reduceEqDiff, ↓argEnv_zero, ↓argEnv_succ, *]; done)), by omega, (fun s hs => by simp at hs), rfl⟩ ?_
 rintro m e S ⟨rfl, s0, s1, s14, s15, k, s16, hk, hok, rfl⟩
 by_cases hlt : k < l.length
 ·have g1 : l[k]? = some l[k] := List.getElem?_eq_getElem hlt
  have hok2 : l[k].length ≤ 1048576 → okL (l.take (k + 1)) := fun h => by
   rw [List.take_succ_eq_append_getElem hlt]
   exact okL_append hok fun x hx => by rw [List.mem_singleton.1 hx]; exact h
  have hbad : 1048576 < l[k].length → ∃ s ∈ l, 1048576 < s.length := fun h => ⟨_, List.getElem_mem hlt, h⟩
  generalize l[k] = x at *
  by_cases hx : 1048576 < x.length
  ·rw [if_pos (hbad hx)] at hrw
   rw [hrw] at h0 h1 ⊢
   obtain rfl := h1 (show (7 : Int) ≠ 0 by decide)
   have e1 : (x.length : Int) > 1048576 := by omega
   refine runf4 (an @s0 (an @s1 (an @s14 (an @s15 (an @s16 (an @g1 (an @hs1 @e1))))))) ?_
   exact ends_ret (List.range 3) (by rfl) (lg_same ..) (by rfl) (by rfl) (by rfl)
  ·have e1 : ¬ ((x.length : Int) > 1048576) := by omega
   refine runf4 (an @s0 (an @s1 (an @s14 (an @s15 (an @s16 (an @g1 (an @hs1 @e1))))))) ?_
   exact round_mk (l.length - (k + 1)) (by omega) ⟨rfl, (by first | rfl | (simp only [↓upd_apply, ↓put_some, ↓reduceIte, Nat.reduceEqDiff, ↓argEnv_zero, ↓argEnv_succ, *]; done)), (by first | rfl | (simp only [↓upd_apply, ↓put_some, ↓reduceIte, Nat.reduceEqDiff, ↓argEnv_zero, ↓argEnv_succ, *]; done)), (by first | rfl | (simp only [↓upd_apply, ↓put_some, ↓reduceIte, Nat.reduceEqDiff, ↓argEnv_zero, ↓argEnv_succ, *]; done)), (by first | rfl | (simp only [↓upd_apply, ↓put_some, ↓reduceIte, Nat.reduceEqDiff, ↓argEnv_zero, ↓argEnv_succ, *]; done)), k + 1, (by first | rfl | (simp only [↓upd_apply, ↓put_some, ↓reduceIte, Nat.reduceEqDiff, ↓argEnv_zero, ↓argEnv_succ, *]; done)), by omega, hok2 (by omega), rfl⟩
 obtain rfl : k = l.length := by omega
 rw [List.take_length] at hok
 rw [if_neg (by rintro ⟨s, h1, h2⟩; have := hok s h1; omega)] at hrw
 refine runf4 (an @s0 (an @s1 (an @s14 (an @s15 @s16)))) ?_
 refine call_mk (clear_c d f rows hf) ?_
 generalize clearD d f = q at *
 obtain ⟨ce, d1⟩ := q
 simp only at hrw ⊢
 by_cases hce : ce = 0
 rotate_left
 ·rw [if_pos hce] at hrw
  rw [hrw] at h0 h1 ⊢
  obtain rfl := h1 hce
  have e3 : (ce != 0) = true := by simpa using hce
  refine runf4 (an @s0 (an @s1 (an @s14 (an @s15 (an @s16 @e3))))) ?_
  exact ends_ret (List.range 3) (by rfl) (lg_same ..) (by rfl) (by rfl) (by rfl)
 subst hce
 rw [if_neg (by simp)] at hrw
 refine runf4 (an @s0 (an @s1 (an @s14 (an @s15 @s16)))) ?_
 refine loop_mk' (fun m e S => e 0 = .ptr 1 0 ∧ e 1 = .sl .ro (l.map .st) ∧ e 8 = .ptr 3 0 ∧ e 29 = .sl .ro (l.map .st) ∧ e 30 = .it .i64 (l.length : Int) ∧ ∃ (k : Nat) (b : By), e 31 = .it .i64 (k : Int) ∧ k ≤ l.length ∧ b = recs (l.take k) ∧ S = LG d1 f rows ++ [XB b] ∧ m = l.length - k) l.length _ _ (Weak.ext 3 3 rfl fresh_b) ⟨(by first | rfl | (simp only [↓upd_apply, ↓put_some, ↓reduceIte, Nat.reduceEqDiff, ↓argEnv_zero, ↓argEnv_succ, *]; done)), (by first | rfl | (simp only [↓upd_apply, ↓put_some, ↓reduceIte, Nat.reduceEqDiff, ↓argEnv_zero, ↓argEnv_succ, *]; done)), (by first | rfl | (simp only [↓upd_apply, ↓put_some, ↓reduceIte, Nat.reduceEqDiff, ↓argEnv_zero, ↓argEnv_succ, *]; done)), (by first | rfl | (simp only [↓upd_apply, ↓put_some, ↓reduceIte, Nat.reduceEqDiff, ↓argEnv_zero, ↓argEnv_succ, *]; done)), (by first | rfl | (simp only [↓upd_apply, ↓put_some, ↓reduceIte, Nat.reduceEqDiff, ↓argEnv_zero, ↓argEnv_succ, *]; done)), 0, [], (by first | rfl | (simp only [↓upd_apply, ↓put_some, ↓reduceIte, Nat.reduceEqDiff, ↓argEnv_zero, ↓argEnv_succ, *]; done)), by omega, rfl, rfl, rfl⟩ ?_
 rintro m e2 S ⟨t0, t1, t8, t29, t30, k, b, t31, hk, hb, rfl, rfl⟩
 by_cases hlt : k < l.length
 ·have g1 : l[k]? = some l[k] := List.getElem?_eq_getElem hlt
  have hx := hok l[k] (List.getElem_mem hlt)
  have hb2 : recs (l.take (k + 1)) = b ++ rec1 l[k] := by rw [List.take_succ_eq_append_getElem hlt, recs_snoc, hb]
  have hbl := recs_le (l.take k) (fun s hs => hok s (List.mem_of_mem_take hs))
  rw [← hb, List.length_take] at hbl
  generalize l[k] = x at *
  have hp := rec1_pos x
  have hr := rec1_le x hx
  refine runf4 (an @t0 (an @t1 (an @t8 (an @t29 (an @t30 (an @t31 (an @g1 @hs1))))))) ?_
  refine cp (record_c x (by omega)) ?_
  refine runf4 @t8 ?_
  refine c1 3 (b_write b (rec1 x) hp (by omega)) ?_
  refine runf4 @t31 ?_
  exact round_mk (l.length - (k + 1)) (by omega) ⟨(by first | rfl | (simp only [↓upd_apply, ↓put_some, ↓reduceIte, Nat.reduceEqDiff, ↓argEnv_zero, ↓argEnv_succ, *]; done)), (by first | rfl | (simp only [↓upd_apply, ↓put_some, ↓reduceIte, Nat.reduceEqDiff, ↓argEnv_zero, ↓argEnv_succ, *]; done)), (by first | rfl | (simp only [↓upd_apply, ↓put_some, ↓reduceIte, Nat.reduceEqDiff, ↓argEnv_zero, ↓argEnv_succ, *]; done)), (by first | rfl | (simp only [↓upd_apply, ↓put_some, ↓reduceIte, Nat.reduceEqDiff, ↓argEnv_zero, ↓argEnv_succ, *]; done)), (by first | rfl | (simp only [↓upd_apply, ↓put_some, ↓reduceIte, Nat.reduceEqDiff, ↓argEnv_zero, ↓argEnv_succ, *]; done)), k + 1, _, (by first | rfl | (simp only [↓upd_apply, ↓put_some, ↓reduceIte, Nat.reduceEqDiff, ↓argEnv_zero, ↓argEnv_succ, *]; done)), by omega, hb2.symm, rfl, rfl⟩
 obtain rfl : k = l.length := by omega
 rw [List.take_length] at hb
 subst hb
 refine runf4 (an @t0 (an @t1 (an @t8 (an @t29 (an @t30 @t31))))) ?_
 have hbl := recs_le l hok
 refine wk0 ?_; refine run4 ?_
 repeat (first | refine k4 ?_ | refine k4r ?_ | (refine a4r ?_; refine runf4 (an @t0 (an @t1 @t8)) ?_) | (refine a4 ?_; refine runf4 (an @t0 (an @t1 @t8)) ?_)); try refine runf4 (an @t0 (an @t1 @t8)) ?_
 refine c1 3 (b_string (recs l) (by omega)) ?_
 generalize recs l = b at *
 repeat (first | refine k4 ?_ | refine k4r ?_ | (refine a4r ?_; refine runf4 (an @t0 (an @t1 @t8)) ?_) | (refine a4 ?_; refine runf4 (an @t0 (an @t1 @t8)) ?_)); try refine runf4 (an @t0 (an @t1 @t8)) ?_
 refine c1 0 (d_append d1 (f + 1) b (by omega)) ?_
 generalize appendD d1 (f + 1) b = q at *
 obtain ⟨ae, d2⟩ := q
 simp only at hrw ⊢
 by_cases hae : ae = 0
 rotate_left
 ·rw [if_pos hae] at hrw
  rw [hrw] at h0 h1 ⊢
  obtain rfl := h1 hae
  have e3 : (ae != 0) = true := by simpa using hae
  repeat (first | refine k4 ?_ | refine k4r ?_ | (refine a4r ?_; refine runf4 (an @t0 (an @t1 (an @t8 @e3))) ?_) | (refine a4 ?_; refine runf4 (an @t0 (an @t1 (an @t8 @e3))) ?_)); try refine runf4 (an @t0 (an @t1 (an @t8 @e3))) ?_
  exact ends_ret (List.range 3) (by rfl) (lg_one ..) (by rfl) (by rfl) (by rfl)
 subst hae
 rw [if_neg (by simp)] at hrw
 repeat (first | refine k4 ?_ | refine k4r ?_ | (refine a4r ?_; refine runf4 (an @t0 (an @t1 @t8)) ?_) | (refine a4 ?_; refine runf4 (an @t0 (an @t1 @t8)) ?_)); try refine runf4 (an @t0 (an @t1 @t8)) ?_
 refine c1 0 (d_flush d2 (f + 1)) ?_
 generalize flushD d2 (f + 1) = q at *
 obtain ⟨fe, d3⟩ := q
 simp only at hrw ⊢
 by_cases hfe : fe = 0
 rotate_left
 ·rw [if_pos hfe] at hrw
  rw [hrw] at h0 h1 ⊢
  obtain rfl := h1 hfe
  have e3 : (fe != 0) = true := by simpa using hfe
  refine runf4 (an @t0 (an @t1 (an @t8 @e3))) ?_
  exact ends_ret (List.range 3) (by rfl) (lg_one ..) (by rfl) (by rfl) (by rfl)
 subst hfe
 rw [if_neg (by simp)] at hrw
 refine runf4 (an @t0 (an @t1 @t8)) ?_
 refine c1 0 (d_turn d3 f (f + 1)) ?_
 generalize turnD d3 f (f + 1) = q at *
 obtain ⟨te, d4⟩ := q
 rw [hrw] at h0 h1 ⊢
 by_cases hte : te = 0
 rotate_left
 ·obtain rfl := h1 hte
  have e3 : (te != 0) = true := by simpa using hte
  refine runf4 (an @t0 (an @t1 (an @t8 @e3))) ?_
  exact ends_ret (List.range 3) (by rfl) (lg_one ..) (by rfl) (by rfl) (by rfl)
 subst hte
 obtain rfl := h0 rfl
 refine runf4 (an @t0 (an @t1 @t8)) ?_
 refine call_mk (wcloneO_at l hl _) ?_
 refine runf4 (an @t0 (an @t1 @t8)) ?_
 exact ends_ret [0, 1, 2, 4] (by rfl) (lw_new ..) (by rfl) (by rfl) (by rfl)
end Go.Proofs.Ytjicccjpooahoaa.Pe
