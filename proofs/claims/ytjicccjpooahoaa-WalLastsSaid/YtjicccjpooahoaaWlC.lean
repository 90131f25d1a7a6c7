/- Package wal on plain values: a log's functions. -/
import Derived.Test.YtjicccjpooahoaaWlB
import Derived.Test.YtjicccjpooahoaaWlQ
set_option linter.unusedSectionVars false
set_option linter.unusedVariables false
set_option linter.unusedSimpArgs false
namespace Go.Proofs.Ytjicccjpooahoaa.Pe
open Go Go.RowKit Co Dm Wl
set_option maxRecDepth 100000
set_option maxHeartbeats 4000000
theorem subOk_same {S1 S : Store} (n : Nat) (h : S1 = S) (hn : S.length = n) (hk : S.all (SObj.ok n) = true) : SubOk (List.range n) S1 S := by
 subst h
 have := subOk_pre (T := []) n hn hk
 rwa [List.append_nil] at this
abbrev LG (d : Dk) (f : Int) (rows : List By) : Store := [XD d, .cells [.ptr 0 0, .it .i64 f, .sl (.own 2) (rows.map .st)], .buf rows.length 9 1]
theorem clear_c (d : Dk) (f : Int) (rows : List By) (hf : 0 ≤ f ∧ f ≤ 6) : AC Try.prog 33 [.ptr 1 0] (LG d f rows) (.it .i64 (clearD d f).1) (LG (clearD d f).2 f rows) := by
 refine AC.enter2 [] [19] Try.func33 rfl (by decide) (by decide) (Nat.le_of_ble_eq_true rfl) (by kernel_rfl) ?_; simp only [eraseC, eraseG, eraseO, List.map_cons, List.map_nil, List.map_toArray, List.getElem?_toArray, List.getElem?_cons_zero, List.getElem?_cons_succ, Option.bind_some, Option.bind_none, List.append_eq, List.cons_append, List.nil_append]
 have hcl : clearD d f = (if size d (f + 1) = 0 then (0, d) else cutD d (f + 1) 0) := rfl
 refine run ?_
 refine c1r 0 (d_size d (f + 1)) ?_
 by_cases hz : size d (f + 1) = 0
 ·rw [if_pos hz] at hcl
  rw [hcl]
  have e1 : ((size d (f + 1) : Int) == 0) = true := by rw [hz]; rfl
  refine runf @e1 ?_
  exact ends_ret (List.range 3) (by rfl) (subOk_pre (S := LG d f rows) (T := []) 3 rfl (by rfl)) (by rfl) (by rfl) (by rfl)
 ·rw [if_neg hz] at hcl
  rw [hcl]
  have e1 : ((size d (f + 1) : Int) == 0) = false := by simp; omega
  refine runf @e1 ?_
  refine c1 0 (d_cut d (f + 1) 0) ?_
  refine run ?_
  exact ends_ret (List.range 3) (by rfl) (subOk_pre (S := LG (cutD d (f + 1) 0).2 f rows) (T := []) 3 rfl (by rfl)) (by rfl) (by rfl) (by rfl)
theorem records_at (s : By) (T : Store) : AC Try.prog 31 [.st s] T (.fn (.func 43) [] [.ptr T.length 0]) (T ++ [.cells [.st s]]) := by
 have := AC.fresh1 (records_c s) rfl (by rfl) (by rfl) T
 simpa [AV.ren, AV.r2, AV.r1, AV.r0, SObj.ren] using this
abbrev LO (d : Dk) (f : Int) (rows : List By) (o2 o3 o4 o6 : SObj) : Store := [XD d, .cells [.ptr 0 0, .it .i64 f, .sl (.own 5) (rows.map .st)], o2, o3, o4, .buf rows.length 9 1, o6]
theorem lo_sub (d : Dk) (f : Int) (rows : List By) (o2 o3 o4 o6 : SObj) : SubOk [0, 1, 5] (LO d f rows o2 o3 o4 o6) (LG d f rows) := ⟨by decide, rfl, fun i o hi => by
 match i, hi with
 | 0, hi => cases hi; exact ⟨rfl, rfl⟩
 | 1, hi => cases hi; exact ⟨rfl, rfl⟩
 | 2, hi => cases hi; exact ⟨rfl, rfl⟩⟩
theorem clear_at (d : Dk) (f : Int) (rows : List By) (hf : 0 ≤ f ∧ f ≤ 6) (o2 o3 o4 o6 : SObj) : AC Try.prog 33 [.ptr 1 0] (LO d f rows o2 o3 o4 o6) (.it .i64 (clearD d f).1) (LO (clearD d f).2 f rows o2 o3 o4 o6) :=
 (clear_c d f rows hf).frame (T := LO d f rows o2 o3 o4 o6) [0, 1, 5] (lo_sub ..) rfl rfl (fun i o hi => by
  match i, hi with
  | 0, hi => cases hi; rfl
  | 1, hi => cases hi; rfl
  | 2, hi => cases hi; rfl)
theorem wopen_c (d : Dk) (f : Int) (hf : 0 ≤ f ∧ f ≤ 6) (hb : (peek d f).1.length ≤ 16777216) (v : AV) (S' : Store)
  (h0 : (openD d f).1 = 0 → v = .tup [.ptr 1 0, .it .i64 0] ∧ S' = LG (openD d f).2 f (rowsOf (peek d f).1))
  (h1 : (openD d f).1 ≠ 0 → v = .tup [.ot (.pointer none), .it .i64 (openD d f).1] ∧ S' = [XD (openD d f).2]) :
  AC Try.prog 15 [.ptr 0 0, .it .i64 f] [XD d] v S' := by
 refine AC.enterN 76 [] [] Try.func15 rfl (by decide) (by decide) (Nat.le_of_ble_eq_true rfl) (by kernel_rfl) rfl ?_; simp only [eraseC, eraseG, eraseO, List.map_cons, List.map_nil, List.map_toArray, List.getElem?_toArray, List.getElem?_cons_zero, List.getElem?_cons_succ, Option.bind_some, Option.bind_none, List.append_eq, List.cons_append, List.nil_append]
 have hod : openD d f = (if (peek d f).2 ≠ 0 then ((peek d f).2, d) else
  if (trimD d f).1 ≠ 0 then trimD d f else
  if (clearD (trimD d f).2 f).1 ≠ 0 then clearD (trimD d f).2 f else
  flushD (clearD (trimD d f).2 f).2 f) := rfl
 have htr : trimD d f = (if (recs (rowsOf (peek d f).1)).length < (peek d f).1.length then cutD d f ((recs (rowsOf (peek d f).1)).length : Int) else (0, d)) := rfl
 have hn1 : ¬ f < 0 := by omega
 have hn2 : ¬ 6 < f := by omega
 have kr := d_read d f
 generalize (peek d f).1 = b at *
 generalize (peek d f).2 = en at *
 refine runf (an @hn1 @hn2) ?_
 refine c1 0 kr ?_
 by_cases hen : en = 0
 rotate_left
 ·rw [if_pos hen] at hod
  rw [hod] at h0 h1
  obtain ⟨rfl, rfl⟩ := h1 hen
  have e1 : (en != 0) = true := by simpa using hen
  refine runf @e1 ?_
  exact ends_ret (List.range 1) (by rfl) (subOk_pre (S := [XD d]) (T := []) 1 rfl (by rfl)) (by rfl) (by rfl) (by rfl)
 rw [if_neg (by simpa using hen)] at hod
 subst hen
 refine run ?_
 refine call_mk (records_at b _) ?_
 refine run ?_
 refine ⟨_, _, (Weak.keep 1 ((((((Keep.nil _).cons 0 (.ptr 0 0) (by first | rfl | (simp only [↓upd_apply, ↓put_some, ↓reduceIte, Nat.reduceEqDiff, ↓argEnv_zero, ↓argEnv_succ, *]; done))).cons 1 (.it .i64 f) (by first | rfl | (simp only [↓upd_apply, ↓put_some, ↓reduceIte, Nat.reduceEqDiff, ↓argEnv_zero, ↓argEnv_succ, *]; done))).cons 6 (.st b) (by first | rfl | (simp only [↓upd_apply, ↓put_some, ↓reduceIte, Nat.reduceEqDiff, ↓argEnv_zero, ↓argEnv_succ, *]; done))).cons 8 (.ptr 2 0) (by first | rfl | (simp only [↓upd_apply, ↓put_some, ↓reduceIte, Nat.reduceEqDiff, ↓argEnv_zero, ↓argEnv_succ, *]; done))).cons 9 (.ptr 3 0) (by first | rfl | (simp only [↓upd_apply, ↓put_some, ↓reduceIte, Nat.reduceEqDiff, ↓argEnv_zero, ↓argEnv_succ, *]; done)) |>.cons 39 (.fn (.func 43) [] [.ptr 4 0]) (by first | rfl | (simp only [↓upd_apply, ↓put_some, ↓reduceIte, Nat.reduceEqDiff, ↓argEnv_zero, ↓argEnv_succ, *]; done)))).trans2 (Weak.reserveN 1 1 2 (es := []) (by rfl) (by rfl) 9 1), ?_⟩
 have hEok : (envL 76 (upd (upd (upd (upd (upd (upd (fun _ => .junk) 0 (.ptr 0 0)) 1 (.it .i64 f)) 6 (.st b)) 8 (.ptr 2 0)) 9 (.ptr 3 0)) 39 (.fn (.func 43) [] [.ptr 4 0]))).all (AV.ok 7) = true := by rfl
 have hEok8 : (envL 76 (upd (upd (upd (upd (upd (upd (fun _ => .junk) 0 (.ptr 0 0)) 1 (.it .i64 f)) 6 (.st b)) 8 (.ptr 2 0)) 9 (.ptr 3 0)) 39 (.fn (.func 43) [] [.ptr 4 0]))).all (AV.ok 8) = true := by rfl
 have s0 : upd (upd (upd (upd (upd (upd (fun _ => .junk) 0 (.ptr 0 0)) 1 (.it .i64 f)) 6 (.st b)) 8 (.ptr 2 0)) 9 (.ptr 3 0)) 39 (.fn (.func 43) [] [.ptr 4 0]) 0 = .ptr 0 0 := rfl
 have s1 : upd (upd (upd (upd (upd (upd (fun _ => .junk) 0 (.ptr 0 0)) 1 (.it .i64 f)) 6 (.st b)) 8 (.ptr 2 0)) 9 (.ptr 3 0)) 39 (.fn (.func 43) [] [.ptr 4 0]) 1 = .it .i64 f := rfl
 have s6 : upd (upd (upd (upd (upd (upd (fun _ => .junk) 0 (.ptr 0 0)) 1 (.it .i64 f)) 6 (.st b)) 8 (.ptr 2 0)) 9 (.ptr 3 0)) 39 (.fn (.func 43) [] [.ptr 4 0]) 6 = .st b := rfl
 have s8 : upd (upd (upd (upd (upd (upd (fun _ => .junk) 0 (.ptr 0 0)) 1 (.it .i64 f)) 6 (.st b)) 8 (.ptr 2 0)) 9 (.ptr 3 0)) 39 (.fn (.func 43) [] [.ptr 4 0]) 8 = .ptr 2 0 := rfl
 have s9 : upd (upd (upd (upd (upd (upd (fun _ => .junk) 0 (.ptr 0 0)) 1 (.it .i64 f)) 6 (.st b)) 8 (.ptr 2 0)) 9 (.ptr 3 0)) 39 (.fn (.func 43) [] [.ptr 4 0]) 9 = .ptr 3 0 := rfl
 have s39 : upd (upd (upd (upd (upd (upd (fun _ => .junk) 0 (.ptr 0 0)) 1 (.it .i64 f)) 6 (.st b)) 8 (.ptr 2 0)) 9 (.ptr 3 0)) 39 (.fn (.func 43) [] [.ptr 4 0]) 39 = .fn (.func 43) [] [.ptr 4 0] := rfl
 generalize (upd (upd (upd (upd (upd (upd (fun _ => .junk) 0 (.ptr 0 0)) 1 (.it .i64 f)) 6 (.st b)) 8 (.ptr 2 0)) 9 (.ptr 3 0)) 39 (.fn (.func 43) [] [.ptr 4 0])) = E at *
 refine ARF_mk (show ev E (.tmp 39) = _ from s39) (.tup []) [XD d, .cells [.ptr 0 0, .it .i64 f, .sl (.own 5) ((rowsOf b).map .st)], .cells [.ptr 1 0], .cells [.it .i64 ((recs (rowsOf b)).length : Int)], .cells [.st b], .buf (rowsOf b).length 9 1] [] rfl ?_ ?_
 ·intro bk D fn
  refine iter_c b hb bk (XD d) (.cells [.ptr 1 0]) (.loop bk D fn (envL 76 E) _ _ _ .ready) (fun rows => .cells [.ptr 0 0, .it .i64 f, .sl (.own 5) (rows.map .st)]) (fun rows => .buf rows.length 9 1) (fun v => .cells [.it .i64 v]) (fun rows v => ?_) ?_
  ·show (true && (true && (true && (true && (true && (true && ((envL 76 E).all (AV.ok 7) && true))))))) = true
   rw [hEok]
   rfl
  intro rows v en s x hr hs
  have f1 : (rows ++ [s]).map AV.st = rows.map .st ++ [.st s] := List.map_append ..
  have f2 : (rows ++ [s]).length = rows.length + 1 := by simp
  simp only [f1, f2]
  refine AYB.enter4 (es := envL 76 E) [] [] [(11, ([2], [42, 43], []))] [] 6 rfl rfl (by intro p hp; simp at hp; rcases hp with rfl | rfl <;> simp [envL]) rfl (by kernel_rfl) (by kernel_rfl) rfl ?_
  have a8 : argEnv (envL 76 E) 8 = .ptr 2 0 := (argEnv_envL E (by omega)).trans s8
  have a9 : argEnv (envL 76 E) 9 = .ptr 3 0 := (argEnv_envL E (by omega)).trans s9
  simp only [eraseC, eraseG, eraseO, List.map_cons, List.map_nil, List.map_toArray, List.getElem?_toArray, List.getElem?_cons_zero, List.getElem?_cons_succ, Option.bind_some, Option.bind_none, List.append_eq, List.cons_append, List.nil_append, putE_cons, putE_nil]
  refine run ?_
  refine ⟨rfl, ?_⟩
  simp only [eraseC, eraseG, eraseO, List.map_cons, List.map_nil, List.map_toArray, List.getElem?_toArray, List.getElem?_cons_zero, List.getElem?_cons_succ, Option.bind_some, Option.bind_none, List.append_eq, List.cons_append, List.nil_append, eraseC4, eraseC3, hasSp, ordOf, List.isEmpty_nil, List.isEmpty_cons, Bool.and_true, Bool.and_false, Bool.and_self, Bool.false_and, Bool.true_and, List.lookup, Nat.reduceBEq, beq_self_eq_true, Option.isSome_some, Option.isSome_none, Bool.or_true, Bool.true_or, Bool.or_false, Bool.not_true, Bool.not_false, Bool.false_eq_true, if_true, if_false, ↓reduceIte, List.size_toArray, List.length_cons, List.length_nil, List.range_succ_eq_map, List.range_zero, Nat.reduceAdd, List.filterMap_cons, List.filterMap_nil]
  have hsz : allSz 1 [AV.st s] = true := rfl
  have hft : fits (rows.length + 1) 16 = true := by apply fits_ok <;> omega
  have hlen : (rows.map AV.st).length = rows.length := List.length_map _
  refine runf4 (an @a8 @a9) ?_
  refine ⟨_, _, Weak.keep 8 ((((Keep.nil _).cons 8 (.ptr 2 0) (by first | rfl | (simp only [↓upd_apply, ↓put_some, ↓reduceIte, Nat.reduceEqDiff, ↓argEnv_zero, ↓argEnv_succ, *]; done))).cons 9 (.ptr 3 0) (by first | rfl | (simp only [↓upd_apply, ↓put_some, ↓reduceIte, Nat.reduceEqDiff, ↓argEnv_zero, ↓argEnv_succ, *]; done))).cons 10 (.st s) (by first | rfl | (simp only [↓upd_apply, ↓put_some, ↓reduceIte, Nat.reduceEqDiff, ↓argEnv_zero, ↓argEnv_succ, *]; done)) |>.cons 11 (.it .i64 en) (by first | rfl | (simp only [↓upd_apply, ↓put_some, ↓reduceIte, Nat.reduceEqDiff, ↓argEnv_zero, ↓argEnv_succ, *]; done))), ?_⟩
  refine run4 ?_
  repeat (first | refine k4 ?_ | refine k4r ?_ | (refine a4r ?_; refine runf4 (an @hsz (an @hft @hlen)) ?_) | (refine a4 ?_; refine runf4 (an @hsz (an @hft @hlen)) ?_)); try refine runf4 (an @hsz (an @hft @hlen)) ?_
  refine ⟨_, _, List.range 8, Weak.refl _ _ _, rfl, subOk_same 8 rfl rfl ?_, rfl⟩
  show (true && (true && (true && (true && (true && (true && ((envL 76 E).all (AV.ok 8) && (true && true)))))))) = true
  rw [hEok8]
  rfl
 ·clear hEok hEok8 s39
  generalize hrw : rowsOf b = rows at *
  have one : ∀ (d' : Dk) (o2 o3 o4 o6 : SObj), SubOk [0] (LO d' f rows o2 o3 o4 o6) [XD d'] := fun d' o2 o3 o4 o6 => subOk_one 0 rfl rfl
  by_cases hlt : (recs rows).length < b.length
  ·rw [if_pos hlt] at htr
   have e1 : ((recs rows).length : Int) < (b.length : Int) := by omega
   refine runf (an @s0 (an @s1 (an @s6 (an @s8 (an @s9 @e1))))) ?_
   refine c1 0 (d_cut d f ((recs rows).length : Int)) ?_
   rw [← htr]
   clear htr
   generalize trimD d f = q at *
   obtain ⟨te, d1⟩ := q
   simp only at hod
   by_cases hte : te = 0
   rotate_left
   ·rw [if_pos hte] at hod
    rw [hod] at h0 h1
    obtain ⟨rfl, rfl⟩ := h1 hte
    have e3 : (te != 0) = true := by simpa using hte
    refine runf (an @s0 (an @s1 (an @s6 (an @s8 (an @s9 @e3))))) ?_
    exact ends_ret [0] (by rfl) (one _ _ _ _ _) (by rfl) (by rfl) (by rfl)
   subst hte
   rw [if_neg (by simp)] at hod
   refine runf (an @s0 (an @s1 (an @s6 (an @s8 @s9)))) ?_
   have kc := clear_at d1 f rows hf (.cells [.ptr 1 0]) (.cells [.it .i64 ((recs rows).length : Int)]) (.cells [.st b]) .dead
   refine call_mk kc ?_
   generalize clearD d1 f = q2 at *
   obtain ⟨ce, d2⟩ := q2
   simp only at hod
   by_cases hce : ce = 0
   rotate_left
   ·rw [if_pos hce] at hod
    rw [hod] at h0 h1
    obtain ⟨rfl, rfl⟩ := h1 hce
    have e3 : (ce != 0) = true := by simpa using hce
    refine runf (an @s0 (an @s1 (an @s6 (an @s8 (an @s9 @e3))))) ?_
    exact ends_ret [0] (by rfl) (one _ _ _ _ _) (by rfl) (by rfl) (by rfl)
   subst hce
   rw [if_neg (by simp)] at hod
   refine runf (an @s0 (an @s1 (an @s6 (an @s8 @s9)))) ?_
   have kf := d_flush d2 f
   refine c1 0 kf ?_
   generalize flushD d2 f = q3 at *
   obtain ⟨fe, d3⟩ := q3
   rw [hod] at h0 h1
   simp only at h0 h1
   by_cases hfe : fe = 0
   rotate_left
   ·obtain ⟨rfl, rfl⟩ := h1 hfe
    have e3 : (fe != 0) = true := by simpa using hfe
    refine runf (an @s0 (an @s1 (an @s6 (an @s8 (an @s9 @e3))))) ?_
    exact ends_ret [0] (by rfl) (one _ _ _ _ _) (by rfl) (by rfl) (by rfl)
   subst hfe
   obtain ⟨rfl, rfl⟩ := h0 rfl
   refine runf (an @s0 (an @s1 (an @s6 (an @s8 @s9)))) ?_
   exact ends_ret [0, 1, 5] (by rfl) (lo_sub ..) (by rfl) (by rfl) (by rfl)
  ·rw [if_neg hlt] at htr
   have e1 : ¬ ((recs rows).length : Int) < (b.length : Int) := by omega
   refine runf (an @s0 (an @s1 (an @s6 (an @s8 (an @s9 @e1))))) ?_
   generalize trimD d f = q at *
   subst htr
   simp only at hod
   rw [if_neg (by simp)] at hod
   generalize d = d1 at *
   have kc := clear_at d1 f rows hf (.cells [.ptr 1 0]) (.cells [.it .i64 ((recs rows).length : Int)]) (.cells [.st b]) .dead
   refine call_mk kc ?_
   generalize clearD d1 f = q2 at *
   obtain ⟨ce, d2⟩ := q2
   simp only at hod
   by_cases hce : ce = 0
   rotate_left
   ·rw [if_pos hce] at hod
    rw [hod] at h0 h1
    obtain ⟨rfl, rfl⟩ := h1 hce
    have e3 : (ce != 0) = true := by simpa using hce
    refine runf (an @s0 (an @s1 (an @s6 (an @s8 (an @s9 @e3))))) ?_
    exact ends_ret [0] (by rfl) (one _ _ _ _ _) (by rfl) (by rfl) (by rfl)
   subst hce
   rw [if_neg (by simp)] at hod
   refine runf (an @s0 (an @s1 (an @s6 (an @s8 @s9)))) ?_
   have kf := d_flush d2 f
   refine c1 0 kf ?_
   generalize flushD d2 f = q3 at *
   obtain ⟨fe, d3⟩ := q3
   rw [hod] at h0 h1
   simp only at h0 h1
   by_cases hfe : fe = 0
   rotate_left
   ·obtain ⟨rfl, rfl⟩ := h1 hfe
    have e3 : (fe != 0) = true := by simpa using hfe
    refine runf (an @s0 (an @s1 (an @s6 (an @s8 (an @s9 @e3))))) ?_
    exact ends_ret [0] (by rfl) (one _ _ _ _ _) (by rfl) (by rfl) (by rfl)
   subst hfe
   obtain ⟨rfl, rfl⟩ := h0 rfl
   refine runf (an @s0 (an @s1 (an @s6 (an @s8 @s9)))) ?_
   exact ends_ret [0, 1, 5] (by rfl) (lo_sub ..) (by rfl) (by rfl) (by rfl)
end Go.Proofs.Ytjicccjpooahoaa.Pe
