/- Package wal on plain values: a log in a larger store. -/
import Derived.Test.YtjicccjpooahoaaWlG
import Derived.Test.YtjicccjpooahoaaWlF
import Derived.Test.YtjicccjpooahoaaWlT
set_option linter.unusedSectionVars false
set_option linter.unusedVariables false
set_option linter.unusedSimpArgs false
namespace Go.Proofs.Ytjicccjpooahoaa.Pe
open Go Go.RowKit Co Dm Wl
set_option maxRecDepth 100000
set_option maxHeartbeats 4000000
theorem wopen_ok (d : Dk) (f : Int) (hf : 0 ≤ f ∧ f ≤ 6) (hb : (peek d f).1.length ≤ 16777216) (h : (openD d f).1 = 0) :
  AC Try.prog 15 [.ptr 0 0, .it .i64 f] [XD d] (.tup [.ptr 1 0, .it .i64 0]) (LG (openD d f).2 f (rowsOf (peek d f).1)) :=
 wopen_c d f hf hb _ _ (fun _ => ⟨rfl, rfl⟩) (fun h' => absurd h h')
theorem wopen_ko (d : Dk) (f : Int) (hf : 0 ≤ f ∧ f ≤ 6) (hb : (peek d f).1.length ≤ 16777216) (h : (openD d f).1 ≠ 0) :
  AC Try.prog 15 [.ptr 0 0, .it .i64 f] [XD d] (.tup [.ot (.pointer none), .it .i64 (openD d f).1]) [XD (openD d f).2] :=
 wopen_c d f hf hb _ _ (fun h' => absurd h' h) (fun _ => ⟨rfl, rfl⟩)
theorem wopen_nil (f : Int) : AC Try.prog 15 [.ot (.pointer none), .it .i64 f] [] (.tup [.ot (.pointer none), .it .i64 1]) [] := by
 refine AC.enterN 76 [] [] Try.func15 rfl (by decide) (by decide) (Nat.le_of_ble_eq_true rfl) (by kernel_rfl) rfl ?_; simp only [eraseC, eraseG, eraseO, List.map_cons, List.map_nil, List.map_toArray, List.getElem?_toArray, List.getElem?_cons_zero, List.getElem?_cons_succ, Option.bind_some, Option.bind_none, List.append_eq, List.cons_append, List.nil_append]
 refine run ?_
 exact er0
theorem wopen_bad (d : Dk) (f : Int) (hf : ¬ (0 ≤ f ∧ f ≤ 6)) : AC Try.prog 15 [.ptr 0 0, .it .i64 f] [XD d] (.tup [.ot (.pointer none), .it .i64 1]) [XD d] := by
 refine AC.enterN 76 [] [] Try.func15 rfl (by decide) (by decide) (Nat.le_of_ble_eq_true rfl) (by kernel_rfl) rfl ?_; simp only [eraseC, eraseG, eraseO, List.map_cons, List.map_nil, List.map_toArray, List.getElem?_toArray, List.getElem?_cons_zero, List.getElem?_cons_succ, Option.bind_some, Option.bind_none, List.append_eq, List.cons_append, List.nil_append]
 by_cases h0 : f < 0
 ·refine runf @h0 ?_
  exact er1
 ·have h1 : f > 6 := by omega
  refine runf (an @h0 @h1) ?_
  exact er1
section
variable {P : Program} {pf rf : List FuncId} {e : Env} {f : FuncId} {dst : Option Nat} {rest : List AO} {K : Env → Store → Prop}
theorem lg_ok (d : Dk) (n : Int) (rows : List By) : ∀ (i : Nat) (o : SObj), (LG d n rows)[i]? = some o → o.ok 3 = true := fun i o hi => by
 match i, hi with
 | 0, hi => cases hi; rfl
 | 1, hi => cases hi; rfl
 | 2, hi => cases hi; rfl
theorem lw_ok (d : Dk) (n : Int) (rows : List By) (k : Nat) : ∀ (i : Nat) (o : SObj), (LW d n rows k)[i]? = some o → o.ok 4 = true := fun i o hi => by
 match i, hi with
 | 0, hi => cases hi; rfl
 | 1, hi => cases hi; rfl
 | 2, hi => cases hi; rfl
 | 3, hi => cases hi; rfl
structure LgAt (T : Store) (a b c : Nat) (d : Dk) (n : Int) (rows : List By) : Prop where
 ab : a ≠ b
 ac : a ≠ c
 bc : b ≠ c
 d0 : T[a]? = some (XD d)
 l0 : T[b]? = some (.cells [.ptr a 0, .it .i64 n, .sl (.own c) (rows.map .st)])
 r0 : T[c]? = some (.buf rows.length 9 1)
theorem LgAt.sub {T : Store} {a b c : Nat} {d : Dk} {n : Int} {rows : List By} (h : LgAt T a b c d n rows) : SubOk [a, b, c] T (LG d n rows) := ⟨by simp [h.ab, h.ac, h.bc], rfl, fun i o hi => by
 match i, hi with
 | 0, hi => cases hi; exact ⟨rfl, h.d0⟩
 | 1, hi => cases hi; exact ⟨rfl, h.l0⟩
 | 2, hi => cases hi; exact ⟨rfl, h.r0⟩⟩
theorem AC.lg {args : List AV} {T : Store} {d d' : Dk} {n : Int} {rows rows' : List By} {v : AV} {a b c : Nat} (hl : LgAt T a b c d n rows) (h : AC P f (.ptr 1 0 :: args) (LG d n rows) v (LG d' n rows'))
  (ha : args.all (AV.ok 0) = true) (hv : v.ok 0 = true) : AC P f (.ptr b 0 :: args) T v (((T.set a (XD d')).set b (.cells [.ptr a 0, .it .i64 n, .sl (.own c) (rows'.map .st)])).set c (.buf rows'.length 9 1)) := by
 have ha1 : ∀ u ∈ args, u.ok 3 = true := fun u hu => ok_mono (List.all_eq_true.1 ha u hu) (Nat.zero_le 3)
 have := h.frame (T := T) [a, b, c] hl.sub (by simp only [List.all_cons, Bool.and_eq_true]; exact ⟨rfl, List.all_eq_true.2 ha1⟩) (ok_mono hv (Nat.zero_le 3)) (lg_ok _ _ _)
 rw [List.map_cons, ren_all ha, ren_id hv (fun i hi => absurd hi (Nat.not_lt_zero _))] at this
 simpa [after, setAll, ext, idx, SObj.ren, AV.r1, AV.r0, Mode.ren, AV.ren, AV.r2] using this
theorem AC.lw {args : List AV} {T : Store} {d d' : Dk} {n : Int} {rows rows' : List By} {v : AV} {a b c : Nat} (hl : LgAt T a b c d n rows) (h : AC P f (.ptr 1 0 :: args) (LG d n rows) v (LW d' n rows' rows.length))
  (ha : args.all (AV.ok 0) = true) (hv : v.ok 0 = true) : AC P f (.ptr b 0 :: args) T v (((T.set a (XD d')).set b (.cells [.ptr a 0, .it .i64 n, .sl (.own T.length) (rows'.map .st)])).set c (.buf rows.length 9 1) ++ [.buf rows'.length 9 1]) := by
 have ha1 : ∀ u ∈ args, u.ok 3 = true := fun u hu => ok_mono (List.all_eq_true.1 ha u hu) (Nat.zero_le 3)
 have := h.frame (T := T) [a, b, c] hl.sub (by simp only [List.all_cons, Bool.and_eq_true]; exact ⟨rfl, List.all_eq_true.2 ha1⟩) (ok_mono hv (Nat.zero_le _)) (lw_ok _ _ _ _)
 rw [List.map_cons, ren_all ha, ren_id hv (fun i hi => absurd hi (Nat.not_lt_zero _))] at this
 simpa [after, setAll, ext, idx, SObj.ren, AV.r1, AV.r0, Mode.ren, AV.ren, AV.r2] using this
theorem AC.lo {T : Store} {d d' : Dk} {n : Int} {rows : List By} {a : Nat} (hT : T[a]? = some (XD d)) (h : AC P f [.ptr 0 0, .it .i64 n] [XD d] (.tup [.ptr 1 0, .it .i64 0]) (LG d' n rows)) :
  AC P f [.ptr a 0, .it .i64 n] T (.tup [.ptr T.length 0, .it .i64 0]) (T.set a (XD d') ++ [.cells [.ptr a 0, .it .i64 n, .sl (.own (T.length + 1)) (rows.map .st)], .buf rows.length 9 1]) := by
 have := h.frame (T := T) [a] (subOk_one a rfl hT) rfl rfl (lg_ok _ _ _)
 simpa [after, setAll, ext, idx, SObj.ren, AV.r1, AV.r0, Mode.ren, AV.ren, AV.r2] using this
theorem clg {args gargs : List AV} {T : Store} {d d' : Dk} {n : Int} {rows rows' : List By} {v : AV} (a b c : Nat) (h : AC P f (.ptr 1 0 :: args) (LG d n rows) v (LG d' n rows'))
  (h' : ARg P pf rf rest (put e dst v) (((T.set a (XD d')).set b (.cells [.ptr a 0, .it .i64 n, .sl (.own c) (rows'.map .st)])).set c (.buf rows'.length 9 1)) K)
  (hl : LgAt T a b c d n rows := by exact ⟨by decide, by decide, by decide, rfl, rfl, rfl⟩) (ha : args.all (AV.ok 0) = true := by rfl) (hv : v.ok 0 = true := by rfl) (hg : gargs.map AV.wk = .ptr b 0 :: args := by rfl) :
  callP (AnyC P f gargs T) (ARgk P pf rf dst rest e K) := call_mk (show AC P f (gargs.map AV.wk) T v _ by rw [hg]; exact AC.lg hl h ha hv) h'
theorem clw {args gargs : List AV} {T : Store} {d d' : Dk} {n : Int} {rows rows' : List By} {v : AV} (a b c : Nat) (h : AC P f (.ptr 1 0 :: args) (LG d n rows) v (LW d' n rows' rows.length))
  (h' : ARg P pf rf rest (put e dst v) (((T.set a (XD d')).set b (.cells [.ptr a 0, .it .i64 n, .sl (.own T.length) (rows'.map .st)])).set c (.buf rows.length 9 1) ++ [.buf rows'.length 9 1]) K)
  (hl : LgAt T a b c d n rows := by exact ⟨by decide, by decide, by decide, rfl, rfl, rfl⟩) (ha : args.all (AV.ok 0) = true := by rfl) (hv : v.ok 0 = true := by rfl) (hg : gargs.map AV.wk = .ptr b 0 :: args := by rfl) :
  callP (AnyC P f gargs T) (ARgk P pf rf dst rest e K) := call_mk (show AC P f (gargs.map AV.wk) T v _ by rw [hg]; exact AC.lw hl h ha hv) h'
theorem clo {gargs : List AV} {T : Store} {d d' : Dk} {n : Int} {rows : List By} (a : Nat) (h : AC P f [.ptr 0 0, .it .i64 n] [XD d] (.tup [.ptr 1 0, .it .i64 0]) (LG d' n rows))
  (h' : ARg P pf rf rest (put e dst (.tup [.ptr T.length 0, .it .i64 0])) (T.set a (XD d') ++ [.cells [.ptr a 0, .it .i64 n, .sl (.own (T.length + 1)) (rows.map .st)], .buf rows.length 9 1]) K)
  (hT : T[a]? = some (XD d) := by rfl) (hg : gargs.map AV.wk = [.ptr a 0, .it .i64 n] := by rfl) :
  callP (AnyC P f gargs T) (ARgk P pf rf dst rest e K) := call_mk (show AC P f (gargs.map AV.wk) T _ _ by rw [hg]; exact AC.lo hT h) h'
end
theorem rowsOf_nil : rowsOf [] = [] := rfl
theorem recs_lt {l : List By} (hb : ∀ s ∈ l, s.length ≤ 1500) : (recs l).length ≤ l.length * 1600 := by
 induction l with
 | nil => simp [recs]
 | cons s l ih =>
  have h1 := ih (fun x hx => hb x (by simp [hx]))
  have h2 := hb s (by simp)
  have h3 := num_le 8 s.length (by omega)
  have h4 := ck_len s
  rw [recs_cons, List.length_append, List.length_cons, rec1, List.length_append, List.length_append]
  omega
theorem file_c (l : List By) (hl : l.length ≤ 60) (hb : ∀ s ∈ l, s.length ≤ 1500) : AC Try.prog 9 [.sl .ro (l.map .st)] [] (.tup [.st (recs l), .bo true]) [] := by
 refine AC.enter2 [] [] Try.func9 rfl (by decide) (by decide) (Nat.le_of_ble_eq_true rfl) (by kernel_rfl) ?_; simp only [eraseC, eraseG, eraseO, List.map_cons, List.map_nil, List.map_toArray, List.getElem?_toArray, List.getElem?_cons_zero, List.getElem?_cons_succ, Option.bind_some, Option.bind_none, List.append_eq, List.cons_append, List.nil_append]
 obtain ⟨d1, e1, h1, h2, h3, h4⟩ := calm_open dk0_calm (n := 0) (by omega)
 have k1 := wopen_ok dk0 ((0 : Nat) : Int) (by decide) (by decide) (by rw [e1])
 rw [e1] at k1
 have hs1 : allSz 1 (l.map AV.st) = true := allSz_map 1 AV.st (fun _ => rfl) _
 refine run ?_
 refine call_mk (AC.newAt d_new _) ?_
 refine run ?_
 refine clo 0 k1 ?_
 refine run ?_
 refine loop_mk (fun m e S => e 0 = .sl .ro (l.map .st) ∧ e 4 = .ptr 0 0 ∧ e 5 = .ptr 1 0 ∧ ∃ (k : Nat) (d : Dk), Wl.Calm d ∧ (d.fs 0).data = recs (l.take k) ∧ S = LG d ((0 : Nat) : Int) (l.take k) ∧ e 7 = .it .i64 (k : Int) ∧ k ≤ l.length ∧ m = l.length - k) l.length ⟨(by first | rfl | (simp only [↓upd_apply, ↓put_some, ↓reduceIte, Nat.reduceEqDiff, ↓argEnv_zero, ↓argEnv_succ, *]; done)), (by first | rfl | (simp only [↓upd_apply, ↓put_some, ↓reduceIte, Nat.reduceEqDiff, ↓argEnv_zero, ↓argEnv_succ, *]; done)), (by first | rfl | (simp only [↓upd_apply, ↓put_some, ↓reduceIte, Nat.reduceEqDiff, ↓argEnv_zero, ↓argEnv_succ, *]; done)), 0, d1, h1, (by rw [h2]; rfl), rfl, (by first | rfl | (simp only [↓upd_apply, ↓put_some, ↓reduceIte, Nat.reduceEqDiff, ↓argEnv_zero, ↓argEnv_succ, *]; done)), by omega, rfl⟩ ?_
 rintro m e S ⟨s0, s4, s5, k, d, hc, hd, rfl, s7, hk, rfl⟩
 by_cases hlt : k < l.length
 rotate_left
 ·obtain rfl : k = l.length := by omega
  rw [List.take_length] at hd
  rw [List.take_length]
  refine runf (an @s0 (an @s4 (an @s5 @s7))) ?_
  have kr := d_read d ((0 : Nat) : Int)
  rw [calm_peek hc (by omega), hd] at kr
  refine c1 0 kr ?_
  refine run ?_
  exact er0
 have g1 : l[k]? = some l[k] := List.getElem?_eq_getElem hlt
 have hx := hb l[k] (List.getElem_mem hlt)
 have ht : l.take (k + 1) = l.take k ++ [l[k]] := List.take_succ_eq_append_getElem hlt
 have hbl := recs_lt (l := l.take k) (fun s hs => hb s (List.mem_of_mem_take hs))
 have hbl2 : (l.take k).length ≤ 60 := by rw [List.length_take]; omega
 have ha := calm_add hc (n := 0) (by omega) (s := l[k]) (by omega) (by rw [hd]; have := rec1_le l[k] (by omega); omega)
 have ka := wadd_c d ((0 : Nat) : Int) (l.take k) l[k] (by omega) (by omega)
 rw [ha] at ka
 simp only [if_true] at ka
 rw [← ht] at ka
 have hr : recs (l.take (k + 1)) = recs (l.take k) ++ rec1 l[k] := by rw [ht, recs_snoc]
 generalize l[k] = x at *
 refine runf (an @s0 (an @s4 (an @s5 (an @s7 (an @g1 @hs1))))) ?_
 refine clg 0 1 2 ka ?_
 refine runf (an @s0 (an @s4 (an @s5 @s7))) ?_
 exact round_mk (l.length - (k + 1)) (by omega) ⟨(by first | rfl | (simp only [↓upd_apply, ↓put_some, ↓reduceIte, Nat.reduceEqDiff, ↓argEnv_zero, ↓argEnv_succ, *]; done)), (by first | rfl | (simp only [↓upd_apply, ↓put_some, ↓reduceIte, Nat.reduceEqDiff, ↓argEnv_zero, ↓argEnv_succ, *]; done)), (by first | rfl | (simp only [↓upd_apply, ↓put_some, ↓reduceIte, Nat.reduceEqDiff, ↓argEnv_zero, ↓argEnv_succ, *]; done)), k + 1, _, calm_set hc _, (by show (Dm.upd _ _ _ _).data = _; rw [Dm.upd_same, hr, hd]), rfl, (by first | rfl | (simp only [↓upd_apply, ↓put_some, ↓reduceIte, Nat.reduceEqDiff, ↓argEnv_zero, ↓argEnv_succ, *]; done)), by omega, rfl⟩
theorem rows_c (b : By) (hb : b.length ≤ 1000000) : AC Try.prog 10 [.st b] [] (.tup [.sl .ro ((rowsOf b).map .st), .it .i64 ((recs (rowsOf b)).length : Int), .bo true]) [] := by
 refine AC.enter2 [] [] Try.func10 rfl (by decide) (by decide) (Nat.le_of_ble_eq_true rfl) (by kernel_rfl) ?_; simp only [eraseC, eraseG, eraseO, List.map_cons, List.map_nil, List.map_toArray, List.getElem?_toArray, List.getElem?_cons_zero, List.getElem?_cons_succ, Option.bind_some, Option.bind_none, List.append_eq, List.cons_append, List.nil_append]
 obtain ⟨d, ha, hc, hf, _⟩ := calm_append' dk0_calm (n := 0) (by omega) (s := b) (by show 0 + b.length ≤ _; omega)
 have hf : d.fs 0 = ⟨b, 0⟩ := hf
 have kd := d_append dk0 ((0 : Nat) : Int) b (by omega)
 rw [ha] at kd
 obtain ⟨d1, e1, h1, h2, h3, h4⟩ := calm_open hc (n := 0) (by omega)
 have k1 := wopen_ok d ((0 : Nat) : Int) (by decide) (by rw [calm_peek hc (by omega), hf]; show b.length ≤ _; omega) (by rw [e1])
 rw [e1, calm_peek hc (by omega), hf] at k1
 rw [hf] at h2
 simp only at k1 h2
 have hrl : (rowsOf b).length ≤ 16777216 := by
  have := congrArg List.length (rows_spec b).1
  rw [List.length_append] at this
  have h5 : ∀ l : List By, l.length ≤ (recs l).length := fun l => by
   induction l with
   | nil => simp [recs]
   | cons s l ih => have := rec1_pos s; rw [recs_cons, List.length_append, List.length_cons]; omega
  have := h5 (rowsOf b)
  omega
 refine run ?_
 refine call_mk (AC.newAt d_new _) ?_
 refine run ?_
 refine c1 0 kd ?_
 refine run ?_
 refine clo 0 k1 ?_
 refine run ?_
 have hsz := calm_size (d := d1) (n := 0) (by omega)
 rw [h2] at hsz
 have kz := d_size d1 ((0 : Nat) : Int)
 rw [hsz] at kz
 refine clg 0 1 2 (wall_c d1 _ (rowsOf b) hrl) ?_
 refine run ?_
 refine c1 0 kz ?_
 refine run ?_
 exact er0
end Go.Proofs.Ytjicccjpooahoaa.Pe
