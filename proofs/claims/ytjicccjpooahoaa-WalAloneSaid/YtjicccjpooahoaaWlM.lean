/- Chapter 10's laws on plain values: WalAlone. -/
import Derived.Test.YtjicccjpooahoaaWlJ
import Derived.Test.YtjicccjpooahoaaPeS2
set_option linter.unusedSectionVars false
set_option linter.unusedVariables false
set_option linter.unusedSimpArgs false
namespace Go.Proofs.Ytjicccjpooahoaa.Pe
open Go Go.RowKit Co Dm Wl
set_option maxRecDepth 100000
set_option maxHeartbeats 4000000
abbrev LG2 (d : Dk) (l m : List By) : Store := [XD d, .cells [.ptr 0 0, .it .i64 ((0 : Nat) : Int), .sl (.own 2) (l.map .st)], .buf l.length 9 1, .cells [.ptr 0 0, .it .i64 ((2 : Nat) : Int), .sl (.own 4) (m.map .st)], .buf m.length 9 1]
theorem lg2_sub (d : Dk) (l m : List By) (o : SObj) : SubOk [0, 1, 2, 3, 5] [XD d, .cells [.ptr 0 0, .it .i64 ((0 : Nat) : Int), .sl (.own 2) (l.map .st)], .buf l.length 9 1, .cells [.ptr 0 0, .it .i64 ((2 : Nat) : Int), .sl (.own 5) (m.map .st)], o, .buf m.length 9 1] (LG2 d l m) := ⟨by decide, rfl, fun i o hi => by
 match i, hi with
 | 0, hi => cases hi; exact ⟨rfl, rfl⟩
 | 1, hi => cases hi; exact ⟨rfl, rfl⟩
 | 2, hi => cases hi; exact ⟨rfl, rfl⟩
 | 3, hi => cases hi; exact ⟨rfl, rfl⟩
 | 4, hi => cases hi; exact ⟨rfl, rfl⟩⟩
theorem alone_c (l m : List By) (hl : l.length ≤ 140737488355328) (hm : m.length ≤ 140737488355328) :
  AC Try.prog 5 [.sl .ro (l.map .st), .sl .ro (m.map .st)] [] (.bo true) [] := by
 refine AC.enter2 [7, 8, 9, 10, 11, 12] [] Try.func5 rfl (by decide) (by decide) (Nat.le_of_ble_eq_true rfl) (by kernel_rfl) ?_; simp only [eraseC, eraseG, eraseO, List.map_cons, List.map_nil, List.map_toArray, List.getElem?_toArray, List.getElem?_cons_zero, List.getElem?_cons_succ, Option.bind_some, Option.bind_none, List.append_eq, List.cons_append, List.nil_append]
 refine run ?_
 refine cp small10_c ?_
 refine run ?_
 refine cp (lbytes_c l hl) ?_
 have hs1 := short_of (l := l)
 have hs2 := short_of (l := m)
 have km := lbytes_c m hm
 generalize bytesN l = n1 at *
 generalize bytesN m = n2 at *
 by_cases bb1 : 1500 < n1
 ·have e1 : (n1 : Int) > 1500 := by omega
  refine runf @e1 ?_
  exact er0
 have e1 : ¬ (n1 : Int) > 1500 := by omega
 obtain ⟨hl30, hsl⟩ := hs1 bb1
 refine runf @e1 ?_
 refine cp km ?_
 by_cases bb2 : 1500 < n2
 ·have e2 : (n2 : Int) > 1500 := by omega
  refine runf @e2 ?_
  exact er0
 have e2 : ¬ (n2 : Int) > 1500 := by omega
 obtain ⟨hm30, hsm⟩ := hs2 bb2
 have hbl := recs_lt hsl
 have hbm := recs_lt hsm
 have okl := okL_short hsl
 have okm := okL_short hsm
 obtain ⟨d1, e3, b1, f1, _, g1⟩ := calm_open dk0_calm (n := 0) (by omega)
 have o1 := openD_ok (f := ((0 : Nat) : Int)) dk0_ok
 have k1 := wopen_ok dk0 ((0 : Nat) : Int) (by decide) (by decide) (by rw [e3])
 rw [e3] at k1 o1
 obtain ⟨d2, e4, b2, f2, _, g2⟩ := calm_open b1 (n := 2) (by omega)
 have o2 := openD_ok (f := ((2 : Nat) : Int)) o1
 have f1' : d1.fs 2 = Fl.none := g1 2 (by omega) (by omega)
 have k2 := wopen_ok d1 ((2 : Nat) : Int) (by decide) (by rw [calm_peek b1 (by omega), f1']; decide) (by rw [e4])
 rw [e4, calm_peek b1 (by omega), f1'] at k2
 rw [e4] at o2
 have f2' : d2.fs 0 = ⟨[], 0⟩ := by rw [g2 0 (by omega) (by omega), f1]; rfl
 have f2 : d2.fs 2 = ⟨[], 0⟩ := by rw [f2, f1']; rfl
 refine runf @e2 ?_
 refine call_mk (AC.newAt d_new _) ?_
 refine run ?_
 refine clo 0 k1 ?_
 refine run ?_
 refine clo 0 k2 ?_
 refine run ?_
 have hsz1 : allSz 1 (l.map AV.st) = true := allSz_map 1 AV.st (fun _ => rfl) _
 refine loop_mk (fun q e S => e 0 = .sl .ro (l.map .st) ∧ e 1 = .sl .ro (m.map .st) ∧ e 5 = .bo true ∧ e 6 = .ptr 0 0 ∧ e 7 = .ptr 1 0 ∧ e 9 = .ptr 3 0 ∧ ∃ (i : Nat) (d : Dk), Wl.Calm d ∧ Dm.Ok d ∧ (d.fs 0).data = recs (l.take i) ∧ d.fs 2 = ⟨recs (m.take i), (recs (m.take i)).length⟩ ∧
  S = LG2 d (l.take i) (m.take i) ∧ e 11 = .it .i64 (i : Int) ∧ i ≤ max l.length m.length ∧ q = max l.length m.length - i) (max l.length m.length) ⟨(by first | rfl | (simp only [↓upd_apply, ↓put_some, ↓reduceIte, Nat.reduceEqDiff, ↓argEnv_zero, ↓argEnv_succ, *]; done)), (by first | rfl | (simp only [↓upd_apply, ↓put_some, ↓reduceIte, Nat.reduceEqDiff, ↓argEnv_zero, ↓argEnv_succ, *]; done)), (by first | rfl | (simp only [↓upd_apply, ↓put_some, ↓reduceIte, Nat.reduceEqDiff, ↓argEnv_zero, ↓argEnv_succ, *]; done)), (by first | rfl | (simp only [↓upd_apply, ↓put_some, ↓reduceIte, Nat.reduceEqDiff, ↓argEnv_zero, ↓argEnv_succ, *]; done)), (by first | rfl | (simp only [↓upd_apply, ↓put_some, ↓reduceIte, Nat.reduceEqDiff, ↓argEnv_zero, ↓argEnv_succ, *]; done)), (by first | rfl | (simp only [↓upd_apply, ↓put_some, ↓reduceIte, Nat.reduceEqDiff, ↓argEnv_zero, ↓argEnv_succ, *]; done)), 0, d2, b2, o2, (by rw [f2']; rfl), (by rw [f2]; rfl), rfl, (by first | rfl | (simp only [↓upd_apply, ↓put_some, ↓reduceIte, Nat.reduceEqDiff, ↓argEnv_zero, ↓argEnv_succ, *]; done)), Nat.zero_le _, rfl⟩ ?_
 rintro q e S ⟨s0, s1, s5, s6, s7, s9, i, d, hc, ho, h0, h2, rfl, s11, hi, rfl⟩
 have em : (if (m.length : Int) > (l.length : Int) then (m.length : Int) else (l.length : Int)) = ((max l.length m.length : Nat) : Int) := by split <;> omega
 by_cases hlt : i < max l.length m.length
 rotate_left
 ·have htl : l.take i = l := List.take_of_length_le (by omega)
  have htm : m.take i = m := List.take_of_length_le (by omega)
  rw [htl] at h0
  rw [htm] at h2
  rw [htl, htm]
  have hrl := (rows_recs okl).1
  have hrm := (rows_recs okm).1
  obtain ⟨d3, e3, b3, f3, _, g3⟩ := calm_open hc (n := 2) (by omega)
  have k3 := wopen_ok d ((2 : Nat) : Int) (by decide) (by rw [calm_peek hc (by omega), h2]; show (recs m).length ≤ _; omega) (by rw [e3])
  rw [e3, calm_peek hc (by omega), h2] at k3
  simp only at k3
  rw [hrm] at k3
  rw [h2] at f3
  simp only at f3
  rw [hrm] at f3
  have f3' : (d3.fs 0).data = recs l := by rw [g3 0 (by omega) (by omega), h0]
  obtain ⟨d4, e4, b4, f4, g4⟩ := calm_flush' b3 (n := 0) (by omega)
  have k4 := wflush_c d3 ((0 : Nat) : Int) l
  rw [e4] at k4
  rw [f3'] at f4
  have f4' : d4.fs 2 = ⟨recs m, (recs m).length⟩ := by rw [g4 2 (by omega), f3]
  have q1 := wall_c d4 ((0 : Nat) : Int) l (by omega)
  have q2 := wall_c d4 ((2 : Nat) : Int) m (by omega)
  have q3 := wlen_c d4 ((2 : Nat) : Int) m
  obtain ⟨b5, f5⟩ := calm_reboot b4 []
  have k5 := d_crash d4 .ro []
  have k6 := d_start (crash d4 [])
  generalize crash d4 [] = d4' at *
  generalize bring d4' = d5 at *
  have f50 := f5 0
  rw [f4, crash_dur] at f50
  have f52 := f5 2
  rw [f4', crash_dur] at f52
  obtain ⟨d6, e6, b6, _, _, g6⟩ := calm_open b5 (n := 0) (by omega)
  have k7 := wopen_ok d5 ((0 : Nat) : Int) (by decide) (by rw [calm_peek b5 (by omega), f50]; show (recs l).length ≤ _; omega) (by rw [e6])
  rw [e6, calm_peek b5 (by omega), f50] at k7
  simp only at k7
  rw [hrl] at k7
  have f62 : d6.fs 2 = ⟨recs m, (recs m).length⟩ := by rw [g6 2 (by omega) (by omega), f52]
  obtain ⟨d7, e7, b7, _⟩ := calm_open b6 (n := 2) (by omega)
  have k8 := wopen_ok d6 ((2 : Nat) : Int) (by decide) (by rw [calm_peek b6 (by omega), f62]; show (recs m).length ≤ _; omega) (by rw [e7])
  rw [e7, calm_peek b6 (by omega), f62] at k8
  simp only at k8
  rw [hrm] at k8
  have q4 := wall_c d7 ((0 : Nat) : Int) l (by omega)
  have q5 := wall_c d7 ((2 : Nat) : Int) m (by omega)
  have t1 := rsame_c l l (by omega) (by omega)
  have t2 := rsame_c m m (by omega) (by omega)
  rw [decide_eq_true rfl] at t1 t2
  have e10 : ¬ (i : Int) < (if (m.length : Int) > (l.length : Int) then (m.length : Int) else (l.length : Int)) := by rw [em]; omega
  clear h0 h2 htl htm hrl hrm e3 b3 f3 g3 f3' e4 b4 f4 g4 f4' b5 f5 f50 f52 e6 b6 g6 f62 e7 b7 hsl hsm hbl hbm okl okm hs1 hs2 bb1 bb2 em hc ho b2 b1 k1 k2 e1 e2 f1 f2 f1' f2' g1 g2 o1 o2 hsz1
  refine runf (an @e10 (an @s0 (an @s1 (an @s5 (an @s6 (an @s7 (an @s9 @s11))))))) ?_
  refine clo 0 k3 ?_
  refine runf (an @s0 (an @s1 (an @s5 (an @s6 (an @s7 (an @s9 @s11)))))) ?_
  refine clg 0 1 2 k4 ?_
  refine runf (an @s0 (an @s1 (an @s5 (an @s6 (an @s7 (an @s9 @s11)))))) ?_
  refine clg 0 1 2 q1 ?_
  refine runf (an @s0 (an @s1 (an @s5 (an @s6 (an @s7 (an @s9 @s11)))))) ?_
  refine cp t1 ?_
  refine runf (an @s0 (an @s1 (an @s5 (an @s6 (an @s7 (an @s9 @s11)))))) ?_
  refine clg 0 3 4 q2 ?_
  refine runf (an @s0 (an @s1 (an @s5 (an @s6 (an @s7 (an @s9 @s11)))))) ?_
  refine cp t2 ?_
  refine runf (an @s0 (an @s1 (an @s5 (an @s6 (an @s7 (an @s9 @s11)))))) ?_
  refine clg 0 5 6 q2 ?_
  refine runf (an @s0 (an @s1 (an @s5 (an @s6 (an @s7 (an @s9 @s11)))))) ?_
  refine cp t2 ?_
  refine runf (an @s0 (an @s1 (an @s5 (an @s6 (an @s7 (an @s9 @s11)))))) ?_
  refine clg 0 5 6 q3 ?_
  refine runf (an @s0 (an @s1 (an @s5 (an @s6 (an @s7 (an @s9 @s11)))))) ?_
  refine c1 0 k5 ?_
  refine runf (an @s0 (an @s1 (an @s5 (an @s6 (an @s7 (an @s9 @s11)))))) ?_
  refine c1 0 k6 ?_
  refine runf (an @s0 (an @s1 (an @s5 (an @s6 (an @s7 (an @s9 @s11)))))) ?_
  refine clo 0 k7 ?_
  refine runf (an @s0 (an @s1 (an @s5 (an @s6 (an @s7 (an @s9 @s11)))))) ?_
  refine clo 0 k8 ?_
  refine runf (an @s0 (an @s1 (an @s5 (an @s6 (an @s7 (an @s9 @s11)))))) ?_
  refine clg 0 7 8 q4 ?_
  refine runf (an @s0 (an @s1 (an @s5 (an @s6 (an @s7 (an @s9 @s11)))))) ?_
  refine cp t1 ?_
  refine runf (an @s0 (an @s1 (an @s5 (an @s6 (an @s7 (an @s9 @s11)))))) ?_
  refine clg 0 9 10 q5 ?_
  refine runf (an @s0 (an @s1 (an @s5 (an @s6 (an @s7 (an @s9 @s11)))))) ?_
  refine cp t2 ?_
  refine runf (an @s0 (an @s1 (an @s5 (an @s6 (an @s7 (an @s9 @s11)))))) ?_
  exact er0
 have e10 : (i : Int) < (if (m.length : Int) > (l.length : Int) then (m.length : Int) else (l.length : Int)) := by rw [em]; omega
 by_cases hil : i < l.length
 ·have g1 : l[i]? = some l[i] := List.getElem?_eq_getElem hil
  have hx := hsl l[i] (List.getElem_mem hil)
  have ht : l.take (i + 1) = l.take i ++ [l[i]] := List.take_succ_eq_append_getElem hil
  have hb1 := recs_lt (l := l.take i) (fun s hs => hsl s (List.mem_of_mem_take hs))
  have hb2 : (l.take i).length ≤ 30 := by rw [List.length_take]; omega
  obtain ⟨d3, a1, a2, a3, a4⟩ := calm_add' hc (n := 0) (by omega) (s := l[i]) (by omega) (by rw [h0]; have := rec1_le l[i] (by omega); omega)
  have ka := wadd_c d ((0 : Nat) : Int) (l.take i) l[i] (by omega) (by omega)
  have o3 := addD_ok (f := ((0 : Nat) : Int)) (s := l[i]) ho
  rw [a1] at ka o3
  simp only [if_true] at ka o3
  rw [← ht] at ka
  have h03 : (d3.fs 0).data = recs (l.take (i + 1)) := by rw [a3, h0, ht, recs_snoc]
  have h23 : d3.fs 2 = ⟨recs (m.take i), (recs (m.take i)).length⟩ := by rw [a4 2 (by omega), h2]
  clear a1 a3 a4
  generalize l[i] = x at *
  have e11 : (i : Int) < (l.length : Int) := by omega
  refine runf (an @e10 (an @s0 (an @s1 (an @s5 (an @s6 (an @s7 (an @s9 (an @s11 (an @e11 (an @g1 @hsz1)))))))))) ?_
  refine clg 0 1 2 ka ?_
  by_cases him : i < m.length
  ·have e12 : (i : Int) < (m.length : Int) := by omega
   have hmt : ∀ s ∈ m.take (i + 1), s.length ≤ 1500 := fun s hs => hsm s (List.mem_of_mem_take hs)
   have hb3 := recs_lt hmt
   have hb4 : (m.take (i + 1)).length ≤ 31 := by rw [List.length_take]; omega
   obtain ⟨d4, c1', c2', c3', _, c5'⟩ := calm_rewrite a2 o3 (n := 2) (by omega) (l := m.take (i + 1)) (okL_short hmt) (by omega)
   have o4 := rewriteD_ok (f := ((2 : Nat) : Int)) (l := m.take (i + 1)) o3
   have kw := wrew_c d3 ((2 : Nat) : Int) (m.take i) (m.take (i + 1)) (by decide) (by omega) (LW d4 ((2 : Nat) : Int) (m.take (i + 1)) (m.take i).length) (fun _ => by rw [c1']) (fun h => by rw [c1'] at h; exact absurd rfl h)
   rw [c1'] at kw o4
   have h04 : (d4.fs 0).data = recs (l.take (i + 1)) := by rw [c5' 0 (by omega) (by omega), h03]
   have q1 : i + 1 ≤ m.length := by omega
   refine runf (an @s0 (an @s1 (an @s5 (an @s6 (an @s7 (an @s9 (an @s11 (an @e12 @q1)))))))) ?_
   refine clw 0 3 4 kw ?_
   refine runf (an @s0 (an @s1 (an @s5 (an @s6 (an @s7 (an @s9 @s11)))))) ?_
   exact round_mk' (max l.length m.length - (i + 1)) _ _ (Weak.sub 0 [0, 1, 2, 3, 5] ((((((((KeepR.nil _ _).cons 0 (.sl .ro (l.map .st)) (.sl .ro (l.map .st)) rfl rfl (by first | rfl | (simp only [↓upd_apply, ↓put_some, ↓reduceIte, Nat.reduceEqDiff, ↓argEnv_zero, ↓argEnv_succ, *]; done))).cons 1 (.sl .ro (m.map .st)) (.sl .ro (m.map .st)) rfl rfl (by first | rfl | (simp only [↓upd_apply, ↓put_some, ↓reduceIte, Nat.reduceEqDiff, ↓argEnv_zero, ↓argEnv_succ, *]; done))).cons 5 (.bo true) (.bo true) rfl rfl (by first | rfl | (simp only [↓upd_apply, ↓put_some, ↓reduceIte, Nat.reduceEqDiff, ↓argEnv_zero, ↓argEnv_succ, *]; done))).cons 6 (.ptr 0 0) (.ptr 0 0) rfl rfl (by first | rfl | (simp only [↓upd_apply, ↓put_some, ↓reduceIte, Nat.reduceEqDiff, ↓argEnv_zero, ↓argEnv_succ, *]; done))).cons 7 (.ptr 1 0) (.ptr 1 0) rfl rfl (by first | rfl | (simp only [↓upd_apply, ↓put_some, ↓reduceIte, Nat.reduceEqDiff, ↓argEnv_zero, ↓argEnv_succ, *]; done))).cons 9 (.ptr 3 0) (.ptr 3 0) rfl rfl (by first | rfl | (simp only [↓upd_apply, ↓put_some, ↓reduceIte, Nat.reduceEqDiff, ↓argEnv_zero, ↓argEnv_succ, *]; done))).cons 11 (.it .i64 ((i + 1 : Nat) : Int)) (.it .i64 ((i + 1 : Nat) : Int)) rfl rfl (by first | rfl | (simp only [↓upd_apply, ↓put_some, ↓reduceIte, Nat.reduceEqDiff, ↓argEnv_zero, ↓argEnv_succ, *]; done))) (lg2_sub d4 _ _ _) rfl) (by omega) ⟨(by first | rfl | (simp only [↓upd_apply, ↓put_some, ↓reduceIte, Nat.reduceEqDiff, ↓argEnv_zero, ↓argEnv_succ, *]; done)), (by first | rfl | (simp only [↓upd_apply, ↓put_some, ↓reduceIte, Nat.reduceEqDiff, ↓argEnv_zero, ↓argEnv_succ, *]; done)), (by first | rfl | (simp only [↓upd_apply, ↓put_some, ↓reduceIte, Nat.reduceEqDiff, ↓argEnv_zero, ↓argEnv_succ, *]; done)), (by first | rfl | (simp only [↓upd_apply, ↓put_some, ↓reduceIte, Nat.reduceEqDiff, ↓argEnv_zero, ↓argEnv_succ, *]; done)), (by first | rfl | (simp only [↓upd_apply, ↓put_some, ↓reduceIte, Nat.reduceEqDiff, ↓argEnv_zero, ↓argEnv_succ, *]; done)), (by first | rfl | (simp only [↓upd_apply, ↓put_some, ↓reduceIte, Nat.reduceEqDiff, ↓argEnv_zero, ↓argEnv_succ, *]; done)), i + 1, d4, c2', o4, h04, c3', rfl, (by first | rfl | (simp only [↓upd_apply, ↓put_some, ↓reduceIte, Nat.reduceEqDiff, ↓argEnv_zero, ↓argEnv_succ, *]; done)), by omega, rfl⟩
  ·have e12 : ¬ (i : Int) < (m.length : Int) := by omega
   have htm : m.take i = m.take (i + 1) := by rw [List.take_of_length_le (by omega), List.take_of_length_le (by omega)]
   rw [htm] at h23
   refine runf (an @s0 (an @s1 (an @s5 (an @s6 (an @s7 (an @s9 (an @s11 @e12))))))) ?_
   exact round_mk (max l.length m.length - (i + 1)) (by omega) ⟨(by first | rfl | (simp only [↓upd_apply, ↓put_some, ↓reduceIte, Nat.reduceEqDiff, ↓argEnv_zero, ↓argEnv_succ, *]; done)), (by first | rfl | (simp only [↓upd_apply, ↓put_some, ↓reduceIte, Nat.reduceEqDiff, ↓argEnv_zero, ↓argEnv_succ, *]; done)), (by first | rfl | (simp only [↓upd_apply, ↓put_some, ↓reduceIte, Nat.reduceEqDiff, ↓argEnv_zero, ↓argEnv_succ, *]; done)), (by first | rfl | (simp only [↓upd_apply, ↓put_some, ↓reduceIte, Nat.reduceEqDiff, ↓argEnv_zero, ↓argEnv_succ, *]; done)), (by first | rfl | (simp only [↓upd_apply, ↓put_some, ↓reduceIte, Nat.reduceEqDiff, ↓argEnv_zero, ↓argEnv_succ, *]; done)), (by first | rfl | (simp only [↓upd_apply, ↓put_some, ↓reduceIte, Nat.reduceEqDiff, ↓argEnv_zero, ↓argEnv_succ, *]; done)), i + 1, d3, a2, o3, h03, h23, (by rw [htm]), (by first | rfl | (simp only [↓upd_apply, ↓put_some, ↓reduceIte, Nat.reduceEqDiff, ↓argEnv_zero, ↓argEnv_succ, *]; done)), by omega, rfl⟩
 ·have e11 : ¬ (i : Int) < (l.length : Int) := by omega
  have h03 : (d.fs 0).data = recs (l.take (i + 1)) := by rw [List.take_of_length_le (by omega)]; rw [List.take_of_length_le (by omega)] at h0; exact h0
  have htl : l.take i = l.take (i + 1) := by rw [List.take_of_length_le (by omega), List.take_of_length_le (by omega)]
  have h23 := h2
  have a2 := hc
  have o3 := ho
  rw [htl]
  clear hc ho h0 h2 htl
  generalize d = d3 at *
  by_cases him : i < m.length
  ·have e12 : (i : Int) < (m.length : Int) := by omega
   have hmt : ∀ s ∈ m.take (i + 1), s.length ≤ 1500 := fun s hs => hsm s (List.mem_of_mem_take hs)
   have hb3 := recs_lt hmt
   have hb4 : (m.take (i + 1)).length ≤ 31 := by rw [List.length_take]; omega
   obtain ⟨d4, c1', c2', c3', _, c5'⟩ := calm_rewrite a2 o3 (n := 2) (by omega) (l := m.take (i + 1)) (okL_short hmt) (by omega)
   have o4 := rewriteD_ok (f := ((2 : Nat) : Int)) (l := m.take (i + 1)) o3
   have kw := wrew_c d3 ((2 : Nat) : Int) (m.take i) (m.take (i + 1)) (by decide) (by omega) (LW d4 ((2 : Nat) : Int) (m.take (i + 1)) (m.take i).length) (fun _ => by rw [c1']) (fun h => by rw [c1'] at h; exact absurd rfl h)
   rw [c1'] at kw o4
   have h04 : (d4.fs 0).data = recs (l.take (i + 1)) := by rw [c5' 0 (by omega) (by omega), h03]
   have q1 : i + 1 ≤ m.length := by omega
   refine runf (an @e10 (an @e11 (an @s0 (an @s1 (an @s5 (an @s6 (an @s7 (an @s9 (an @s11 (an @e12 @q1)))))))))) ?_
   refine clw 0 3 4 kw ?_
   refine runf (an @s0 (an @s1 (an @s5 (an @s6 (an @s7 (an @s9 @s11)))))) ?_
   exact round_mk' (max l.length m.length - (i + 1)) _ _ (Weak.sub 0 [0, 1, 2, 3, 5] ((((((((KeepR.nil _ _).cons 0 (.sl .ro (l.map .st)) (.sl .ro (l.map .st)) rfl rfl (by first | rfl | (simp only [↓upd_apply, ↓put_some, ↓reduceIte, Nat.reduceEqDiff, ↓argEnv_zero, ↓argEnv_succ, *]; done))).cons 1 (.sl .ro (m.map .st)) (.sl .ro (m.map .st)) rfl rfl (by first | rfl | (simp only [↓upd_apply, ↓put_some, ↓reduceIte, Nat.reduceEqDiff, ↓argEnv_zero, ↓argEnv_succ, *]; done))).cons 5 (.bo true) (.bo true) rfl rfl (by first | rfl | (simp only [↓upd_apply, ↓put_some, ↓reduceIte, Nat.reduceEqDiff, ↓argEnv_zero, ↓argEnv_succ, *]; done))).cons 6 (.ptr 0 0) (.ptr 0 0) rfl rfl (by first | rfl | (simp only [↓upd_apply, ↓put_some, ↓reduceIte, Nat.reduceEqDiff, ↓argEnv_zero, ↓argEnv_succ, *]; done))).cons 7 (.ptr 1 0) (.ptr 1 0) rfl rfl (by first | rfl | (simp only [↓upd_apply, ↓put_some, ↓reduceIte, Nat.reduceEqDiff, ↓argEnv_zero, ↓argEnv_succ, *]; done))).cons 9 (.ptr 3 0) (.ptr 3 0) rfl rfl (by first | rfl | (simp only [↓upd_apply, ↓put_some, ↓reduceIte, Nat.reduceEqDiff, ↓argEnv_zero, ↓argEnv_succ, *]; done))).cons 11 (.it .i64 ((i + 1 : Nat) : Int)) (.it .i64 ((i + 1 : Nat) : Int)) rfl rfl (by first | rfl | (simp only [↓upd_apply, ↓put_some, ↓reduceIte, Nat.reduceEqDiff, ↓argEnv_zero, ↓argEnv_succ, *]; done))) (lg2_sub d4 _ _ _) rfl) (by omega) ⟨(by first | rfl | (simp only [↓upd_apply, ↓put_some, ↓reduceIte, Nat.reduceEqDiff, ↓argEnv_zero, ↓argEnv_succ, *]; done)), (by first | rfl | (simp only [↓upd_apply, ↓put_some, ↓reduceIte, Nat.reduceEqDiff, ↓argEnv_zero, ↓argEnv_succ, *]; done)), (by first | rfl | (simp only [↓upd_apply, ↓put_some, ↓reduceIte, Nat.reduceEqDiff, ↓argEnv_zero, ↓argEnv_succ, *]; done)), (by first | rfl | (simp only [↓upd_apply, ↓put_some, ↓reduceIte, Nat.reduceEqDiff, ↓argEnv_zero, ↓argEnv_succ, *]; done)), (by first | rfl | (simp only [↓upd_apply, ↓put_some, ↓reduceIte, Nat.reduceEqDiff, ↓argEnv_zero, ↓argEnv_succ, *]; done)), (by first | rfl | (simp only [↓upd_apply, ↓put_some, ↓reduceIte, Nat.reduceEqDiff, ↓argEnv_zero, ↓argEnv_succ, *]; done)), i + 1, d4, c2', o4, h04, c3', rfl, (by first | rfl | (simp only [↓upd_apply, ↓put_some, ↓reduceIte, Nat.reduceEqDiff, ↓argEnv_zero, ↓argEnv_succ, *]; done)), by omega, rfl⟩
  ·omega
end Go.Proofs.Ytjicccjpooahoaa.Pe
