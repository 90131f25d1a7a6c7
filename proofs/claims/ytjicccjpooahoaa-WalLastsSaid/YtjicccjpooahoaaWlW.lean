/- Chapter 10's laws on plain values: WalLasts. -/
import Derived.Test.YtjicccjpooahoaaWlN
import Derived.Test.YtjicccjpooahoaaWlI
set_option linter.unusedSectionVars false
set_option linter.unusedVariables false
set_option linter.unusedSimpArgs false
namespace Go.Proofs.Ytjicccjpooahoaa.Pe
open Go Go.RowKit Co Dm Wl
set_option maxRecDepth 100000
set_option maxHeartbeats 4000000
theorem WS.dk0 {d1 : Dk} (e : openD dk0 2 = (0, d1)) : WS d1 [] [] := by
 obtain ⟨d2, e3, b3, f3, _, g3⟩ := calm_open dk0_calm (n := 2) (by omega)
 have o1 := openD_ok (f := 2) dk0_ok
 rw [show ((2 : Nat) : Int) = 2 from rfl, e] at e3
 rw [e] at o1
 obtain rfl : d1 = d2 := congrArg Prod.snd e3
 exact ⟨b3.down, o1, by rw [f3]; rfl, fun s hs => absurd hs (by simp), ⟨[], rfl⟩, Nat.zero_le _⟩
theorem lg4_sub (d : Dk) (f : Int) (rows : List By) (o x : SObj) (hx : x.ok 4 = true ∧ x.ren (idx [0, 1, 4, 3]) = x := by exact ⟨rfl, rfl⟩) : SubOk [0, 1, 4, 3] [XD d, .cells [.ptr 0 0, .it .i64 f, .sl (.own 4) (rows.map .st)], o, x, .buf rows.length 9 1] (LG d f rows ++ [x]) := ⟨by decide, rfl, fun i o hi => by
 match i, hi with
 | 0, hi => cases hi; exact ⟨rfl, rfl⟩
 | 1, hi => cases hi; exact ⟨rfl, rfl⟩
 | 2, hi => cases hi; exact ⟨rfl, rfl⟩
 | 3, hi =>
  obtain rfl : x = o := Option.some.inj hi
  exact ⟨hx.1, congrArg some hx.2.symm⟩⟩
inductive LSt (d : Dk) (R safe : List By) (hc : List AV) (k : Nat) : Prop where
 | up (h : WS d R safe) (hR : R.length ≤ 12 + k) (hl : hc.length = 4) : LSt d R safe hc k
 | down (all sf fresh : List By) (tried : Bool) (h : Hp d all sf) (h1 : all.length ≤ 1000) (h2 : sf.length ≤ 1000) (h3 : fresh.length ≤ 12) (e : hc = [.sl .ro (all.map .st), .sl .ro (sf.map .st), .sl .ro (fresh.map .st), .bo tried]) : LSt d R safe hc k
theorem lasts10_c (l : List WAct) (keep : List Int) (hl : l.length ≤ 140737488351232) (hin : ∀ a ∈ l, Win a) (hkl : keep.length ≤ 140737488351232) :
  AC Try.prog 6 [.sl .ro (l.map waV), ints .ro keep] [] (.bo true) [] := by
 refine AC.enter2 [7, 25] [] Try.func6 rfl (by decide) (by decide) (Nat.le_of_ble_eq_true rfl) (by kernel_rfl) ?_; simp only [eraseC, eraseG, eraseO, List.map_cons, List.map_nil, List.map_toArray, List.getElem?_toArray, List.getElem?_cons_zero, List.getElem?_cons_succ, Option.bind_some, Option.bind_none, List.append_eq, List.cons_append, List.nil_append]
 refine run ?_
 refine cp small10_c ?_
 refine run ?_
 refine call_mk (AC.newAt d_new _) ?_
 refine run ?_
 refine cp (few10_c l hl hin) ?_
 by_cases hfew : fewW l = true
 rotate_left
 ·have hfew : fewW l = false := by simpa using hfew
  refine runf @hfew ?_
  exact er0
 have hf := hfew
 unfold fewW at hf
 simp only [Bool.and_eq_true, decide_eq_true_eq] at hf
 obtain ⟨⟨hl30, hokA⟩, _⟩ := hf
 by_cases hk8 : keep.length ≤ 8
 rotate_left
 ·have e1 : (keep.length : Int) > 8 := by omega
  refine runf (an @hfew @e1) ?_
  exact er0
 have e1 : ¬ (keep.length : Int) > 8 := by omega
 obtain ⟨d1, e3, b3, _⟩ := calm_open dk0_calm (n := 2) (by omega)
 rw [show ((2 : Nat) : Int) = 2 from rfl] at e3
 have k1 := wopen_ok dk0 2 (by decide) (by decide) (by rw [e3])
 rw [e3] at k1
 have hws := WS.dk0 e3
 refine runf (an @hfew @e1) ?_
 refine clo 0 k1 ?_
 refine run ?_
 have hsz : allSz 5 (l.map waV) = true := allSz_map 5 waV (fun _ => rfl) l
 refine loop_mk (fun m e S => e 0 = .sl .ro (l.map waV) ∧ e 1 = ints .ro keep ∧ e 5 = .bo true ∧ e 6 = .ptr 0 0 ∧ e 7 = .ptr 1 0 ∧ e 10 = .ptr 3 0 ∧ ∃ (k : Nat) (d : Dk) (R safe : List By) (hc : List AV) (md : Mode), e 9 = .sl md (safe.map .st) ∧ (md = .full ∨ md = .ro) ∧ e 11 = .it .i64 (k : Int) ∧ k ≤ l.length ∧ S = LG d 2 R ++ [.cells hc] ∧ LSt d R safe hc k ∧ m = l.length - k) l.length
  ⟨(by first | rfl | (simp only [↓upd_apply, ↓put_some, ↓reduceIte, Nat.reduceEqDiff, ↓argEnv_zero, ↓argEnv_succ, *]; done)), (by first | rfl | (simp only [↓upd_apply, ↓put_some, ↓reduceIte, Nat.reduceEqDiff, ↓argEnv_zero, ↓argEnv_succ, *]; done)), (by first | rfl | (simp only [↓upd_apply, ↓put_some, ↓reduceIte, Nat.reduceEqDiff, ↓argEnv_zero, ↓argEnv_succ, *]; done)), (by first | rfl | (simp only [↓upd_apply, ↓put_some, ↓reduceIte, Nat.reduceEqDiff, ↓argEnv_zero, ↓argEnv_succ, *]; done)), (by first | rfl | (simp only [↓upd_apply, ↓put_some, ↓reduceIte, Nat.reduceEqDiff, ↓argEnv_zero, ↓argEnv_succ, *]; done)), (by first | rfl | (simp only [↓upd_apply, ↓put_some, ↓reduceIte, Nat.reduceEqDiff, ↓argEnv_zero, ↓argEnv_succ, *]; done)), 0, d1, [], [], _, .full, (by first | rfl | (simp only [↓upd_apply, ↓put_some, ↓reduceIte, Nat.reduceEqDiff, ↓argEnv_zero, ↓argEnv_succ, *]; done)), .inl rfl, (by first | rfl | (simp only [↓upd_apply, ↓put_some, ↓reduceIte, Nat.reduceEqDiff, ↓argEnv_zero, ↓argEnv_succ, *]; done)), by omega, rfl, .up hws (by simp) rfl, rfl⟩ ?_
 clear k1 hws e3 b3 e1 hfew
 rintro m e S ⟨s0, s1, s5, s6, s7, s10, k, d, R, safe, hc, md, s9, hmd, s11, hk, rfl, hst, rfl⟩
 by_cases hdn : d.down = true
 ·cases hst with
  | up h1 h2 h3 => exact absurd h1.up (by rw [hdn]; decide)
  | down all sf fresh tried h h1 h2 h3 he =>
   have kd := d_down d
   rw [hdn] at kd
   obtain ⟨d2, kf⟩ := found_c d all sf fresh tried h (by omega) (by omega) (by omega)
   subst he
   by_cases hlt : k < l.length
   ·refine runf (an @s0 (an @s1 (an @s5 (an @s6 (an @s7 (an @s10 @s11)))))) ?_
    refine c1 0 kd ?_
    refine runf (an @s0 (an @s1 (an @s5 (an @s6 (an @s7 (an @s10 @s11)))))) ?_
    refine c1 0 kd ?_
    refine runf (an @s0 (an @s1 (an @s5 (an @s6 (an @s7 (an @s10 @s11)))))) ?_
    refine c1 0 kf ?_
    refine runf (an @s0 (an @s1 (an @s5 (an @s6 (an @s7 (an @s10 @s11)))))) ?_
    exact er0
   ·refine runf (an @s0 (an @s1 (an @s5 (an @s6 (an @s7 (an @s10 @s11)))))) ?_
    refine c1 0 kd ?_
    refine runf (an @s0 (an @s1 (an @s5 (an @s6 (an @s7 (an @s10 @s11)))))) ?_
    refine c1 0 kf ?_
    refine runf (an @s0 (an @s1 (an @s5 (an @s6 (an @s7 (an @s10 @s11)))))) ?_
    exact er0
 cases hst with
 | down all sf fresh tried h h1 h2 h3 he => exact absurd h.down hdn
 | up h1 h2 h3 =>
 have kd := d_down d
 rw [h1.up] at kd
 clear hdn
 have hc4 : ∃ c0 c1 c2 c3, hc = [c0, c1, c2, c3] := by
  match hc, h3 with
  | [a, b, c, d], _ => exact ⟨_, _, _, _, rfl⟩
 obtain ⟨c0, c1', c2, c3, rfl⟩ := hc4
 by_cases hlt : k < l.length
 rotate_left
 ·have kc := d_crash d .ro keep
  have hp := h1.crash keep
  have q2 := wall_c d 2 R (by omega)
  obtain ⟨d2, kf⟩ := found_c _ R safe [] false hp (by omega) (by have := h1.pre_le; omega) (by simp)
  generalize crash d keep = d3 at *
  refine runf (an @s0 (an @s1 (an @s5 (an @s6 (an @s7 (an @s10 @s11)))))) ?_
  refine c1 0 kd ?_
  refine runf (an @s0 (an @s1 (an @s5 (an @s6 (an @s7 (an @s9 (an @s10 @s11))))))) ?_
  refine clg 0 1 2 q2 ?_
  refine runf (an @s0 (an @s1 (an @s5 (an @s6 (an @s7 (an @s9 (an @s10 @s11))))))) ?_
  refine c1 0 kc ?_
  rcases hmd with rfl | rfl
  ·refine runf (an @s0 (an @s1 (an @s5 (an @s6 (an @s7 (an @s10 @s11)))))) ?_
   refine c1 0 kf ?_
   refine runf (an @s0 (an @s1 (an @s5 (an @s6 (an @s7 (an @s10 @s11)))))) ?_
   exact er0
  ·refine runf (an @s0 (an @s1 (an @s5 (an @s6 (an @s7 (an @s10 @s11)))))) ?_
   refine c1 0 kf ?_
   refine runf (an @s0 (an @s1 (an @s5 (an @s6 (an @s7 (an @s10 @s11)))))) ?_
   exact er0
 have g1 : l[k]? = some l[k] := List.getElem?_eq_getElem hlt
 have hw := hin l[k] (List.getElem_mem hlt)
 have ho := List.all_eq_true.1 hokA l[k] (List.getElem_mem hlt)
 unfold okA at ho
 simp only [Bool.and_eq_true, decide_eq_true_eq] at ho
 generalize l[k] = a at *
 by_cases q4 : Go.bits .and .i64 a.Do 7 = 4
 ·refine runf (an @s0 (an @s1 (an @s5 (an @s6 (an @s7 (an @s10 @s11)))))) ?_
  refine c1 0 kd ?_
  refine runf (an @s0 (an @s1 (an @s5 (an @s6 (an @s7 (an @s10 (an @s11 (an @g1 (an @hsz @q4))))))))) ?_
  exact round_mk (l.length - (k + 1)) (by omega) ⟨(by first | rfl | (simp only [↓upd_apply, ↓put_some, ↓reduceIte, Nat.reduceEqDiff, ↓argEnv_zero, ↓argEnv_succ, *]; done)), (by first | rfl | (simp only [↓upd_apply, ↓put_some, ↓reduceIte, Nat.reduceEqDiff, ↓argEnv_zero, ↓argEnv_succ, *]; done)), (by first | rfl | (simp only [↓upd_apply, ↓put_some, ↓reduceIte, Nat.reduceEqDiff, ↓argEnv_zero, ↓argEnv_succ, *]; done)), (by first | rfl | (simp only [↓upd_apply, ↓put_some, ↓reduceIte, Nat.reduceEqDiff, ↓argEnv_zero, ↓argEnv_succ, *]; done)), (by first | rfl | (simp only [↓upd_apply, ↓put_some, ↓reduceIte, Nat.reduceEqDiff, ↓argEnv_zero, ↓argEnv_succ, *]; done)), (by first | rfl | (simp only [↓upd_apply, ↓put_some, ↓reduceIte, Nat.reduceEqDiff, ↓argEnv_zero, ↓argEnv_succ, *]; done)), k + 1, d, R, safe, _, md, (by first | rfl | (simp only [↓upd_apply, ↓put_some, ↓reduceIte, Nat.reduceEqDiff, ↓argEnv_zero, ↓argEnv_succ, *]; done)), hmd, (by first | rfl | (simp only [↓upd_apply, ↓put_some, ↓reduceIte, Nat.reduceEqDiff, ↓argEnv_zero, ↓argEnv_succ, *]; done)), by omega, rfl, .up h1 (by omega) h3, rfl⟩
 obtain ⟨v, S', hA, ka⟩ := aft_h d R safe a [c0, c1', c2, c3] h1 (by have := hw.S; omega) ho.1 hw.N ho.2 (by omega)
 cases hA with
 | up d' R' safe' fresh tried h4 h5 =>
  refine runf (an @s0 (an @s1 (an @s5 (an @s6 (an @s7 (an @s10 @s11)))))) ?_
  refine c1 0 kd ?_
  refine runf (an @s0 (an @s1 (an @s5 (an @s6 (an @s7 (an @s9 (an @s10 (an @s11 (an @g1 (an @hsz @q4)))))))))) ?_
  refine call_mk ka ?_
  refine runf (an @s0 (an @s1 (an @s5 (an @s6 (an @s7 (an @s9 (an @s10 @s11))))))) ?_
  exact round_mk (l.length - (k + 1)) (by omega) ⟨(by first | rfl | (simp only [↓upd_apply, ↓put_some, ↓reduceIte, Nat.reduceEqDiff, ↓argEnv_zero, ↓argEnv_succ, *]; done)), (by first | rfl | (simp only [↓upd_apply, ↓put_some, ↓reduceIte, Nat.reduceEqDiff, ↓argEnv_zero, ↓argEnv_succ, *]; done)), (by first | rfl | (simp only [↓upd_apply, ↓put_some, ↓reduceIte, Nat.reduceEqDiff, ↓argEnv_zero, ↓argEnv_succ, *]; done)), (by first | rfl | (simp only [↓upd_apply, ↓put_some, ↓reduceIte, Nat.reduceEqDiff, ↓argEnv_zero, ↓argEnv_succ, *]; done)), (by first | rfl | (simp only [↓upd_apply, ↓put_some, ↓reduceIte, Nat.reduceEqDiff, ↓argEnv_zero, ↓argEnv_succ, *]; done)), (by first | rfl | (simp only [↓upd_apply, ↓put_some, ↓reduceIte, Nat.reduceEqDiff, ↓argEnv_zero, ↓argEnv_succ, *]; done)), k + 1, d', R', safe', _, .ro, (by first | rfl | (simp only [↓upd_apply, ↓put_some, ↓reduceIte, Nat.reduceEqDiff, ↓argEnv_zero, ↓argEnv_succ, *]; done)), .inr rfl, (by first | rfl | (simp only [↓upd_apply, ↓put_some, ↓reduceIte, Nat.reduceEqDiff, ↓argEnv_zero, ↓argEnv_succ, *]; done)), by omega, rfl, .up h4 (by omega) rfl, rfl⟩
 | down d' R' safe' all sf fresh tried h4 h5 h6 h7 =>
  refine runf (an @s0 (an @s1 (an @s5 (an @s6 (an @s7 (an @s10 @s11)))))) ?_
  refine c1 0 kd ?_
  refine runf (an @s0 (an @s1 (an @s5 (an @s6 (an @s7 (an @s9 (an @s10 (an @s11 (an @g1 (an @hsz @q4)))))))))) ?_
  refine call_mk ka ?_
  refine runf (an @s0 (an @s1 (an @s5 (an @s6 (an @s7 (an @s9 (an @s10 @s11))))))) ?_
  exact round_mk (l.length - (k + 1)) (by omega) ⟨(by first | rfl | (simp only [↓upd_apply, ↓put_some, ↓reduceIte, Nat.reduceEqDiff, ↓argEnv_zero, ↓argEnv_succ, *]; done)), (by first | rfl | (simp only [↓upd_apply, ↓put_some, ↓reduceIte, Nat.reduceEqDiff, ↓argEnv_zero, ↓argEnv_succ, *]; done)), (by first | rfl | (simp only [↓upd_apply, ↓put_some, ↓reduceIte, Nat.reduceEqDiff, ↓argEnv_zero, ↓argEnv_succ, *]; done)), (by first | rfl | (simp only [↓upd_apply, ↓put_some, ↓reduceIte, Nat.reduceEqDiff, ↓argEnv_zero, ↓argEnv_succ, *]; done)), (by first | rfl | (simp only [↓upd_apply, ↓put_some, ↓reduceIte, Nat.reduceEqDiff, ↓argEnv_zero, ↓argEnv_succ, *]; done)), (by first | rfl | (simp only [↓upd_apply, ↓put_some, ↓reduceIte, Nat.reduceEqDiff, ↓argEnv_zero, ↓argEnv_succ, *]; done)), k + 1, d', R', safe', _, .ro, (by first | rfl | (simp only [↓upd_apply, ↓put_some, ↓reduceIte, Nat.reduceEqDiff, ↓argEnv_zero, ↓argEnv_succ, *]; done)), .inr rfl, (by first | rfl | (simp only [↓upd_apply, ↓put_some, ↓reduceIte, Nat.reduceEqDiff, ↓argEnv_zero, ↓argEnv_succ, *]; done)), by omega, rfl, .down all sf fresh tried h4 (by omega) (by omega) h7 rfl, rfl⟩
 | new d' R' safe' fresh tried h4 h5 =>
  refine runf (an @s0 (an @s1 (an @s5 (an @s6 (an @s7 (an @s10 @s11)))))) ?_
  refine c1 0 kd ?_
  refine runf (an @s0 (an @s1 (an @s5 (an @s6 (an @s7 (an @s9 (an @s10 (an @s11 (an @g1 (an @hsz @q4)))))))))) ?_
  refine call_mk ka ?_
  refine runf (an @s0 (an @s1 (an @s5 (an @s6 (an @s7 (an @s9 (an @s10 @s11))))))) ?_
  exact round_mk' (l.length - (k + 1)) _ _ (Weak.sub 0 [0, 1, 4, 3] (((((((((KeepR.nil _ _).cons 0 (.sl .ro (l.map waV)) (.sl .ro (l.map waV)) rfl rfl (by first | rfl | (simp only [↓upd_apply, ↓put_some, ↓reduceIte, Nat.reduceEqDiff, ↓argEnv_zero, ↓argEnv_succ, *]; done))).cons 1 (ints .ro keep) (ints .ro keep) rfl rfl (by first | rfl | (simp only [↓upd_apply, ↓put_some, ↓reduceIte, Nat.reduceEqDiff, ↓argEnv_zero, ↓argEnv_succ, *]; done))).cons 5 (.bo true) (.bo true) rfl rfl (by first | rfl | (simp only [↓upd_apply, ↓put_some, ↓reduceIte, Nat.reduceEqDiff, ↓argEnv_zero, ↓argEnv_succ, *]; done))).cons 6 (.ptr 0 0) (.ptr 0 0) rfl rfl (by first | rfl | (simp only [↓upd_apply, ↓put_some, ↓reduceIte, Nat.reduceEqDiff, ↓argEnv_zero, ↓argEnv_succ, *]; done))).cons 7 (.ptr 1 0) (.ptr 1 0) rfl rfl (by first | rfl | (simp only [↓upd_apply, ↓put_some, ↓reduceIte, Nat.reduceEqDiff, ↓argEnv_zero, ↓argEnv_succ, *]; done))).cons 9 (.sl .ro (safe'.map .st)) (.sl .ro (safe'.map .st)) rfl rfl (by first | rfl | (simp only [↓upd_apply, ↓put_some, ↓reduceIte, Nat.reduceEqDiff, ↓argEnv_zero, ↓argEnv_succ, *]; done))).cons 10 (.ptr 3 0) (.ptr 3 0) rfl rfl (by first | rfl | (simp only [↓upd_apply, ↓put_some, ↓reduceIte, Nat.reduceEqDiff, ↓argEnv_zero, ↓argEnv_succ, *]; done))).cons 11 (.it .i64 ((k + 1 : Nat) : Int)) (.it .i64 ((k + 1 : Nat) : Int)) rfl rfl (by first | rfl | (simp only [↓upd_apply, ↓put_some, ↓reduceIte, Nat.reduceEqDiff, ↓argEnv_zero, ↓argEnv_succ, *]; done))) (lg4_sub d' 2 R' _ _) rfl) (by omega) ⟨(by first | rfl | (simp only [↓upd_apply, ↓put_some, ↓reduceIte, Nat.reduceEqDiff, ↓argEnv_zero, ↓argEnv_succ, *]; done)), (by first | rfl | (simp only [↓upd_apply, ↓put_some, ↓reduceIte, Nat.reduceEqDiff, ↓argEnv_zero, ↓argEnv_succ, *]; done)), (by first | rfl | (simp only [↓upd_apply, ↓put_some, ↓reduceIte, Nat.reduceEqDiff, ↓argEnv_zero, ↓argEnv_succ, *]; done)), (by first | rfl | (simp only [↓upd_apply, ↓put_some, ↓reduceIte, Nat.reduceEqDiff, ↓argEnv_zero, ↓argEnv_succ, *]; done)), (by first | rfl | (simp only [↓upd_apply, ↓put_some, ↓reduceIte, Nat.reduceEqDiff, ↓argEnv_zero, ↓argEnv_succ, *]; done)), (by first | rfl | (simp only [↓upd_apply, ↓put_some, ↓reduceIte, Nat.reduceEqDiff, ↓argEnv_zero, ↓argEnv_succ, *]; done)), k + 1, d', R', safe', _, .ro, (by first | rfl | (simp only [↓upd_apply, ↓put_some, ↓reduceIte, Nat.reduceEqDiff, ↓argEnv_zero, ↓argEnv_succ, *]; done)), .inr rfl, (by first | rfl | (simp only [↓upd_apply, ↓put_some, ↓reduceIte, Nat.reduceEqDiff, ↓argEnv_zero, ↓argEnv_succ, *]; done)), by omega, rfl, .up h4 (by omega) rfl, rfl⟩
end Go.Proofs.Ytjicccjpooahoaa.Pe
