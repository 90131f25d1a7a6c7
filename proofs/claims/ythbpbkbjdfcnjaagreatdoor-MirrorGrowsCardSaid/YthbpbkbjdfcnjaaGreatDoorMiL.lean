/- The walk of MirrorGrows on plain values. -/
import Derived.Test.YthbpbkbjdfcnjaaGreatDoorMiC
namespace Go.Proofs.YthbpbkbjdfcnjaaGreatDoor.Pe
set_option linter.unusedSectionVars false
set_option linter.unusedVariables false
set_option linter.unusedSimpArgs false
open Go Go.RowKit Co Sg Ac It Sl
set_option maxRecDepth 100000
set_option maxHeartbeats 4000000
structure Step where
  frm : Int
  to : Int
abbrev stepV (s : Step) : AV := .agg [.it .i64 s.frm, .it .i64 s.to]
structure InS (s : Step) : Prop where
  frm : -9223372036854775808 ≤ s.frm ∧ s.frm ≤ 9223372036854775807
  to : -9223372036854775808 ≤ s.to ∧ s.to ≤ 9223372036854775807
theorem shp_step {n us} (h : shp Tryz.prog 140737488351232 (n + 2) 44 us) : ∃ s : Step, us = (stepV s).cells ∧ InS s := by
  have h := shp_struct Tryz.underlying44 h
  obtain ⟨a0, b0, rfl, h0, h⟩ := h
  obtain ⟨a1, b1, rfl, h1, rfl⟩ := h
  obtain ⟨x, rfl, w0⟩ := shp_i64 Tryz.underlying3 h0
  obtain ⟨y, rfl, w1⟩ := shp_i64 Tryz.underlying3 h1
  exact ⟨⟨x, y⟩, rfl, w0, w1⟩
theorem shp_steps {n us} (h : shp Tryz.prog 140737488351232 (n + 3) 26 us) : ∃ l : List Step, us = [.sl .ro (l.map stepV)] ∧ l.length ≤ 140737488351232 ∧ ∀ s ∈ l, InS s :=
  shp_slice stepV InS Tryz.underlying26 h fun x hx => by
    obtain ⟨w, rfl, hw⟩ := shp_step hx
    exact ⟨w, by rw [show aggT Tryz.prog 44 = true from by kernel_rfl]; rfl, hw⟩
structure InK (k : Key) : Prop where
  secret : -9223372036854775808 ≤ k.secret ∧ k.secret ≤ 9223372036854775807
  pub : -9223372036854775808 ≤ k.pub ∧ k.pub ≤ 9223372036854775807
structure InEs (l : List It.Entry) : Prop where
  len : l.length ≤ 140737488351232
  ok : ∀ e ∈ l, InE e
theorem InEs.eok {l : List It.Entry} (h : InEs l) (hl : l.length ≤ 80) : EOk l := ⟨by omega, fun e he => (h.ok e he).item.iz⟩
theorem few16_iff {l : List It.Entry} {ps : List Int} (h : few16 l ps = true) : l.length ≤ 80 ∧ ps.length ≤ 20 := by
  unfold few16 at h
  simp only [Bool.and_eq_true, decide_eq_true_eq] at h
  exact h.1
theorem good_of {ps : List Int} {server : Int} {k : Key} {l : List It.Entry} (hf : few16 l ps = true) (h0 : 0 ≤ server) (h1 : server < ps.length) (hk : ps.getD server.toNat 0 = k.pub) (hr : k.right = true) (hh : (times l && l.all (sound ps)) = true) : Sl.Good ps server k l := by
  rw [Bool.and_eq_true] at hh
  exact ⟨h0, h1, (few16_iff hf).2, hk, hr, ⟨hh.1, hh.2⟩, (few16_iff hf).1⟩
theorem mir_ok {ps : List Int} {server : Int} {l : List It.Entry} {m : Mirror} {n : Nat} (h : Mir ps server l m n) (hl : EOk l) : EOk m.entries := by rw [h.entries]; exact hl.take n
theorem mirrorGrows_c (ps : List Int) (server : Int) (k : Key) (l : List It.Entry) (steps : List Step) (hp : InL ps) (hk : InK k) (hes : InEs l) (hst : steps.length ≤ 140737488351232 ∧ ∀ s ∈ steps, InS s) :
    AC Tryz.prog 3 [intsV ps, .it .i64 server, keyV k, entriesV l, .sl .ro (steps.map stepV)] [] (.bo true) [] := by
  refine AC.enter2 [11, 12, 13, 14, 15, 16, 17, 18, 20, 19, 21] [] Tryz.func3 rfl (by decide) (by decide) (Nat.le_of_ble_eq_true rfl) (by kernel_rfl) ?_; simp only [eraseC, eraseO, List.map_cons, List.map_nil, List.map_toArray, List.getElem?_toArray, List.getElem?_cons_zero, List.getElem?_cons_succ, Option.bind_some, Option.bind_none, List.append_eq, List.cons_append, List.nil_append]
  have hes1 := hes.len
  have hst1 := hst.1
  have hp1 := hp.len
  have hszp : allSz 1 (ps.map (AV.it .i64)) = true := allSz_map 1 _ (fun _ => rfl) _
  have hszs : allSz 2 (steps.map stepV) = true := allSz_map 2 stepV (fun _ => rfl) _
  have kf := few16_c l ps hes1 hp1
  refine run ?_
  refine cp small16_c ?_
  refine run ?_
  refine cp kf ?_
  cases hf : few16 l ps with
  | false =>
    refine runf @hf ?_
    exact er0
  | true =>
  obtain ⟨hl80, hp20⟩ := few16_iff hf
  have hl := hes.eok hl80
  by_cases c1 : steps.length ≤ 20
  rotate_left
  · have c1' : (20 : Int) < (steps.length : Int) := by omega
    refine runf (And.intro @hf @c1') ?_
    exact er0
  have c1' : ¬ (20 : Int) < (steps.length : Int) := by omega
  by_cases c2 : 0 ≤ server
  rotate_left
  · refine runf (And.intro @hf @c1') ?_
    exact er0
  by_cases c3 : server < (ps.length : Int)
  rotate_left
  · refine runf (And.intro @hf @c1') ?_
    exact er0
  have hg : ps[server.toNat]? = some (ps.getD server.toNat 0) := by
    rw [List.getD_eq_getElem?_getD, List.getElem?_eq_getElem (show server.toNat < ps.length by omega)]
    rfl
  by_cases c4 : ps.getD server.toNat 0 = k.pub
  rotate_left
  · generalize ps.getD server.toNat 0 = p at *
    have q4 : (p != k.pub) = true := bneT c4
    refine runf (And.intro @hf (And.intro @c1' (And.intro @c2 (And.intro @c3 (And.intro @hg (And.intro @hszp @q4)))))) ?_
    exact er0
  have hg' := hg
  rw [c4] at hg'
  have q4 : (k.pub != k.pub) = false := bneF rfl
  have kr := keyright_c k hk.secret
  have kh := honest16_c ps l hp hl
  cases hr : k.right with
  | false =>
    rw [hr] at kr
    refine runf (And.intro @hf (And.intro @c1' (And.intro @c2 (And.intro @c3 (And.intro @hg' (And.intro @hszp @q4)))))) ?_
    refine cp kr ?_
    refine run ?_
    exact er0
  | true =>
  rw [hr] at kr
  cases hh : (times l && l.all (sound ps)) with
  | false =>
    rw [hh] at kh
    refine runf (And.intro @hf (And.intro @c1' (And.intro @c2 (And.intro @c3 (And.intro @hg' (And.intro @hszp @q4)))))) ?_
    refine cp kr ?_
    refine run ?_
    refine cp kh ?_
    refine run ?_
    exact er0
  | true =>
  rw [hh] at kh
  have g := good_of hf c2 c3 c4 hr hh
  refine runf (And.intro @hf (And.intro @c1' (And.intro @c2 (And.intro @c3 (And.intro @hg' (And.intro @hszp @q4)))))) ?_
  refine cp kr ?_
  refine run ?_
  refine cp kh ?_
  refine run ?_
  refine cp (mnew_c server) ?_
  refine run ?_
  refine loop_mk (fun mm e S => e 0 = intsV ps ∧ e 1 = .it .i64 server ∧ e 3 = entriesV l ∧ e 4 = .sl .ro (steps.map stepV) ∧ e 7 = .ptr 0 0 ∧ e 11 = .bo true ∧ e 13 = .ptr 1 0 ∧ ∃ (i : Nat) (m : Mirror) (n : Nat) (T : Store), e 14 = .it .i64 (i : Int) ∧ S = .cells [.it .i64 k.secret, .it .i64 k.pub] :: .cells [.it .i64 m.server, entriesV m.entries, headsV m.heads] :: T ∧ i ≤ steps.length ∧ Mir ps server l m n ∧ m.heads.length ≤ i ∧ mm = steps.length - i) steps.length
    ⟨(by first | rfl | (simp only [↓upd_apply, ↓put_some, ↓reduceIte, Nat.reduceEqDiff, ↓argEnv_zero, ↓argEnv_succ, *]; done)), (by first | rfl | (simp only [↓upd_apply, ↓put_some, ↓reduceIte, Nat.reduceEqDiff, ↓argEnv_zero, ↓argEnv_succ, *]; done)), (by first | rfl | (simp only [↓upd_apply, ↓put_some, ↓reduceIte, Nat.reduceEqDiff, ↓argEnv_zero, ↓argEnv_succ, *]; done)), (by first | rfl | (simp only [↓upd_apply, ↓put_some, ↓reduceIte, Nat.reduceEqDiff, ↓argEnv_zero, ↓argEnv_succ, *]; done)), (by first | rfl | (simp only [↓upd_apply, ↓put_some, ↓reduceIte, Nat.reduceEqDiff, ↓argEnv_zero, ↓argEnv_succ, *]; done)), (by first | rfl | (simp only [↓upd_apply, ↓put_some, ↓reduceIte, Nat.reduceEqDiff, ↓argEnv_zero, ↓argEnv_succ, *]; done)), (by first | rfl | (simp only [↓upd_apply, ↓put_some, ↓reduceIte, Nat.reduceEqDiff, ↓argEnv_zero, ↓argEnv_succ, *]; done)), 0, ⟨server, [], []⟩, 0, [], (by first | rfl | (simp only [↓upd_apply, ↓put_some, ↓reduceIte, Nat.reduceEqDiff, ↓argEnv_zero, ↓argEnv_succ, *]; done)), rfl, by omega, mir_new g, Nat.le_refl 0, rfl⟩ ?_
  rintro mm e S ⟨s0, s1, s3, s4, s7, s11, s13, i, m, n, T, s14, rfl, hi, hm, hmh, rfl⟩
  have hmn := hm.len
  have hnl := hm.le
  by_cases hlt : i < steps.length
  rotate_left
  · obtain rfl : i = steps.length := by omega
    have hx : ¬ ((steps.length : Nat) : Int) < (steps.length : Int) := by omega
    have km := mright_c ps m hp (mir_ok hm hl) (by omega)
    rw [hm.right] at km
    refine runf (And.intro @s0 (And.intro @s1 (And.intro @s3 (And.intro @s4 (And.intro @s7 (And.intro @s11 (And.intro @s13 (And.intro @s14 @hx)))))))) ?_
    refine cp km ?_
    refine run ?_
    exact er0
  have hgs : steps[i]? = some steps[i] := List.getElem?_eq_getElem hlt
  have hin := hst.2 steps[i] (List.getElem_mem hlt)
  generalize steps[i] = x at *
  obtain ⟨frm, to⟩ := x
  have hf1 := hin.frm
  simp only at hf1
  have kb := batch16_c k server l frm to hk.secret hl
  rw [batchOf_eq g] at kb
  by_cases hc : 1 ≤ to ∧ to ≤ l.length ∧ 0 ≤ frm ∧ frm < to ∧ to - frm ≤ 64
  rotate_left
  · rw [if_neg hc] at kb
    refine runf (And.intro @s0 (And.intro @s1 (And.intro @s3 (And.intro @s4 (And.intro @s7 (And.intro @s11 (And.intro @s13 (And.intro @s14 (And.intro @hgs @hszs))))))))) ?_
    refine cp kb ?_
    refine runf (And.intro @s0 (And.intro @s1 (And.intro @s3 (And.intro @s4 (And.intro @s7 (And.intro @s11 (And.intro @s13 (And.intro @s14 (And.intro @tl0 @tl0s))))))))) ?_
    exact round_mk (steps.length - (i + 1)) (by omega) ⟨(by first | rfl | (simp only [↓upd_apply, ↓put_some, ↓reduceIte, Nat.reduceEqDiff, ↓argEnv_zero, ↓argEnv_succ, *]; done)), (by first | rfl | (simp only [↓upd_apply, ↓put_some, ↓reduceIte, Nat.reduceEqDiff, ↓argEnv_zero, ↓argEnv_succ, *]; done)), (by first | rfl | (simp only [↓upd_apply, ↓put_some, ↓reduceIte, Nat.reduceEqDiff, ↓argEnv_zero, ↓argEnv_succ, *]; done)), (by first | rfl | (simp only [↓upd_apply, ↓put_some, ↓reduceIte, Nat.reduceEqDiff, ↓argEnv_zero, ↓argEnv_succ, *]; done)), (by first | rfl | (simp only [↓upd_apply, ↓put_some, ↓reduceIte, Nat.reduceEqDiff, ↓argEnv_zero, ↓argEnv_succ, *]; done)), (by first | rfl | (simp only [↓upd_apply, ↓put_some, ↓reduceIte, Nat.reduceEqDiff, ↓argEnv_zero, ↓argEnv_succ, *]; done)), (by first | rfl | (simp only [↓upd_apply, ↓put_some, ↓reduceIte, Nat.reduceEqDiff, ↓argEnv_zero, ↓argEnv_succ, *]; done)), i + 1, m, n, _, (by first | rfl | (simp only [↓upd_apply, ↓put_some, ↓reduceIte, Nat.reduceEqDiff, ↓argEnv_zero, ↓argEnv_succ, *]; done)), rfl, by omega, hm, by omega, rfl⟩
  rw [if_pos hc] at kb
  obtain ⟨t, rfl⟩ := Int.eq_ofNat_of_zero_le (show 0 ≤ to by omega)
  obtain ⟨f, rfl⟩ := Int.eq_ofNat_of_zero_le (show 0 ≤ frm by omega)
  simp only [Int.toNat_natCast] at kb
  have h1 : f < t := by omega
  have h2 : t ≤ l.length := by omega
  have h3 : t - f ≤ 64 := by omega
  have k1 := mtake_c ps m ⟨headTo k server l t, f, (l.take t).drop f⟩ hp (mir_ok hm hl) (by omega) (by omega) ((hl.take t).drop f) hf1
  rw [take_own g m hm.server hm.le hm.entries h1 h2 h3] at k1
  by_cases hgap : n < f
  · rw [if_pos hgap] at k1
    generalize headTo k server l t = hd at *
    have hgI : (m.entries.length : Int) < (f : Int) := by omega
    refine runf (And.intro @s0 (And.intro @s1 (And.intro @s3 (And.intro @s4 (And.intro @s7 (And.intro @s11 (And.intro @s13 (And.intro @s14 (And.intro @hgs @hszs))))))))) ?_
    refine cp kb ?_
    refine runf (And.intro @s0 (And.intro @s1 (And.intro @s3 (And.intro @s4 (And.intro @s7 (And.intro @s11 (And.intro @s13 (And.intro @s14 (And.intro @tl0 @tl0s))))))))) ?_
    refine cp k1 ?_
    refine runf (And.intro @s0 (And.intro @s1 (And.intro @s3 (And.intro @s4 (And.intro @s7 (And.intro @s11 (And.intro @s13 (And.intro @s14 (And.intro @tl0 (And.intro @tl0s (And.intro @tl1 (And.intro @tl1s (And.intro @tl10 @hgI))))))))))))) ?_
    exact round_mk (steps.length - (i + 1)) (by omega) ⟨(by first | rfl | (simp only [↓upd_apply, ↓put_some, ↓reduceIte, Nat.reduceEqDiff, ↓argEnv_zero, ↓argEnv_succ, *]; done)), (by first | rfl | (simp only [↓upd_apply, ↓put_some, ↓reduceIte, Nat.reduceEqDiff, ↓argEnv_zero, ↓argEnv_succ, *]; done)), (by first | rfl | (simp only [↓upd_apply, ↓put_some, ↓reduceIte, Nat.reduceEqDiff, ↓argEnv_zero, ↓argEnv_succ, *]; done)), (by first | rfl | (simp only [↓upd_apply, ↓put_some, ↓reduceIte, Nat.reduceEqDiff, ↓argEnv_zero, ↓argEnv_succ, *]; done)), (by first | rfl | (simp only [↓upd_apply, ↓put_some, ↓reduceIte, Nat.reduceEqDiff, ↓argEnv_zero, ↓argEnv_succ, *]; done)), (by first | rfl | (simp only [↓upd_apply, ↓put_some, ↓reduceIte, Nat.reduceEqDiff, ↓argEnv_zero, ↓argEnv_succ, *]; done)), (by first | rfl | (simp only [↓upd_apply, ↓put_some, ↓reduceIte, Nat.reduceEqDiff, ↓argEnv_zero, ↓argEnv_succ, *]; done)), i + 1, m, n, _, (by first | rfl | (simp only [↓upd_apply, ↓put_some, ↓reduceIte, Nat.reduceEqDiff, ↓argEnv_zero, ↓argEnv_succ, *]; done)), rfl, by omega, hm, by omega, rfl⟩
  rw [if_neg hgap] at k1
  have hgI : ¬ (m.entries.length : Int) < (f : Int) := by omega
  obtain ⟨m2, n2, e2, hm2, hn2, hh1, hh2⟩ : ∃ (m2 : Mirror) (n2 : Nat), (if t ≤ n then (m, (0 : Int)) else (⟨server, l.take t, m.heads ++ [headTo k server l t]⟩, 0)) = (m2, 0) ∧ Mir ps server l m2 n2 ∧ (n2 = if n < t then t else n) ∧ m2.heads.length ≤ m.heads.length + 1 ∧ m.heads.length ≤ m2.heads.length := by
    by_cases htn : t ≤ n
    · exact ⟨m, n, by rw [if_pos htn], hm, by rw [if_neg (by omega)], by omega, by omega⟩
    · exact ⟨_, t, by rw [if_neg htn], mir_next g hm (by omega) h2, by rw [if_pos (by omega)], by rw [List.length_append]; exact Nat.le_refl _, by rw [List.length_append]; omega⟩
  rw [e2] at k1
  have hn2a : t ≤ n2 ∧ n ≤ n2 ∧ (n2 = t ∨ n2 = n) := by rw [hn2]; split <;> omega
  have hm2n := hm2.len
  have hmax : (if (m.entries.length : Int) < (t : Int) then (t : Int) else (m.entries.length : Int)) = (m2.entries.length : Int) := by
    split <;> omega
  have k2 := mtake_c ps m2 ⟨headTo k server l t, f, (l.take t).drop f⟩ hp (mir_ok hm2 hl) (by have := hm2.le; omega) (by omega) ((hl.take t).drop f) hf1
  rw [take_own g m2 hm2.server hm2.le hm2.entries h1 h2 h3, if_neg (by omega), if_pos (by omega)] at k2
  have k3 := begins16_c l m2.entries hl (mir_ok hm2 hl)
  rw [hm2n, decide_eq_true hm2.le, decide_eq_true hm2.entries.symm] at k3
  have k4 := ref16_c m2
  have k5 := fsame16_c m2 m2 (mir_ok hm2 hl) (mir_ok hm2 hl) (by omega) (by omega)
  rw [decide_eq_true (p := m2 = m2) rfl] at k5
  have hgr : ((m2.entries.length : Int) == (m2.entries.length : Int)) = true := beq_self_eq_true _
  have hge : (m.heads.length : Int) ≤ (m2.heads.length : Int) := by omega
  generalize headTo k server l t = hd at *
  refine runf (And.intro @s0 (And.intro @s1 (And.intro @s3 (And.intro @s4 (And.intro @s7 (And.intro @s11 (And.intro @s13 (And.intro @s14 (And.intro @hgs @hszs))))))))) ?_
  refine cp kb ?_
  refine runf (And.intro @s0 (And.intro @s1 (And.intro @s3 (And.intro @s4 (And.intro @s7 (And.intro @s11 (And.intro @s13 (And.intro @s14 (And.intro @tl0 @tl0s))))))))) ?_
  refine cp k1 ?_
  refine runf (And.intro @s0 (And.intro @s1 (And.intro @s3 (And.intro @s4 (And.intro @s7 (And.intro @s11 (And.intro @s13 (And.intro @s14 (And.intro @hgs (And.intro @hszs (And.intro @tl0 (And.intro @tl0s (And.intro @tl1 (And.intro @tl1s (And.intro @tl10 (And.intro @hgI (And.intro @hmax (And.intro @hgr @hge)))))))))))))))))) ?_
  refine cp k2 ?_
  refine runf (And.intro @s0 (And.intro @s1 (And.intro @s3 (And.intro @s4 (And.intro @s7 (And.intro @s11 (And.intro @s13 (And.intro @s14 (And.intro @tl0 (And.intro @tl0s (And.intro @tl1 (And.intro @tl1s (And.intro @tl10 (And.intro @tl2 (And.intro @tl2s (And.intro @tl21 @tl20)))))))))))))))) ?_
  refine cp k3 ?_
  refine runf (And.intro @s0 (And.intro @s1 (And.intro @s3 (And.intro @s4 (And.intro @s7 (And.intro @s11 (And.intro @s13 (And.intro @s14 (And.intro @tl2 (And.intro @tl21 @tl20)))))))))) ?_
  refine cp k4 ?_
  refine runf (And.intro @s0 (And.intro @s1 (And.intro @s3 (And.intro @s4 (And.intro @s7 (And.intro @s11 (And.intro @s13 (And.intro @s14 (And.intro @tl2 (And.intro @tl21 @tl20)))))))))) ?_
  refine cp k4 ?_
  refine runf (And.intro @s0 (And.intro @s1 (And.intro @s3 (And.intro @s4 (And.intro @s7 (And.intro @s11 (And.intro @s13 (And.intro @s14 (And.intro @tl2 (And.intro @tl21 @tl20)))))))))) ?_
  refine cp k5 ?_
  refine runf (And.intro @s0 (And.intro @s1 (And.intro @s3 (And.intro @s4 (And.intro @s7 (And.intro @s11 (And.intro @s13 (And.intro @s14 (And.intro @tl2 (And.intro @tl21 @tl20)))))))))) ?_
  exact round_mk (steps.length - (i + 1)) (by omega) ⟨(by first | rfl | (simp only [↓upd_apply, ↓put_some, ↓reduceIte, Nat.reduceEqDiff, ↓argEnv_zero, ↓argEnv_succ, *]; done)), (by first | rfl | (simp only [↓upd_apply, ↓put_some, ↓reduceIte, Nat.reduceEqDiff, ↓argEnv_zero, ↓argEnv_succ, *]; done)), (by first | rfl | (simp only [↓upd_apply, ↓put_some, ↓reduceIte, Nat.reduceEqDiff, ↓argEnv_zero, ↓argEnv_succ, *]; done)), (by first | rfl | (simp only [↓upd_apply, ↓put_some, ↓reduceIte, Nat.reduceEqDiff, ↓argEnv_zero, ↓argEnv_succ, *]; done)), (by first | rfl | (simp only [↓upd_apply, ↓put_some, ↓reduceIte, Nat.reduceEqDiff, ↓argEnv_zero, ↓argEnv_succ, *]; done)), (by first | rfl | (simp only [↓upd_apply, ↓put_some, ↓reduceIte, Nat.reduceEqDiff, ↓argEnv_zero, ↓argEnv_succ, *]; done)), (by first | rfl | (simp only [↓upd_apply, ↓put_some, ↓reduceIte, Nat.reduceEqDiff, ↓argEnv_zero, ↓argEnv_succ, *]; done)), i + 1, m2, n2, _, (by first | rfl | (simp only [↓upd_apply, ↓put_some, ↓reduceIte, Nat.reduceEqDiff, ↓argEnv_zero, ↓argEnv_succ, *]; done)), rfl, by omega, hm2, by omega, rfl⟩
end Go.Proofs.YthbpbkbjdfcnjaaGreatDoor.Pe
