/- Package wal on plain values: what records yields. -/
import Derived.Test.YtjicccjpooahoaaWlA
set_option linter.unusedSectionVars false
set_option linter.unusedVariables false
set_option linter.unusedSimpArgs false
namespace Go.Proofs.Ytjicccjpooahoaa.Pe
open Go Go.RowKit Co Dm Wl
set_option maxRecDepth 100000
set_option maxHeartbeats 4000000
theorem sren_idn {n : Nat} {ρ : Nat → Nat} {o : SObj} (h : o.ok n = true) (hρ : ∀ i, i < n → ρ i = i) : o.ren ρ = o := by
 cases o with
 | cells cs =>
  have : cs.map (AV.r1 ρ) = cs := map_id_of (p := AV.o1 n) h fun v hv => by
   have := ren_id (ρ := ρ) (v := .agg [v]) (n := n) (by simpa [AV.ok, AV.o2] using hv) hρ
   simpa [AV.ren, AV.r2] using this
  show SObj.cells _ = _
  rw [this]
 | row cs e sz =>
  have : cs.map (AV.r1 ρ) = cs := map_id_of (p := AV.o1 n) h fun v hv => by
   have := ren_id (ρ := ρ) (v := .agg [v]) (n := n) (by simpa [AV.ok, AV.o2] using hv) hρ
   simpa [AV.ren, AV.r2] using this
  show SObj.row _ _ _ = _
  rw [this]
 | map es =>
  have h := List.all_eq_true.1 h
  show SObj.map _ = SObj.map es
  congr 1
  rw [List.map_congr_left (g := id) fun p hp => ?_, List.map_id]
  have := h p hp
  simp only [Bool.and_eq_true] at this
  have h1 := ren_id (ρ := ρ) (v := .agg [p.1]) (n := n) (by simpa [AV.ok, AV.o2] using this.1) hρ
  have h2 := ren_id (ρ := ρ) (v := .tup [p.2]) (n := n) (by simpa [AV.ok] using this.2) hρ
  have h1 : p.1.r1 ρ = p.1 := by simpa [AV.ren, AV.r2] using h1
  have h2 : p.2.r2 ρ = p.2 := by
   have h2 : AV.tup [p.2.r2 ρ] = AV.tup [p.2] := h2
   simp only [AV.tup.injEq, List.cons.injEq, and_true] at h2
   exact h2
  rw [h1, h2]; rfl
 | loop b D fn es ps asn bdy st =>
  have : es.map (AV.ren ρ) = es := map_id_of (p := AV.ok n) h fun v hv => ren_id hv hρ
  show SObj.loop _ _ _ _ _ _ _ _ = _
  rw [this]
 | _ => rfl
theorem idx_range {n i : Nat} (h : i < n) : idx (List.range n) i = i := by
 unfold idx
 rw [List.getD_eq_getElem?_getD, List.getElem?_range h]
 rfl
theorem subOk_pre {S T : Store} (n : Nat) (hn : S.length = n) (h : S.all (SObj.ok n) = true) : SubOk (List.range n) (S ++ T) S := by
 refine ⟨List.nodup_range, by simpa using hn, fun i o hi => ?_⟩
 have hlt := (List.getElem?_eq_some_iff.1 hi).1
 have ho := List.all_eq_true.1 h o (List.mem_of_getElem? hi)
 rw [List.length_range]
 refine ⟨ho, ?_⟩
 rw [sren_idn ho (fun j hj => idx_range hj), idx_range (by omega), List.getElem?_append_left hlt]
 exact hi
theorem nilT {t : By} (h : t ≠ []) : 0 < t.length := List.length_pos_iff.2 h
theorem iter_c (data : By) (hd : data.length ≤ 16777216) (b : Nat) (o0 o2 o6 : SObj) (o1 o5 : List By → SObj) (o3 : Int → SObj)
  (hok : ∀ rows v, ([o0, o1 rows, o2, o3 v, .cells [.st data], o5 rows, o6] : Store).all (SObj.ok 7) = true)
  (hY : ∀ (rows : List By) (v en : Int) (s : By) (x : R), rows.length ≤ 16777216 → s.length ≤ 1048576 → AYB Try.prog b [.st s, .it .i64 en] [o0, o1 rows, o2, o3 v, .cells [.st data], o5 rows, o6, rd x] (.bo true) [o0, o1 (rows ++ [s]), o2, o3 en, .cells [.st data], o5 (rows ++ [s]), o6, rd x]) :
  AC Try.prog 43 [.fn (.yield b) [] [], .ptr 4 0] [o0, o1 [], o2, o3 0, .cells [.st data], o5 [], o6] (.tup []) [o0, o1 (rowsOf data), o2, o3 ((recs (rowsOf data)).length : Int), .cells [.st data], o5 (rowsOf data), o6] := by
 refine AC.enter2 [48] [45] Try.func43 rfl (by decide) (by decide) (Nat.le_of_ble_eq_true rfl) (by kernel_rfl) ?_; simp only [eraseC, eraseG, eraseO, List.map_cons, List.map_nil, List.map_toArray, List.getElem?_toArray, List.getElem?_cons_zero, List.getElem?_cons_succ, Option.bind_some, Option.bind_none, List.append_eq, List.cons_append, List.nil_append]
 refine run ?_
 refine call_mk (AC.newAt (open_c data) _) ?_
 refine run ?_
 have fin : ∀ (x : R) (rows : List By) (v : Int) (e : Env), rows = rowsOf data → v = ((recs rows).length : Int) →
   Fin Try.prog Try.f43.results.toList 7 (.tup []) [o0, o1 (rowsOf data), o2, o3 ((recs (rowsOf data)).length : Int), .cells [.st data], o5 (rowsOf data), o6] e [o0, o1 rows, o2, o3 v, .cells [.st data], o5 rows, o6, rd x] := by
  intro x rows v e h1 h2
  subst h2; subst h1
  have := ends_ret (P := Try.prog) (rs := Try.f43.results.toList) (v := .tup []) (e := e) (N0 := 7) (vs := []) (List.range 7) (by rfl) (subOk_pre (S := [o0, o1 (rowsOf data), o2, o3 ((recs (rowsOf data)).length : Int), .cells [.st data], o5 (rowsOf data), o6]) (T := [rd x]) 7 rfl (hok _ _)) (by rfl) (by rfl) (by rfl)
  exact this
 refine loop_mk (fun m e S => e 0 = .fn (.yield b) [] [] ∧ e 1 = .ptr 4 0 ∧ e 3 = .ptr 7 0 ∧ ∃ (rows : List By) (t : By), S = [o0, o1 rows, o2, o3 ((recs rows).length : Int), .cells [.st data], o5 rows, o6, rd ⟨t, false⟩] ∧ data = recs rows ++ t ∧ okL rows ∧ rows.length ≤ (recs rows).length ∧ m = t.length) data.length ⟨(by first | rfl | (simp only [↓upd_apply, ↓put_some, ↓reduceIte, Nat.reduceEqDiff, ↓argEnv_zero, ↓argEnv_succ, *]; done)), (by first | rfl | (simp only [↓upd_apply, ↓put_some, ↓reduceIte, Nat.reduceEqDiff, ↓argEnv_zero, ↓argEnv_succ, *]; done)), (by first | rfl | (simp only [↓upd_apply, ↓put_some, ↓reduceIte, Nat.reduceEqDiff, ↓argEnv_zero, ↓argEnv_succ, *]; done)), [], data, rfl, rfl, (fun s hs => by cases hs), Nat.le_refl _, rfl⟩ ?_
 rintro m e S ⟨s0, s1, s3, rows, t, rfl, hdt, hokr, hrl, rfl⟩
 have hlen : data.length = (recs rows).length + t.length := by rw [← List.length_append, ← hdt]
 have hstuck : Wl.stuck t → rows = rowsOf data := fun h => by rw [hdt]; exact (rows_back hokr h).1.symm
 refine runf (an @s0 (an @s1 @s3)) ?_
 refine c1r 7 (left_c ⟨t, false⟩) ?_
 by_cases ht : t = []
 ·have hr := hstuck (by rw [ht]; exact stuck_nil)
  have ht0 : ¬ (0 < (t.length : Int)) := by rw [ht]; decide
  refine runf (an @s0 (an @s1 (an @s3 @ht0))) ?_
  exact fin _ _ _ _ hr rfl
 have ht0 : 0 < (t.length : Int) := by have := nilT ht; omega
 have hst : Wl.step ⟨t, false⟩ = (if ((R.num ⟨t, false⟩).2.take 4).1.length ≠ 4 ∨ 1048576 < (R.num ⟨t, false⟩).1 then none else
  if (((R.num ⟨t, false⟩).2.take 4).2.take (R.num ⟨t, false⟩).1).1.length ≠ (R.num ⟨t, false⟩).1 ∨ ck (((R.num ⟨t, false⟩).2.take 4).2.take (R.num ⟨t, false⟩).1).1 ≠ ((R.num ⟨t, false⟩).2.take 4).1 then none else
  some (((R.num ⟨t, false⟩).2.take 4).2.take (R.num ⟨t, false⟩).1)) := rfl
 have hinv := fun (s : By) (x : R) => step_inv (b := t) (s := s) (x := x)
 have k1 := rnum_c ⟨t, false⟩ (by show t.length < _; omega)
 have l1 := num_rest ⟨t, false⟩
 have l0 := num_lt ⟨t, false⟩
 refine runf (an @s0 (an @s1 (an @s3 @ht0))) ?_
 unfold Wl.stuck at hstuck
 generalize (R.num ⟨t, false⟩).1 = n at *
 generalize (R.num ⟨t, false⟩).2 = x1 at *
 refine c1 7 k1 ?_
 refine runf (an @s0 (an @s1 (an @s3 @ht0))) ?_
 have l1 : x1.rest.length ≤ t.length := l1
 have k2 := take_c x1 4 (by omega) (by omega)
 have l2 := take_rest x1 4
 generalize (x1.take 4).1 = c at *
 generalize (x1.take 4).2 = x2 at *
 refine c1 7 k2 ?_
 by_cases h4 : c.length = 4
 rotate_left
 ·rw [if_pos (.inl h4)] at hst
  have hr := hstuck hst
  refine runf (an @s0 (an @s1 @s3)) ?_
  exact fin _ _ _ _ hr rfl
 by_cases hn : 1048576 < n
 ·rw [if_pos (.inr hn)] at hst
  have hr := hstuck hst
  refine runf (an @s0 (an @s1 @s3)) ?_
  exact fin _ _ _ _ hr rfl
 rw [if_neg (by omega)] at hst
 refine runf (an @s0 (an @s1 @s3)) ?_
 have k3 := take_c x2 n (by omega) (by omega)
 have l3 := take_rest x2 n
 have e3 : x2.take n = ((x2.take n).1, (x2.take n).2) := rfl
 rw [e3] at hst
 generalize (x2.take n).1 = s at *
 generalize (x2.take n).2 = x3 at *
 clear e3
 refine c1 7 k3 ?_
 by_cases h5 : s.length = n
 rotate_left
 ·rw [if_pos (.inl h5)] at hst
  have hr := hstuck hst
  have h6 : ¬ ((s.length : Int) = (n : Int)) := by omega
  refine runf (an @s0 (an @s1 (an @s3 @h6))) ?_
  exact fin _ _ _ _ hr rfl
 have h6 : (s.length : Int) = (n : Int) := by omega
 refine runf (an @s0 (an @s1 (an @s3 @h6))) ?_
 refine cp (checksum_c s (by omega)) ?_
 by_cases h7 : ck s = c
 rotate_left
 ·rw [if_pos (.inr h7)] at hst
  have hr := hstuck hst
  have e7 : (ck s == c) = false := by simpa using h7
  refine runf (an @s0 (an @s1 (an @s3 @e7))) ?_
  exact fin _ _ _ _ hr rfl
 have e7 : (ck s == c) = true := by simpa using h7
 rw [if_neg (by simp [h5, h7])] at hst
 obtain ⟨i1, i2, i3⟩ := step_inv hst
 obtain ⟨t', bad⟩ := x3
 simp only at i1 i3
 subst i3
 refine runf (an @s0 (an @s1 (an @s3 @e7))) ?_
 refine c1r 7 (left_c ⟨t', false⟩) ?_
 have hrec : data = recs (rows ++ [s]) ++ t' := by rw [recs_snoc, List.append_assoc, ← i1]; exact hdt
 have hpos := rec1_pos s
 have hl1 : (recs (rows ++ [s])).length = (recs rows).length + (rec1 s).length := by rw [recs_snoc, List.length_append]
 have hl2 : t.length = (rec1 s).length + t'.length := by rw [i1, List.length_append]
 have hen : (data.length : Int) - (t'.length : Int) = ((recs (rows ++ [s])).length : Int) := by omega
 have hyy := hY rows ((recs rows).length : Int) ((recs (rows ++ [s])).length : Int) s ⟨t', false⟩ (by omega) i2
 have hrl2 : (rows ++ [s]).length ≤ (recs (rows ++ [s])).length := by rw [List.length_append]; simp only [List.length_cons, List.length_nil]; omega
 have hok2 : okL (rows ++ [s]) := okL_append hokr (fun x hx => by rw [List.mem_singleton.1 hx]; exact i2)
 clear hY hst hinv hstuck i1 hdt
 generalize hm1 : (recs (rows ++ [s])).length = m1 at *
 refine runf (an @s0 (an @s1 (an @s3 @hen))) ?_
 refine callP_mk _ _ (show AYT _ _ _ _ _ _ _ _ _ from ⟨⟨rfl, rfl⟩, hyy⟩) ?_
 refine runf (an @s0 (an @s1 @s3)) ?_
 exact round_mk t'.length (by omega) ⟨(by first | rfl | (simp only [↓upd_apply, ↓put_some, ↓reduceIte, Nat.reduceEqDiff, ↓argEnv_zero, ↓argEnv_succ, *]; done)), (by first | rfl | (simp only [↓upd_apply, ↓put_some, ↓reduceIte, Nat.reduceEqDiff, ↓argEnv_zero, ↓argEnv_succ, *]; done)), (by first | rfl | (simp only [↓upd_apply, ↓put_some, ↓reduceIte, Nat.reduceEqDiff, ↓argEnv_zero, ↓argEnv_succ, *]; done)), rows ++ [s], t', by rw [hm1], hrec, hok2, by omega, rfl⟩
end Go.Proofs.Ytjicccjpooahoaa.Pe
