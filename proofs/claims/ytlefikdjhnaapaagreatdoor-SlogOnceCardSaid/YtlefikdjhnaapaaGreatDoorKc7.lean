/- Several texts in one, without what this claim does not use (tools/shake.py). -/
import Derived.Test.YtlefikdjhnaapaaGreatDoorKc1
import Derived.Test.YtlefikdjhnaapaaGreatDoorKc2
import Derived.Test.YtlefikdjhnaapaaGreatDoorKc3
import Derived.Test.YtlefikdjhnaapaaGreatDoorKc4
import Derived.Test.YtlefikdjhnaapaaGreatDoorKc5
import Derived.Test.YtlefikdjhnaapaaGreatDoorKc6
import Derived.Deep.RegionHeld3
import Derived.Below
import Derived.ChangeSame
import Derived.Test.YtlefikdjhnaapaaGreatDoorCards
import Derived.Test.YtlefikdjhnaapaaGreatDoorTie
import Derived.WalkKit
import Derived.ProofKit
import Derived.OpenShut
import Derived.Deep.DeepHandedRow
import Derived.Lib.LaidTab
import Derived.Stop.LaidErr
import Derived.ShutString
set_option linter.unusedSectionVars false
set_option linter.unusedVariables false
set_option linter.unusedSimpArgs false
section
namespace Go.Proofs.YtlefikdjhnaapaaGreatDoor.Pe
open Go Go.RowKit Co Dm Wl
set_option maxRecDepth 100000
set_option maxHeartbeats 4000000
theorem sren_idn {n : Nat} {ρ : Nat → Nat} {o : SObj} (h : o.ok n = true) (hρ : ∀ i, i < n → ρ i = i) : o.ren ρ = o := by
 cases o with
 | cells cs =>
  have : cs.map (AV.r1 ρ) = cs := map_id_of (p := AV.o1 n) h fun v hv => by
   have := ren_id (ρ := ρ) (v := .agg [v]) (n := n) (by simpa [AV.ok, AV.o2] using hv) hρ
   simpa [AV.ren, AV.r2] using this
  show SObj.cells _ = _
  rw [this]
 | row cs e sz =>
  have : cs.map (AV.r1 ρ) = cs := map_id_of (p := AV.o1 n) h fun v hv => by
   have := ren_id (ρ := ρ) (v := .agg [v]) (n := n) (by simpa [AV.ok, AV.o2] using hv) hρ
   simpa [AV.ren, AV.r2] using this
  show SObj.row _ _ _ = _
  rw [this]
 | map es =>
  have h := List.all_eq_true.1 h
  show SObj.map _ = SObj.map es
  congr 1
  rw [List.map_congr_left (g := id) fun p hp => ?_, List.map_id]
  have := h p hp
  simp only [Bool.and_eq_true] at this
  have h1 := ren_id (ρ := ρ) (v := .agg [p.1]) (n := n) (by simpa [AV.ok, AV.o2] using this.1) hρ
  have h2 := ren_id (ρ := ρ) (v := .tup [p.2]) (n := n) (by simpa [AV.ok] using this.2) hρ
  have h1 : p.1.r1 ρ = p.1 := by simpa [AV.ren, AV.r2] using h1
  have h2 : p.2.r2 ρ = p.2 := by
   have h2 : AV.tup [p.2.r2 ρ] = AV.tup [p.2] := h2
   simp only [AV.tup.injEq, List.cons.injEq, and_true] at h2
   exact h2
  rw [h1, h2]; rfl
 | loop b D fn es ps asn bdy st =>
  have : es.map (AV.ren ρ) = es := map_id_of (p := AV.ok n) h fun v hv => ren_id hv hρ
  show SObj.loop _ _ _ _ _ _ _ _ = _
  rw [this]
 | _ => rfl
theorem idx_range {n i : Nat} (h : i < n) : idx (List.range n) i = i := by
 unfold idx
 rw [List.getD_eq_getElem?_getD, List.getElem?_range h]
 rfl
theorem subOk_pre {S T : Store} (n : Nat) (hn : S.length = n) (h : S.all (SObj.ok n) = true) : SubOk (List.range n) (S ++ T) S := by
 refine ⟨List.nodup_range, by simpa using hn, fun i o hi => ?_⟩
 have hlt := (List.getElem?_eq_some_iff.1 hi).1
 have ho := List.all_eq_true.1 h o (List.mem_of_getElem? hi)
 rw [List.length_range]
 refine ⟨ho, ?_⟩
 rw [sren_idn ho (fun j hj => idx_range hj), idx_range (by omega), List.getElem?_append_left hlt]
 exact hi
theorem nilT {t : By} (h : t ≠ []) : 0 < t.length := List.length_pos_iff.2 h
theorem iter_c (data : By) (hd : data.length ≤ 16777216) (b : Nat) (o0 o2 o6 : SObj) (o1 o5 : List By → SObj) (o3 : Int → SObj)
  (hok : ∀ rows v, ([o0, o1 rows, o2, o3 v, .cells [.st data], o5 rows, o6] : Store).all (SObj.ok 7) = true)
  (hY : ∀ (rows : List By) (v en : Int) (s : By) (x : R), rows.length ≤ 16777216 → s.length ≤ 1048576 → AYB Tryz.prog b [.st s, .it .i64 en] [o0, o1 rows, o2, o3 v, .cells [.st data], o5 rows, o6, rd x] (.bo true) [o0, o1 (rows ++ [s]), o2, o3 en, .cells [.st data], o5 (rows ++ [s]), o6, rd x]) :
  AC Tryz.prog 200 [.fn (.yield b) [] [], .ptr 4 0] [o0, o1 [], o2, o3 0, .cells [.st data], o5 [], o6] (.tup []) [o0, o1 (rowsOf data), o2, o3 ((recs (rowsOf data)).length : Int), .cells [.st data], o5 (rowsOf data), o6] := by
 refine AC.enter2 [201] [135] Tryz.func200 rfl (by decide) (by decide) (Nat.le_of_ble_eq_true rfl) (by kernel_rfl) ?_; refine zev ?_
 refine run ?_
 refine call_mk (AC.newAt (open_c data) _) ?_
 refine run ?_
 have fin : ∀ (x : R) (rows : List By) (v : Int) (e : Env), rows = rowsOf data → v = ((recs rows).length : Int) →
   Fin Tryz.prog Tryz.f200.results.toList 7 (.tup []) [o0, o1 (rowsOf data), o2, o3 ((recs (rowsOf data)).length : Int), .cells [.st data], o5 (rowsOf data), o6] e [o0, o1 rows, o2, o3 v, .cells [.st data], o5 rows, o6, rd x] := by
  intro x rows v e h1 h2
  subst h2; subst h1
  have := ends_ret (P := Tryz.prog) (rs := Tryz.f200.results.toList) (v := .tup []) (e := e) (N0 := 7) (vs := []) (List.range 7) (by rfl) (subOk_pre (S := [o0, o1 (rowsOf data), o2, o3 ((recs (rowsOf data)).length : Int), .cells [.st data], o5 (rowsOf data), o6]) (T := [rd x]) 7 rfl (hok _ _)) (by rfl) (by rfl) (by rfl)
  exact this
 refine loop_mk (fun m e S => e 0 = .fn (.yield b) [] [] ∧ e 1 = .ptr 4 0 ∧ e 3 = .ptr 7 0 ∧ ∃ (rows : List By) (t : By), S = [o0, o1 rows, o2, o3 ((recs rows).length : Int), .cells [.st data], o5 rows, o6, rd ⟨t, false⟩] ∧ data = recs rows ++ t ∧ okL rows ∧ rows.length ≤ (recs rows).length ∧ m = t.length) data.length ⟨zsl, zsl, zsl, [], data, rfl, rfl, (fun s hs => by cases hs), Nat.le_refl _, rfl⟩ ?_
 rintro m e S ⟨s0, s1, s3, rows, t, rfl, hdt, hokr, hrl, rfl⟩
 have hlen : data.length = (recs rows).length + t.length := by rw [← List.length_append, ← hdt]
 have hstuck : Wl.stuck t → rows = rowsOf data := fun h => by rw [hdt]; exact (rows_back hokr h).1.symm
 refine runf (an @s0 (an @s1 @s3)) ?_
 refine c1r 7 (left_c ⟨t, false⟩) ?_
 by_cases ht : t = []
 ·have hr := hstuck (by rw [ht]; exact stuck_nil)
  have ht0 : ¬ (0 < (t.length : Int)) := by rw [ht]; decide
  refine runf (an @s0 (an @s1 (an @s3 @ht0))) ?_
  exact fin _ _ _ _ hr rfl
 have ht0 : 0 < (t.length : Int) := by have := nilT ht; omega
 have hst : Wl.step ⟨t, false⟩ = (if ((R.num ⟨t, false⟩).2.take 4).1.length ≠ 4 ∨ 1048576 < (R.num ⟨t, false⟩).1 then none else
  if (((R.num ⟨t, false⟩).2.take 4).2.take (R.num ⟨t, false⟩).1).1.length ≠ (R.num ⟨t, false⟩).1 ∨ ck (((R.num ⟨t, false⟩).2.take 4).2.take (R.num ⟨t, false⟩).1).1 ≠ ((R.num ⟨t, false⟩).2.take 4).1 then none else
  some (((R.num ⟨t, false⟩).2.take 4).2.take (R.num ⟨t, false⟩).1)) := rfl
 have hinv := fun (s : By) (x : R) => step_inv (b := t) (s := s) (x := x)
 have k1 := rnum_c ⟨t, false⟩ (by show t.length < _; omega)
 have l1 := num_rest ⟨t, false⟩
 have l0 := num_lt ⟨t, false⟩
 refine runf (an @s0 (an @s1 (an @s3 @ht0))) ?_
 unfold Wl.stuck at hstuck
 generalize (R.num ⟨t, false⟩).1 = n at *
 generalize (R.num ⟨t, false⟩).2 = x1 at *
 refine c1 7 k1 ?_
 refine runf (an @s0 (an @s1 (an @s3 @ht0))) ?_
 have l1 : x1.rest.length ≤ t.length := l1
 have k2 := take_c x1 4 (by omega) (by omega)
 have l2 := take_rest x1 4
 generalize (x1.take 4).1 = c at *
 generalize (x1.take 4).2 = x2 at *
 refine c1 7 k2 ?_
 by_cases h4 : c.length = 4
 rotate_left
 ·rw [if_pos (.inl h4)] at hst
  have hr := hstuck hst
  refine runf (an @s0 (an @s1 @s3)) ?_
  exact fin _ _ _ _ hr rfl
 by_cases hn : 1048576 < n
 ·rw [if_pos (.inr hn)] at hst
  have hr := hstuck hst
  refine runf (an @s0 (an @s1 @s3)) ?_
  exact fin _ _ _ _ hr rfl
 rw [if_neg (by omega)] at hst
 refine runf (an @s0 (an @s1 @s3)) ?_
 have k3 := take_c x2 n (by omega) (by omega)
 have l3 := take_rest x2 n
 have e3 : x2.take n = ((x2.take n).1, (x2.take n).2) := rfl
 rw [e3] at hst
 generalize (x2.take n).1 = s at *
 generalize (x2.take n).2 = x3 at *
 clear e3
 refine c1 7 k3 ?_
 by_cases h5 : s.length = n
 rotate_left
 ·rw [if_pos (.inl h5)] at hst
  have hr := hstuck hst
  have h6 : ¬ ((s.length : Int) = (n : Int)) := by omega
  refine runf (an @s0 (an @s1 (an @s3 @h6))) ?_
  exact fin _ _ _ _ hr rfl
 have h6 : (s.length : Int) = (n : Int) := by omega
 refine runf (an @s0 (an @s1 (an @s3 @h6))) ?_
 refine cp (checksum_c s (by omega)) ?_
 by_cases h7 : ck s = c
 rotate_left
 ·rw [if_pos (.inr h7)] at hst
  have hr := hstuck hst
  have e7 : (ck s == c) = false := by simpa using h7
  refine runf (an @s0 (an @s1 (an @s3 @e7))) ?_
  exact fin _ _ _ _ hr rfl
 have e7 : (ck s == c) = true := by simpa using h7
 rw [if_neg (by simp [h5, h7])] at hst
 obtain ⟨i1, i2, i3⟩ := step_inv hst
 obtain ⟨t', bad⟩ := x3
 simp only at i1 i3
 subst i3
 refine runf (an @s0 (an @s1 (an @s3 @e7))) ?_
 refine c1r 7 (left_c ⟨t', false⟩) ?_
 have hrec : data = recs (rows ++ [s]) ++ t' := by rw [recs_snoc, List.append_assoc, ← i1]; exact hdt
 have hpos := rec1_pos s
 have hl1 : (recs (rows ++ [s])).length = (recs rows).length + (rec1 s).length := by rw [recs_snoc, List.length_append]
 have hl2 : t.length = (rec1 s).length + t'.length := by rw [i1, List.length_append]
 have hen : (data.length : Int) - (t'.length : Int) = ((recs (rows ++ [s])).length : Int) := by omega
 have hyy := hY rows ((recs rows).length : Int) ((recs (rows ++ [s])).length : Int) s ⟨t', false⟩ (by omega) i2
 have hrl2 : (rows ++ [s]).length ≤ (recs (rows ++ [s])).length := by rw [List.length_append]; simp only [List.length_cons, List.length_nil]; omega
 have hok2 : okL (rows ++ [s]) := okL_append hokr (fun x hx => by rw [List.mem_singleton.1 hx]; exact i2)
 clear hY hst hinv hstuck i1 hdt
 generalize hm1 : (recs (rows ++ [s])).length = m1 at *
 refine runf (an @s0 (an @s1 (an @s3 @hen))) ?_
 refine callP_mk _ _ (show AYT _ _ _ _ _ _ _ _ _ from ⟨⟨rfl, rfl⟩, hyy⟩) ?_
 refine runf (an @s0 (an @s1 @s3)) ?_
 exact round_mk t'.length (by omega) ⟨zsl, zsl, zsl, rows ++ [s], t', by rw [hm1], hrec, hok2, by omega, rfl⟩
end Go.Proofs.YtlefikdjhnaapaaGreatDoor.Pe
end
section
namespace Go.Proofs.YtlefikdjhnaapaaGreatDoor.Pe
open Go Go.RowKit Co Dm Wl
set_option maxRecDepth 100000
set_option maxHeartbeats 4000000
theorem subOk_same {S1 S : Store} (n : Nat) (h : S1 = S) (hn : S.length = n) (hk : S.all (SObj.ok n) = true) : SubOk (List.range n) S1 S := by
 subst h
 have := subOk_pre (T := []) n hn hk
 rwa [List.append_nil] at this
abbrev LG (d : Dk) (f : Int) (rows : List By) : Store := [XD d, .cells [.ptr 0 0, .it .i64 f, .sl (.own 2) (rows.map .st)], .buf rows.length 9 1]
theorem clear_c (d : Dk) (f : Int) (rows : List By) (hf : 0 ≤ f ∧ f ≤ 6) : AC Tryz.prog 130 [.ptr 1 0] (LG d f rows) (.it .i64 (clearD d f).1) (LG (clearD d f).2 f rows) := by
 refine AC.enter2 [] [203] Tryz.func130 rfl (by decide) (by decide) (Nat.le_of_ble_eq_true rfl) (by kernel_rfl) ?_; refine zev ?_
 have hcl : clearD d f = (if size d (f + 1) = 0 then (0, d) else cutD d (f + 1) 0) := rfl
 refine run ?_
 refine c1r 0 (d_size d (f + 1)) ?_
 by_cases hz : size d (f + 1) = 0
 ·rw [if_pos hz] at hcl
  rw [hcl]
  have e1 : ((size d (f + 1) : Int) == 0) = true := by rw [hz]; rfl
  refine runf @e1 ?_
  exact ends_ret (List.range 3) (by rfl) (subOk_pre (S := LG d f rows) (T := []) 3 rfl (by rfl)) (by rfl) (by rfl) (by rfl)
 ·rw [if_neg hz] at hcl
  rw [hcl]
  have e1 : ((size d (f + 1) : Int) == 0) = false := by simp; omega
  refine runf @e1 ?_
  refine c1 0 (d_cut d (f + 1) 0) ?_
  refine run ?_
  exact ends_ret (List.range 3) (by rfl) (subOk_pre (S := LG (cutD d (f + 1) 0).2 f rows) (T := []) 3 rfl (by rfl)) (by rfl) (by rfl) (by rfl)
theorem records_at (s : By) (T : Store) : AC Tryz.prog 128 [.st s] T (.fn (.func 200) [] [.ptr T.length 0]) (T ++ [.cells [.st s]]) := by
 have := AC.fresh1 (records_c s) rfl (by rfl) (by rfl) T
 simpa [AV.ren, AV.r2, AV.r1, AV.r0, SObj.ren] using this
abbrev LO (d : Dk) (f : Int) (rows : List By) (o2 o3 o4 o6 : SObj) : Store := [XD d, .cells [.ptr 0 0, .it .i64 f, .sl (.own 5) (rows.map .st)], o2, o3, o4, .buf rows.length 9 1, o6]
theorem lo_sub (d : Dk) (f : Int) (rows : List By) (o2 o3 o4 o6 : SObj) : SubOk [0, 1, 5] (LO d f rows o2 o3 o4 o6) (LG d f rows) := ⟨by decide, rfl, fun i o hi => by
 match i, hi with
 | 0, hi => cases hi; exact ⟨rfl, rfl⟩
 | 1, hi => cases hi; exact ⟨rfl, rfl⟩
 | 2, hi => cases hi; exact ⟨rfl, rfl⟩⟩
theorem clear_at (d : Dk) (f : Int) (rows : List By) (hf : 0 ≤ f ∧ f ≤ 6) (o2 o3 o4 o6 : SObj) : AC Tryz.prog 130 [.ptr 1 0] (LO d f rows o2 o3 o4 o6) (.it .i64 (clearD d f).1) (LO (clearD d f).2 f rows o2 o3 o4 o6) :=
 (clear_c d f rows hf).frame (T := LO d f rows o2 o3 o4 o6) [0, 1, 5] (lo_sub ..) rfl rfl (fun i o hi => by
  match i, hi with
  | 0, hi => cases hi; rfl
  | 1, hi => cases hi; rfl
  | 2, hi => cases hi; rfl)
theorem wopen_c (d : Dk) (f : Int) (hf : 0 ≤ f ∧ f ≤ 6) (hb : (peek d f).1.length ≤ 16777216) (v : AV) (S' : Store)
  (h0 : (openD d f).1 = 0 → v = .tup [.ptr 1 0, .it .i64 0] ∧ S' = LG (openD d f).2 f (rowsOf (peek d f).1))
  (h1 : (openD d f).1 ≠ 0 → v = .tup [.ot (.pointer none), .it .i64 (openD d f).1] ∧ S' = [XD (openD d f).2]) :
  AC Tryz.prog 68 [.ptr 0 0, .it .i64 f] [XD d] v S' := by
 refine AC.enterN 76 [] [] Tryz.func68 rfl (by decide) (by decide) (Nat.le_of_ble_eq_true rfl) (by kernel_rfl) rfl ?_; refine zev ?_
 have hod : openD d f = (if (peek d f).2 ≠ 0 then ((peek d f).2, d) else
  if (trimD d f).1 ≠ 0 then trimD d f else
  if (clearD (trimD d f).2 f).1 ≠ 0 then clearD (trimD d f).2 f else
  flushD (clearD (trimD d f).2 f).2 f) := rfl
 have htr : trimD d f = (if (recs (rowsOf (peek d f).1)).length < (peek d f).1.length then cutD d f ((recs (rowsOf (peek d f).1)).length : Int) else (0, d)) := rfl
 have hn1 : ¬ f < 0 := by omega
 have hn2 : ¬ 6 < f := by omega
 have kr := d_read d f
 generalize (peek d f).1 = b at *
 generalize (peek d f).2 = en at *
 refine runf (an @hn1 @hn2) ?_
 refine c1 0 kr ?_
 by_cases hen : en = 0
 rotate_left
 ·rw [if_pos hen] at hod
  rw [hod] at h0 h1
  obtain ⟨rfl, rfl⟩ := h1 hen
  have e1 : (en != 0) = true := by simpa using hen
  refine runf @e1 ?_
  exact ends_ret (List.range 1) (by rfl) (subOk_pre (S := [XD d]) (T := []) 1 rfl (by rfl)) (by rfl) (by rfl) (by rfl)
 rw [if_neg (by simpa using hen)] at hod
 subst hen
 refine run ?_
 refine call_mk (records_at b _) ?_
 refine run ?_
 refine ⟨_, _, (Weak.keep 1 ((((((Keep.nil _).cons 0 (.ptr 0 0) zsl).cons 1 (.it .i64 f) zsl).cons 6 (.st b) zsl).cons 8 (.ptr 2 0) zsl).cons 9 (.ptr 3 0) zsl |>.cons 39 (.fn (.func 200) [] [.ptr 4 0]) zsl)).trans2 (Weak.reserveN 1 1 2 (es := []) (by rfl) (by rfl) 9 1), ?_⟩
 have hEok : (envL 76 (upd (upd (upd (upd (upd (upd (fun _ => .junk) 0 (.ptr 0 0)) 1 (.it .i64 f)) 6 (.st b)) 8 (.ptr 2 0)) 9 (.ptr 3 0)) 39 (.fn (.func 200) [] [.ptr 4 0]))).all (AV.ok 7) = true := by rfl
 have hEok8 : (envL 76 (upd (upd (upd (upd (upd (upd (fun _ => .junk) 0 (.ptr 0 0)) 1 (.it .i64 f)) 6 (.st b)) 8 (.ptr 2 0)) 9 (.ptr 3 0)) 39 (.fn (.func 200) [] [.ptr 4 0]))).all (AV.ok 8) = true := by rfl
 have s0 : upd (upd (upd (upd (upd (upd (fun _ => .junk) 0 (.ptr 0 0)) 1 (.it .i64 f)) 6 (.st b)) 8 (.ptr 2 0)) 9 (.ptr 3 0)) 39 (.fn (.func 200) [] [.ptr 4 0]) 0 = .ptr 0 0 := rfl
 have s1 : upd (upd (upd (upd (upd (upd (fun _ => .junk) 0 (.ptr 0 0)) 1 (.it .i64 f)) 6 (.st b)) 8 (.ptr 2 0)) 9 (.ptr 3 0)) 39 (.fn (.func 200) [] [.ptr 4 0]) 1 = .it .i64 f := rfl
 have s6 : upd (upd (upd (upd (upd (upd (fun _ => .junk) 0 (.ptr 0 0)) 1 (.it .i64 f)) 6 (.st b)) 8 (.ptr 2 0)) 9 (.ptr 3 0)) 39 (.fn (.func 200) [] [.ptr 4 0]) 6 = .st b := rfl
 have s8 : upd (upd (upd (upd (upd (upd (fun _ => .junk) 0 (.ptr 0 0)) 1 (.it .i64 f)) 6 (.st b)) 8 (.ptr 2 0)) 9 (.ptr 3 0)) 39 (.fn (.func 200) [] [.ptr 4 0]) 8 = .ptr 2 0 := rfl
 have s9 : upd (upd (upd (upd (upd (upd (fun _ => .junk) 0 (.ptr 0 0)) 1 (.it .i64 f)) 6 (.st b)) 8 (.ptr 2 0)) 9 (.ptr 3 0)) 39 (.fn (.func 200) [] [.ptr 4 0]) 9 = .ptr 3 0 := rfl
 have s39 : upd (upd (upd (upd (upd (upd (fun _ => .junk) 0 (.ptr 0 0)) 1 (.it .i64 f)) 6 (.st b)) 8 (.ptr 2 0)) 9 (.ptr 3 0)) 39 (.fn (.func 200) [] [.ptr 4 0]) 39 = .fn (.func 200) [] [.ptr 4 0] := rfl
 generalize (upd (upd (upd (upd (upd (upd (fun _ => .junk) 0 (.ptr 0 0)) 1 (.it .i64 f)) 6 (.st b)) 8 (.ptr 2 0)) 9 (.ptr 3 0)) 39 (.fn (.func 200) [] [.ptr 4 0])) = E at *
 refine ARF_mk (show ev E (.tmp 39) = _ from s39) (.tup []) [XD d, .cells [.ptr 0 0, .it .i64 f, .sl (.own 5) ((rowsOf b).map .st)], .cells [.ptr 1 0], .cells [.it .i64 ((recs (rowsOf b)).length : Int)], .cells [.st b], .buf (rowsOf b).length 9 1] [] rfl ?_ ?_
 ·intro bk D fn
  refine iter_c b hb bk (XD d) (.cells [.ptr 1 0]) (.loop bk D fn (envL 76 E) _ _ _ .ready) (fun rows => .cells [.ptr 0 0, .it .i64 f, .sl (.own 5) (rows.map .st)]) (fun rows => .buf rows.length 9 1) (fun v => .cells [.it .i64 v]) (fun rows v => ?_) ?_
  ·show (true && (true && (true && (true && (true && (true && ((envL 76 E).all (AV.ok 7) && true))))))) = true
   rw [hEok]
   rfl
  intro rows v en s x hr hs
  have f1 : (rows ++ [s]).map AV.st = rows.map .st ++ [.st s] := List.map_append ..
  have f2 : (rows ++ [s]).length = rows.length + 1 := by simp
  simp only [f1, f2]
  refine AYB.enter4 (es := envL 76 E) [] [] [(11, ([2], [42, 43], []))] [] 6 rfl rfl (by intro p hp; simp at hp; rcases hp with rfl | rfl <;> simp [envL]) rfl (by kernel_rfl) (by kernel_rfl) rfl ?_
  have a8 : argEnv (envL 76 E) 8 = .ptr 2 0 := (argEnv_envL E (by omega)).trans s8
  have a9 : argEnv (envL 76 E) 9 = .ptr 3 0 := (argEnv_envL E (by omega)).trans s9
  simp only [eraseC, eraseG, eraseO, List.map_cons, List.map_nil, List.map_toArray, List.getElem?_toArray, List.getElem?_cons_zero, List.getElem?_cons_succ, Option.bind_some, Option.bind_none, List.append_eq, List.cons_append, List.nil_append, putE_cons, putE_nil]
  refine run ?_
  refine ⟨rfl, ?_⟩
  simp only [eraseC, eraseG, eraseO, List.map_cons, List.map_nil, List.map_toArray, List.getElem?_toArray, List.getElem?_cons_zero, List.getElem?_cons_succ, Option.bind_some, Option.bind_none, List.append_eq, List.cons_append, List.nil_append, eraseC4, eraseC3, hasSp, ordOf, List.isEmpty_nil, List.isEmpty_cons, Bool.and_true, Bool.and_false, Bool.and_self, Bool.false_and, Bool.true_and, List.lookup, Nat.reduceBEq, beq_self_eq_true, Option.isSome_some, Option.isSome_none, Bool.or_true, Bool.true_or, Bool.or_false, Bool.not_true, Bool.not_false, Bool.false_eq_true, if_true, if_false, ↓reduceIte, List.size_toArray, List.length_cons, List.length_nil, List.range_succ_eq_map, List.range_zero, Nat.reduceAdd, List.filterMap_cons, List.filterMap_nil]
  have hsz : allSz 1 [AV.st s] = true := rfl
  have hft : fits (rows.length + 1) 16 = true := by apply fits_ok <;> omega
  have hlen : (rows.map AV.st).length = rows.length := List.length_map _
  refine runf4 (an @a8 @a9) ?_
  refine ⟨_, _, Weak.keep 8 ((((Keep.nil _).cons 8 (.ptr 2 0) zsl).cons 9 (.ptr 3 0) zsl).cons 10 (.st s) zsl |>.cons 11 (.it .i64 en) zsl), ?_⟩
  refine run4 ?_
  repeat (first | refine k4 ?_ | refine k4r ?_ | (refine a4r ?_; refine runf4 (an @hsz (an @hft @hlen)) ?_) | (refine a4 ?_; refine runf4 (an @hsz (an @hft @hlen)) ?_)); try refine runf4 (an @hsz (an @hft @hlen)) ?_
  refine ⟨_, _, List.range 8, Weak.refl _ _ _, rfl, subOk_same 8 rfl rfl ?_, rfl⟩
  show (true && (true && (true && (true && (true && (true && ((envL 76 E).all (AV.ok 8) && (true && true)))))))) = true
  rw [hEok8]
  rfl
 ·clear hEok hEok8 s39
  generalize hrw : rowsOf b = rows at *
  have one : ∀ (d' : Dk) (o2 o3 o4 o6 : SObj), SubOk [0] (LO d' f rows o2 o3 o4 o6) [XD d'] := fun d' o2 o3 o4 o6 => subOk_one 0 rfl rfl
  by_cases hlt : (recs rows).length < b.length
  ·rw [if_pos hlt] at htr
   have e1 : ((recs rows).length : Int) < (b.length : Int) := by omega
   refine runf (an @s0 (an @s1 (an @s6 (an @s8 (an @s9 @e1))))) ?_
   refine c1 0 (d_cut d f ((recs rows).length : Int)) ?_
   rw [← htr]
   clear htr
   generalize trimD d f = q at *
   obtain ⟨te, d1⟩ := q
   simp only at hod
   by_cases hte : te = 0
   rotate_left
   ·rw [if_pos hte] at hod
    rw [hod] at h0 h1
    obtain ⟨rfl, rfl⟩ := h1 hte
    have e3 : (te != 0) = true := by simpa using hte
    refine runf (an @s0 (an @s1 (an @s6 (an @s8 (an @s9 @e3))))) ?_
    exact ends_ret [0] (by rfl) (one _ _ _ _ _) (by rfl) (by rfl) (by rfl)
   subst hte
   rw [if_neg (by simp)] at hod
   refine runf (an @s0 (an @s1 (an @s6 (an @s8 @s9)))) ?_
   have kc := clear_at d1 f rows hf (.cells [.ptr 1 0]) (.cells [.it .i64 ((recs rows).length : Int)]) (.cells [.st b]) .dead
   refine call_mk kc ?_
   generalize clearD d1 f = q2 at *
   obtain ⟨ce, d2⟩ := q2
   simp only at hod
   by_cases hce : ce = 0
   rotate_left
   ·rw [if_pos hce] at hod
    rw [hod] at h0 h1
    obtain ⟨rfl, rfl⟩ := h1 hce
    have e3 : (ce != 0) = true := by simpa using hce
    refine runf (an @s0 (an @s1 (an @s6 (an @s8 (an @s9 @e3))))) ?_
    exact ends_ret [0] (by rfl) (one _ _ _ _ _) (by rfl) (by rfl) (by rfl)
   subst hce
   rw [if_neg (by simp)] at hod
   refine runf (an @s0 (an @s1 (an @s6 (an @s8 @s9)))) ?_
   have kf := d_flush d2 f
   refine c1 0 kf ?_
   generalize flushD d2 f = q3 at *
   obtain ⟨fe, d3⟩ := q3
   rw [hod] at h0 h1
   simp only at h0 h1
   by_cases hfe : fe = 0
   rotate_left
   ·obtain ⟨rfl, rfl⟩ := h1 hfe
    have e3 : (fe != 0) = true := by simpa using hfe
    refine runf (an @s0 (an @s1 (an @s6 (an @s8 (an @s9 @e3))))) ?_
    exact ends_ret [0] (by rfl) (one _ _ _ _ _) (by rfl) (by rfl) (by rfl)
   subst hfe
   obtain ⟨rfl, rfl⟩ := h0 rfl
   refine runf (an @s0 (an @s1 (an @s6 (an @s8 @s9)))) ?_
   exact ends_ret [0, 1, 5] (by rfl) (lo_sub ..) (by rfl) (by rfl) (by rfl)
  ·rw [if_neg hlt] at htr
   have e1 : ¬ ((recs rows).length : Int) < (b.length : Int) := by omega
   refine runf (an @s0 (an @s1 (an @s6 (an @s8 (an @s9 @e1))))) ?_
   generalize trimD d f = q at *
   subst htr
   simp only at hod
   rw [if_neg (by simp)] at hod
   generalize d = d1 at *
   have kc := clear_at d1 f rows hf (.cells [.ptr 1 0]) (.cells [.it .i64 ((recs rows).length : Int)]) (.cells [.st b]) .dead
   refine call_mk kc ?_
   generalize clearD d1 f = q2 at *
   obtain ⟨ce, d2⟩ := q2
   simp only at hod
   by_cases hce : ce = 0
   rotate_left
   ·rw [if_pos hce] at hod
    rw [hod] at h0 h1
    obtain ⟨rfl, rfl⟩ := h1 hce
    have e3 : (ce != 0) = true := by simpa using hce
    refine runf (an @s0 (an @s1 (an @s6 (an @s8 (an @s9 @e3))))) ?_
    exact ends_ret [0] (by rfl) (one _ _ _ _ _) (by rfl) (by rfl) (by rfl)
   subst hce
   rw [if_neg (by simp)] at hod
   refine runf (an @s0 (an @s1 (an @s6 (an @s8 @s9)))) ?_
   have kf := d_flush d2 f
   refine c1 0 kf ?_
   generalize flushD d2 f = q3 at *
   obtain ⟨fe, d3⟩ := q3
   rw [hod] at h0 h1
   simp only at h0 h1
   by_cases hfe : fe = 0
   rotate_left
   ·obtain ⟨rfl, rfl⟩ := h1 hfe
    have e3 : (fe != 0) = true := by simpa using hfe
    refine runf (an @s0 (an @s1 (an @s6 (an @s8 (an @s9 @e3))))) ?_
    exact ends_ret [0] (by rfl) (one _ _ _ _ _) (by rfl) (by rfl) (by rfl)
   subst hfe
   obtain ⟨rfl, rfl⟩ := h0 rfl
   refine runf (an @s0 (an @s1 (an @s6 (an @s8 @s9)))) ?_
   exact ends_ret [0, 1, 5] (by rfl) (lo_sub ..) (by rfl) (by rfl) (by rfl)
end Go.Proofs.YtlefikdjhnaapaaGreatDoor.Pe
end
section
namespace Go.Proofs.YtlefikdjhnaapaaGreatDoor.Pe
open Go Go.RowKit Co Dm Wl
set_option maxRecDepth 100000
set_option maxHeartbeats 4000000
theorem lg_same (d : Dk) (f : Int) (rows : List By) : SubOk (List.range 3) (LG d f rows) (LG d f rows) := subOk_same 3 rfl rfl rfl
theorem wadd_c (d : Dk) (f : Int) (rows : List By) (s : By) (hs : s.length ≤ 140737488355328) (hr : rows.length ≤ 16777216) :
  AC Tryz.prog 78 [.ptr 1 0, .st s] (LG d f rows) (.it .i64 (addD d f s).1) (LG (addD d f s).2 f (if (addD d f s).1 = 0 then rows ++ [s] else rows)) := by
 refine AC.enter2 [148] [] Tryz.func78 rfl (by decide) (by decide) (Nat.le_of_ble_eq_true rfl) (by kernel_rfl) ?_; refine zev ?_
 have had : addD d f s = (if 1048576 < s.length then (7, d) else appendD d f (rec1 s)) := rfl
 by_cases hl : 1048576 < s.length
 ·rw [if_pos hl] at had
  rw [had]
  simp only
  rw [if_neg (by decide)]
  have e1 : (s.length : Int) > 1048576 := by omega
  refine runf @e1 ?_
  exact ends_ret (List.range 3) (by rfl) (lg_same ..) (by rfl) (by rfl) (by rfl)
 rw [if_neg hl] at had
 have e1 : ¬ ((s.length : Int) > 1048576) := by omega
 have hrl : (rec1 s).length ≤ 9223372036854775807 := by
  have h1 := num_le 8 s.length (by omega)
  have h2 := ck_len s
  simp only [rec1, List.length_append]
  omega
 refine runf @e1 ?_
 refine cp (record_c s hs) ?_
 refine run ?_
 refine c1 0 (d_append d f (rec1 s) hrl) ?_
 rw [← had]
 generalize addD d f s = q
 obtain ⟨en, d2⟩ := q
 try simp only
 by_cases hen : en = 0
 ·subst hen
  rw [if_pos rfl]
  have hft : fits (rows.length + 1) 16 = true := by apply fits_ok <;> omega
  have hln : (rows.map AV.st).length = rows.length := List.length_map _
  have f1 : (rows ++ [s]).map AV.st = rows.map .st ++ [.st s] := List.map_append ..
  have f2 : (rows ++ [s]).length = rows.length + 1 := by simp
  unfold LG
  simp only [f1, f2]
  refine runf (an @hft @hln) ?_
  exact ends_ret (List.range 3) (by rfl) (subOk_same 3 rfl rfl rfl) (by rfl) (by rfl) (by rfl)
 ·rw [if_neg hen]
  have e2 : (en == 0) = false := by simpa using hen
  refine runf @e2 ?_
  exact ends_ret (List.range 3) (by rfl) (lg_same ..) (by rfl) (by rfl) (by rfl)
theorem wflush_c (d : Dk) (f : Int) (rows : List By) : AC Tryz.prog 82 [.ptr 1 0] (LG d f rows) (.it .i64 (flushD d f).1) (LG (flushD d f).2 f rows) := by
 refine AC.enter2 [] [] Tryz.func82 rfl (by decide) (by decide) (Nat.le_of_ble_eq_true rfl) (by kernel_rfl) ?_; refine zev ?_
 refine run ?_
 refine c1 0 (d_flush d f) ?_
 refine run ?_
 exact ends_ret (List.range 3) (by rfl) (lg_same ..) (by rfl) (by rfl) (by rfl)
end Go.Proofs.YtlefikdjhnaapaaGreatDoor.Pe
end
section
namespace Go.Proofs.YtlefikdjhnaapaaGreatDoor.Pe
open Go Go.RowKit Co Dm Wl
set_option maxRecDepth 100000
set_option maxHeartbeats 4000000
theorem AC.emptiesW [Tab] {P : Program} {f : FuncId} {m : Mode} {rest : List AV} {S S' : Store} {v : AV} (h : ∀ (A : Option Addr) (c : Nat), AC P f (.ot (.slice A 0 c) :: rest) S v S') : AC P f (.sl m [] :: rest) S v S' := by
 refine ⟨(h none 0).can, fun w g cargs hw hargs => ?_⟩
 obtain ⟨h1, h2⟩ := hargs
 have h0 : 0 < cargs.size := by rw [h1]; simp
 have hr := h2 0 _ cargs[0] rfl (Array.getElem?_eq_getElem h0)
 generalize hcv : cargs[0] = cv at hr
 cases hr with
 | sl _ _ _ A c sz cu hc hcm hsz hA h1' hr' hm =>
  refine (h A c).run w g cargs hw ⟨by simpa using h1, fun j u v hu hv => ?_⟩
  cases j with
  | zero =>
   simp only [List.getElem?_cons_zero, Option.some.injEq] at hu
   subst hu
   rw [Array.getElem?_eq_getElem h0, hcv] at hv
   cases hv
   exact .ot _ _ rfl
  | succ j => exact h2 (j + 1) u v (by simpa using hu) hv
theorem wclone_c (l : List By) (hl : l.length ≤ 16777216) : AC Tryz.prog 132 [.sl .ro (l.map AV.st)] [] (.sl .ro (l.map AV.st)) [] := by
 cases l with
 | nil =>
  refine AC.emptiesW fun A c => ?_
  refine AC.enter [] [] Tryz.func132 rfl (by decide) (by decide) (Nat.le_of_ble_eq_true rfl) (by kernel_rfl) ?_; refine zev ?_
  cases A with
  | none =>
   refine run ?_
   exact er0w
  | some A =>
   refine run ?_
   exact er0w
 | cons x l =>
  have hs1 : allSz 1 ((x :: l).map AV.st) = true := allSz_map 1 AV.st (fun _ => rfl) _
  have hl' : l.length ≤ 16777216 := by simp only [List.length_cons] at hl; omega
  simp only [List.map_cons] at hs1 ⊢
  refine AC.enter [] [] Tryz.func132 rfl (by decide) (by decide) (Nat.le_of_ble_eq_true rfl) (by kernel_rfl) ?_; refine zev ?_
  refine runf @hs1 ?_
  exact er0w
theorem wall_c (d : Dk) (f : Int) (rows : List By) (hr : rows.length ≤ 16777216) : AC Tryz.prog 69 [.ptr 1 0] (LG d f rows) (.sl .ro (rows.map AV.st)) (LG d f rows) := by
 refine AC.enter2 [132] [] Tryz.func69 rfl (by decide) (by decide) (Nat.le_of_ble_eq_true rfl) (by kernel_rfl) ?_; refine zev ?_
 refine run ?_
 refine cp (wclone_c rows hr) ?_
 refine run ?_
 exact ends_ret (List.range 3) (by rfl) (lg_same ..) (by rfl) (by rfl) (by rfl)
end Go.Proofs.YtlefikdjhnaapaaGreatDoor.Pe
end
section
namespace Go.Proofs.YtlefikdjhnaapaaGreatDoor.Pe
open Go Go.RowKit Co Dm Wl
set_option maxRecDepth 100000
set_option maxHeartbeats 4000000
theorem wopen_ok (d : Dk) (f : Int) (hf : 0 ≤ f ∧ f ≤ 6) (hb : (peek d f).1.length ≤ 16777216) (h : (openD d f).1 = 0) :
  AC Tryz.prog 68 [.ptr 0 0, .it .i64 f] [XD d] (.tup [.ptr 1 0, .it .i64 0]) (LG (openD d f).2 f (rowsOf (peek d f).1)) :=
 wopen_c d f hf hb _ _ (fun _ => ⟨rfl, rfl⟩) (fun h' => absurd h h')
section
variable {P : Program} {pf rf : List FuncId} {e : Env} {f : FuncId} {dst : Option Nat} {rest : List AO} {K : Env → Store → Prop}
theorem lg_ok (d : Dk) (n : Int) (rows : List By) : ∀ (i : Nat) (o : SObj), (LG d n rows)[i]? = some o → o.ok 3 = true := fun i o hi => by
 match i, hi with
 | 0, hi => cases hi; rfl
 | 1, hi => cases hi; rfl
 | 2, hi => cases hi; rfl
structure LgAt (T : Store) (a b c : Nat) (d : Dk) (n : Int) (rows : List By) : Prop where
 ab : a ≠ b
 ac : a ≠ c
 bc : b ≠ c
 d0 : T[a]? = some (XD d)
 l0 : T[b]? = some (.cells [.ptr a 0, .it .i64 n, .sl (.own c) (rows.map .st)])
 r0 : T[c]? = some (.buf rows.length 9 1)
theorem LgAt.sub {T : Store} {a b c : Nat} {d : Dk} {n : Int} {rows : List By} (h : LgAt T a b c d n rows) : SubOk [a, b, c] T (LG d n rows) := ⟨by simp [h.ab, h.ac, h.bc], rfl, fun i o hi => by
 match i, hi with
 | 0, hi => cases hi; exact ⟨rfl, h.d0⟩
 | 1, hi => cases hi; exact ⟨rfl, h.l0⟩
 | 2, hi => cases hi; exact ⟨rfl, h.r0⟩⟩
theorem AC.lg {args : List AV} {T : Store} {d d' : Dk} {n : Int} {rows rows' : List By} {v : AV} {a b c : Nat} (hl : LgAt T a b c d n rows) (h : AC P f (.ptr 1 0 :: args) (LG d n rows) v (LG d' n rows'))
  (ha : args.all (AV.ok 0) = true) (hv : v.ok 0 = true) : AC P f (.ptr b 0 :: args) T v (((T.set a (XD d')).set b (.cells [.ptr a 0, .it .i64 n, .sl (.own c) (rows'.map .st)])).set c (.buf rows'.length 9 1)) := by
 have ha1 : ∀ u ∈ args, u.ok 3 = true := fun u hu => ok_mono (List.all_eq_true.1 ha u hu) (Nat.zero_le 3)
 have := h.frame (T := T) [a, b, c] hl.sub (by simp only [List.all_cons, Bool.and_eq_true]; exact ⟨rfl, List.all_eq_true.2 ha1⟩) (ok_mono hv (Nat.zero_le 3)) (lg_ok _ _ _)
 rw [List.map_cons, ren_all ha, ren_id hv (fun i hi => absurd hi (Nat.not_lt_zero _))] at this
 simpa [after, setAll, ext, idx, SObj.ren, AV.r1, AV.r0, Mode.ren, AV.ren, AV.r2] using this
theorem AC.lo {T : Store} {d d' : Dk} {n : Int} {rows : List By} {a : Nat} (hT : T[a]? = some (XD d)) (h : AC P f [.ptr 0 0, .it .i64 n] [XD d] (.tup [.ptr 1 0, .it .i64 0]) (LG d' n rows)) :
  AC P f [.ptr a 0, .it .i64 n] T (.tup [.ptr T.length 0, .it .i64 0]) (T.set a (XD d') ++ [.cells [.ptr a 0, .it .i64 n, .sl (.own (T.length + 1)) (rows.map .st)], .buf rows.length 9 1]) := by
 have := h.frame (T := T) [a] (subOk_one a rfl hT) rfl rfl (lg_ok _ _ _)
 simpa [after, setAll, ext, idx, SObj.ren, AV.r1, AV.r0, Mode.ren, AV.ren, AV.r2] using this
theorem clg {args gargs : List AV} {T : Store} {d d' : Dk} {n : Int} {rows rows' : List By} {v : AV} (a b c : Nat) (h : AC P f (.ptr 1 0 :: args) (LG d n rows) v (LG d' n rows'))
  (h' : ARg P pf rf rest (put e dst v) (((T.set a (XD d')).set b (.cells [.ptr a 0, .it .i64 n, .sl (.own c) (rows'.map .st)])).set c (.buf rows'.length 9 1)) K)
  (hl : LgAt T a b c d n rows := by exact ⟨by decide, by decide, by decide, rfl, rfl, rfl⟩) (ha : args.all (AV.ok 0) = true := by rfl) (hv : v.ok 0 = true := by rfl) (hg : gargs.map AV.wk = .ptr b 0 :: args := by rfl) :
  callP (AnyC P f gargs T) (ARgk P pf rf dst rest e K) := call_mk (show AC P f (gargs.map AV.wk) T v _ by rw [hg]; exact AC.lg hl h ha hv) h'
theorem clo {gargs : List AV} {T : Store} {d d' : Dk} {n : Int} {rows : List By} (a : Nat) (h : AC P f [.ptr 0 0, .it .i64 n] [XD d] (.tup [.ptr 1 0, .it .i64 0]) (LG d' n rows))
  (h' : ARg P pf rf rest (put e dst (.tup [.ptr T.length 0, .it .i64 0])) (T.set a (XD d') ++ [.cells [.ptr a 0, .it .i64 n, .sl (.own (T.length + 1)) (rows.map .st)], .buf rows.length 9 1]) K)
  (hT : T[a]? = some (XD d) := by rfl) (hg : gargs.map AV.wk = [.ptr a 0, .it .i64 n] := by rfl) :
  callP (AnyC P f gargs T) (ARgk P pf rf dst rest e K) := call_mk (show AC P f (gargs.map AV.wk) T _ _ by rw [hg]; exact AC.lo hT h) h'
end
end Go.Proofs.YtlefikdjhnaapaaGreatDoor.Pe
end
section
namespace Go.Proofs.YtlefikdjhnaapaaGreatDoor.Pe
open Go Go.RowKit Co Sg Ac It Sl Wl Ql
set_option maxRecDepth 100000
set_option maxHeartbeats 4000000
abbrev mapE (l : List By) : SObj := .map (l.map fun s => (.st s, .bo true))
theorem mapE_ok (n : Nat) (l : List By) : (mapE l).ok n = true := by
 show (l.map fun s => (AV.st s, AV.bo true)).all _ = true
 rw [List.all_map, List.all_eq_true]
 intro x _
 rfl
theorem mapE_ren (ρ : Nat → Nat) (l : List By) : (mapE l).ren ρ = mapE l := by
 show SObj.map _ = SObj.map _
 rw [List.map_map]
 rfl
abbrev SG (d : Dm.Dk) (f server : Int) (k : Key) (E : List It.Entry) (fl : Nat) : Store :=
 [XD d, .cells [.ptr 0 0, .it .i64 f, .sl (.own 2) ((rowsB E).map .st)], .buf E.length 9 1,
 .cells [.ptr 1 0, .it .i64 server, .it .i64 k.secret, .it .i64 k.pub, .sl (.own 4) (E.map entryV), .mp 5, .it .i64 (fl : Int)], .buf E.length 84 50, mapE (E.map dg)]
theorem sg_sub (d : Dm.Dk) (f server : Int) (k : Key) (E : List It.Entry) (fl : Nat) (T : Store) : SubOk (List.range 6) (SG d f server k E fl ++ T) (SG d f server k E fl) := ⟨by decide, rfl, fun i o hi => by
 match i, hi with
 | 0, hi => cases hi; exact ⟨rfl, rfl⟩
 | 1, hi => cases hi; exact ⟨rfl, rfl⟩
 | 2, hi => cases hi; exact ⟨rfl, rfl⟩
 | 3, hi => cases hi; exact ⟨rfl, rfl⟩
 | 4, hi => cases hi; exact ⟨rfl, rfl⟩
 | 5, hi => cases hi; exact ⟨mapE_ok _ _, congrArg some (mapE_ren _ _).symm⟩⟩
theorem sg_ok (d : Dm.Dk) (f server : Int) (k : Key) (E : List It.Entry) (fl : Nat) : ∀ (i : Nat) (o : SObj), (SG d f server k E fl)[i]? = some o → o.ok 6 = true := fun i o hi => by
 match i, hi with
 | 0, hi => cases hi; rfl
 | 1, hi => cases hi; rfl
 | 2, hi => cases hi; rfl
 | 3, hi => cases hi; rfl
 | 4, hi => cases hi; rfl
 | 5, hi => cases hi; exact mapE_ok _ _
theorem sclone_c (e : It.Entry) (h1 : e.item.act.to.length ≤ 1000000) (h2 : e.item.act.wraps.length ≤ 1000000) (h3 : e.item.decision.to.length ≤ 1000000) : AC Tryz.prog 77 [entryV e] [] (entryV e) [] := by
 refine AC.enter2 [132, 146] [] Tryz.func77 rfl (by decide) (by decide) (Nat.le_of_ble_eq_true rfl) (by kernel_rfl) ?_; refine zev ?_
 refine run ?_
 refine cp (cloneS_c e.item.act.to h1) ?_
 refine run ?_
 refine cp (cloneW_c e.item.act.wraps h2) ?_
 refine run ?_
 refine cp (cloneS_c e.item.decision.to h3) ?_
 refine run ?_
 exact er0
theorem sg_same (d : Dm.Dk) (f server : Int) (k : Key) (E : List It.Entry) (fl : Nat) : SubOk (List.range 6) (SG d f server k E fl) (SG d f server k E fl) := by
 have := sg_sub d f server k E fl []
 rwa [List.append_nil] at this
theorem lgs (d : Dm.Dk) (f server : Int) (k : Key) (E : List It.Entry) (fl : Nat) (T : Store) : LgAt (SG d f server k E fl ++ T) 0 1 2 d f (rowsB E) := ⟨by decide, by decide, by decide, rfl, rfl, by rw [List.length_map]; rfl⟩
theorem AC.sg {P : Program} [Tab] {F : FuncId} {args : List AV} {v : AV} {d d' : Dm.Dk} {f server : Int} {k : Key} {E E' : List It.Entry} {fl fl' : Nat} (h : AC P F args (SG d f server k E fl) v (SG d' f server k E' fl')) (T : Store)
  (ha : args.all (AV.ok 6) = true := by rfl) (hi : args.map (AV.ren (idx (List.range 6))) = args := by rfl) (hv : v.ok 6 = true := by rfl) (hr : v.ren (ext (List.range 6) (SG d f server k E fl ++ T).length) = v := by rfl) :
  AC P F args (SG d f server k E fl ++ T) v (SG d' f server k E' fl' ++ T) := by
 have q := h.frame (T := (SG d f server k E fl ++ T : Store)) (List.range 6) (sg_sub d f server k E fl T) ha hv (sg_ok _ _ _ _ _ _)
 rw [hi, hr] at q
 have e : after (List.range 6) (SG d f server k E fl ++ T : Store) (SG d' f server k E' fl') = (SG d' f server k E' fl' ++ T : Store) := by
  unfold after
  have h1 : (SG d' f server k E' fl').map (fun o => SObj.ren (ext (List.range 6) (SG d f server k E fl ++ T : Store).length) o) = SG d' f server k E' fl' := by
   show [_, _, _, _, _, SObj.ren _ (mapE _)] = _
   rw [mapE_ren]
   rfl
  rw [h1]
  show setAll _ _ _ ++ [] = _
  rw [List.append_nil]
  rfl
 rwa [e] at q
theorem slen_c (d : Dm.Dk) (f server : Int) (k : Key) (E : List It.Entry) (fl : Nat) : AC Tryz.prog 30 [.ptr 3 0] (SG d f server k E fl) (.it .i64 (fl : Int)) (SG d f server k E fl) := by
 refine AC.enter2 [] [] Tryz.func30 rfl (by decide) (by decide) (Nat.le_of_ble_eq_true rfl) (by kernel_rfl) ?_; refine zev ?_
 refine run ?_
 exact ends_ret (List.range 6) (by rfl) (sg_same ..) (by rfl) (by rfl) (by rfl)
theorem sflush_c (d : Dm.Dk) (f server : Int) (k : Key) (E : List It.Entry) (fl : Nat) : AC Tryz.prog 19 [.ptr 3 0] (SG d f server k E fl) (.it .i64 (Dm.flushD d f).1) (SG (Dm.flushD d f).2 f server k E (if (Dm.flushD d f).1 = 0 then E.length else fl)) := by
 refine AC.enter2 [] [] Tryz.func19 rfl (by decide) (by decide) (Nat.le_of_ble_eq_true rfl) (by kernel_rfl) ?_; refine zev ?_
 have kw := wflush_c d f (rowsB E)
 generalize Dm.flushD d f = q at *
 obtain ⟨en, d'⟩ := q
 simp only at kw ⊢
 refine run ?_
 refine clg 0 1 2 kw ?_ (hl := lgs ..)
 by_cases h0 : en = 0
 ·subst h0
  rw [if_pos rfl]
  refine run ?_
  exact ends_ret (List.range 6) (by rfl) (sg_same ..) (by rfl) (by rfl) (by rfl)
 ·rw [if_neg h0]
  refine runf @h0 ?_
  exact ends_ret (List.range 6) (by rfl) (sg_same ..) (by rfl) (by rfl) (by rfl)
theorem smhead_c (d : Dm.Dk) (f server : Int) (k : Key) (E : List It.Entry) (fl : Nat) (hk : -9223372036854775808 ≤ k.secret ∧ k.secret ≤ 9223372036854775807) (hl : E.length ≤ 1000000) (hz : ∀ e ∈ E, Iz e.item) (hf : fl ≤ E.length) :
  AC Tryz.prog 31 [.ptr 3 0] (SG d f server k E fl) (headV (headE k server E fl)) (SG d f server k E fl) := by
 refine AC.enter2 [38] [] Tryz.func31 rfl (by decide) (by decide) (Nat.le_of_ble_eq_true rfl) (by kernel_rfl) ?_; refine zev ?_
 have hsz : allSz 50 (E.map entryV) = true := entries_sz E
 have kh := shead_c k server (E.take fl) (lastT (E.take fl)) hk (by rw [List.length_take]; omega) (fun e he => hz e (List.mem_of_mem_take he))
 change AC _ _ _ _ (headV (headE k server E fl)) _ at kh
 generalize headE k server E fl = hd at *
 by_cases h0 : fl = 0
 ·subst h0
  refine run ?_
  refine cp kh ?_
  refine run ?_
  exact ends_ret (List.range 6) (by rfl) (sg_sub ..) (by rfl) (by rfl) (by rfl)
 ·have hg : E[fl - 1]? = some (E[fl - 1]'(by omega)) := List.getElem?_eq_getElem (by omega)
  have hlt : (E.take fl).getLast? = E[fl - 1]? := by
   rw [List.getLast?_eq_getElem?, List.length_take, Nat.min_eq_left hf, List.getElem?_take]
   rw [if_pos (by omega)]
  have hti : lastT (E.take fl) = (E[fl - 1]'(by omega)).time := by unfold lastT; rw [hlt, hg]
  rw [hti] at kh
  clear hlt hti
  generalize (E[fl - 1]'(by omega)) = x at *
  have e1 : (fl : Int) > 0 := by omega
  have hg' : E[((fl : Int) - 1).toNat]? = some x := by rw [show ((fl : Int) - 1).toNat = fl - 1 by omega]; exact hg
  have e2 : 0 ≤ (fl : Int) - 1 := by omega
  refine runf (an @e1 (an @e2 (an @hg' @hsz))) ?_
  refine cp kh ?_
  refine run ?_
  exact ends_ret (List.range 6) (by rfl) (sg_sub ..) (by rfl) (by rfl) (by rfl)
theorem kfind_noS (s : By) : ∀ (acc : List By) (i : Nat), s ∉ acc → kfind (.st s) (acc.map fun s => (.st s, .bo true)) i = some none
 | [], _, _ => rfl
 | x :: l, i, h => by
  rw [List.mem_cons, not_or] at h
  rw [List.map_cons]
  unfold kfind
  simp only [keq]
  rw [show (s == x) = false by simpa using h.1]
  exact kfind_noS s l (i + 1) h.2
theorem kfind_yesS (s : By) : ∀ (acc : List By) (i : Nat), s ∈ acc → ∃ j, kfind (.st s) (acc.map fun s => (.st s, .bo true)) i = some (some (j, .bo true))
 | x :: l, i, h => by
  rw [List.map_cons]
  unfold kfind
  simp only [keq]
  by_cases hx : s = x
  ·rw [show (s == x) = true by simpa using hx]
   exact ⟨i, rfl⟩
  ·rw [show (s == x) = false by simpa using hx]
   exact kfind_yesS s l (i + 1) ((List.mem_cons.1 h).resolve_left hx)
theorem sub6 {o0 o1 o2 o3 o4 m : SObj} (T : Store) (hm : m.ok 6 = true ∧ m.ren (idx (List.range 6)) = m) (h0 : o0.ok 6 = true ∧ o0.ren (idx (List.range 6)) = o0 := by exact ⟨rfl, rfl⟩) (h1 : o1.ok 6 = true ∧ o1.ren (idx (List.range 6)) = o1 := by exact ⟨rfl, rfl⟩)
  (h2 : o2.ok 6 = true ∧ o2.ren (idx (List.range 6)) = o2 := by exact ⟨rfl, rfl⟩) (h3 : o3.ok 6 = true ∧ o3.ren (idx (List.range 6)) = o3 := by exact ⟨rfl, rfl⟩) (h4 : o4.ok 6 = true ∧ o4.ren (idx (List.range 6)) = o4 := by exact ⟨rfl, rfl⟩) :
  SubOk (List.range 6) (o0 :: o1 :: o2 :: o3 :: o4 :: m :: T) [o0, o1, o2, o3, o4, m] := ⟨by decide, rfl, fun i o hi => by
 match i, hi with
 | 0, hi => obtain rfl : o0 = o := Option.some.inj hi; exact ⟨h0.1, congrArg some h0.2.symm⟩
 | 1, hi => obtain rfl : o1 = o := Option.some.inj hi; exact ⟨h1.1, congrArg some h1.2.symm⟩
 | 2, hi => obtain rfl : o2 = o := Option.some.inj hi; exact ⟨h2.1, congrArg some h2.2.symm⟩
 | 3, hi => obtain rfl : o3 = o := Option.some.inj hi; exact ⟨h3.1, congrArg some h3.2.symm⟩
 | 4, hi => obtain rfl : o4 = o := Option.some.inj hi; exact ⟨h4.1, congrArg some h4.2.symm⟩
 | 5, hi => obtain rfl : m = o := Option.some.inj hi; exact ⟨hm.1, congrArg some hm.2.symm⟩⟩
theorem mapE_snoc (l : List By) (x : By) : (SObj.map ((l.map fun s => (AV.st s, AV.bo true)) ++ [(.st x, .bo true)])).ok 6 = true ∧ (SObj.map ((l.map fun s => (AV.st s, AV.bo true)) ++ [(.st x, .bo true)])).ren (idx (List.range 6)) = (SObj.map ((l.map fun s => (AV.st s, AV.bo true)) ++ [(.st x, .bo true)])) := by
 have h : (SObj.map ((l.map fun s => (AV.st s, AV.bo true)) ++ [(.st x, .bo true)])) = mapE (l ++ [x]) := by simp
 rw [h]
 exact ⟨mapE_ok _ _, mapE_ren _ _⟩
theorem sadd_c (d : Dm.Dk) (f server : Int) (k : Key) (E : List It.Entry) (fl : Nat) (it : It.Item) (now : Int) (hz : Iz it) (hl : E.length ≤ 1000000) (hs : It.right it = true → it.act.to.length ≤ 1000000 ∧ it.act.wraps.length ≤ 1000000 ∧ it.decision.to.length ≤ 1000000) :
  AC Tryz.prog 17 [.ptr 3 0, itemV it, .it .i64 now] (SG d f server k E fl) (.tup [.it .i64 (saddD d f E it now).1.1, .it .i64 (saddD d f E it now).1.2]) (SG (saddD d f E it now).2.1 f server k (saddD d f E it now).2.2 fl) := by
 refine AC.enter2 [34, 36, 35, 77] [] Tryz.func17 rfl (by decide) (by decide) (Nat.le_of_ble_eq_true rfl) (by kernel_rfl) ?_; refine zev ?_
 have k1 := rightI_c it hz
 have hsz : allSz 50 (E.map entryV) = true := entries_sz E
 unfold saddD
 by_cases hr : It.right it = true
 rotate_left
 ·rw [if_neg (fun h => hr h.1)]
  have hr : It.right it = false := by simpa using hr
  rw [hr] at k1
  refine run ?_
  refine cp k1 ?_
  refine run ?_
  exact ends_ret (List.range 6) (by rfl) (sg_sub ..) (by rfl) (by rfl) (by rfl)
 obtain ⟨t1, t2, t3⟩ := hs hr
 rw [hr] at k1
 by_cases h0 : now < 0
 ·rw [if_neg (fun h => by omega)]
  refine run ?_
  refine cp k1 ?_
  refine runf @h0 ?_
  exact ends_ret (List.range 6) (by rfl) (sg_sub ..) (by rfl) (by rfl) (by rfl)
 by_cases h1 : now > 1099511627776
 ·rw [if_neg (fun h => by omega)]
  refine run ?_
  refine cp k1 ?_
  refine runf (an @h0 @h1) ?_
  exact ends_ret (List.range 6) (by rfl) (sg_sub ..) (by rfl) (by rfl) (by rfl)
 rw [if_pos ⟨hr, by omega⟩]
 have k2 := digest_c it hz
 by_cases hd : It.digest it ∈ E.map dg
 ·rw [if_pos hd]
  obtain ⟨j, hj⟩ := kfind_yesS _ _ 0 hd
  generalize It.digest it = dd at *
  refine run ?_
  refine cp k1 ?_
  refine runf (an @h0 @h1) ?_
  refine cp k2 ?_
  refine runf @hj ?_
  exact ends_ret (List.range 6) (by rfl) (sg_sub ..) (by rfl) (by rfl) (by rfl)
 rw [if_neg hd]
 have hj := kfind_noS _ _ 0 hd
 have he : It.Entry := ⟨nextT E now, it⟩
 have k3 := entryBytes_c ⟨nextT E now, it⟩ hz
 have k4 := sclone_c ⟨nextT E now, it⟩ t1 t2 t3
 have hle := entryB_len ⟨nextT E now, it⟩
 have k5 := wadd_c d f (rowsB E) (entryB ⟨nextT E now, it⟩) (by omega) (by rw [List.length_map]; omega)
 rcases List.eq_nil_or_concat E with rfl | ⟨E0, x, hEx⟩
 ·have hnx : nextT [] now = now := rfl
  rw [hnx] at k3 k4 k5 hle
  rw [hnx]
  refine run ?_
  refine cp k1 ?_
  refine runf (an @h0 @h1) ?_
  refine cp k2 ?_
  refine runf @hj ?_
  refine cp k4 ?_
  refine runf @hj ?_
  refine cp k3 ?_
  refine runf @hj ?_
  refine clg 0 1 2 k5 ?_ (hl := lgs d f server k [] fl _)
  have hdg : dg ⟨now, it⟩ = It.digest it := rfl
  clear k1 k2 k3 k4 k5 he hnx
  generalize addD d f (entryB ⟨now, it⟩) = q at *
  obtain ⟨en, d'⟩ := q
  simp only
  by_cases hen : en = 0
  ·subst hen
   rw [if_pos rfl]
   simp only [if_true, List.nil_append]
   unfold SG
   simp only [rowsB, mapE, List.map_cons, List.map_nil, List.length_cons, List.length_nil]
   generalize entryB ⟨now, it⟩ = eb at *
   refine runf (an @hj @hsz) ?_
   refine ends_ret (List.range 6) (by rfl) ?_ (by rfl) (by rfl) (by rfl)
   refine sub6 _ (mapE_snoc [] _) ?_ ?_ ?_ ?_ ?_ <;> exact ⟨rfl, rfl⟩
  ·rw [if_neg hen]
   simp only [if_neg hen]
   refine runf @hen ?_
   refine ends_ret (List.range 6) (by rfl) ?_ (by rfl) (by rfl) (by rfl)
   refine sub6 _ ⟨mapE_ok 6 [], mapE_ren _ []⟩ ?_ ?_ ?_ ?_ ?_ <;> exact ⟨rfl, rfl⟩
 ·rw [List.concat_eq_append] at hEx
  subst hEx
  have e3 : (E0 ++ [x]).length = E0.length + 1 := by simp
  have e4 : ((E0 ++ [x]).length : Int) > 0 := by omega
  have hg : (E0 ++ [x])[(((E0 ++ [x]).length : Int) - 1).toNat]? = some x := by
   rw [show (((E0 ++ [x]).length : Int) - 1).toNat = E0.length by omega]; simp
  have e5 : 0 ≤ ((E0 ++ [x]).length : Int) - 1 := by omega
  have hnx : (if x.time > now then x.time else now) = nextT (E0 ++ [x]) now := by
   unfold nextT
   rw [List.getLast?_append]
   simp only [List.getLast?_singleton, Option.some_or]
   split <;> omega
  have hft : fits ((E0 ++ [x]).length + 1) 800 = true := by apply fits_ok <;> omega
  clear e3
  generalize E0 ++ [x] = E at *
  refine run ?_
  refine cp k1 ?_
  refine runf (an @h0 @h1) ?_
  refine cp k2 ?_
  refine runf (an @hj (an @e4 (an @e5 (an @hg (an @hsz @hnx))))) ?_
  refine cp k4 ?_
  refine runf @hj ?_
  refine cp k3 ?_
  refine runf @hj ?_
  refine clg 0 1 2 k5 ?_ (hl := lgs ..)
  have hdg : dg ⟨nextT E now, it⟩ = It.digest it := rfl
  have hft2 : fits (E.length + 1) 800 = true := hft
  clear k1 k2 k3 k4 k5 he hnx
  generalize addD d f (entryB ⟨nextT E now, it⟩) = q at *
  obtain ⟨en, d'⟩ := q
  simp only
  have f1 : rowsB (E ++ [(⟨nextT E now, it⟩ : It.Entry)]) = rowsB E ++ [entryB ⟨nextT E now, it⟩] := by rw [rowsB, List.map_append]; rfl
  have f2 : (E ++ [(⟨nextT E now, it⟩ : It.Entry)]).length = E.length + 1 := by simp
  have f3 : (E ++ [(⟨nextT E now, it⟩ : It.Entry)]).map entryV = E.map entryV ++ [entryV ⟨nextT E now, it⟩] := by rw [List.map_append]; rfl
  have f4 : mapE ((E ++ [(⟨nextT E now, it⟩ : It.Entry)]).map dg) = .map (((E.map dg).map fun s => (AV.st s, AV.bo true)) ++ [(.st (It.digest it), .bo true)]) := by rw [List.map_append]; simp [dg]
  by_cases hen : en = 0
  ·subst hen
   rw [if_pos rfl]
   simp only [if_true]
   unfold SG
   rw [f1, f2, f3, f4]
   generalize nextT E now = nt at *
   generalize It.digest it = dd at *
   refine runf (an @hj (an @hft @hsz)) ?_
   refine ends_ret (List.range 6) (by rfl) ?_ (by rfl) (by rfl) (by rfl)
   refine sub6 _ (mapE_snoc _ _) ?_ ?_ ?_ ?_ ?_ <;> exact ⟨rfl, rfl⟩
  ·rw [if_neg hen]
   simp only [if_neg hen]
   refine runf @hen ?_
   exact ends_ret (List.range 6) (by rfl) (sg_sub ..) (by rfl) (by rfl) (by rfl)
end Go.Proofs.YtlefikdjhnaapaaGreatDoor.Pe
end
section
namespace Go.Proofs.YtlefikdjhnaapaaGreatDoor.Pe
open Go Go.RowKit Co Sg Ac It Sl Wl Ql
set_option maxRecDepth 100000
set_option maxHeartbeats 4000000
theorem ends_retw {P : Program} [Tab] {rs : List ResultVar} {v : AV} {e : Env} {S S' : Store} {vs : List AV} {N0 : Nat} (κ : List Nat) (h : aRes P rs e S = some vs) (hs : SubOk κ S S') (hn : κ.take N0 = List.range N0) (hk : v.ok κ.length = true) (hv : (resV vs).wk = v.ren (idx κ)) : finQ P rs N0 v S' .ret e S :=
 ⟨e, S, vs, κ, Weak.refl N0 e S, h, hs, hn, hk, .inr hv⟩
theorem right_small {i : It.Item} (h : It.right i = true) : i.act.to.length ≤ 1000000 ∧ i.act.wraps.length ≤ 1000000 ∧ i.decision.to.length ≤ 1000000 := by
 have p := right_parts h
 have d := (ezd p.2.2.2).2.1.1
 rcases p.1 with e | e
 ·have h1 := (right_sm e).to.1
  have h2 := (right_sm e).wraps.1
  omega
 ·have h1 : i.act.to = [] := by rw [e]; rfl
  have h2 : i.act.wraps = [] := by rw [e]; rfl
  rw [h1, h2]
  simp only [List.length_nil]
  omega
theorem so_sub (d : Dm.Dk) (f server : Int) (k : Key) (E : List It.Entry) (fl : Nat) (o : SObj) (T : Store) : SubOk [0, 2, 3, 5, 6, 4] (XD d :: o :: .cells [.ptr 0 0, .it .i64 f, .sl (.own 3) ((rowsB E).map .st)] :: .buf E.length 9 1 :: mapE (E.map dg) :: .cells [.ptr 2 0, .it .i64 server, .it .i64 k.secret, .it .i64 k.pub, .sl (.own 6) (E.map entryV), .mp 4, .it .i64 (fl : Int)] :: .buf E.length 84 50 :: T) (SG d f server k E fl) := ⟨by decide, rfl, fun i o hi => by
 match i, hi with
 | 0, hi => cases hi; exact ⟨rfl, rfl⟩
 | 1, hi => cases hi; exact ⟨rfl, rfl⟩
 | 2, hi => cases hi; exact ⟨rfl, rfl⟩
 | 3, hi => cases hi; exact ⟨rfl, rfl⟩
 | 4, hi => cases hi; exact ⟨rfl, rfl⟩
 | 5, hi => cases hi; exact ⟨mapE_ok _ _, congrArg some (mapE_ren _ _).symm⟩⟩
theorem sopen_nil_c (d d' : Dm.Dk) (f server : Int) (k : Key) (hk : k.right = true) (hr : -9223372036854775808 ≤ k.secret ∧ k.secret ≤ 9223372036854775807) (hs : 0 ≤ server ∧ server ≤ 19) (hf : 0 ≤ f ∧ f ≤ 6) (he : openD d f = (0, d')) (hp : (Dm.peek d f).1 = []) :
  AC Tryz.prog 14 [.ptr 0 0, .it .i64 f, .it .i64 server, keyV k] [XD d] (.tup [.ptr 3 0, .it .i64 0]) (SG d' f server k [] 0) := by
 refine AC.enter2 [54, 70, 36, 46] [] Tryz.func14 rfl (by decide) (by decide) (Nat.le_of_ble_eq_true rfl) (by kernel_rfl) ?_; refine zev ?_
 have k1 := keyright_c k hr
 rw [hk] at k1
 have k2 := wopen_ok d f hf (by rw [hp]; decide) (by rw [he])
 rw [he, hp] at k2
 change AC _ _ _ _ _ (LG d' f []) at k2
 have k3 := wall_c d' f [] (by decide)
 have k4 := stimes_c [] (by decide)
 change AC _ _ _ _ (.bo true) _ at k4
 have e1 : ¬ server < 0 := by omega
 have e2 : ¬ server ≥ 20 := by omega
 refine runf (an @e1 @e2) ?_
 refine cp k1 ?_
 refine runf (an @e1 @e2) ?_
 refine clo 0 k2 ?_
 refine run ?_
 refine clg 0 2 3 k3 ?_
 refine run ?_
 refine loop_mk' (fun m e S => e 12 = .ptr 5 0 ∧ e 48 = .sl .ro [] ∧ e 49 = .it .i64 0 ∧ e 50 = .it .i64 0 ∧ S = (XD d' :: .cells [.it .i64 k.secret, .it .i64 k.pub] :: .cells [.ptr 0 0, .it .i64 f, .sl (.own 3) ((rowsB []).map .st)] :: .buf ([] : List It.Entry).length 9 1 :: mapE (([] : List It.Entry).map dg) :: .cells [.ptr 2 0, .it .i64 server, .it .i64 k.secret, .it .i64 k.pub, .sl (.own 6) (([] : List It.Entry).map entryV), .mp 4, .it .i64 ((0 : Nat) : Int)] :: .buf ([] : List It.Entry).length 84 50 :: []) ∧ m = 0) 0 _ _ (Weak.reserveN 1 5 4 (es := []) (by rfl) (by rfl) 84 50) ⟨zsl, zsl, zsl, zsl, rfl, rfl⟩ ?_
 rintro m e S ⟨s12, s48, s49, s50, rfl, rfl⟩
 refine runf (an @s12 (an @s48 (an @s49 @s50))) ?_
 refine cp k4 ?_
 refine runf @s12 ?_
 refine ends_ret [0, 2, 3, 5, 6, 4] (by rfl) ?_ (by rfl) (by rfl) (by rfl)
 exact so_sub d' f server k [] 0 _ []
theorem sentries_c (d : Dm.Dk) (f server : Int) (k : Key) (E : List It.Entry) (fl : Nat) (frm n : Int) (hl : E.length ≤ 1000000) (hf : fl ≤ E.length) (hz : ∀ e ∈ E, It.right e.item = true) :
  AC Tryz.prog 28 [.ptr 3 0, .it .i64 frm, .it .i64 n] (SG d f server k E fl) (entriesV (windowE E fl frm n)) (SG d f server k E fl) := by
 refine AC.enter2 [77] [] Tryz.func28 rfl (by decide) (by decide) (Nat.le_of_ble_eq_true rfl) (by kernel_rfl) ?_; refine zev ?_
 have hsz : allSz 50 (E.map entryV) = true := entries_sz E
 have e0 : (if 0 > frm then 0 else frm) = (frm.toNat : Int) := by split <;> omega
 have hw0 : windowE E fl frm n = if n ≤ 0 then [] else ((E.take fl).drop frm.toNat).take n.toNat := rfl
 generalize frm.toNat = a at *
 by_cases ha : fl ≤ a
 ·have hw : windowE E fl frm n = [] := by
   rw [hw0]
   split
   ·rfl
   ·rw [List.drop_eq_nil_of_le (by rw [List.length_take]; omega), List.take_nil]
  rw [hw]
  have e1 : (a : Int) ≥ (fl : Int) := by omega
  refine runf (an @e0 @e1) ?_
  exact ends_retw (List.range 6) (by rfl) (sg_same ..) (by rfl) (by rfl) (by rfl)
 have e1 : ¬ (a : Int) ≥ (fl : Int) := by omega
 by_cases hn : n ≤ 0
 ·rw [if_pos hn] at hw0
  rw [hw0]
  refine runf (an @e0 (an @e1 @hn)) ?_
  exact ends_retw (List.range 6) (by rfl) (sg_same ..) (by rfl) (by rfl) (by rfl)
 rw [if_neg hn] at hw0
 have hmn : (if (fl : Int) - (a : Int) < n then (fl : Int) - (a : Int) else n) = ((min n.toNat (fl - a) : Nat) : Int) := by split <;> omega
 generalize hb : min n.toNat (fl - a) = b at *
 have hww : windowE E fl frm n = (E.drop a).take b := by
  rw [hw0, List.drop_take, List.take_take, hb]
 rw [hww]
 have e2 : (a : Int) + (b : Int) = ((a + b : Nat) : Int) := by omega
 have e3 : a + b ≤ E.length := by omega
 have e4 : a ≤ a + b := by omega
 have hdt : (E.take (a + b)).drop a = (E.drop a).take b := by rw [List.drop_take]; congr 1; omega
 refine runf (an @e0 (an @e1 (an @hn (an @hmn (an @e2 (an @e3 (an @e4 (an @hsz @hdt)))))))) ?_
 have hWl : ((E.drop a).take b).length = b := by rw [List.length_take, List.length_drop]; omega
 have hzW : ∀ e ∈ (E.drop a).take b, It.right e.item = true := fun e he => hz e (List.mem_of_mem_drop (List.mem_of_mem_take he))
 clear hww hdt hw0
 generalize (E.drop a).take b = W at *
 have hsW : allSz 50 (W.map entryV) = true := entries_sz W
 refine loop_mk (fun m e S => e 40 = entriesV W ∧ e 41 = .it .i64 (W.length : Int) ∧ ∃ (j : Nat) (T : Store), e 42 = .it .i64 (j : Int) ∧ e 7 = .sl (.own 6) ((W.take j).map entryV) ∧ S = SG d f server k E fl ++ (.buf j 84 50 :: T) ∧ j ≤ W.length ∧ m = W.length - j) W.length
  ⟨zsl, zsl, 0, [], zsl, zsl, rfl, Nat.zero_le _, rfl⟩ ?_
 rintro m e S ⟨s40, s41, j, T, s42, s7, rfl, hj, rfl⟩
 have hT1 : ∀ y : SObj, (T ++ [y])[T.length]? = some y := fun y => by simp
 have hT2 : ∀ y z : SObj, (T ++ [y]).set T.length z = T ++ [z] := fun y z => by simp
 by_cases hlt : j < W.length
 ·have hg : W[j]? = some W[j] := List.getElem?_eq_getElem hlt
  have hx := hzW W[j] (List.getElem_mem hlt)
  have ht : (W.take (j + 1)).map entryV = (W.take j).map entryV ++ [entryV W[j]] := by rw [List.take_succ_eq_append_getElem hlt, List.map_append]; rfl
  have hal : (W.take j).length = j := by rw [List.length_take]; omega
  have hft : fits (j + 1) 800 = true := by apply fits_ok <;> omega
  generalize W[j] = x at *
  obtain ⟨t1, t2, t3⟩ := right_small hx
  have kc := sclone_c x t1 t2 t3
  refine runf (an @s40 (an @s41 (an @s42 (an @s7 (an @hg (an @hsW (an @hT1 @hT2))))))) ?_
  refine cp kc ?_
  have hsz3 := entries_sz (W.take j)
  refine runf (an @s40 (an @s41 (an @s42 (an @s7 (an @hft (an @hal @hsz3)))))) ?_
  exact round_mk (W.length - (j + 1)) (by omega) ⟨zsl, zsl, j + 1, _, zsl, (by rw [ht]; exact zsl), rfl, by omega, rfl⟩
 ·obtain rfl : j = W.length := by omega
  rw [List.take_length] at s7
  refine runf (an @s40 (an @s41 (an @s42 @s7))) ?_
  exact ends_retw (List.range 6) (by rfl) (sg_sub d f server k E fl (_ :: T)) (by rfl) (by rfl) (by rfl)
end Go.Proofs.YtlefikdjhnaapaaGreatDoor.Pe
end
section
namespace Go.Proofs.YtlefikdjhnaapaaGreatDoor.Pe
open Go Go.RowKit Co Sg Ac It Sl Wl Ql
set_option maxRecDepth 100000
set_option maxHeartbeats 4000000
section
variable {P : Program} {pf rf : List FuncId} {e : Env} {F : FuncId} {dst : Option Nat} {rest : List AO} {K : Env → Store → Prop}
structure SgAt (T : Store) (a b c s u m : Nat) (d : Dm.Dk) (f server : Int) (k : Key) (E : List It.Entry) (fl : Nat) : Prop where
 nd : [a, b, c, s, u, m].Nodup
 p0 : T[a]? = some (XD d)
 p1 : T[b]? = some (.cells [.ptr a 0, .it .i64 f, .sl (.own c) ((rowsB E).map .st)])
 p2 : T[c]? = some (.buf E.length 9 1)
 p3 : T[s]? = some (.cells [.ptr b 0, .it .i64 server, .it .i64 k.secret, .it .i64 k.pub, .sl (.own u) (E.map entryV), .mp m, .it .i64 (fl : Int)])
 p4 : T[u]? = some (.buf E.length 84 50)
 p5 : T[m]? = some (mapE (E.map dg))
theorem SgAt.sub {T : Store} {a b c s u m : Nat} {d : Dm.Dk} {f server : Int} {k : Key} {E : List It.Entry} {fl : Nat} (h : SgAt T a b c s u m d f server k E fl) : SubOk [a, b, c, s, u, m] T (SG d f server k E fl) := ⟨h.nd, rfl, fun i o hi => by
 match i, hi with
 | 0, hi => cases hi; exact ⟨rfl, h.p0⟩
 | 1, hi => cases hi; exact ⟨rfl, h.p1⟩
 | 2, hi => cases hi; exact ⟨rfl, h.p2⟩
 | 3, hi => cases hi; exact ⟨rfl, h.p3⟩
 | 4, hi => cases hi; exact ⟨rfl, h.p4⟩
 | 5, hi => cases hi; exact ⟨mapE_ok _ _, h.p5.trans (congrArg some (mapE_ren _ _).symm)⟩⟩
theorem AC.sgs {args : List AV} {T : Store} {d d' : Dm.Dk} {f server : Int} {k : Key} {E E' : List It.Entry} {fl fl' : Nat} {v : AV} {a b c s u m : Nat} (hl : SgAt T a b c s u m d f server k E fl) (h : AC P F (.ptr 3 0 :: args) (SG d f server k E fl) v (SG d' f server k E' fl'))
  (ha : args.all (AV.ok 0) = true) (hv : v.ok 0 = true) : AC P F (.ptr s 0 :: args) T v ((((((T.set a (XD d')).set b (.cells [.ptr a 0, .it .i64 f, .sl (.own c) ((rowsB E').map .st)])).set c (.buf E'.length 9 1)).set s (.cells [.ptr b 0, .it .i64 server, .it .i64 k.secret, .it .i64 k.pub, .sl (.own u) (E'.map entryV), .mp m, .it .i64 (fl' : Int)])).set u (.buf E'.length 84 50)).set m (mapE (E'.map dg))) := by
 have ha1 : ∀ w ∈ args, w.ok 6 = true := fun w hw => ok_mono (List.all_eq_true.1 ha w hw) (Nat.zero_le 6)
 have := h.frame (T := T) [a, b, c, s, u, m] hl.sub (by simp only [List.all_cons, Bool.and_eq_true]; exact ⟨rfl, List.all_eq_true.2 ha1⟩) (ok_mono hv (Nat.zero_le 6)) (sg_ok _ _ _ _ _ _)
 rw [List.map_cons, ren_all ha, ren_id hv (fun i hi => absurd hi (Nat.not_lt_zero _))] at this
 have hM : ∀ ρ, (mapE (E'.map dg)).ren ρ = mapE (E'.map dg) := fun ρ => mapE_ren ρ _
 unfold SG at this
 generalize mapE (E'.map dg) = M at *
 simp only [after, List.map_cons, List.drop_succ_cons, List.drop_zero, List.length_cons, List.length_nil, hM] at this
 simpa [after, setAll, ext, idx, SObj.ren, AV.r1, AV.r0, Mode.ren, AV.ren, AV.r2] using this
theorem csg {args gargs : List AV} {T : Store} {d d' : Dm.Dk} {f server : Int} {k : Key} {E E' : List It.Entry} {fl fl' : Nat} {v : AV} (a b c s u m : Nat) (h : AC P F (.ptr 3 0 :: args) (SG d f server k E fl) v (SG d' f server k E' fl'))
  (h' : ARg P pf rf rest (put e dst v) ((((((T.set a (XD d')).set b (.cells [.ptr a 0, .it .i64 f, .sl (.own c) ((rowsB E').map .st)])).set c (.buf E'.length 9 1)).set s (.cells [.ptr b 0, .it .i64 server, .it .i64 k.secret, .it .i64 k.pub, .sl (.own u) (E'.map entryV), .mp m, .it .i64 (fl' : Int)])).set u (.buf E'.length 84 50)).set m (mapE (E'.map dg))) K)
  (hl : SgAt T a b c s u m d f server k E fl := by exact ⟨by decide, rfl, rfl, rfl, rfl, rfl, rfl⟩) (ha : args.all (AV.ok 0) = true := by rfl) (hv : v.ok 0 = true := by rfl) (hg : gargs.map AV.wk = .ptr s 0 :: args := by rfl) :
  callP (AnyC P F gargs T) (ARgk P pf rf dst rest e K) := call_mk (show AC P F (gargs.map AV.wk) T v _ by rw [hg]; exact AC.sgs hl h ha hv) h'
theorem AC.so {T : Store} {d d' : Dm.Dk} {f server : Int} {k : Key} {E : List It.Entry} {fl : Nat} {a : Nat} (hT : T[a]? = some (XD d)) (h : AC P F [.ptr 0 0, .it .i64 f, .it .i64 server, keyV k] [XD d] (.tup [.ptr 3 0, .it .i64 0]) (SG d' f server k E fl)) :
  AC P F [.ptr a 0, .it .i64 f, .it .i64 server, keyV k] T (.tup [.ptr (T.length + 2) 0, .it .i64 0]) (T.set a (XD d') ++ [.cells [.ptr a 0, .it .i64 f, .sl (.own (T.length + 1)) ((rowsB E).map .st)], .buf E.length 9 1, .cells [.ptr T.length 0, .it .i64 server, .it .i64 k.secret, .it .i64 k.pub, .sl (.own (T.length + 3)) (E.map entryV), .mp (T.length + 4), .it .i64 (fl : Int)], .buf E.length 84 50, mapE (E.map dg)]) := by
 have := h.frame (T := T) [a] (subOk_one a rfl hT) rfl rfl (sg_ok _ _ _ _ _ _)
 have hM : ∀ ρ, (mapE (E.map dg)).ren ρ = mapE (E.map dg) := fun ρ => mapE_ren ρ _
 unfold SG at this
 generalize mapE (E.map dg) = M at *
 simp only [after, List.map_cons, List.drop_succ_cons, List.drop_zero, List.length_cons, List.length_nil, hM] at this
 simpa [after, setAll, ext, idx, SObj.ren, AV.r1, AV.r0, Mode.ren, AV.ren, AV.r2] using this
theorem cso {gargs : List AV} {T : Store} {d d' : Dm.Dk} {f server : Int} {k : Key} {E : List It.Entry} {fl : Nat} (a : Nat) (h : AC P F [.ptr 0 0, .it .i64 f, .it .i64 server, keyV k] [XD d] (.tup [.ptr 3 0, .it .i64 0]) (SG d' f server k E fl))
  (h' : ARg P pf rf rest (put e dst (.tup [.ptr (T.length + 2) 0, .it .i64 0])) (T.set a (XD d') ++ [.cells [.ptr a 0, .it .i64 f, .sl (.own (T.length + 1)) ((rowsB E).map .st)], .buf E.length 9 1, .cells [.ptr T.length 0, .it .i64 server, .it .i64 k.secret, .it .i64 k.pub, .sl (.own (T.length + 3)) (E.map entryV), .mp (T.length + 4), .it .i64 (fl : Int)], .buf E.length 84 50, mapE (E.map dg)]) K)
  (hT : T[a]? = some (XD d) := by rfl) (hg : gargs.map AV.wk = [.ptr a 0, .it .i64 f, .it .i64 server, keyV k] := by rfl) :
  callP (AnyC P F gargs T) (ARgk P pf rf dst rest e K) := call_mk (show AC P F (gargs.map AV.wk) T _ _ by rw [hg]; exact AC.so hT h) h'
end
end Go.Proofs.YtlefikdjhnaapaaGreatDoor.Pe
end
section
namespace Go.Proofs.YtlefikdjhnaapaaGreatDoor.Pe
open Go Go.RowKit Co Sg Ac It
set_option maxRecDepth 100000
set_option maxHeartbeats 4000000
structure InL (l : List Int) : Prop where
 len : l.length ≤ 140737488351232
 rng : ∀ i ∈ l, -9223372036854775808 ≤ i ∧ i ≤ 9223372036854775807
structure InE (e : It.Entry) : Prop where
 time : -9223372036854775808 ≤ e.time ∧ e.time ≤ 9223372036854775807
 item : InI e.item
theorem shp_entryI {n us} (h : shp Tryz.prog 140737488351232 (n + 7) 84 us) : ∃ e : It.Entry, us = (entryV e).cells ∧ InE e := by
 have h := shp_struct Tryz.underlying84 h
 obtain ⟨a0, b0, rfl, h0, h⟩ := h
 obtain ⟨a1, b1, rfl, h1, rfl⟩ := h
 obtain ⟨time, rfl, w0⟩ := shp_i64 Tryz.underlying3 h0
 obtain ⟨i, rfl, w1⟩ := shp_itemI h1
 exact ⟨⟨time, i⟩, rfl, w0, w1⟩
theorem shp_entriesI {n us} (h : shp Tryz.prog 140737488351232 (n + 8) 68 us) : ∃ l : List It.Entry, us = [.sl .ro (l.map entryV)] ∧ l.length ≤ 140737488351232 ∧ ∀ e ∈ l, InE e :=
 shp_slice entryV InE Tryz.underlying68 h fun x hx => by
  obtain ⟨w, rfl, hw⟩ := shp_entryI hx
  exact ⟨w, by rw [show aggT Tryz.prog 84 = true from by kernel_rfl]; rfl, hw⟩
end Go.Proofs.YtlefikdjhnaapaaGreatDoor.Pe
end
section
namespace Go.Proofs.YtlefikdjhnaapaaGreatDoor.Pe
open Go Go.RowKit Co Sg Ac It Sl
set_option maxRecDepth 100000
set_option maxHeartbeats 4000000
theorem shp_head {n us} (h : shp Tryz.prog 140737488351232 (n + 3) 75 us) : ∃ e : Head, us = (headV e).cells ∧ ((-9223372036854775808 ≤ e.server ∧ e.server ≤ 9223372036854775807) ∧ (-9223372036854775808 ≤ e.size ∧ e.size ≤ 9223372036854775807) ∧ (-9223372036854775808 ≤ e.time ∧ e.time ≤ 9223372036854775807) ∧ e.root.length ≤ 140737488351232 ∧ (-9223372036854775808 ≤ e.sig.e ∧ e.sig.e ≤ 9223372036854775807) ∧ (-9223372036854775808 ≤ e.sig.s ∧ e.sig.s ≤ 9223372036854775807)) := by
 have h := shp_struct Tryz.underlying75 h
 obtain ⟨a0, b0, rfl, h0, h⟩ := h
 obtain ⟨a1, b1, rfl, h1, h⟩ := h
 obtain ⟨a2, b2, rfl, h2, h⟩ := h
 obtain ⟨a3, b3, rfl, h3, h⟩ := h
 obtain ⟨a4, b4, rfl, h4, rfl⟩ := h
 obtain ⟨server, rfl, w0⟩ := shp_i64 Tryz.underlying3 h0
 obtain ⟨size, rfl, w1⟩ := shp_i64 Tryz.underlying3 h1
 obtain ⟨root, rfl, w2⟩ := shp_str Tryz.underlying9 h2
 obtain ⟨time, rfl, w3⟩ := shp_i64 Tryz.underlying3 h3
 obtain ⟨sg, rfl, w4, w5⟩ := shp_sigI h4
 exact ⟨⟨server, size, root, time, sg⟩, rfl, w0, w1, w3, w2, w4, w5⟩
end Go.Proofs.YtlefikdjhnaapaaGreatDoor.Pe
end
section
namespace Go.Proofs.YtlefikdjhnaapaaGreatDoor.Pe
open Go Go.RowKit Co Sg Ac It Sl
set_option maxRecDepth 100000
structure Cs where
 g : Head
 h : Head
 key : Key
 list : List It.Entry
 text : By
 server : Int
 time : Int
abbrev caseL (c : Cs) : List AV := [.it .i64 c.g.server, .it .i64 c.g.size, .st c.g.root, .it .i64 c.g.time, .it .i64 c.g.sig.e, .it .i64 c.g.sig.s, .it .i64 c.h.server, .it .i64 c.h.size, .st c.h.root, .it .i64 c.h.time, .it .i64 c.h.sig.e, .it .i64 c.h.sig.s, .it .i64 c.key.secret, .it .i64 c.key.pub, .sl .ro (c.list.map entryV), .st c.text, .it .i64 c.server, .it .i64 c.time]
abbrev headL (h : Head) : List AV := [.it .i64 h.server, .it .i64 h.size, .st h.root, .it .i64 h.time, .it .i64 h.sig.e, .it .i64 h.sig.s]
abbrev caseV (c : Cs) : AV := .agg [.it .i64 c.g.server, .it .i64 c.g.size, .st c.g.root, .it .i64 c.g.time, .it .i64 c.g.sig.e, .it .i64 c.g.sig.s, .it .i64 c.h.server, .it .i64 c.h.size, .st c.h.root, .it .i64 c.h.time, .it .i64 c.h.sig.e, .it .i64 c.h.sig.s, .it .i64 c.key.secret, .it .i64 c.key.pub, .sl .ro (c.list.map entryV), .st c.text, .it .i64 c.server, .it .i64 c.time]
end Go.Proofs.YtlefikdjhnaapaaGreatDoor.Pe
end
section
namespace Go.Proofs.YtlefikdjhnaapaaGreatDoor.Pe
open Go Go.RowKit Co Sg Ac It Sl Wl Ql
set_option maxRecDepth 100000
set_option maxHeartbeats 4000000
def bgnId : Nat → By
 | 0 => [48, 48, 48, 48, 48, 48, 48, 48, 48, 48, 48, 48, 48, 48, 97, 49]
 | 1 => [48, 48, 48, 48, 48, 48, 48, 48, 48, 48, 48, 48, 48, 48, 98, 50]
 | _ => [48, 48, 48, 48, 48, 48, 48, 48, 48, 48, 48, 48, 48, 48, 99, 51]
def bgn (n : Nat) : It.Item := ofAct { act0 with author := bgnId n, text := [110, 97, 109, 101], n := 37 }
theorem bgn0_right : It.right (bgn 0) = true := by decide +kernel
theorem bgn1_right : It.right (bgn 1) = true := by decide +kernel
theorem bgn_ne : It.digest (bgn 1) ≠ It.digest (bgn 0) := by decide +kernel
theorem begun0_c : AC Tryz.prog 65 [.it .i64 0] [] (itemV (bgn 0)) [] := by
 refine AC.enter2 [124] [] Tryz.func65 rfl (by decide) (by decide) (Nat.le_of_ble_eq_true rfl) (by kernel_rfl) ?_; refine zev ?_
 have k := ofAct_c { act0 with author := bgnId 0, text := [110, 97, 109, 101], n := 37 } (by decide) (by decide)
 refine run ?_
 refine cp k ?_
 refine run ?_
 exact er0
theorem begun1_c : AC Tryz.prog 65 [.it .i64 1] [] (itemV (bgn 1)) [] := by
 refine AC.enter2 [124] [] Tryz.func65 rfl (by decide) (by decide) (Nat.le_of_ble_eq_true rfl) (by kernel_rfl) ?_; refine zev ?_
 have k := ofAct_c { act0 with author := bgnId 1, text := [110, 97, 109, 101], n := 37 } (by decide) (by decide)
 refine run ?_
 refine cp k ?_
 refine run ?_
 exact er0
def k5 : Key := Sg.keyOf 5
theorem k5_right : k5.right = true := keyOf_right (by decide) (by decide)
def bE1 : List It.Entry := [⟨5, bgn 0⟩]
def bE2 : List It.Entry := [⟨5, bgn 0⟩, ⟨5, bgn 1⟩]
theorem rec1_len (s : By) (h : s.length ≤ 300000) : (rec1 s).length ≤ 300030 := by
 have h1 := num_le 8 s.length (by omega)
 have h2 := ck_len s
 simp only [rec1, List.length_append]
 omega
theorem bE2_right : ∀ e ∈ bE2, It.right e.item = true := fun e he => by
 unfold bE2 at he
 simp only [List.mem_cons, List.not_mem_nil, or_false] at he
 rcases he with rfl | rfl
 ·exact bgn0_right
 ·exact bgn1_right
theorem bE2_iz : ∀ e ∈ bE2, Iz e.item := fun e he => iz_right (bE2_right e he)
theorem small15_c : AC Tryz.prog 10 [] [] (.bo true) [] := by
 obtain ⟨d1, e1, c1', f1, _, _⟩ := calm_open dk0_calm (n := 0) (by omega)
 have f1 : d1.fs 0 = ⟨[], 0⟩ := f1
 have hkr : -9223372036854775808 ≤ k5.secret ∧ k5.secret ≤ 9223372036854775807 := by decide +kernel
 have o1 := sopen_nil_c Dm.dk0 d1 0 3 k5 k5_right hkr (by decide) (by decide) e1 rfl
 have kh1 := smhead_c d1 0 3 k5 [] 0 hkr (by decide) (fun e he => absurd he (by simp)) (Nat.le_refl _)
 obtain ⟨m1, m2, m3⟩ := mkHead_right (k := k5) (server := 3) (l := []) (time := 0) k5_right (by decide) (by decide) (by decide)
 have hh1 : headE k5 3 [] 0 = mkHead k5 3 [] 0 := rfl
 have kv := sverify_c k5.pub (headE k5 3 [] 0) (by decide +kernel)
 rw [hh1] at kh1 kv
 rw [m3] at kv
 have hb0 := entryB_len ⟨5, bgn 0⟩
 have hb1 := entryB_len ⟨5, bgn 1⟩
 have r0 := rec1_len (entryB ⟨5, bgn 0⟩) (by omega)
 have r1 := rec1_len (entryB ⟨5, bgn 1⟩) (by omega)
 obtain ⟨d2, a1, a2, a3, a4⟩ := calm_add' c1' (n := 0) (by omega) (s := entryB ⟨5, bgn 0⟩) (by omega) (by rw [f1]; show 0 + _ ≤ _; omega)
 have s1 : saddD d1 0 [] (bgn 0) 5 = ((0, 0), d2, bE1) := by
  unfold saddD
  rw [if_pos ⟨bgn0_right, by decide⟩, if_neg (by simp)]
  have a1 : addD d1 0 (entryB ⟨nextT [] 5, bgn 0⟩) = (0, d2) := a1
  rw [a1]
  rfl
 have ka1 := sadd_c d1 0 3 k5 [] 0 (bgn 0) 5 (iz_right bgn0_right) (by decide) (fun h => right_small h)
 rw [s1] at ka1
 rw [f1] at a3
 obtain ⟨d3, b1, b2, b3, b4⟩ := calm_add' a2 (n := 0) (by omega) (s := entryB ⟨5, bgn 1⟩) (by omega) (by rw [a3]; simp only [List.length_append, List.length_nil]; omega)
 have s2 : saddD d2 0 bE1 (bgn 1) 3 = ((1, 0), d3, bE2) := by
  unfold saddD
  rw [if_pos ⟨bgn1_right, by decide⟩, if_neg (by
   show It.digest (bgn 1) ∉ [It.digest (bgn 0)]
   rw [List.mem_singleton]
   exact bgn_ne)]
  have b1 : addD d2 0 (entryB ⟨nextT bE1 3, bgn 1⟩) = (0, d3) := b1
  rw [b1]
  rfl
 have ka2 := sadd_c d2 0 3 k5 bE1 0 (bgn 1) 3 (iz_right bgn1_right) (by decide) (fun h => right_small h)
 rw [s2] at ka2
 obtain ⟨d4, g1, g2, g3, g4⟩ := calm_flush' b2 (n := 0) (by omega)
 have kl1 := slen_c d3 0 3 k5 bE2 0
 have kf := sflush_c d3 0 3 k5 bE2 0
 rw [show (0 : Int) = ((0 : Nat) : Int) from rfl, g1] at kf
 have ke := sentries_c d4 0 3 k5 bE2 2 0 9 (by decide) (by decide) bE2_right
 have hwin : windowE bE2 2 0 9 = bE2 := rfl
 rw [hwin] at ke
 have s3 : saddD d4 0 bE2 (bgn 0) 7 = ((0, 13), d4, bE2) := by
  unfold saddD
  rw [if_pos ⟨bgn0_right, by decide⟩, if_pos (by
   show It.digest (bgn 0) ∈ [It.digest (bgn 0), _]
   simp)]
 have ka3 := sadd_c d4 0 3 k5 bE2 2 (bgn 0) 7 (iz_right bgn0_right) (by decide) (fun h => right_small h)
 rw [s3] at ka3
 have s4 : saddD d4 0 bE2 item0 7 = ((0, 1), d4, bE2) := by
  unfold saddD
  rw [if_neg (fun h => by rw [item0_wrong] at h; exact absurd h.1 (by decide))]
 have ka4 := sadd_c d4 0 3 k5 bE2 2 item0 7 ⟨szI0, by decide, by decide, dz0⟩ (by decide) (fun h => by rw [item0_wrong] at h; cases h)
 rw [s4] at ka4
 have kl2 := slen_c d4 0 3 k5 bE2 2
 have kh2 := smhead_c d4 0 3 k5 bE2 2 hkr (by decide) bE2_iz (by decide)
 have hh2 : headE k5 3 bE2 2 = mkHead k5 3 bE2 5 := rfl
 obtain ⟨n1, n2, n3⟩ := mkHead_right (k := k5) (server := 3) (l := bE2) (time := 5) k5_right (by decide) (by decide) (by decide)
 rw [hh2] at kh2
 have kk := of_c 5 (by decide)
 change AC _ _ _ _ (keyV k5) _ at kk
 clear a1 a3 a4 b1 b2 b3 b4 g1 g2 g3 g4 e1 f1 c1' r0 r1 hb0 hb1 s1 s2 s3 s4 a2 hh1 hh2 hwin m3 n3 m2 n2
 have z1 : (mkHead k5 3 [] 0).size = 0 ∧ (mkHead k5 3 [] 0).time = 0 ∧ (mkHead k5 3 [] 0).server = 3 := by rw [m1]; exact ⟨rfl, rfl, rfl⟩
 have z2 : (mkHead k5 3 bE2 5).size = 2 := by rw [n1]; rfl
 clear m1 n1
 generalize mkHead k5 3 [] 0 = hd1 at *
 generalize mkHead k5 3 bE2 5 = hd2 at *
 obtain ⟨hv, hs, hr, ht, hg⟩ := hd1
 obtain ⟨rfl, rfl, rfl⟩ := z1
 obtain ⟨hv2, hs2, hr2, ht2, hg2⟩ := hd2
 obtain rfl := z2
 generalize k5 = kk5 at *
 refine AC.enter2 [64, 65, 50] [] Tryz.func10 rfl (by decide) (by decide) (Nat.le_of_ble_eq_true rfl) (by kernel_rfl) ?_; refine zev ?_
 refine run ?_
 refine call_mk (AC.newAt d_new _) ?_
 refine run ?_
 refine cp kk ?_
 refine run ?_
 refine cso 0 o1 ?_
 refine run ?_
 refine csg 0 2 3 4 5 6 kh1 ?_
 refine run ?_
 refine cp begun0_c ?_
 refine run ?_
 refine csg 0 2 3 4 5 6 ka1 ?_
 refine run ?_
 refine cp begun1_c ?_
 refine run ?_
 refine csg 0 2 3 4 5 6 ka2 ?_
 refine run ?_
 refine csg 0 2 3 4 5 6 kl1 ?_
 refine run ?_
 refine csg 0 2 3 4 5 6 kf ?_
 refine run ?_
 refine csg 0 2 3 4 5 6 ke ?_
 refine run ?_
 refine cp begun0_c ?_
 refine run ?_
 refine csg 0 2 3 4 5 6 ka3 ?_
 refine run ?_
 refine csg 0 2 3 4 5 6 ka4 ?_
 have hb2 : bE2.length = 2 := rfl
 have hsz : allSz 50 (bE2.map entryV) = true := entries_sz bE2
 have hx0 : bE2[0]? = some ⟨5, bgn 0⟩ := rfl
 have hx1 : bE2[1]? = some ⟨5, bgn 1⟩ := rfl
 refine runf (an @hb2 (an @hx0 (an @hx1 @hsz))) ?_
 refine cp kv ?_
 refine runf (an @hb2 (an @hx0 (an @hx1 @hsz))) ?_
 refine csg 0 2 3 4 5 6 kl2 ?_
 refine runf (an @hb2 (an @hx0 (an @hx1 @hsz))) ?_
 refine csg 0 2 3 4 5 6 kh2 ?_
 refine runf (an @hb2 (an @hx0 (an @hx1 @hsz))) ?_
 exact er0
end Go.Proofs.YtlefikdjhnaapaaGreatDoor.Pe
end
section
namespace Go.Proofs.YtlefikdjhnaapaaGreatDoor.Pe
open Go Go.RowKit Co Sg Ac It Sl
set_option maxRecDepth 100000
set_option maxHeartbeats 4000000
section
variable {P : Program} [Tab] {pf rf : List FuncId} {N0 : Nat} {Q : AX → Env → Store → Prop} {e : Env} {S : Store}
theorem thenQ_thenQ (K K' : Env → Store → Prop) : thenQ (thenQ Q K) K' = thenQ Q K' := by funext x; cases x <;> rfl
theorem AW_assoc (a b c : CC) : AW P pf rf N0 (a.seq (b.seq c)) Q e S = AW P pf rf N0 ((a.seq b).seq c) Q e S := by
 rw [AW_seq, AW_seq, AW_seq, thenQ_thenQ]; rfl
theorem AW_cut {a b : CC} (I : Env → Store → Prop) (h1 : ∀ Kt : Env → Store → Prop, (∀ e S, I e S → Kt e S) → AW P pf rf N0 a (thenQ Q Kt) e S) (h2 : ∀ e S, I e S → AW P pf rf N0 b Q e S) : AW P pf rf N0 (a.seq b) Q e S := h1 _ h2
end
theorem eqH (g h : Head) : (g.server == h.server && (g.size == h.size && (g.root == h.root && (g.time == h.time && (g.sig.e == h.sig.e && g.sig.s == h.sig.s))))) = decide (g = h) := by
 obtain ⟨a, b, c, d, ⟨x, y⟩⟩ := g
 obtain ⟨a', b', c', d', ⟨x', y'⟩⟩ := h
 rw [Bool.eq_iff_iff]
 simp only [Bool.and_eq_true, beq_iff_eq, decide_eq_true_eq, Head.mk.injEq, Sig.mk.injEq]
theorem headB_small (h : Head) : (headB h).length ≤ 1000000 := by
 unfold headB
 split
 ·rename_i hr
  have hh := rightH_lin.1 hr
  have n1 := numI_le h.server (by omega)
  have n2 := numI_le h.size (by omega)
  have n3 := numI_le h.time (by omega)
  have n4 := numI_le h.sig.e (by omega)
  have n5 := numI_le h.sig.s (by omega)
  have t1 : (text h.root).length ≤ 50 := by
   unfold text
   rw [List.length_append]
   have := num_le 8 h.root.length (by omega)
   omega
  have tw : (text wHead).length = 5 := rfl
  simp only [coreH, List.length_append]
  omega
 ·exact Nat.zero_le _
theorem rh_back (h : Head) : readHead (headB h) = (if rightH h then h else head0, rightH h) := by
 cases hr : rightH h with
 | true => exact readHead_back hr
 | false => rw [headB_wrong hr]; rfl
theorem slogHeads_c (c : Cs) (hk : -9223372036854775808 ≤ c.key.secret ∧ c.key.secret ≤ 9223372036854775807) (hp : -9223372036854775808 ≤ c.key.pub ∧ c.key.pub ≤ 9223372036854775807) (hz : ∀ e ∈ c.list, Iz e.item) (hl : c.list.length ≤ 140737488355328) :
  AC Tryz.prog 6 [caseV c] [] (.bo true) [] := by
 refine AC.enter [10, 52, 39, 48, 38, 54, 35, 55, 56, 57, 58, 50, 59] [] Tryz.func6 rfl (by decide) (by decide) (Nat.le_of_ble_eq_true rfl) (by kernel_rfl) ?_; refine zev ?_
 by_cases h12 : (c.list.length : Int) > 12
 ·refine run ?_
  refine cp small15_c ?_
  refine runf @h12 ?_
  exact er0
 by_cases h5 : (c.text.length : Int) > 5000
 ·refine run ?_
  refine cp small15_c ?_
  refine runf (an @h12 @h5) ?_
  exact er0
 have e4 : ∀ b : Bool, (b == b) = true := fun b => by cases b <;> rfl
 have e5 : ∀ l : By, (l == l) = true := fun l => beq_self_eq_true _
 have e6 : ∀ l : Int, (l == l) = true := fun l => beq_self_eq_true _
 have e7 : ∀ b : Bool, (b != b) = false := fun b => by cases b <;> rfl
 have kw := sheadBytes_c c.h
 have kx := readHead_c (headB c.h) (headB_small c.h)
 rw [rh_back] at kx
 have ky := readHead_c c.text (by omega)
 have kg := sright_c c.h
 have kgg := sright_c c.g
 have kwg := sheadBytes_c c.g
 have hq1 := @readHead_right c.text
 have hq2 := @readHead_wrong c.text
 generalize hrd : readHead c.text = rd at *
 obtain ⟨b, q⟩ := rd
 simp only at hq1 hq2 kx ky
 have kb := sright_c b
 have kbw := sheadBytes_c b
 have hinj := @headB_inj c.g c.h
 generalize hhb : headB c.h = hb at *
 rw [AW_assoc, AW_assoc, AW_assoc, AW_assoc, AW_assoc, AW_assoc, AW_assoc, AW_assoc, AW_assoc, AW_assoc, AW_assoc]
 refine AW_cut (fun e S => e 3 = .bo true ∧ e 4 = .ptr 1 0 ∧ e 5 = .ptr 2 0 ∧ e 6 = .ptr 3 0 ∧ e 7 = entriesV c.list ∧ e 9 = .it .i64 c.server ∧ S = [.cells (caseL c), .cells (headL c.g), .cells (headL c.h), .cells [.it .i64 c.key.secret, .it .i64 c.key.pub], .cells (headL (if rightH c.h then c.h else head0)), .cells (headL b)]) (fun Kt hK => ?_) ?_
 ·refine run ?_
  refine cp small15_c ?_
  refine runf (an @h12 @h5) ?_
  refine cp kw ?_
  refine run ?_
  refine cp kx ?_
  refine run ?_
  refine cp ky ?_
  refine run ?_
  refine cp kg ?_
  cases q with
  | true =>
   obtain ⟨hb1, hb2⟩ := hq1 rfl
   rw [hb1] at kb
   rw [hb2] at kbw
   cases hr : rightH c.h with
   | true =>
    refine runf (an @e4 (an @e5 (an @e6 @e7))) ?_
    refine cp kb ?_
    refine runf (an @e4 (an @e5 (an @e6 @e7))) ?_
    refine cp kbw ?_
    refine runf (an @e4 (an @e5 (an @e6 @e7))) ?_
    exact hK _ _ ⟨zsl, zsl, zsl, zsl, zsl, zsl, (by rw [hr]; rfl)⟩
   | false =>
    refine runf (an @e4 (an @e5 (an @e6 @e7))) ?_
    refine cp kb ?_
    refine runf (an @e4 (an @e5 (an @e6 @e7))) ?_
    refine cp kbw ?_
    refine runf (an @e4 (an @e5 (an @e6 @e7))) ?_
    exact hK _ _ ⟨zsl, zsl, zsl, zsl, zsl, zsl, (by rw [hr]; rfl)⟩
  | false =>
   have hb1 := hq2 rfl
   subst hb1
   have z0 : (head0.server == 0 && (head0.size == 0 && (head0.root == [] && (head0.time == 0 && (head0.sig.e == 0 && head0.sig.s == 0))))) = true := rfl
   cases hr : rightH c.h with
   | true =>
    refine runf (an @e4 (an @e5 (an @e6 (an @e7 @z0)))) ?_
    exact hK _ _ ⟨zsl, zsl, zsl, zsl, zsl, zsl, (by rw [hr]; rfl)⟩
   | false =>
    refine runf (an @e4 (an @e5 (an @e6 (an @e7 @z0)))) ?_
    exact hK _ _ ⟨zsl, zsl, zsl, zsl, zsl, zsl, (by rw [hr]; rfl)⟩
 have kw2 := kw
 clear kw kx ky kb kbw hq1 hq2
 rintro e S ⟨s3, s4, s5, s6, s7, s9, rfl⟩
 generalize (if rightH c.h then c.h else head0) = ha at *
 refine AW_cut (fun e S => e 3 = .bo true ∧ e 5 = .ptr 2 0 ∧ e 6 = .ptr 3 0 ∧ e 7 = entriesV c.list ∧ e 9 = .it .i64 c.server ∧ S = [.cells (caseL c), .cells (headL c.g), .cells (headL c.h), .cells [.it .i64 c.key.secret, .it .i64 c.key.pub], .cells (headL ha), .cells (headL b)]) (fun Kt hK => ?_) ?_
 ·cases hrg : rightH c.g with
  | false =>
   rw [hrg] at kgg
   refine runf (an @s4 @s5) ?_
   refine cp kgg ?_
   refine runf (an @s4 @s5) ?_
   exact hK _ _ ⟨zsl, zsl, zsl, zsl, zsl, rfl⟩
  | true =>
   rw [hrg] at kgg
   refine runf (an @s4 @s5) ?_
   refine cp kgg ?_
   refine runf (an @s4 @s5) ?_
   refine cp kg ?_
   cases hr : rightH c.h with
   | false =>
    refine runf (an @s4 @s5) ?_
    exact hK _ _ ⟨zsl, zsl, zsl, zsl, zsl, rfl⟩
   | true =>
    have hcmp : ((headB c.g == hb) == (c.g.server == c.h.server && (c.g.size == c.h.size && (c.g.root == c.h.root && (c.g.time == c.h.time && (c.g.sig.e == c.h.sig.e && c.g.sig.s == c.h.sig.s)))))) = true := by
     rw [eqH, ← hhb]
     by_cases hgh : c.g = c.h
     ·rw [hgh, decide_eq_true rfl, e5]; rfl
     ·rw [decide_eq_false hgh, show (headB c.g == headB c.h) = false from by simpa using fun h => hgh (headB_inj hrg hr h)]; rfl
    refine runf (an @s4 @s5) ?_
    refine cp kwg ?_
    refine runf (an @s4 @s5) ?_
    refine cp kw2 ?_
    refine runf (an @s4 (an @s5 @hcmp)) ?_
    exact hK _ _ ⟨zsl, zsl, zsl, zsl, zsl, rfl⟩
 clear kg kgg kwg kw2 hinj
 rintro e S ⟨s3, s5, s6, s7, s9, rfl⟩
 have kh := shead_c c.key c.server c.list c.h.time hk (by omega) hz
 have kk := keyright_c c.key hk
 by_cases hv : c.key.right = true ∧ (0 ≤ c.server ∧ c.server ≤ 19) ∧ (0 ≤ c.h.time ∧ c.h.time ≤ 1099511627776)
 rotate_left
 ·have hx : mkHead c.key c.server c.list c.h.time = head0 := by
   unfold mkHead
   split
   ·rename_i hr
    simp only
    rw [if_neg]
    intro h
    have hh := rightH_lin.1 h
    simp only at hh
    exact hv ⟨hr, by omega, by omega⟩
   ·rfl
  rw [hx] at kh
  have z0 : (head0.server == 0 && (head0.size == 0 && (head0.root == [] && (head0.time == 0 && (head0.sig.e == 0 && head0.sig.s == 0))))) = true := rfl
  refine runf (an @s3 (an @s5 (an @s6 (an @s7 @s9)))) ?_
  refine cp kh ?_
  refine runf (an @s3 (an @s5 (an @s6 (an @s7 (an @s9 @z0))))) ?_
  refine cp kk ?_
  by_cases hr : c.key.right = true
  rotate_left
  ·have hr : c.key.right = false := by simpa using hr
   refine runf @hr ?_
   exact er0
  by_cases h1 : c.server < 0
  ·refine runf (an @hr (an @s9 @h1)) ?_
   exact er0
  by_cases h2 : c.server ≥ 20
  ·refine runf (an @hr (an @s9 (an @h1 @h2))) ?_
   exact er0
  by_cases h3 : c.h.time < 0
  ·refine runf (an @hr (an @s5 (an @s9 (an @h1 (an @h2 @h3))))) ?_
   exact er0
  have h4 : c.h.time > 1099511627776 := by
   have : ¬ (0 ≤ c.h.time ∧ c.h.time ≤ 1099511627776) := fun h => hv ⟨hr, by omega, h⟩
   omega
  refine runf (an @hr (an @s5 (an @s9 (an @h1 (an @h2 (an @h3 @h4)))))) ?_
  exact er0
 obtain ⟨v1, v2, v3⟩ := hv
 obtain ⟨m1, m2, m3⟩ := mkHead_right (l := c.list) v1 v2 (by omega) v3
 rw [v1] at kk
 have z1 : ((mkHead c.key c.server c.list c.h.time).server == 0 && ((mkHead c.key c.server c.list c.h.time).size == 0 && ((mkHead c.key c.server c.list c.h.time).root == [] && ((mkHead c.key c.server c.list c.h.time).time == 0 && ((mkHead c.key c.server c.list c.h.time).sig.e == 0 && (mkHead c.key c.server c.list c.h.time).sig.s == 0))))) = false := by
  refine (eqH _ head0).trans (decide_eq_false fun h => ?_)
  rw [h] at m2
  exact absurd m2 (by decide)
 have y1 : (mkHead c.key c.server c.list c.h.time).server = c.server := by rw [m1]
 have y2 : (mkHead c.key c.server c.list c.h.time).size = c.list.length := by rw [m1]
 have y3 : (mkHead c.key c.server c.list c.h.time).root = rootE c.list := by rw [m1]
 have y4 : (mkHead c.key c.server c.list c.h.time).time = c.h.time := by rw [m1]
 clear m1
 generalize mkHead c.key c.server c.list c.h.time = X at *
 have hsz := entries_sz c.list
 refine runf (an @s3 (an @s5 (an @s6 (an @s7 @s9)))) ?_
 refine cp kh ?_
 refine runf (an @s3 (an @s5 (an @s6 (an @s7 (an @s9 @z1))))) ?_
 refine loop_mk' (fun m e S => e 3 = .bo true ∧ e 5 = .ptr 2 0 ∧ e 6 = .ptr 3 0 ∧ e 7 = entriesV c.list ∧ e 9 = .it .i64 c.server ∧ e 14 = .ptr 6 0 ∧ ∃ (k : Nat) (acc : List By) (T : Store), e 16 = .it .i64 (k : Int) ∧ e 15 = .sl (.own 7) (acc.map .st) ∧
  S = [.cells (caseL c), .cells (headL c.g), .cells (headL c.h), .cells [.it .i64 c.key.secret, .it .i64 c.key.pub], .cells (headL ha), .cells (headL b), .cells (headL X)] ++ .buf acc.length 9 1 :: T ∧ acc = (c.list.take k).map leafE ∧ k ≤ c.list.length ∧ m = c.list.length - k) c.list.length _ _ (Weak.reserve 0 15 (es := []) (by rfl) 9 1)
  ⟨zsl, zsl, zsl, zsl, zsl, zsl, 0, [], [], zsl, zsl, rfl, by simp, by omega, rfl⟩ ?_
 clear s3 s5 s6 s7 s9 z1
 rintro m e S ⟨s3, s5, s6, s7, s9, s14, k, acc, T, s16, s15, rfl, hacc, hkk, rfl⟩
 have hT1 : ∀ y : SObj, (T ++ [y])[T.length]? = some y := fun y => by simp
 have hT2 : ∀ y z : SObj, (T ++ [y]).set T.length z = T ++ [z] := fun y z => by simp
 have hal : acc.length = k := by rw [hacc, List.length_map, List.length_take, Nat.min_eq_left hkk]
 by_cases hlt : k < c.list.length
 ·have hg : c.list[k]? = some c.list[k] := List.getElem?_eq_getElem hlt
  have hzk := hz c.list[k] (List.getElem_mem hlt)
  have hst : acc ++ [leafE c.list[k]] = (c.list.take (k + 1)).map leafE := by rw [List.take_succ_eq_append_getElem hlt, List.map_append, ← hacc]; rfl
  generalize c.list[k] = x at *
  have k1 := entryBytes_c x hzk
  have hel := entryB_len x
  have k2 := leaf_c (entryB x) (by omega)
  change AC _ _ _ _ (.st (leafE x)) _ at k2
  refine runf (an @s7 (an @s15 (an @s16 (an @hg (an @hsz (an @hT1 @hT2)))))) ?_
  refine cp k1 ?_
  refine runf (an @s7 (an @s15 (an @s16 (an @hg (an @hsz (an @hT1 @hT2)))))) ?_
  refine cp k2 ?_
  refine runf (an @s15 @s16) ?_
  exact round_mk (c.list.length - (k + 1)) (by omega) ⟨zsl, zsl, zsl, zsl, zsl, zsl, k + 1, acc ++ [leafE x], _, zsl, by rw [List.map_append]; exact zsl, by rw [List.length_append]; rfl, hst, by omega, rfl⟩
 obtain rfl : k = c.list.length := by omega
 rw [List.take_length] at hacc
 subst hacc
 have hh := rightH_lin.1 m2
 have hcX : coreH X = text wHead ++ numI X.server ++ numI X.size ++ text X.root ++ numI X.time := rfl
 have hcl := coreR_lenH m2
 have n1 := num_c c.server (by omega) (by omega)
 have n2 := num_c (c.list.length : Int) (by omega) (by omega)
 have n3 := num_c c.h.time (by omega) (by omega)
 have t0 := text_c wHead (by simp)
 have t1 := text_c X.root (by omega)
 have l1 := numI_le c.server (by omega)
 have l2 := numI_le (c.list.length : Int) (by omega)
 have l3 := numI_le c.h.time (by omega)
 have l4 := text_len (s := X.root) (by omega)
 have l5 : (text wHead).length = 5 := rfl
 rw [y1, y2, y4] at hcX
 have krt := root_c (c.list.map leafE) (by rw [List.length_map]; omega) (fun x hx => by
  obtain ⟨y, _, rfl⟩ := List.mem_map.1 hx
  rw [leafE_len]; decide)
 change AC _ _ _ _ (.st (rootE c.list)) _ at krt
 have kr := sright_c X
 have kv := sverify_c c.key.pub X hp
 have kz := verify_c c.key.pub (coreH X) X.sig (by omega) hp (by omega)
 have hvv : verify c.key.pub (coreH X) X.sig = true := by
  unfold verifyH at m3
  rw [m2, Bool.true_and] at m3
  exact m3
 rw [hvv] at kz
 rw [m3] at kv
 rw [m2] at kr
 rw [hcX] at kz
 have i1 : (X.server == c.server) = true := by rw [y1]; exact beq_self_eq_true _
 have i2 : (X.size == (c.list.length : Int)) = true := by rw [y2]; exact beq_self_eq_true _
 have i3 : (X.time == c.h.time) = true := by rw [y4]; exact beq_self_eq_true _
 have i4 : (X.root == rootE c.list) = true := by rw [y3]; exact beq_self_eq_true _
 refine runf (an @s3 (an @s5 (an @s6 (an @s7 (an @s9 (an @s14 (an @s15 @s16))))))) ?_
 refine cp t0 ?_
 refine runf (an @s3 (an @s5 (an @s6 (an @s7 (an @s9 (an @s14 (an @s15 @s16))))))) ?_
 refine cp n1 ?_
 refine runf (an @s3 (an @s5 (an @s6 (an @s7 (an @s9 (an @s14 (an @s15 @s16))))))) ?_
 refine cp n2 ?_
 refine runf (an @s3 (an @s5 (an @s6 (an @s7 (an @s9 (an @s14 (an @s15 @s16))))))) ?_
 refine cp t1 ?_
 refine runf (an @s3 (an @s5 (an @s6 (an @s7 (an @s9 (an @s14 (an @s15 @s16))))))) ?_
 refine cp n3 ?_
 refine runf (an @s3 (an @s5 (an @s6 (an @s7 (an @s9 (an @s14 (an @s15 @s16))))))) ?_
 refine cp kk ?_
 refine runf (an @s3 (an @s5 (an @s6 (an @s7 (an @s9 (an @s14 (an @s15 @s16))))))) ?_
 refine cp kr ?_
 refine runf (an @s3 (an @s5 (an @s6 (an @s7 (an @s9 (an @s14 (an @s15 @s16))))))) ?_
 refine cp kv ?_
 refine runf (an @s3 (an @s5 (an @s6 (an @s7 (an @s9 (an @s14 (an @s15 (an @s16 (an @i1 (an @i2 (an @i3 @i4))))))))))) ?_
 refine cp krt ?_
 refine runf (an @s3 (an @s5 (an @s6 (an @s7 (an @s9 (an @s14 (an @s15 (an @s16 (an @i1 (an @i2 (an @i3 @i4))))))))))) ?_
 refine cp kz ?_
 refine runf (an @s3 (an @s5 (an @s6 (an @s7 (an @s9 (an @s14 (an @s15 @s16))))))) ?_
 exact er0
end Go.Proofs.YtlefikdjhnaapaaGreatDoor.Pe
end
section
namespace Go.Proofs.YtlefikdjhnaapaaGreatDoor
open Go Go.RowKit Go.WideShapes Go.ChangeShapes
section
variable {H : Type} {enc : TypeId × Value → H} {P : Program}
theorem post_of_below {f : Func} {s : ChangeSpec} {apart fresh handsOn again : Bool} {W W' : World} {args : Array Value} {v : Value} {ds gs : List (DataW H)} {before pa pv : List MemPlace}
  (hW : DataW.Whole enc P f.params.toList s.vars apart W args.toList ds gs before)
  (hres : ∀ (b : Nat) (sp : Nat → Bool) (hd : Bool), DataW.TrodAll enc P W' b sp hd f.resultTypes.toList (v.resultList f.resultTypes.size) (s.fn H (ds ++ gs)).results [])
  (hargs : ∀ sp : Nat → Bool, (∀ p ∈ before, sp p.block = true) → DataW.TrodAll enc P W' 0 sp true f.params.toList args.toList (s.fn H (ds ++ gs)).args pa)
  (hvars : ∀ sp : Nat → Bool, (∀ p ∈ before, sp p.block = true) → DataW.TrodVars enc P W' sp s.vars (s.fn H (ds ++ gs)).vars pv)
  (hps : before = pa ++ pv) (hb : Below W.heap.size W W')
  (hok : ∀ (j : Nat) (t : TypeId) (r : Value), f.resultTypes[j]? = some t → (v.resultList f.resultTypes.size)[j]? = some r → Value.okWide P W' .any 0 t r) :
  s.post enc P f apart fresh handsOn again W args v W' := by
 have hlt : ∀ p ∈ before, p.block < W.heap.size := fun p hp => hW.lt p hp
 have hold : ∀ p ∈ before, (fun b => decide (b < W.heap.size)) p.block = true := fun p hp => by simpa using hlt p hp
 refine ⟨ds, gs, before, [], pa, pv, hW, hres _ _ _, hargs _ hold, hvars _ hold, World.keptBut_mono (fun p hp => ⟨hp, ?_⟩) (hb.frame (· ∈ before)), fun _ => ?_⟩
 ·rw [hps, List.mem_append] at hp
  exact Or.inr hp
 ·obtain ⟨_, _, _, _, _, hz, hn⟩ := hW
  refine ⟨hok, _, _, ([] ++ pa) ++ pv, ⟨[] ++ pa, pv, trodAll_append (hargs _ (fun _ _ => rfl)) (hres _ _ _), hvars _ (fun _ _ => rfl), rfl, ?_, ?_⟩, ?_⟩
  ·intro b off hp
   have hin : MemPlace.cell b off ∈ before := by rw [hps]; simpa using hp
   rw [hb.frozen (hlt _ hin)]
   exact hz b off hin
  ·intro ha
   have := hn ha
   rw [hps] at this
   simpa using this
  ·intro p hp _
   rw [hps]
   simpa using hp
end
end Go.Proofs.YtlefikdjhnaapaaGreatDoor
end
section
namespace Go.Proofs.YtlefikdjhnaapaaGreatDoor
open Go Go.RowKit Sm
theorem own : ownKnob Tryz.prog.godebug = none := by kernel_rfl
theorem gK : Tryz.prog.globalNamed "agora/sum.constants" = some 1 := by kernel_rfl
theorem gI : Tryz.prog.globalNamed "agora/sum.initial" = some 0 := by kernel_rfl
theorem gKType : (Tryz.prog.globals[1]?).map (·.type) = some 251 := by kernel_rfl
theorem gIType : (Tryz.prog.globals[0]?).map (·.type) = some 207 := by kernel_rfl
theorem cellsK : Tryz.prog.cellsOf 251 = 64 := by kernel_rfl
theorem cellsI : Tryz.prog.cellsOf 207 = 8 := by kernel_rfl
theorem cellsU : Tryz.prog.cellsOf 206 = 1 := by kernel_rfl
def zsK : List Int := [1116352408, 1899447441, 3049323471, 3921009573, 961987163, 1508970993, 2453635748, 2870763221, 3624381080, 310598401, 607225278, 1426881987, 1925078388, 2162078206, 2614888103, 3248222580, 3835390401, 4022224774, 264347078, 604807628, 770255983, 1249150122, 1555081692, 1996064986, 2554220882, 2821834349, 2952996808, 3210313671, 3336571891, 3584528711, 113926993, 338241895, 666307205, 773529912, 1294757372, 1396182291, 1695183700, 1986661051, 2177026350, 2456956037, 2730485921, 2820302411, 3259730800, 3345764771, 3516065817, 3600352804, 4094571909, 275423344, 430227734, 506948616, 659060556, 883997877, 958139571, 1322822218, 1537002063, 1747873779, 1955562222, 2024104815, 2227730452, 2361852424, 2428436474, 2756734187, 3204031479, 3329325298]
def zsI : List Int := [1779033703, 3144134277, 1013904242, 2773480762, 1359893119, 2600822924, 528734635, 1541459225]
theorem zsK_eq : zsK = tabK.map (fun x => (x.toNat : Int)) := by decide +kernel
theorem zsI_eq : zsI = init8.list.map (fun x => (x.toNat : Int)) := by decide +kernel
theorem word_at (l : List (BitVec 32)) (i : Nat) (hi : i < l.length) : Value.int .u32 ((l.map (fun x => (x.toNat : Int))).getD i 0) = w32 (l.getD i 0) := by
 simp only [List.getD_eq_getElem?_getD, List.getElem?_map, List.getElem?_eq_getElem hi]
 rfl
def laidList : List (String × DataW Unit) := [("agora/sum.constants", Rows.laid_agora_sum_constants), ("agora/sum.initial", Rows.laid_agora_sum_initial)]
theorem tabs_of {W : World} (h : laidMetH Tryz.prog laidList W) : Tabs W := by
 have h1 : laidMet Tryz.prog (("agora/sum.constants", Lib.tabData .u32 zsK) :: [("agora/sum.initial", Lib.tabData .u32 zsI)]) W := h
 have k1 := Lib.tabIs_of_head gK gKType Tryz.underlying251 Tryz.underlying206 cellsU cellsK h1
 have k2 := Lib.tabIs_of_head gI gIType Tryz.underlying207 Tryz.underlying206 cellsU cellsI (laidMet.tail h1)
 refine ⟨fun i hi => ?_, fun i hi => ?_⟩
 ·rw [k1.cell gK i hi, zsK_eq, word_at tabK i hi]
 ·rw [k2.cell gI i hi, zsI_eq, word_at init8.list i hi]
def withCells (cs : Array Value) : Obj → Obj
 | .cells _ t frozen => .cells cs t frozen
 | o => o
noncomputable def laidWorld (os : Os) : World :=
 { World.holding Tryz.prog os ⟨#[], #[], []⟩ with heap := ((World.holding Tryz.prog os ⟨#[], #[], []⟩).heap.modify 1 (withCells (zsK.map (Value.int .u32)).toArray)).modify 0 (withCells (zsI.map (Value.int .u32)).toArray) }
end Go.Proofs.YtlefikdjhnaapaaGreatDoor
namespace Go.Proofs.YtlefikdjhnaapaaGreatDoor
open Go Go.RowKit Sm
theorem tab_of {W : World} (h : Tabs W) : ∀ b i v, (Pe.tabs).T b i = some v → W.cell? ⟨b, i, none⟩ = some v := by
 intro b i v hv
 have hv' : (if b = 1 ∧ i < 64 then some (w32 (tabK.getD i 0)) else if b = 0 ∧ i < 8 then some (w32 (init8.list.getD i 0)) else none) = some v := hv
 split at hv'
 ·rename_i hc
  obtain ⟨rfl, hi⟩ := hc
  rw [h.1 i hi]; exact hv'
 ·split at hv'
  ·rename_i hc
   obtain ⟨rfl, hi⟩ := hc
   rw [h.2 i hi]; exact hv'
  ·cases hv'
theorem laidOut : laidOutB Tryz.prog = true := by kernel_rfl
end Go.Proofs.YtlefikdjhnaapaaGreatDoor
end
section
namespace Go.Proofs.YtlefikdjhnaapaaGreatDoor.Pe
open Go Go.RowKit Co Sg Ac It Sl
set_option maxRecDepth 100000
set_option maxHeartbeats 4000000
theorem shp_case {n us} (h : shp Tryz.prog 140737488351232 (n + 9) 90 us) : ∃ c : Cs, us = (caseV c).cells ∧ ((-9223372036854775808 ≤ c.key.secret ∧ c.key.secret ≤ 9223372036854775807) ∧ (-9223372036854775808 ≤ c.key.pub ∧ c.key.pub ≤ 9223372036854775807) ∧ (∀ e ∈ c.list, InE e) ∧ c.list.length ≤ 140737488351232) := by
 have h := shp_struct Tryz.underlying90 h
 obtain ⟨a0, b0, rfl, h0, h⟩ := h
 obtain ⟨a1, b1, rfl, h1, h⟩ := h
 obtain ⟨a2, b2, rfl, h2, h⟩ := h
 obtain ⟨a3, b3, rfl, h3, h⟩ := h
 obtain ⟨a4, b4, rfl, h4, h⟩ := h
 obtain ⟨a5, b5, rfl, h5, h⟩ := h
 obtain ⟨a6, b6, rfl, h6, rfl⟩ := h
 obtain ⟨g, rfl, _⟩ := shp_head h0
 obtain ⟨hh, rfl, _⟩ := shp_head h1
 obtain ⟨k, rfl, w2, w3⟩ := shp_key h2
 obtain ⟨l, rfl, w4, w5⟩ := shp_entriesI h3
 obtain ⟨t, rfl, _⟩ := shp_str Tryz.underlying9 h4
 obtain ⟨sv, rfl, _⟩ := shp_i64 Tryz.underlying3 h5
 obtain ⟨ti, rfl, _⟩ := shp_i64 Tryz.underlying3 h6
 exact ⟨⟨g, hh, k, l, t, sv, ti⟩, rfl, w2, w3, w5, w4⟩
end Go.Proofs.YtlefikdjhnaapaaGreatDoor.Pe
end
