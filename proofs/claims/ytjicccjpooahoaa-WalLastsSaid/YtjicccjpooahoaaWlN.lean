/- Chapter 10's laws on plain values: WalLasts: few, found. -/
import Derived.Test.YtjicccjpooahoaaWlO
set_option linter.unusedSectionVars false
set_option linter.unusedVariables false
set_option linter.unusedSimpArgs false
namespace Go.Proofs.Ytjicccjpooahoaa.Pe
open Go Go.RowKit Co Dm Wl
set_option maxRecDepth 100000
set_option maxHeartbeats 4000000
def okA (a : WAct) : Bool := decide (a.L.length ≤ 12) && decide (a.Keep.length ≤ 8)
def sum3 : List By → Nat
 | [] => 0
 | s :: l => min s.length 3000 + sum3 l
def totW : List WAct → Nat
 | [] => 0
 | a :: l => min a.S.length 3000 + sum3 a.L + totW l
def fewW (l : List WAct) : Bool := decide (l.length ≤ 30) && l.all okA && decide (totW l ≤ 2000)
theorem sum3_snoc (l : List By) (s : By) : sum3 (l ++ [s]) = sum3 l + min s.length 3000 := by
 induction l with
 | nil => simp [sum3]
 | cons x l ih => simp only [List.cons_append, sum3, ih]; omega
theorem sum3_le (l : List By) : sum3 l ≤ l.length * 3000 := by
 induction l with
 | nil => simp [sum3]
 | cons x l ih => simp only [sum3, List.length_cons]; omega
theorem totW_snoc (l : List WAct) (a : WAct) : totW (l ++ [a]) = totW l + (min a.S.length 3000 + sum3 a.L) := by
 induction l with
 | nil => simp [totW]
 | cons x l ih => simp only [List.cons_append, totW, ih]; omega
theorem totW_le (l : List WAct) (h : l.all okA = true) : totW l ≤ l.length * 39000 := by
 induction l with
 | nil => simp [totW]
 | cons a l ih =>
  simp only [List.all_cons, Bool.and_eq_true] at h
  have h1 := ih h.2
  have h2 := h.1
  unfold okA at h2
  simp only [Bool.and_eq_true, decide_eq_true_eq] at h2
  have h3 := sum3_le a.L
  simp only [totW, List.length_cons]; omega
structure Win (a : WAct) : Prop where
 S : a.S.length ≤ 140737488351232
 N : a.N ≤ 9223372036854775807
 L : a.L.length ≤ 140737488351232
 K : a.Keep.length ≤ 140737488351232
 Ls : ∀ s ∈ a.L, s.length ≤ 140737488351232
theorem few10_c (l : List WAct) (hl : l.length ≤ 140737488351232) (h : ∀ a ∈ l, Win a) : AC Try.prog 25 [.sl .ro (l.map waV)] [] (.bo (fewW l)) [] := by
 refine AC.enter [] [] Try.func25 rfl (by decide) (by decide) (Nat.le_of_ble_eq_true rfl) (by kernel_rfl) ?_; simp only [eraseC, eraseG, eraseO, List.map_cons, List.map_nil, List.map_toArray, List.getElem?_toArray, List.getElem?_cons_zero, List.getElem?_cons_succ, Option.bind_some, Option.bind_none, List.append_eq, List.cons_append, List.nil_append]
 by_cases h30 : 30 < l.length
 ·have hq : fewW l = false := by unfold fewW; rw [decide_eq_false (by omega)]; rfl
  rw [hq]
  have e1 : (l.length : Int) > 30 := by omega
  refine runf @e1 ?_
  exact er0
 have hq : fewW l = (l.all okA && decide (totW l ≤ 2000)) := by unfold fewW; rw [decide_eq_true (by omega)]; rfl
 rw [hq]
 have e1 : ¬ (l.length : Int) > 30 := by omega
 have hsz : allSz 5 (l.map waV) = true := allSz_map 5 waV (fun _ => rfl) l
 refine runf @e1 ?_
 refine loop_mk (fun m e S => S = [] ∧ e 0 = .sl .ro (l.map waV) ∧ ∃ k : Nat, e 4 = .it .i64 (k : Int) ∧ k ≤ l.length ∧ e 3 = .it .i64 (totW (l.take k) : Int) ∧ (l.take k).all okA = true ∧ m = l.length - k) l.length ⟨rfl, (by first | rfl | (simp only [↓upd_apply, ↓put_some, ↓reduceIte, Nat.reduceEqDiff, ↓argEnv_zero, ↓argEnv_succ, *]; done)), 0, (by first | rfl | (simp only [↓upd_apply, ↓put_some, ↓reduceIte, Nat.reduceEqDiff, ↓argEnv_zero, ↓argEnv_succ, *]; done)), by omega, (by first | rfl | (simp only [↓upd_apply, ↓put_some, ↓reduceIte, Nat.reduceEqDiff, ↓argEnv_zero, ↓argEnv_succ, *]; done)), rfl, rfl⟩ ?_
 rintro m e S ⟨rfl, s0, k, s4, hk, s3, hall, rfl⟩
 by_cases hlt : k < l.length
 rotate_left
 ·obtain rfl : k = l.length := by omega
  rw [List.take_length] at s3 hall
  rw [hall, Bool.true_and]
  have e2 : ((totW l : Nat) : Int) ≤ 2000 ↔ totW l ≤ 2000 := by omega
  by_cases h2 : totW l ≤ 2000
  ·have e3 : ((totW l : Nat) : Int) ≤ 2000 := by omega
   rw [decide_eq_true h2]
   refine runf (an @s0 (an @s3 (an @s4 @e3))) ?_
   exact er0
  ·have e3 : ¬ ((totW l : Nat) : Int) ≤ 2000 := by omega
   rw [decide_eq_false h2]
   refine runf (an @s0 (an @s3 (an @s4 @e3))) ?_
   exact er0
 have g1 : l[k]? = some l[k] := List.getElem?_eq_getElem hlt
 have hw := h l[k] (List.getElem_mem hlt)
 have hsn := totW_snoc (l.take k) l[k]
 rw [← List.take_succ_eq_append_getElem hlt] at hsn
 have hb := totW_le _ hall
 have hb2 : (l.take k).length ≤ 30 := by rw [List.length_take]; omega
 have hsa : (l.take (k + 1)).all okA = okA l[k] := by
  rw [List.take_succ_eq_append_getElem hlt, List.all_append, hall, Bool.true_and]; simp
 have hbad : okA l[k] = false → l.all okA = false := fun hf => by
  rw [List.all_eq_false]; exact ⟨_, List.getElem_mem hlt, by rw [hf]; decide⟩
 generalize l[k] = a at *
 by_cases hL : a.L.length ≤ 12
 rotate_left
 ·have hf : okA a = false := by unfold okA; rw [decide_eq_false hL]; rfl
  rw [hbad hf]
  have e2 : (a.L.length : Int) > 12 := by omega
  refine runf (an @s0 (an @s3 (an @s4 (an @g1 (an @hsz @e2))))) ?_
  exact er0
 have e2 : ¬ (a.L.length : Int) > 12 := by omega
 by_cases hK : a.Keep.length ≤ 8
 rotate_left
 ·have hf : okA a = false := by unfold okA; rw [decide_eq_false hK]; simp
  rw [hbad hf]
  have e3 : (a.Keep.length : Int) > 8 := by omega
  refine runf (an @s0 (an @s3 (an @s4 (an @g1 (an @hsz (an @e2 @e3)))))) ?_
  exact er0
 have e3 : ¬ (a.Keep.length : Int) > 8 := by omega
 have ht : okA a = true := by unfold okA; rw [decide_eq_true hL, decide_eq_true hK]; rfl
 rw [ht] at hsa
 generalize hm1 : totW (l.take (k + 1)) = m1 at *
 generalize hm0 : totW (l.take k) = m0 at *
 have hms : min a.S.length 3000 ≤ 3000 := by omega
 have em : (m0 : Int) + (if 3000 < (a.S.length : Int) then 3000 else (a.S.length : Int)) = ((m0 + min a.S.length 3000 : Nat) : Int) := by split <;> omega
 clear hbad
 refine runf (an @s0 (an @s3 (an @s4 (an @g1 (an @hsz (an @e2 (an @e3 @em))))))) ?_
 have hs1 : allSz 1 (a.L.map AV.st) = true := allSz_map 1 AV.st (fun _ => rfl) _
 refine loop_mk (fun m e S => S = [] ∧ e 0 = .sl .ro (l.map waV) ∧ e 4 = .it .i64 (k : Int) ∧ ∃ j : Nat, e 5 = .it .i64 (j : Int) ∧ j ≤ a.L.length ∧ e 3 = .it .i64 ((m0 + min a.S.length 3000 + sum3 (a.L.take j) : Nat) : Int) ∧ m = a.L.length - j) a.L.length ⟨rfl, (by first | rfl | (simp only [↓upd_apply, ↓put_some, ↓reduceIte, Nat.reduceEqDiff, ↓argEnv_zero, ↓argEnv_succ, *]; done)), (by first | rfl | (simp only [↓upd_apply, ↓put_some, ↓reduceIte, Nat.reduceEqDiff, ↓argEnv_zero, ↓argEnv_succ, *]; done)), 0, (by first | rfl | (simp only [↓upd_apply, ↓put_some, ↓reduceIte, Nat.reduceEqDiff, ↓argEnv_zero, ↓argEnv_succ, *]; done)), by omega, (by first | rfl | (simp only [↓upd_apply, ↓put_some, ↓reduceIte, Nat.reduceEqDiff, ↓argEnv_zero, ↓argEnv_succ, *]; done)), rfl⟩ ?_
 clear s0 s3 s4
 rintro m e S ⟨rfl, s0, s4, j, s5, hj, s3, rfl⟩
 by_cases hlj : j < a.L.length
 rotate_left
 ·obtain rfl : j = a.L.length := by omega
  rw [List.take_length] at s3
  refine runf (an @s0 (an @s3 (an @s4 (an @s5 (an @g1 @hsz))))) ?_
  exact round_mk (l.length - (k + 1)) (by omega) ⟨rfl, (by first | rfl | (simp only [↓upd_apply, ↓put_some, ↓reduceIte, Nat.reduceEqDiff, ↓argEnv_zero, ↓argEnv_succ, *]; done)), k + 1, (by first | rfl | (simp only [↓upd_apply, ↓put_some, ↓reduceIte, Nat.reduceEqDiff, ↓argEnv_zero, ↓argEnv_succ, *]; done)), by omega, (by rw [hm1, show m1 = m0 + min a.S.length 3000 + sum3 a.L by omega]; exact (by first | rfl | (simp only [↓upd_apply, ↓put_some, ↓reduceIte, Nat.reduceEqDiff, ↓argEnv_zero, ↓argEnv_succ, *]; done))), hsa, rfl⟩
 have g2 : a.L[j]? = some a.L[j] := List.getElem?_eq_getElem hlj
 have hs3 := sum3_snoc (a.L.take j) a.L[j]
 rw [← List.take_succ_eq_append_getElem hlj] at hs3
 have hb3 := sum3_le (a.L.take j)
 have hb4 : (a.L.take j).length ≤ 12 := by rw [List.length_take]; omega
 generalize a.L[j] = x at *
 generalize hn1 : sum3 (a.L.take (j + 1)) = n1 at *
 generalize sum3 (a.L.take j) = n0 at *
 have em2 : ((m0 + min a.S.length 3000 + n0 : Nat) : Int) + (if 3000 < (x.length : Int) then 3000 else (x.length : Int)) = ((m0 + min a.S.length 3000 + n1 : Nat) : Int) := by split <;> omega
 have hbb : m0 + min a.S.length 3000 + n1 ≤ 2000000 := by omega
 have hz1 : m0 + min a.S.length 3000 + sum3 (a.L.take (j + 1)) = m0 + min a.S.length 3000 + n1 := by rw [hn1]
 generalize m0 + min a.S.length 3000 + n1 = z1 at *
 generalize m0 + min a.S.length 3000 + n0 = z0 at *
 refine runf (an @s0 (an @s3 (an @s4 (an @s5 (an @g1 (an @g2 (an @hsz (an @hs1 @em2)))))))) ?_
 exact round_mk (a.L.length - (j + 1)) (by omega) ⟨rfl, (by first | rfl | (simp only [↓upd_apply, ↓put_some, ↓reduceIte, Nat.reduceEqDiff, ↓argEnv_zero, ↓argEnv_succ, *]; done)), (by first | rfl | (simp only [↓upd_apply, ↓put_some, ↓reduceIte, Nat.reduceEqDiff, ↓argEnv_zero, ↓argEnv_succ, *]; done)), j + 1, (by first | rfl | (simp only [↓upd_apply, ↓put_some, ↓reduceIte, Nat.reduceEqDiff, ↓argEnv_zero, ↓argEnv_succ, *]; done)), by omega, (by rw [hz1]; exact (by first | rfl | (simp only [↓upd_apply, ↓put_some, ↓reduceIte, Nat.reduceEqDiff, ↓argEnv_zero, ↓argEnv_succ, *]; done))), rfl⟩
theorem found_c (d : Dk) (all safe fresh : List By) (tried : Bool) (h : Hp d all safe) (h1 : all.length ≤ 1000000) (h2 : safe.length ≤ 1000000) (h3 : fresh.length ≤ 140737488351232) : ∃ d2, AC Try.prog 28 [.ptr 0 0, hopeV all safe fresh tried] [XD d] (.bo true) [XD d2] := by
 have kl := d_lose (bring d) 0 (by decide)
 have ka := d_arm (Dm.lose (bring d) 0) 0 (by decide) .ro [] (by simp)
 have hc : Wl.Calm (armD (Dm.lose (bring d) 0) 0 []) := ⟨rfl, rfl, rfl⟩
 have hf : (armD (Dm.lose (bring d) 0) 0 []).fs 2 = d.fs 2 := rfl
 have hp : peek (armD (Dm.lose (bring d) 0) 0 []) 2 = ((d.fs 2).data, 0) := by rw [← hf]; exact calm_peek (n := 2) hc (by omega)
 have hlen := (h.ok.fs 2).len
 generalize armD (Dm.lose (bring d) 0) 0 [] = d1 at *
 obtain ⟨d2, e3, b3, f3, _, g3⟩ := calm_open hc (n := 2) (by omega)
 have k3 := wopen_ok d1 ((2 : Nat) : Int) (by decide) (by rw [show ((2 : Nat) : Int) = 2 from rfl, hp]; exact hlen) (by rw [e3])
 rw [e3] at k3
 rw [show ((2 : Nat) : Int) = 2 from rfl, hp] at k3
 simp only at k3
 obtain ⟨t1, ht1⟩ := h.all
 obtain ⟨t2, ht2⟩ := h.safe
 generalize rowsOf (d.fs 2).data = W at *
 have hW : W.length ≤ 1000000 := by rw [ht1, List.length_append] at h1; omega
 have hA : W.isPrefixOf all = true := prefix_iff.2 ⟨t1, ht1⟩
 have hB : safe.isPrefixOf W = true := prefix_iff.2 ⟨t2, ht2⟩
 have q2 := wall_c d2 2 W (by omega)
 have s1 := rbegins_c all W (by omega) (by omega)
 rw [hA] at s1
 have s2 := rbegins_c W safe (by omega) (by omega)
 rw [hB] at s2
 have s3 := rsame_c W fresh (by omega) (by omega)
 clear ht1 ht2 hA hB e3 b3 f3 g3 hp hf hc hlen h
 refine ⟨d2, ?_⟩
 refine AC.enter2 [12, 11, 39] [] Try.func28 rfl (by decide) (by decide) (Nat.le_of_ble_eq_true rfl) (by kernel_rfl) ?_; simp only [eraseC, eraseG, eraseO, List.map_cons, List.map_nil, List.map_toArray, List.getElem?_toArray, List.getElem?_cons_zero, List.getElem?_cons_succ, Option.bind_some, Option.bind_none, List.append_eq, List.cons_append, List.nil_append]
 refine run ?_
 refine c1 0 (d_start d) ?_
 refine run ?_
 refine c1 0 kl ?_
 refine run ?_
 refine c1 0 ka ?_
 refine run ?_
 refine clo 0 k3 ?_
 refine run ?_
 refine clg 0 2 3 q2 ?_
 cases tried with
 | false =>
  refine run ?_
  refine cp s1 ?_
  refine run ?_
  refine cp s2 ?_
  refine run ?_
  exact er1
 | true =>
  by_cases hs : W = fresh
  ·rw [decide_eq_true hs] at s3
   refine run ?_
   refine cp s3 ?_
   refine run ?_
   exact er1
  ·rw [decide_eq_false hs] at s3
   refine run ?_
   refine cp s3 ?_
   refine run ?_
   refine cp s1 ?_
   refine run ?_
   refine cp s2 ?_
   refine run ?_
   exact er1
end Go.Proofs.Ytjicccjpooahoaa.Pe
