/- Package wal on plain values: All; reference 10's Begins and Same. -/
import Derived.Test.YtjicccjpooahoaaWlD
set_option linter.unusedSectionVars false
set_option linter.unusedVariables false
set_option linter.unusedSimpArgs false
namespace Go.Proofs.Ytjicccjpooahoaa.Pe
open Go Go.RowKit Co Dm Wl
set_option maxRecDepth 100000
set_option maxHeartbeats 4000000
theorem AC.emptiesW [Tab] {P : Program} {f : FuncId} {m : Mode} {rest : List AV} {S S' : Store} {v : AV} (h : ∀ (A : Option Addr) (c : Nat), AC P f (.ot (.slice A 0 c) :: rest) S v S') : AC P f (.sl m [] :: rest) S v S' := by
 refine ⟨(h none 0).can, fun w g cargs hw hargs => ?_⟩
 obtain ⟨h1, h2⟩ := hargs
 have h0 : 0 < cargs.size := by rw [h1]; simp
 have hr := h2 0 _ cargs[0] rfl (Array.getElem?_eq_getElem h0)
 generalize hcv : cargs[0] = cv at hr
 cases hr with
 | sl _ _ _ A c sz cu hc hcm hsz hA h1' hr' hm =>
  refine (h A c).run w g cargs hw ⟨by simpa using h1, fun j u v hu hv => ?_⟩
  cases j with
  | zero =>
   simp only [List.getElem?_cons_zero, Option.some.injEq] at hu
   subst hu
   rw [Array.getElem?_eq_getElem h0, hcv] at hv
   cases hv
   exact .ot _ _ rfl
  | succ j => exact h2 (j + 1) u v (by simpa using hu) hv
theorem wclone_c (l : List By) (hl : l.length ≤ 16777216) : AC Try.prog 39 [.sl .ro (l.map AV.st)] [] (.sl .ro (l.map AV.st)) [] := by
 cases l with
 | nil =>
  refine AC.emptiesW fun A c => ?_
  refine AC.enter [] [] Try.func39 rfl (by decide) (by decide) (Nat.le_of_ble_eq_true rfl) (by kernel_rfl) ?_; simp only [eraseC, eraseG, eraseO, List.map_cons, List.map_nil, List.map_toArray, List.getElem?_toArray, List.getElem?_cons_zero, List.getElem?_cons_succ, Option.bind_some, Option.bind_none, List.append_eq, List.cons_append, List.nil_append]
  cases A with
  | none =>
   refine run ?_
   exact er0w
  | some A =>
   refine run ?_
   exact er0w
 | cons x l =>
  have hs1 : allSz 1 ((x :: l).map AV.st) = true := allSz_map 1 AV.st (fun _ => rfl) _
  have hl' : l.length ≤ 16777216 := by simp only [List.length_cons] at hl; omega
  simp only [List.map_cons] at hs1 ⊢
  refine AC.enter [] [] Try.func39 rfl (by decide) (by decide) (Nat.le_of_ble_eq_true rfl) (by kernel_rfl) ?_; simp only [eraseC, eraseG, eraseO, List.map_cons, List.map_nil, List.map_toArray, List.getElem?_toArray, List.getElem?_cons_zero, List.getElem?_cons_succ, Option.bind_some, Option.bind_none, List.append_eq, List.cons_append, List.nil_append]
  refine runf @hs1 ?_
  exact er0w
theorem wall_c (d : Dk) (f : Int) (rows : List By) (hr : rows.length ≤ 16777216) : AC Try.prog 21 [.ptr 1 0] (LG d f rows) (.sl .ro (rows.map AV.st)) (LG d f rows) := by
 refine AC.enter2 [39] [] Try.func21 rfl (by decide) (by decide) (Nat.le_of_ble_eq_true rfl) (by kernel_rfl) ?_; simp only [eraseC, eraseG, eraseO, List.map_cons, List.map_nil, List.map_toArray, List.getElem?_toArray, List.getElem?_cons_zero, List.getElem?_cons_succ, Option.bind_some, Option.bind_none, List.append_eq, List.cons_append, List.nil_append]
 refine run ?_
 refine cp (wclone_c rows hr) ?_
 refine run ?_
 exact ends_ret (List.range 3) (by rfl) (lg_same ..) (by rfl) (by rfl) (by rfl)
theorem rbegins_c (a b : List By) (ha : a.length ≤ 140737488355328) (hb : b.length ≤ 140737488355328) : AC Try.prog 11 [.sl .ro (a.map AV.st), .sl .ro (b.map AV.st)] [] (.bo (b.isPrefixOf a)) [] := by
 refine AC.enter [] [] Try.func11 rfl (by decide) (by decide) (Nat.le_of_ble_eq_true rfl) (by kernel_rfl) ?_; simp only [eraseC, eraseG, eraseO, List.map_cons, List.map_nil, List.map_toArray, List.getElem?_toArray, List.getElem?_cons_zero, List.getElem?_cons_succ, Option.bind_some, Option.bind_none, List.append_eq, List.cons_append, List.nil_append]
 by_cases hl : a.length < b.length
 ·have hq : b.isPrefixOf a = false := by
   cases h : b.isPrefixOf a with
   | false => rfl
   | true => have := (List.isPrefixOf_iff_prefix.1 h).length_le; omega
  rw [hq]
  have e1 : (a.length : Int) < (b.length : Int) := by omega
  refine runf @e1 ?_
  exact er0
 have e1 : ¬ (a.length : Int) < (b.length : Int) := by omega
 refine runf @e1 ?_
 have hs1 : allSz 1 (a.map AV.st) = true := allSz_map 1 AV.st (fun _ => rfl) _
 have hs2 : allSz 1 (b.map AV.st) = true := allSz_map 1 AV.st (fun _ => rfl) _
 have key : ∀ q : Bool, (b.isPrefixOf a = true ↔ q = true) → b.isPrefixOf a = q := fun q h => by
  cases q with
  | true => exact h.2 rfl
  | false => cases hh : b.isPrefixOf a with
   | false => rfl
   | true => exact absurd (h.1 hh) (by simp)
 refine loop_mk (fun m e S => S = [] ∧ e 0 = .sl .ro (a.map AV.st) ∧ e 1 = .sl .ro (b.map AV.st) ∧ ∃ k : Nat, e 5 = .it .i64 (k : Int) ∧ k ≤ b.length ∧ a.take k = b.take k ∧ m = b.length - k) b.length ⟨rfl, (by first | rfl | (simp only [↓upd_apply, ↓put_some, ↓reduceIte, Nat.reduceEqDiff, ↓argEnv_zero, ↓argEnv_succ, *]; done)), (by first | rfl | (simp only [↓upd_apply, ↓put_some, ↓reduceIte, Nat.reduceEqDiff, ↓argEnv_zero, ↓argEnv_succ, *]; done)), 0, (by first | rfl | (simp only [↓upd_apply, ↓put_some, ↓reduceIte, Nat.reduceEqDiff, ↓argEnv_zero, ↓argEnv_succ, *]; done)), by omega, rfl, rfl⟩ ?_
 rintro m e S ⟨rfl, s0, s1, k, s5, hk, htk, rfl⟩
 by_cases hlt : k < b.length
 rotate_left
 ·obtain rfl : k = b.length := by omega
  rw [List.take_length] at htk
  rw [key true ⟨fun _ => rfl, fun _ => List.isPrefixOf_iff_prefix.2 ⟨a.drop b.length, by have := List.take_append_drop b.length a; rwa [htk] at this⟩⟩]
  refine runf (an @s0 (an @s1 @s5)) ?_
  exact er0
 have g1 : a[k]? = some (a[k]'(by omega)) := List.getElem?_eq_getElem (by omega)
 have g2 : b[k]? = some b[k] := List.getElem?_eq_getElem hlt
 have hbad : a[k]'(by omega) ≠ b[k] → ¬ b.isPrefixOf a = true := fun h e => by
  obtain ⟨t, ht⟩ := List.isPrefixOf_iff_prefix.1 e
  have := congrArg (fun l => l[k]?) ht
  simp only [List.getElem?_append_left hlt, g1, g2, Option.some.injEq] at this
  exact h this.symm
 have hgood : a[k]'(by omega) = b[k] → a.take (k + 1) = b.take (k + 1) := fun h => by
  rw [List.take_succ_eq_append_getElem (by omega : k < a.length), List.take_succ_eq_append_getElem hlt, htk, h]
 generalize a[k]'_ = x at *
 generalize b[k] = y at *
 by_cases hxy : x = y
 ·subst hxy
  have hg := hgood rfl
  clear hgood hbad htk key
  refine runf (an @s0 (an @s1 (an @s5 (an @g1 (an @g2 (an @hs1 @hs2)))))) ?_
  exact round_mk (b.length - (k + 1)) (by omega) ⟨rfl, (by first | rfl | (simp only [↓upd_apply, ↓put_some, ↓reduceIte, Nat.reduceEqDiff, ↓argEnv_zero, ↓argEnv_succ, *]; done)), (by first | rfl | (simp only [↓upd_apply, ↓put_some, ↓reduceIte, Nat.reduceEqDiff, ↓argEnv_zero, ↓argEnv_succ, *]; done)), k + 1, (by first | rfl | (simp only [↓upd_apply, ↓put_some, ↓reduceIte, Nat.reduceEqDiff, ↓argEnv_zero, ↓argEnv_succ, *]; done)), by omega, hg, rfl⟩
 ·rw [key false ⟨fun h => absurd h (hbad hxy), fun h => by cases h⟩]
  clear hgood hbad htk key
  have e2 : (x == y) = false := by simpa using hxy
  refine runf (an @s0 (an @s1 (an @s5 (an @g1 (an @g2 (an @hs1 (an @hs2 @e2))))))) ?_
  exact er0
theorem rsame_c (a b : List By) (ha : a.length ≤ 140737488355328) (hb : b.length ≤ 140737488355328) : AC Try.prog 12 [.sl .ro (a.map AV.st), .sl .ro (b.map AV.st)] [] (.bo (decide (a = b))) [] := by
 refine AC.enter [11] [] Try.func12 rfl (by decide) (by decide) (Nat.le_of_ble_eq_true rfl) (by kernel_rfl) ?_; simp only [eraseC, eraseG, eraseO, List.map_cons, List.map_nil, List.map_toArray, List.getElem?_toArray, List.getElem?_cons_zero, List.getElem?_cons_succ, Option.bind_some, Option.bind_none, List.append_eq, List.cons_append, List.nil_append]
 by_cases hl : a.length = b.length
 ·have e1 : (a.length : Int) = (b.length : Int) := by omega
  have hq : b.isPrefixOf a = decide (a = b) := by
   rw [Bool.eq_iff_iff, List.isPrefixOf_iff_prefix, decide_eq_true_iff]
   exact ⟨fun h => (h.eq_of_length hl.symm).symm, fun h => by rw [h]; exact List.prefix_refl _⟩
  have kb := rbegins_c a b ha hb
  rw [hq] at kb
  refine runf @e1 ?_
  refine cp kb ?_
  refine run ?_
  exact er0
 ·have e1 : ¬ (a.length : Int) = (b.length : Int) := by omega
  have hq : decide (a = b) = false := decide_eq_false fun h => hl (by rw [h])
  rw [hq]
  refine runf @e1 ?_
  exact er0
end Go.Proofs.Ytjicccjpooahoaa.Pe
