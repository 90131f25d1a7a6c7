/- The reference of layer 11 on plain values: ids and names. -/
import Derived.Test.YtaphpbiaoofmkaaGreatDoorIdA
import Derived.Test.YtaphpbiaoofmkaaGreatDoorRfE
import Derived.Test.YtaphpbiaoofmkaaGreatDoorPeX
set_option linter.unusedSectionVars false
set_option linter.unusedVariables false
set_option linter.unusedSimpArgs false
namespace Go.Proofs.YtaphpbiaoofmkaaGreatDoor.Pe
open Go Go.RowKit Co Sg Ac
set_option maxRecDepth 100000
set_option maxHeartbeats 4000000
theorem less_eq : ∀ (x y : By), Op.bytesLess x y = decide (x < y)
 | [], [] => by simp [Op.bytesLess]
 | _ :: _, [] => by simp [Op.bytesLess]
 | [], _ :: _ => by simp [Op.bytesLess]
 | a :: x, b :: y => by
  rw [Op.bytesLess, less_eq x y]
  simp only [List.cons_lt_cons_iff]
  by_cases h1 : a < b <;> by_cases h2 : a = b <;> by_cases h3 : x < y <;> simp [h1, h2, h3]
theorem less_tri : ∀ (x y : By), (!Op.bytesLess x y) = (Op.bytesLess y x || y == x)
 | [], [] => rfl
 | _ :: _, [] => rfl
 | [], _ :: _ => rfl
 | a :: x, b :: y => by
  have ih := less_tri x y
  rw [Op.bytesLess, Op.bytesLess]
  by_cases h : a = b
  ·subst h
   have h0 : ¬ a < a := by rw [UInt8.lt_iff_toNat_lt]; omega
   have hb : (a == a) = true := beq_self_eq_true a
   rw [decide_eq_false h0, hb, show ((a :: y == a :: x) : Bool) = (y == x) from by simp]
   simpa using ih
  ·have h1 : (a == b) = false := by simpa using h
   have h2 : (b == a) = false := by simpa using fun e : b = a => h e.symm
   have h3 : ((b :: y == a :: x) : Bool) = false := by simpa using fun e : b = a => absurd e.symm h
   rw [h1, h2, h3]
   by_cases h4 : a < b
   ·have h5 : ¬ b < a := by rw [UInt8.lt_iff_toNat_lt] at *; omega
    simp [h4, h5]
   ·have h5 : b < a := by
     rw [UInt8.lt_iff_toNat_lt] at *
     have : a.toNat ≠ b.toNat := fun e => h (UInt8.toNat_inj.1 e)
     omega
    simp [h4, h5]
theorem fin_c (b l h : Nat) : AC Tryz.prog 226 [.it .u8 b, .it .u8 l, .it .u8 h] [] (.bo (decide (l ≤ b) && decide (b ≤ h))) [] := by
 refine AC.enter [] [] Tryz.func226 rfl (by decide) (by decide) (Nat.le_of_ble_eq_true rfl) (by kernel_rfl) ?_; simp only [eraseC, eraseO, List.map_cons, List.map_nil, List.map_toArray, List.getElem?_toArray, List.getElem?_cons_zero, List.getElem?_cons_succ, Option.bind_some, Option.bind_none, List.append_eq, List.cons_append, List.nil_append]
 by_cases h1 : l ≤ b
 rotate_left
 ·have h1' : ¬ (l : Int) ≤ (b : Int) := by omega
  rw [decide_eq_false h1]
  refine runf @h1' ?_
  exact er0
 by_cases h2 : b ≤ h
 ·have h1' : (l : Int) ≤ (b : Int) := by omega
  have h2' : (b : Int) ≤ (h : Int) := by omega
  rw [decide_eq_true h1, decide_eq_true h2]
  refine runf (an @h1' @h2') ?_
  exact er0
 ·have h1' : (l : Int) ≤ (b : Int) := by omega
  have h2' : ¬ (b : Int) ≤ (h : Int) := by omega
  rw [decide_eq_true h1, decide_eq_false h2]
  refine runf (an @h1' @h2') ?_
  exact er0
theorem fidright_c (s : By) (hs : s.length ≤ 140737488355328) : AC Tryz.prog 113 [.st s] [] (.bo (idR s)) [] := by
 refine AC.enter [226] [] Tryz.func113 rfl (by decide) (by decide) (Nat.le_of_ble_eq_true rfl) (by kernel_rfl) ?_; simp only [eraseC, eraseO, List.map_cons, List.map_nil, List.map_toArray, List.getElem?_toArray, List.getElem?_cons_zero, List.getElem?_cons_succ, Option.bind_some, Option.bind_none, List.append_eq, List.cons_append, List.nil_append]
 unfold idR
 refine run ?_
 refine loop_mk (fun m e S => S = [] ∧ e 0 = .st s ∧ ∃ k : Nat, e 3 = .it .i64 (k : Int) ∧ k ≤ s.length ∧ (s.take k).all hexc = true ∧ m = s.length - k) s.length ⟨rfl, (by first | rfl | (simp only [↓upd_apply, ↓put_some, ↓reduceIte, Nat.reduceEqDiff, ↓argEnv_zero, ↓argEnv_succ, *]; done)), 0, (by first | rfl | (simp only [↓upd_apply, ↓put_some, ↓reduceIte, Nat.reduceEqDiff, ↓argEnv_zero, ↓argEnv_succ, *]; done)), by omega, rfl, rfl⟩ ?_
 rintro m e S ⟨rfl, s0, k, s3, hk, hall, rfl⟩
 by_cases hlt : k < s.length
 rotate_left
 ·obtain rfl : k = s.length := by omega
  rw [List.take_length] at hall
  rw [hall]
  by_cases h16 : s.length = 16
  ·have h16' : (s.length : Int) = 16 := by omega
   rw [decide_eq_true h16]
   refine runf (an @s0 (an @s3 @h16')) ?_
   exact er0
  ·have h16' : ¬ (s.length : Int) = 16 := by omega
   rw [decide_eq_false h16]
   refine runf (an @s0 (an @s3 @h16')) ?_
   exact er0
 have hg : s[k]? = some s[k] := List.getElem?_eq_getElem hlt
 have hstep : s.take (k + 1) = s.take k ++ [s[k]] := List.take_succ_eq_append_getElem hlt
 have hbad : hexc s[k] = false → s.all hexc = false := fun h => List.all_eq_false.2 ⟨s[k], List.getElem_mem hlt, by simp [h]⟩
 generalize s[k] = b at *
 have hu : u8 b = .it .u8 (b.toNat : Int) := rfl
 have k1 := fin_c b.toNat 48 57
 have k2 := fin_c b.toNat 97 102
 have hx : hexc b = ((decide (48 ≤ b.toNat) && decide (b.toNat ≤ 57)) || (decide (97 ≤ b.toNat) && decide (b.toNat ≤ 102))) := rfl
 generalize (decide (48 ≤ b.toNat) && decide (b.toNat ≤ 57)) = c1 at *
 generalize (decide (97 ≤ b.toNat) && decide (b.toNat ≤ 102)) = c2 at *
 refine runf (an @s0 (an @s3 (an @hg @hu))) ?_
 refine cp k1 ?_
 cases c1 with
 | true =>
  refine runf (an @s0 (an @s3 (an @hg @hu))) ?_
  exact round_mk (s.length - (k + 1)) (by omega) ⟨rfl, (by first | rfl | (simp only [↓upd_apply, ↓put_some, ↓reduceIte, Nat.reduceEqDiff, ↓argEnv_zero, ↓argEnv_succ, *]; done)), k + 1, (by first | rfl | (simp only [↓upd_apply, ↓put_some, ↓reduceIte, Nat.reduceEqDiff, ↓argEnv_zero, ↓argEnv_succ, *]; done)), by omega, by rw [hstep, List.all_append, hall]; simp [hx], rfl⟩
 | false =>
  refine runf (an @s0 (an @s3 (an @hg @hu))) ?_
  refine cp k2 ?_
  cases c2 with
  | true =>
   refine runf (an @s0 (an @s3 (an @hg @hu))) ?_
   exact round_mk (s.length - (k + 1)) (by omega) ⟨rfl, (by first | rfl | (simp only [↓upd_apply, ↓put_some, ↓reduceIte, Nat.reduceEqDiff, ↓argEnv_zero, ↓argEnv_succ, *]; done)), k + 1, (by first | rfl | (simp only [↓upd_apply, ↓put_some, ↓reduceIte, Nat.reduceEqDiff, ↓argEnv_zero, ↓argEnv_succ, *]; done)), by omega, by rw [hstep, List.all_append, hall]; simp [hx], rfl⟩
  | false =>
   rw [hbad (by rw [hx]; rfl), Bool.and_false]
   refine runf (an @s0 (an @s3 (an @hg @hu))) ?_
   exact er0
theorem fname_c (s : By) (hs : s.length ≤ 140737488355328) : AC Tryz.prog 228 [.st s] [] (.bo (nameR s)) [] := by
 refine AC.enter [226] [] Tryz.func228 rfl (by decide) (by decide) (Nat.le_of_ble_eq_true rfl) (by kernel_rfl) ?_; simp only [eraseC, eraseO, List.map_cons, List.map_nil, List.map_toArray, List.getElem?_toArray, List.getElem?_cons_zero, List.getElem?_cons_succ, Option.bind_some, Option.bind_none, List.append_eq, List.cons_append, List.nil_append]
 refine run ?_
 refine loop_mk (fun m e S => S = [] ∧ e 0 = .st s ∧ ∃ k : Nat, e 3 = .it .i64 (k : Int) ∧ k ≤ s.length ∧ (∀ j (hj : j < s.length), j < k → (if j = 0 then letter s[j] else namec s[j]) = true) ∧ m = s.length - k) s.length ⟨rfl, (by first | rfl | (simp only [↓upd_apply, ↓put_some, ↓reduceIte, Nat.reduceEqDiff, ↓argEnv_zero, ↓argEnv_succ, *]; done)), 0, (by first | rfl | (simp only [↓upd_apply, ↓put_some, ↓reduceIte, Nat.reduceEqDiff, ↓argEnv_zero, ↓argEnv_succ, *]; done)), by omega, fun j _ h => absurd h (Nat.not_lt_zero _), rfl⟩ ?_
 rintro m e S ⟨rfl, s0, k, s3, hk, hall, rfl⟩
 by_cases hlt : k < s.length
 rotate_left
 ·obtain rfl : k = s.length := by omega
  by_cases h1 : 1 ≤ s.length
  rotate_left
  ·have h1' : ¬ (1 : Int) ≤ (s.length : Int) := by omega
   obtain rfl : s = [] := List.eq_nil_of_length_eq_zero (by omega)
   refine runf (an @s0 (an @s3 @h1')) ?_
   exact er0
  have h1' : (1 : Int) ≤ (s.length : Int) := by omega
  by_cases h2 : s.length ≤ 24
  ·have h2' : (s.length : Int) ≤ 24 := by omega
   rw [nameR_true (by omega) h2 fun j hj => hall j hj hj]
   refine runf (an @s0 (an @s3 (an @h1' @h2'))) ?_
   exact er0
  ·have h2' : ¬ (s.length : Int) ≤ 24 := by omega
   rw [nameR_long (by omega)]
   refine runf (an @s0 (an @s3 (an @h1' @h2'))) ?_
   exact er0
 have hg : s[k]? = some s[k] := List.getElem?_eq_getElem hlt
 have hbad : (if k = 0 then letter s[k] else namec s[k]) = false → nameR s = false := nameR_false hlt
 have hgood : (if k = 0 then letter s[k] else namec s[k]) = true → ∀ j (hj : j < s.length), j < k + 1 → (if j = 0 then letter s[j] else namec s[j]) = true := fun h j hj hjk => by
  by_cases e : j = k
  ·subst e; exact h
  ·exact hall j hj (by omega)
 generalize s[k] = b at *
 have hu : u8 b = .it .u8 (b.toNat : Int) := rfl
 have k1 := fin_c b.toNat 97 122
 have k2 := fin_c b.toNat 48 57
 have hx : letter b = (decide (97 ≤ b.toNat) && decide (b.toNat ≤ 122)) := rfl
 have hy : namec b = (letter b || (decide (48 ≤ b.toNat) && decide (b.toNat ≤ 57)) || decide (b.toNat = 95)) := rfl
 rw [← hx] at k1
 clear hx
 generalize (decide (48 ≤ b.toNat) && decide (b.toNat ≤ 57)) = c2 at *
 refine runf (an @s0 (an @s3 (an @hg @hu))) ?_
 refine cp k1 ?_
 cases hl : letter b with
 | true =>
  rw [hl] at hy hgood
  refine runf (an @s0 (an @s3 (an @hg @hu))) ?_
  exact round_mk (s.length - (k + 1)) (by omega) ⟨rfl, (by first | rfl | (simp only [↓upd_apply, ↓put_some, ↓reduceIte, Nat.reduceEqDiff, ↓argEnv_zero, ↓argEnv_succ, *]; done)), k + 1, (by first | rfl | (simp only [↓upd_apply, ↓put_some, ↓reduceIte, Nat.reduceEqDiff, ↓argEnv_zero, ↓argEnv_succ, *]; done)), by omega, hgood (by rw [hy]; simp), rfl⟩
 | false =>
  rw [hl] at hy hbad hgood
  by_cases h0 : k = 0
  ·subst h0
   rw [hbad (by simp)]
   refine runf (an @s0 (an @s3 (an @hg @hu))) ?_
   exact er0
  have h0' : ¬ (k : Int) = 0 := by omega
  rw [if_neg h0] at hbad hgood
  cases c2 with
  | true =>
   refine runf (an @s0 (an @s3 (an @hg (an @hu @h0')))) ?_
   refine cp k2 ?_
   refine runf (an @s0 (an @s3 (an @hg @hu))) ?_
   exact round_mk (s.length - (k + 1)) (by omega) ⟨rfl, (by first | rfl | (simp only [↓upd_apply, ↓put_some, ↓reduceIte, Nat.reduceEqDiff, ↓argEnv_zero, ↓argEnv_succ, *]; done)), k + 1, (by first | rfl | (simp only [↓upd_apply, ↓put_some, ↓reduceIte, Nat.reduceEqDiff, ↓argEnv_zero, ↓argEnv_succ, *]; done)), by omega, hgood (by rw [hy]; simp), rfl⟩
  | false =>
   by_cases h95 : b.toNat = 95
   ·have e95 : ((b.toNat : Int) != 95) = false := by rw [h95]; rfl
    refine runf (an @s0 (an @s3 (an @hg (an @hu @h0')))) ?_
    refine cp k2 ?_
    refine runf (an @s0 (an @s3 (an @hg (an @hu @e95)))) ?_
    exact round_mk (s.length - (k + 1)) (by omega) ⟨rfl, (by first | rfl | (simp only [↓upd_apply, ↓put_some, ↓reduceIte, Nat.reduceEqDiff, ↓argEnv_zero, ↓argEnv_succ, *]; done)), k + 1, (by first | rfl | (simp only [↓upd_apply, ↓put_some, ↓reduceIte, Nat.reduceEqDiff, ↓argEnv_zero, ↓argEnv_succ, *]; done)), by omega, hgood (by rw [hy, h95]; rfl), rfl⟩
   ·have e95 : ((b.toNat : Int) != 95) = true := bneT (by omega)
    rw [hbad (by rw [hy, decide_eq_false h95]; rfl)]
    refine runf (an @s0 (an @s3 (an @hg (an @hu @h0')))) ?_
    refine cp k2 ?_
    refine runf (an @s0 (an @s3 (an @hg (an @hu @e95)))) ?_
    exact er0
theorem fids_c (l : List By) (hs : ∀ s ∈ l, s.length ≤ 140737488355328) (hl : l.length ≤ 140737488355328) : AC Tryz.prog 231 [sls l] [] (.bo (idsR l)) [] := by
 refine AC.enter2 [113] [] Tryz.func231 rfl (by decide) (by decide) (Nat.le_of_ble_eq_true rfl) (by kernel_rfl) ?_; simp only [eraseC, eraseO, List.map_cons, List.map_nil, List.map_toArray, List.getElem?_toArray, List.getElem?_cons_zero, List.getElem?_cons_succ, Option.bind_some, Option.bind_none, List.append_eq, List.cons_append, List.nil_append]
 unfold idsR
 refine run ?_
 refine loop_mk (fun m e S => S = [] ∧ e 0 = sls l ∧ ∃ k : Nat, e 3 = .it .i64 (k : Int) ∧ k ≤ l.length ∧ (∀ j (h : j < l.length), j < k → idR l[j] = true) ∧
  (∀ j (h : j + 1 < l.length), j + 1 < k → (Op.bytesLess l[j + 1] l[j] || l[j + 1] == l[j]) = false) ∧ m = l.length - k) l.length ⟨rfl, (by first | rfl | (simp only [↓upd_apply, ↓put_some, ↓reduceIte, Nat.reduceEqDiff, ↓argEnv_zero, ↓argEnv_succ, *]; done)), 0, (by first | rfl | (simp only [↓upd_apply, ↓put_some, ↓reduceIte, Nat.reduceEqDiff, ↓argEnv_zero, ↓argEnv_succ, *]; done)), by omega, fun j _ h => absurd h (Nat.not_lt_zero _), fun j _ h => absurd h (Nat.not_lt_zero _), rfl⟩ ?_
 rintro m e S ⟨rfl, s0, k, s3, hk, hid, hasc, rfl⟩
 by_cases hlt : k < l.length
 rotate_left
 ·obtain rfl : k = l.length := by omega
  have h1 : l.all idR = true := List.all_eq_true.2 fun x hx => by
   obtain ⟨j, hj, rfl⟩ := List.getElem_of_mem hx
   exact hid j hj hj
  rw [h1, asc_true fun j h => hasc j h h]
  by_cases h64 : l.length ≤ 64
  ·have h64' : (l.length : Int) ≤ 64 := by omega
   rw [decide_eq_true h64]
   refine runf (an @s0 (an @s3 @h64')) ?_
   exact er0
  ·have h64' : ¬ (l.length : Int) ≤ 64 := by omega
   rw [decide_eq_false h64]
   refine runf (an @s0 (an @s3 @h64')) ?_
   exact er0
 have hg : l[k]? = some l[k] := List.getElem?_eq_getElem hlt
 have hsk := hs l[k] (List.getElem_mem hlt)
 have ki := fidright_c l[k] hsk
 cases hb : idR l[k] with
 | false =>
  have : l.all idR = false := List.all_eq_false.2 ⟨l[k], List.getElem_mem hlt, by simp [hb]⟩
  rw [this, Bool.and_false, Bool.false_and]
  rw [hb] at ki
  refine runf (an @s0 (an @s3 @hg)) ?_
  refine cp ki ?_
  refine runf (an @s0 (an @s3 @hg)) ?_
  exact er0
 | true =>
  rw [hb] at ki
  have hid' : ∀ j (h : j < l.length), j < k + 1 → idR l[j] = true := fun j h hj => by
   by_cases e : j = k
   ·subst e; exact hb
   ·exact hid j h (by omega)
  cases k with
  | zero =>
   refine runf (an @s0 (an @s3 @hg)) ?_
   refine cp ki ?_
   refine runf (an @s0 (an @s3 @hg)) ?_
   exact round_mk (l.length - 1) (by omega) ⟨rfl, (by first | rfl | (simp only [↓upd_apply, ↓put_some, ↓reduceIte, Nat.reduceEqDiff, ↓argEnv_zero, ↓argEnv_succ, *]; done)), 1, (by first | rfl | (simp only [↓upd_apply, ↓put_some, ↓reduceIte, Nat.reduceEqDiff, ↓argEnv_zero, ↓argEnv_succ, *]; done)), by omega, hid', fun j _ h => by omega, rfl⟩
  | succ k =>
   have hg' : l[k]? = some l[k] := List.getElem?_eq_getElem (by omega)
   have hc : ((k + 1 : Nat) : Int) - 1 = (k : Int) := by omega
   have hpos : (0 : Int) < ((k + 1 : Nat) : Int) := by omega
   cases hcmp : (Op.bytesLess l[k + 1] l[k] || l[k + 1] == l[k]) with
   | true =>
    have hcm : Op.bytesLess l[k] l[k + 1] = false := by
     have := less_tri l[k] l[k + 1]
     rw [hcmp] at this
     simpa using this
    rw [asc_false (j := k) hlt hcmp, Bool.and_false]
    refine runf (an @s0 (an @s3 @hg)) ?_
    refine cp ki ?_
    refine runf (an @s0 (an @s3 (an @hg (an @hg' (an @hc (an @hcm @hpos)))))) ?_
    exact er0
   | false =>
    have hcm : Op.bytesLess l[k] l[k + 1] = true := by
     have := less_tri l[k] l[k + 1]
     rw [hcmp] at this
     simpa using this
    refine runf (an @s0 (an @s3 @hg)) ?_
    refine cp ki ?_
    refine runf (an @s0 (an @s3 (an @hg (an @hg' (an @hc (an @hcm @hpos)))))) ?_
    exact round_mk (l.length - (k + 1 + 1)) (by omega) ⟨rfl, (by first | rfl | (simp only [↓upd_apply, ↓put_some, ↓reduceIte, Nat.reduceEqDiff, ↓argEnv_zero, ↓argEnv_succ, *]; done)), k + 1 + 1, (by first | rfl | (simp only [↓upd_apply, ↓put_some, ↓reduceIte, Nat.reduceEqDiff, ↓argEnv_zero, ↓argEnv_succ, *]; done)), by omega, hid', fun j h hj => by
     by_cases e : j = k
     ·subst e; exact hcmp
     ·exact hasc j h (by omega), rfl⟩
end Go.Proofs.YtaphpbiaoofmkaaGreatDoor.Pe
