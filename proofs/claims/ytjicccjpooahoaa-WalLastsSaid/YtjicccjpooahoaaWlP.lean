/- Package wal in plain terms: records, and what a file is read as. Nothing of the program. -/
import Derived.Test.YtjicccjpooahoaaCoV
import Derived.Test.YtjicccjpooahoaaSumM
set_option linter.unusedSectionVars false
set_option linter.unusedVariables false
set_option linter.unusedSimpArgs false
namespace Go.Proofs.Ytjicccjpooahoaa.Wl
open Go Co
theorem rdN_inv3 : ∀ (l : By) (i n m : Nat) (r : By), rdN l i n = some (m, r) → ∃ k, m = n + k * 2 ^ (7 * i) ∧ l = num k ++ r ∧ (0 < i → 0 < k)
 | [], i, n, m, r, h => by simp [rdN] at h
 | d :: l, i, n, m, r, h => by
  rw [rdN_cons] at h
  have hd := d.toNat_lt
  split at h
  ·cases h
  split at h
  ·rename_i h9 h1
   obtain ⟨k, h2, h3, h4⟩ := rdN_inv3 l (i + 1) _ m r h
   have hk := h4 (Nat.succ_pos _)
   refine ⟨(d.toNat - 128) + k * 128, ?_, ?_, fun _ => by omega⟩
   ·rw [h2, Nat.add_mul, Nat.mul_assoc, show (128 : Nat) = 2 ^ 7 from rfl, ← Nat.pow_add, show 7 + 7 * i = 7 * (i + 1) by omega]
    omega
   ·rw [num_big (by omega), show (d.toNat - 128 + k * 128) / 128 = k by omega, show 128 + (d.toNat - 128 + k * 128) % 128 = d.toNat by omega, UInt8.ofNat_toNat, h3, List.cons_append]
  ·rename_i h9 h1
   split at h
   ·cases h
   ·rename_i h2
    simp only [Option.some.injEq, Prod.mk.injEq] at h
    refine ⟨d.toNat, h.1.symm, ?_, fun h0 => by omega⟩
    rw [num_small (by omega), UInt8.ofNat_toNat, h.2]
    rfl
theorem num_inv {b : By} {n : Nat} {x : R} (h : R.num ⟨b, false⟩ = (n, x)) (hx : x.bad = false) : b = num n ++ x.rest := by
 unfold R.num at h
 split at h
 ·rename_i m r hr
  simp only [Prod.mk.injEq] at h
  obtain ⟨k, h1, h2, _⟩ := rdN_inv3 _ _ _ _ _ hr
  obtain ⟨rfl, rfl⟩ := h
  simp only [Nat.mul_zero, Nat.pow_zero, Nat.mul_one, Nat.zero_add] at h1
  subst h1
  exact h2
 ·simp only [Prod.mk.injEq] at h
  rw [← h.2] at hx
  cases hx
def ck (s : By) : By := [UInt8.ofNat ((Sm.crc s).toNat % 256), UInt8.ofNat ((Sm.crc s).toNat / 256 % 256), UInt8.ofNat ((Sm.crc s).toNat / 65536 % 256), UInt8.ofNat ((Sm.crc s).toNat / 16777216 % 256)]
theorem ck_len (s : By) : (ck s).length = 4 := rfl
def rec1 (s : By) : By := num s.length ++ ck s ++ s
def recs (l : List By) : By := (l.map rec1).flatten
theorem recs_cons (s : By) (l : List By) : recs (s :: l) = rec1 s ++ recs l := rfl
theorem recs_append (l m : List By) : recs (l ++ m) = recs l ++ recs m := by simp [recs]
theorem recs_nil : recs [] = [] := rfl
theorem recs_snoc (l : List By) (s : By) : recs (l ++ [s]) = recs l ++ rec1 s := by simp [recs]
theorem rec1_pos (s : By) : 0 < (rec1 s).length := by
 have := num_len s.length
 simp only [rec1, List.length_append]
 omega
def step (x : R) : Option (By × R) :=
 if (x.num.2.take 4).1.length ≠ 4 ∨ 1048576 < x.num.1 then none else
 if ((x.num.2.take 4).2.take x.num.1).1.length ≠ x.num.1 ∨ ck ((x.num.2.take 4).2.take x.num.1).1 ≠ (x.num.2.take 4).1 then none else
 some ((x.num.2.take 4).2.take x.num.1)
def okL (l : List By) : Prop := ∀ s ∈ l, s.length ≤ 1048576
theorem step_back (s t : By) (h : s.length ≤ 1048576) : step ⟨rec1 s ++ t, false⟩ = some (s, ⟨t, false⟩) := by
 have h1 : R.num ⟨rec1 s ++ t, false⟩ = (s.length, ⟨ck s ++ (s ++ t), false⟩) := by
  rw [rec1, List.append_assoc, List.append_assoc]
  exact num_back _ _ _ (by omega)
 have h2 : R.take ⟨ck s ++ (s ++ t), false⟩ 4 = (ck s, ⟨s ++ t, false⟩) := take_back (ck s) (s ++ t)
 unfold step
 rw [h1]
 simp only
 rw [h2]
 simp only
 rw [take_back s t]
 have c1 : ¬ ((ck s).length ≠ 4 ∨ 1048576 < s.length) := by rw [ck_len]; omega
 have c2 : ¬ (s.length ≠ s.length ∨ ck s ≠ ck s) := by simp
 rw [if_neg c1, if_neg c2]
theorem take_inv {x y : R} {n : Nat} {s : By} (h : x.take n = (s, y)) (hs : s.length = n) (hn : 0 < n ∨ x.bad = false) : x.bad = false ∧ x.rest = s ++ y.rest ∧ y.bad = false := by
 unfold R.take at h
 split at h
 ·rename_i hc
  simp only [Prod.mk.injEq] at h
  obtain ⟨rfl, rfl⟩ := h
  simp only [List.length_nil] at hs
  rcases hc with hc | hc
  ·rcases hn with hn | hn
   ·omega
   ·rw [hc] at hn; cases hn
  ·omega
 ·rename_i hc
  simp only [Prod.mk.injEq] at h
  obtain ⟨rfl, rfl⟩ := h
  have hb : x.bad = false := by cases hx : x.bad <;> simp_all
  exact ⟨hb, (List.take_append_drop n x.rest).symm, hb⟩
theorem step_inv {b s : By} {x : R} (h : step ⟨b, false⟩ = some (s, x)) : b = rec1 s ++ x.rest ∧ s.length ≤ 1048576 ∧ x.bad = false := by
 unfold step at h
 split at h
 ·cases h
 rename_i h1
 split at h
 ·cases h
 rename_i h2
 simp only [Option.some.injEq] at h
 rw [h] at h2
 simp only [not_or, ne_eq, Decidable.not_not] at h1 h2
 have e1 : R.num ⟨b, false⟩ = ((R.num ⟨b, false⟩).1, (R.num ⟨b, false⟩).2) := rfl
 generalize (R.num ⟨b, false⟩).1 = n at *
 generalize (R.num ⟨b, false⟩).2 = y at *
 have e2 : y.take 4 = ((y.take 4).1, (y.take 4).2) := rfl
 generalize (y.take 4).1 = c at *
 generalize (y.take 4).2 = z at *
 obtain ⟨a1, a2, a3⟩ := take_inv e2 h1.1 (.inl (by omega))
 obtain ⟨b1, b2, b3⟩ := take_inv h h2.1 (.inr a3)
 have := num_inv e1 a1
 refine ⟨?_, by omega, b3⟩
 rw [this, a2, b2, rec1, h2.1, h2.2]
 simp
def scan : Nat → By → List By × By
 | 0, b => ([], b)
 | f + 1, b => match step ⟨b, false⟩ with
  | none => ([], b)
  | some (s, x) => (s :: (scan f x.rest).1, (scan f x.rest).2)
def rowsOf (b : By) : List By := (scan b.length b).1
def tailOf (b : By) : By := (scan b.length b).2
def stuck (b : By) : Prop := step ⟨b, false⟩ = none
theorem stuck_nil : stuck [] := by
 have : R.num ⟨[], false⟩ = (0, fail) := rfl
 unfold stuck step
 rw [this]
 simp only
 rfl
theorem scan_spec : ∀ (f : Nat) (b : By), b.length ≤ f → b = recs (scan f b).1 ++ (scan f b).2 ∧ okL (scan f b).1 ∧ stuck (scan f b).2
 | 0, b, h => by
  have : b = [] := List.eq_nil_of_length_eq_zero (by omega)
  subst this
  exact ⟨rfl, fun s hs => (by cases hs), stuck_nil⟩
 | f + 1, b, h => by
  unfold scan
  split
  ·rename_i hs
   exact ⟨rfl, fun s hs => (by cases hs), hs⟩
  ·rename_i s x hs
   obtain ⟨h1, h2, h3⟩ := step_inv hs
   have hp := rec1_pos s
   have hl : x.rest.length ≤ f := by
    have := congrArg List.length h1
    rw [List.length_append] at this
    omega
   obtain ⟨h4, h5, h6⟩ := scan_spec f x.rest hl
   refine ⟨?_, fun t ht => ?_, h6⟩
   ·simp only [recs_cons, List.append_assoc]
    rw [← h4]
    exact h1
   ·rcases List.mem_cons.1 ht with rfl | ht
    ·exact h2
    ·exact h5 t ht
theorem scan_back : ∀ (l : List By) (t : By) (f : Nat), okL l → stuck t → (recs l ++ t).length ≤ f → scan f (recs l ++ t) = (l, t)
 | [], t, f, _, ht, _ => by
  rw [recs_nil, List.nil_append]
  cases f with
  | zero => rfl
  | succ f => unfold scan; rw [show step ⟨t, false⟩ = none from ht]
 | s :: l, t, f, hl, ht, hf => by
  have hp := rec1_pos s
  cases f with
  | zero => simp only [recs_cons, List.length_append] at hf; omega
  | succ f =>
   unfold scan
   rw [recs_cons, List.append_assoc, step_back s _ (hl s (by simp))]
   simp only
   rw [scan_back l t f (fun x hx => hl x (by simp [hx])) ht (by simp only [recs_cons, List.length_append] at hf ⊢; omega)]
theorem rows_back {l : List By} {t : By} (hl : okL l) (ht : stuck t) : rowsOf (recs l ++ t) = l ∧ tailOf (recs l ++ t) = t := by
 unfold rowsOf tailOf
 rw [scan_back l t _ hl ht (Nat.le_refl _)]
 exact ⟨rfl, rfl⟩
theorem rows_spec (b : By) : b = recs (rowsOf b) ++ tailOf b ∧ okL (rowsOf b) ∧ stuck (tailOf b) := scan_spec b.length b (Nat.le_refl _)
theorem okL_append {l m : List By} (h : okL l) (h' : okL m) : okL (l ++ m) := fun s hs => (List.mem_append.1 hs).elim (h s) (h' s)
theorem rows_append {l : List By} (hl : okL l) (b : By) : rowsOf (recs l ++ b) = l ++ rowsOf b ∧ tailOf (recs l ++ b) = tailOf b := by
 obtain ⟨h1, h2, h3⟩ := rows_spec b
 have := rows_back (okL_append hl h2) h3
 rw [recs_append, List.append_assoc, ← h1] at this
 exact this
theorem rows_recs {l : List By} (hl : okL l) : rowsOf (recs l) = l ∧ tailOf (recs l) = [] := by
 have := rows_back hl stuck_nil
 rwa [List.append_nil] at this
theorem stuck_part {s p q : By} (h : rec1 s = p ++ q) (hs : s.length ≤ 1048576) (hq : q ≠ []) : stuck p := by
 unfold stuck
 cases hst : step ⟨p, false⟩ with
 | none => rfl
 | some r =>
  obtain ⟨s', x⟩ := r
  obtain ⟨h1, h2, h3⟩ := step_inv hst
  have e1 := step_back s [] hs
  rw [List.append_nil, h, h1, List.append_assoc, step_back s' _ h2] at e1
  simp only [Option.some.injEq, Prod.mk.injEq, R.mk.injEq, and_true] at e1
  exact absurd (List.append_eq_nil_iff.1 e1.2).2 hq
theorem cut_recs : ∀ (l : List By) (n : Nat), okL l → n ≤ (recs l).length → ∃ k p, k ≤ l.length ∧ (recs l).take n = recs (l.take k) ++ p ∧ stuck p ∧ (recs (l.take k)).length ≤ n
 | [], n, _, h => ⟨0, [], Nat.le_refl _, by simp [recs], stuck_nil, Nat.zero_le _⟩
 | s :: l, n, hl, h => by
  by_cases hn : n < (rec1 s).length
  ·refine ⟨0, (rec1 s).take n, Nat.zero_le _, ?_, ?_, by simp [recs]⟩
   ·rw [recs_cons, List.take_append_of_le_length (by omega)]; rfl
   ·refine stuck_part (s := s) (q := (rec1 s).drop n) (List.take_append_drop n _).symm (hl s (by simp)) fun e => ?_
    have := congrArg List.length e
    simp only [List.length_drop, List.length_nil] at this
    omega
  ·obtain ⟨k, p, h1, h2, h3, h4⟩ := cut_recs l (n - (rec1 s).length) (fun x hx => hl x (by simp [hx])) (by rw [recs_cons, List.length_append] at h; omega)
   refine ⟨k + 1, p, by simpa using h1, ?_, h3, ?_⟩
   ·rw [recs_cons, List.take_append, List.take_of_length_le (by omega), h2, List.take_succ_cons, recs_cons, List.append_assoc]
   ·rw [List.take_succ_cons, recs_cons, List.length_append]; omega
end Go.Proofs.Ytjicccjpooahoaa.Wl
