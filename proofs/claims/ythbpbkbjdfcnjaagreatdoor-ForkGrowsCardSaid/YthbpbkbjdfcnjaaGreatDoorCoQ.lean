/- Package code in plain terms: what was written is read back. Nothing of the program. -/
import Derived.Test.YthbpbkbjdfcnjaaGreatDoorCoP
namespace Go.Proofs.YthbpbkbjdfcnjaaGreatDoor.Co
set_option linter.unusedSectionVars false
set_option linter.unusedVariables false
set_option linter.unusedSimpArgs false
open Go
theorem ofNat_lt {n : Nat} (h : n < 256) : (UInt8.ofNat n).toNat = n := by rw [UInt8.toNat_ofNat']; omega
theorem rdN_num : ∀ (f n i acc : Nat) (rest : By), n < f → i ≤ 8 → n < 2 ^ (63 - 7 * i) → (0 < i → 0 < n) → rdN (num n ++ rest) i acc = some (acc + n * 2 ^ (7 * i), rest)
  | 0, _, _, _, _, h, _, _, _ => by omega
  | f + 1, n, i, acc, rest, hf, hi, hn, h0 => by
    by_cases hs : n < 128
    · rw [num_small hs, List.cons_append, List.nil_append, rdN_cons, ofNat_lt (by omega), if_neg (by omega), if_neg (by omega), if_neg (by omega)]
    · have hi7 : i ≤ 7 := by
        refine Nat.le_of_not_lt fun h => ?_
        obtain rfl : i = 8 := by omega
        simp at hn
        omega
      rw [num_big hs, List.cons_append, rdN_cons, ofNat_lt (by omega), if_neg (by omega), if_pos (by omega)]
      have hp : 2 ^ (63 - 7 * i) = 128 * 2 ^ (63 - 7 * (i + 1)) := by rw [show 63 - 7 * i = 7 + (63 - 7 * (i + 1)) from by omega, Nat.pow_add]
      have hq : 2 ^ (7 * (i + 1)) = 128 * 2 ^ (7 * i) := by rw [show 7 * (i + 1) = 7 + 7 * i from by omega, Nat.pow_add]
      rw [rdN_num f (n / 128) (i + 1) _ rest (by omega) (by omega) (by omega) (fun _ => by omega)]
      congr 2
      rw [hq, show 128 + n % 128 - 128 = n % 128 from by omega, Nat.add_assoc]
      congr 1
      have : n = n % 128 + n / 128 * 128 := by omega
      generalize n % 128 = a at *
      generalize n / 128 = b at *
      rw [this, Nat.add_mul]
      congr 1
      rw [Nat.mul_assoc]
theorem num_back (n : Nat) (rest : By) (b : Bool) (h : n < 2 ^ 63) : R.num ⟨num n ++ rest, b⟩ = (n, ⟨rest, b⟩) := by
  unfold R.num
  have := rdN_num (n + 1) n 0 0 rest (by omega) (by omega) (by simpa using h) (by simp)
  simp only [Nat.zero_add, Nat.mul_zero, Nat.pow_zero, Nat.mul_one] at this
  simp only [this]
theorem take_back (s rest : By) : R.take ⟨s ++ rest, false⟩ s.length = (s, ⟨rest, false⟩) := by
  unfold R.take
  rw [if_neg (by simp)]
  simp
theorem text_back (s rest : By) (h : s.length < 2 ^ 63) : R.text ⟨text s ++ rest, false⟩ = (s, ⟨rest, false⟩) := by
  unfold R.text text
  rw [List.append_assoc, num_back _ _ _ h]
  exact take_back s rest
theorem texts_back : ∀ (l : List By) (rest : By), (∀ s ∈ l, s.length < 2 ^ 63) → R.texts l.length ⟨(l.map text).flatten ++ rest, false⟩ = (l, ⟨rest, false⟩)
  | [], rest, _ => rfl
  | s :: l, rest, h => by
    rw [List.length_cons, List.map_cons, List.flatten_cons, List.append_assoc]
    unfold R.texts
    rw [text_back _ _ (h s (by simp))]
    simp only [Bool.false_eq_true, if_false]
    rw [texts_back l rest fun x hx => h x (by simp [hx])]
theorem flat_ge : ∀ (l : List By), l.length ≤ (l.map text).flatten.length
  | [] => Nat.le_refl _
  | s :: l => by
    have := flat_ge l
    have h2 := num_len s.length
    have h3 : (text s).length = (num s.length).length + s.length := by unfold text; rw [List.length_append]
    rw [List.map_cons, List.flatten_cons, List.length_append, List.length_cons]
    omega
theorem list_back (l : List By) (rest : By) (hl : l.length < 2 ^ 63) (h : ∀ s ∈ l, s.length < 2 ^ 63) : R.list ⟨list l ++ rest, false⟩ = (l, ⟨rest, false⟩) := by
  unfold R.list list
  rw [List.append_assoc, num_back _ _ _ hl]
  have hc : ¬ ((l.map text).flatten ++ rest).length < l.length := by have := flat_ge l; rw [List.length_append]; omega
  simp only [if_neg hc, texts_back l rest h]
  simp
theorem numI_back (n : Int) (rest : By) (b : Bool) (h0 : 0 ≤ n) (h : n < 9223372036854775808) : R.num ⟨numI n ++ rest, b⟩ = (n.toNat, ⟨rest, b⟩) := by
  unfold numI
  rw [if_neg (by omega)]
  exact num_back _ _ _ (by omega)
end Go.Proofs.YthbpbkbjdfcnjaaGreatDoor.Co
