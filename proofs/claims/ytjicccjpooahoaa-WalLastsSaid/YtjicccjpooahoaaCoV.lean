/- Several texts in one. -/
import Derived.Test.YtjicccjpooahoaaPeW5
import Derived.Laws.Entries
set_option linter.unusedSectionVars false
set_option linter.unusedVariables false
set_option linter.unusedSimpArgs false
namespace Go.Proofs.Ytjicccjpooahoaa.Co
open Go
abbrev By := List UInt8
def numF : Nat → Nat → By
 | 0, _ => []
 | f + 1, n => if n < 128 then [UInt8.ofNat n] else UInt8.ofNat (128 + n % 128) :: numF f (n / 128)
theorem numF_eq : ∀ (f g n : Nat), n < f → n < g → numF f n = numF g n
 | 0, _, _, h, _ => by omega
 | _, 0, _, _, h => by omega
 | f + 1, g + 1, n, h, h' => by
  unfold numF
  by_cases hn : n < 128
  ·rw [if_pos hn, if_pos hn]
  ·rw [if_neg hn, if_neg hn, numF_eq f g (n / 128) (by omega) (by omega)]
def num (n : Nat) : By := numF (n + 1) n
theorem num_small {n : Nat} (h : n < 128) : num n = [UInt8.ofNat n] := by unfold num numF; rw [if_pos h]
theorem num_big {n : Nat} (h : ¬ n < 128) : num n = UInt8.ofNat (128 + n % 128) :: num (n / 128) := by
 unfold num
 rw [numF, if_neg h, numF_eq n (n / 128 + 1) (n / 128) (by omega) (by omega)]
theorem num_len (n : Nat) : 0 < (num n).length := by
 by_cases h : n < 128
 ·rw [num_small h]; simp
 ·rw [num_big h]; simp
theorem num_le (k : Nat) : ∀ n, n < 128 ^ (k + 1) → (num n).length ≤ k + 1 := by
 induction k with
 | zero => intro n h; rw [num_small (by omega)]; simp
 | succ k ih =>
  intro n h
  by_cases h1 : n < 128
  ·rw [num_small h1]; simp
  ·rw [num_big h1, List.length_cons]
   have := ih (n / 128) (by rw [Nat.div_lt_iff_lt_mul (by omega)]; rw [Nat.pow_succ] at h; omega)
   omega
def numI (n : Int) : By := if n < 0 then [] else num n.toNat
theorem numI_nat (n : Nat) : numI (n : Int) = num n := by unfold numI; rw [if_neg (by omega), Int.toNat_natCast]
theorem numI_le (n : Int) (h : n < 9223372036854775808) : (numI n).length ≤ 9 := by
 unfold numI
 split
 ·simp
 ·exact num_le 8 n.toNat (by omega)
def text (s : By) : By := num s.length ++ s
def list (l : List By) : By := num l.length ++ (l.map text).flatten
structure R where
 rest : By
 bad : Bool
def rdN : By → Nat → Nat → Option (Nat × By)
 | [], _, _ => none
 | d :: r, i, n => if 9 ≤ i then none else if 128 ≤ d.toNat then rdN r (i + 1) (n + (d.toNat - 128) * 2 ^ (7 * i)) else if d.toNat = 0 ∧ 0 < i then none else some (n + d.toNat * 2 ^ (7 * i), r)
theorem rdN_cons (d : UInt8) (r : By) (i n : Nat) : rdN (d :: r) i n = if 9 ≤ i then none else if 128 ≤ d.toNat then rdN r (i + 1) (n + (d.toNat - 128) * 2 ^ (7 * i)) else if d.toNat = 0 ∧ 0 < i then none else some (n + d.toNat * 2 ^ (7 * i), r) := rfl
def fail : R := ⟨[], true⟩
def R.num (x : R) : Nat × R := match rdN x.rest 0 0 with
 | some (n, r) => (n, ⟨r, x.bad⟩)
 | none => (0, fail)
def R.take (x : R) (n : Nat) : By × R := if x.bad = true ∨ x.rest.length < n then ([], fail) else (x.rest.take n, ⟨x.rest.drop n, x.bad⟩)
def R.text (x : R) : By × R := x.num.2.take x.num.1
def R.texts : Nat → R → List By × R
 | 0, x => ([], x)
 | n + 1, x => if x.bad then ([], x) else (x.text.1 :: (R.texts n x.text.2).1, (R.texts n x.text.2).2)
def R.list (x : R) : List By × R :=
 let y := if x.num.2.rest.length < x.num.1 then fail else x.num.2
 if (y.texts x.num.1).2.bad then ([], (y.texts x.num.1).2) else y.texts x.num.1
theorem rdN_lt : ∀ (l : By) (i n m : Nat) (r : By), i ≤ 9 → n < 2 ^ (7 * i) → rdN l i n = some (m, r) → m < 2 ^ 63 ∧ r.length < l.length
 | [], _, _, _, _, _, _, h => by cases h
 | d :: l, i, n, m, r, hi, hn, h => by
  unfold rdN at h
  have hd : d.toNat < 256 := d.toNat_lt
  split at h
  ·cases h
  rename_i h9
  have hp : 2 ^ (7 * (i + 1)) = 128 * 2 ^ (7 * i) := by rw [show 7 * (i + 1) = 7 + 7 * i from by omega, Nat.pow_add]
  split at h
  ·rename_i h128
   have hc : (d.toNat - 128) * 2 ^ (7 * i) ≤ 127 * 2 ^ (7 * i) := Nat.mul_le_mul_right _ (by omega)
   have := rdN_lt l (i + 1) _ m r (by omega) (by rw [hp]; omega) h
   have h2 := this.2
   exact ⟨this.1, Nat.lt_succ_of_lt h2⟩
  ·rename_i h128
   split at h
   ·cases h
   ·cases h
    have hc : d.toNat * 2 ^ (7 * i) ≤ 127 * 2 ^ (7 * i) := Nat.mul_le_mul_right _ (by omega)
    have hq : 2 ^ (7 * (i + 1)) ≤ 2 ^ 63 := Nat.pow_le_pow_right (by omega) (by omega)
    exact ⟨by rw [hp] at hq; omega, by simp⟩
theorem num_lt (x : R) : x.num.1 < 2 ^ 63 := by
 unfold R.num
 split
 ·rename_i n r h; exact (rdN_lt _ 0 0 _ _ (by omega) (by simp) h).1
 ·simp
theorem num_rest (x : R) : x.num.2.rest.length ≤ x.rest.length := by
 unfold R.num
 split
 ·rename_i n r h; have := (rdN_lt _ 0 0 _ _ (by omega) (by simp) h).2; show r.length ≤ _; omega
 ·exact Nat.zero_le _
theorem take_rest (x : R) (n : Nat) : (x.take n).2.rest.length ≤ x.rest.length ∧ (x.take n).1.length ≤ x.rest.length := by
 unfold R.take
 split
 ·exact ⟨Nat.zero_le _, Nat.zero_le _⟩
 ·refine ⟨?_, ?_⟩
  ·show (x.rest.drop n).length ≤ _; simp
  ·show (x.rest.take n).length ≤ _; simp; omega
theorem text_rest (x : R) : x.text.2.rest.length ≤ x.rest.length ∧ x.text.1.length ≤ x.rest.length := by
 have := take_rest x.num.2 x.num.1
 have := num_rest x
 unfold R.text
 omega
theorem texts_rest : ∀ (n : Nat) (x : R), (x.texts n).2.rest.length ≤ x.rest.length ∧ (∀ s ∈ (x.texts n).1, s.length ≤ x.rest.length) ∧ (x.texts n).1.length ≤ n
 | 0, x => ⟨Nat.le_refl _, by simp [R.texts], Nat.le_refl _⟩
 | n + 1, x => by
  unfold R.texts
  split
  ·exact ⟨Nat.le_refl _, by simp, Nat.zero_le _⟩
  ·have h1 := texts_rest n x.text.2
   have h2 := text_rest x
   refine ⟨by show (R.texts n x.text.2).2.rest.length ≤ _; omega, fun s hs => ?_, by simp only [List.length_cons]; omega⟩
   rcases List.mem_cons.1 hs with rfl | hs
   ·exact h2.2
   ·have := h1.2.1 s hs; omega
theorem or_add (a c j : Nat) (ha : a < 2 ^ j) (h : a + c * 2 ^ j < 2 ^ 63) : Go.bits .or .i64 (a : Int) ((c * 2 ^ j : Nat) : Int) = ((a + c * 2 ^ j : Nat) : Int) := by
 have hor : a ||| c * 2 ^ j = a + c * 2 ^ j := by
  rw [Nat.or_comm, Nat.mul_comm, ← Nat.two_pow_add_eq_or_of_lt ha, Nat.add_comm]
 have e3 : (BitVec.ofNat 64 a ||| BitVec.ofNat 64 (c * 2 ^ j)).toNat = a + c * 2 ^ j := by
  rw [BitVec.toNat_or, BitVec.toNat_ofNat, BitVec.toNat_ofNat, Nat.mod_eq_of_lt (by omega), Nat.mod_eq_of_lt (by omega), hor]
 have e4 : Go.bits .or .i64 (a : Int) ((c * 2 ^ j : Nat) : Int) = IntKind.i64.wrap ((BitVec.ofInt 64 (a : Int) ||| BitVec.ofInt 64 ((c * 2 ^ j : Nat) : Int)).toNat : Int) := rfl
 rw [e4, BitVec.ofInt_natCast, BitVec.ofInt_natCast, e3]
 rw [IntKind.wrap_i64]; omega
end Go.Proofs.Ytjicccjpooahoaa.Co
namespace Go.Proofs.Ytjicccjpooahoaa.Co
open Go
theorem ofNat_lt {n : Nat} (h : n < 256) : (UInt8.ofNat n).toNat = n := by rw [UInt8.toNat_ofNat']; omega
theorem rdN_num : ∀ (f n i acc : Nat) (rest : By), n < f → i ≤ 8 → n < 2 ^ (63 - 7 * i) → (0 < i → 0 < n) → rdN (num n ++ rest) i acc = some (acc + n * 2 ^ (7 * i), rest)
 | 0, _, _, _, _, h, _, _, _ => by omega
 | f + 1, n, i, acc, rest, hf, hi, hn, h0 => by
  by_cases hs : n < 128
  ·rw [num_small hs, List.cons_append, List.nil_append, rdN_cons, ofNat_lt (by omega), if_neg (by omega), if_neg (by omega), if_neg (by omega)]
  ·have hi7 : i ≤ 7 := by
    refine Nat.le_of_not_lt fun h => ?_
    obtain rfl : i = 8 := by omega
    simp at hn
    omega
   rw [num_big hs, List.cons_append, rdN_cons, ofNat_lt (by omega), if_neg (by omega), if_pos (by omega)]
   have hp : 2 ^ (63 - 7 * i) = 128 * 2 ^ (63 - 7 * (i + 1)) := by rw [show 63 - 7 * i = 7 + (63 - 7 * (i + 1)) from by omega, Nat.pow_add]
   have hq : 2 ^ (7 * (i + 1)) = 128 * 2 ^ (7 * i) := by rw [show 7 * (i + 1) = 7 + 7 * i from by omega, Nat.pow_add]
   rw [rdN_num f (n / 128) (i + 1) _ rest (by omega) (by omega) (by omega) (fun _ => by omega)]
   congr 2
   rw [hq, show 128 + n % 128 - 128 = n % 128 from by omega, Nat.add_assoc]
   congr 1
   have : n = n % 128 + n / 128 * 128 := by omega
   generalize n % 128 = a at *
   generalize n / 128 = b at *
   rw [this, Nat.add_mul]
   congr 1
   rw [Nat.mul_assoc]
theorem num_back (n : Nat) (rest : By) (b : Bool) (h : n < 2 ^ 63) : R.num ⟨num n ++ rest, b⟩ = (n, ⟨rest, b⟩) := by
 unfold R.num
 have := rdN_num (n + 1) n 0 0 rest (by omega) (by omega) (by simpa using h) (by simp)
 simp only [Nat.zero_add, Nat.mul_zero, Nat.pow_zero, Nat.mul_one] at this
 simp only [this]
theorem take_back (s rest : By) : R.take ⟨s ++ rest, false⟩ s.length = (s, ⟨rest, false⟩) := by
 unfold R.take
 rw [if_neg (by simp)]
 simp
theorem text_back (s rest : By) (h : s.length < 2 ^ 63) : R.text ⟨text s ++ rest, false⟩ = (s, ⟨rest, false⟩) := by
 unfold R.text text
 rw [List.append_assoc, num_back _ _ _ h]
 exact take_back s rest
theorem texts_back : ∀ (l : List By) (rest : By), (∀ s ∈ l, s.length < 2 ^ 63) → R.texts l.length ⟨(l.map text).flatten ++ rest, false⟩ = (l, ⟨rest, false⟩)
 | [], rest, _ => rfl
 | s :: l, rest, h => by
  rw [List.length_cons, List.map_cons, List.flatten_cons, List.append_assoc]
  unfold R.texts
  rw [text_back _ _ (h s (by simp))]
  simp only [Bool.false_eq_true, if_false]
  rw [texts_back l rest fun x hx => h x (by simp [hx])]
theorem flat_ge : ∀ (l : List By), l.length ≤ (l.map text).flatten.length
 | [] => Nat.le_refl _
 | s :: l => by
  have := flat_ge l
  have h2 := num_len s.length
  have h3 : (text s).length = (num s.length).length + s.length := by unfold text; rw [List.length_append]
  rw [List.map_cons, List.flatten_cons, List.length_append, List.length_cons]
  omega
theorem list_back (l : List By) (rest : By) (hl : l.length < 2 ^ 63) (h : ∀ s ∈ l, s.length < 2 ^ 63) : R.list ⟨list l ++ rest, false⟩ = (l, ⟨rest, false⟩) := by
 unfold R.list list
 rw [List.append_assoc, num_back _ _ _ hl]
 have hc : ¬ ((l.map text).flatten ++ rest).length < l.length := by have := flat_ge l; rw [List.length_append]; omega
 simp only [if_neg hc, texts_back l rest h]
 simp
theorem numI_back (n : Int) (rest : By) (b : Bool) (h0 : 0 ≤ n) (h : n < 9223372036854775808) : R.num ⟨numI n ++ rest, b⟩ = (n.toNat, ⟨rest, b⟩) := by
 unfold numI
 rw [if_neg (by omega)]
 exact num_back _ _ _ (by omega)
end Go.Proofs.Ytjicccjpooahoaa.Co
