/- Plain laws on Num. -/
import Derived.Test.YtcjagjganiigiaaDoorSumM
namespace Go.Proofs.YtcjagjganiigiaaDoor.Sm
def p8 (l : List UInt8) : List UInt8 := (List.range 8).map fun i => l.getD i 0
theorem nat8_congr (l m : List UInt8) (k : Nat) (h : ∀ i, i < k → l.getD i 0 = m.getD i 0) : nat8 l k = nat8 m k := by
  induction k with
  | zero => rfl
  | succ k ih => rw [nat8, nat8, ih (fun i hi => h i (by omega)), h k (by omega)]
theorem p8_getD (l : List UInt8) (i : Nat) (h : i < 8) : (p8 l).getD i 0 = l.getD i 0 := by
  simp [p8, List.getD_eq_getElem?_getD, List.getElem?_range h]
theorem p8_length (l : List UInt8) : (p8 l).length = 8 := by simp [p8]
theorem num_p8 (l u : List UInt8) : num (p8 l ++ u) = num l := by
  unfold num
  rw [nat8_congr (p8 l ++ u) l 8 (fun i hi => by
    rw [← p8_getD l i hi, List.getD_eq_getElem?_getD, List.getD_eq_getElem?_getD, List.getElem?_append_left (by rw [p8_length]; exact hi)])]
theorem num_lt (l : List UInt8) : num l ≤ 2305843009213693951 := by
  have := nat8_lt l 8
  unfold num
  omega
/-- the first eight bytes of a string padded with zeros -/
theorem pad_take (l : List UInt8) (j : Nat) (h : 8 ≤ l.length + j) : (l ++ List.replicate j 0).take 8 = p8 l := by
  apply List.ext_getElem?
  intro i
  by_cases hi : i < 8
  · rw [List.getElem?_take, if_pos hi]
    have e : (p8 l)[i]? = some (l.getD i 0) := by simp [p8, List.getElem?_range hi]
    rw [e]
    by_cases hl : i < l.length
    · rw [List.getElem?_append_left hl, List.getD_eq_getElem?_getD, List.getElem?_eq_getElem hl]; rfl
    · rw [List.getElem?_append_right (by omega), List.getElem?_replicate, if_pos (by omega), List.getD_eq_getElem?_getD, List.getElem?_eq_none (by omega)]; rfl
  · rw [List.getElem?_eq_none (by rw [List.length_take]; omega), List.getElem?_eq_none (by rw [p8_length]; omega)]
def natL : List UInt8 → Nat
  | [] => 0
  | b :: l => b.toNat * 256 ^ l.length + natL l
theorem natL_lt (l : List UInt8) : natL l < 256 ^ l.length := by
  induction l with
  | nil => simp [natL]
  | cons b l ih =>
    have := b.toNat_lt
    rw [natL, List.length_cons, Nat.pow_succ]
    have h : (b.toNat + 1) * 256 ^ l.length ≤ 256 * 256 ^ l.length := Nat.mul_le_mul_right _ (by omega)
    rw [Nat.add_mul] at h
    omega
theorem nat8_natL (l : List UInt8) : nat8 l 8 = natL (p8 l) := by
  show _ = natL [l.getD 0 0, l.getD 1 0, l.getD 2 0, l.getD 3 0, l.getD 4 0, l.getD 5 0, l.getD 6 0, l.getD 7 0]
  simp only [nat8, natL, List.length_cons, List.length_nil]
  omega
theorem less_natL (a b : List UInt8) (h : a.length = b.length) : Op.bytesLess a b = true ↔ natL a < natL b := by
  induction a generalizing b with
  | nil => cases b with
    | nil => simp [Op.bytesLess, natL]
    | cons => simp at h
  | cons x a ih => cases b with
    | nil => simp at h
    | cons y b =>
      have hl : a.length = b.length := by simpa using h
      have h1 := natL_lt a
      have h2 := natL_lt b
      have h3 := ih b hl
      simp only [natL]
      rw [hl] at h1 ⊢
      have e : x.toNat * 256 ^ b.length + natL a < y.toNat * 256 ^ b.length + natL b ↔ x.toNat < y.toNat ∨ x.toNat = y.toNat ∧ natL a < natL b := by
        constructor
        · intro hh
          rcases Nat.lt_trichotomy x.toNat y.toNat with hlt | heq | hgt
          · exact .inl hlt
          · rw [heq] at hh; exact .inr ⟨heq, by omega⟩
          · exfalso
            have : (y.toNat + 1) * 256 ^ b.length ≤ x.toNat * 256 ^ b.length := Nat.mul_le_mul_right _ hgt
            rw [Nat.add_mul] at this
            omega
        · rintro (hlt | ⟨heq, hh⟩)
          · have : (x.toNat + 1) * 256 ^ b.length ≤ y.toNat * 256 ^ b.length := Nat.mul_le_mul_right _ hlt
            rw [Nat.add_mul] at this
            omega
          · rw [heq]; omega
      rw [e, ← h3]
      simp only [Op.bytesLess, Bool.or_eq_true, decide_eq_true_eq, Bool.and_eq_true, beq_iff_eq, UInt8.lt_iff_toNat_lt, ← UInt8.toNat_inj]
theorem num_less (l m : List UInt8) (h : Op.bytesLess (p8 l) (p8 m) = true) : num l ≤ num m := by
  rw [less_natL _ _ (by rw [p8_length, p8_length]), ← nat8_natL, ← nat8_natL] at h
  unfold num
  omega
theorem num_not_less (l m : List UInt8) (h : Op.bytesLess (p8 l) (p8 m) = false) : num m ≤ num l := by
  have : ¬ Op.bytesLess (p8 l) (p8 m) = true := by rw [h]; simp
  rw [less_natL _ _ (by rw [p8_length, p8_length]), ← nat8_natL, ← nat8_natL] at this
  unfold num
  omega
def back8 (n : Nat) : List UInt8 := be8 (BitVec.ofInt 64 (n : Int) * 8#64)
theorem qb_of (x : BitVec 64) (k : Nat) : qb (x >>> k) = UInt8.ofNat (x.toNat / 2 ^ k) := by
  apply UInt8.toNat_inj.1
  show ((x >>> k).setWidth 8).toNat = _
  rw [BitVec.toNat_setWidth, BitVec.toNat_ushiftRight, Nat.shiftRight_eq_div_pow, UInt8.toNat_ofNat']
theorem back8_eq (l : List UInt8) : (back8 (num l)).take 7 = (p8 l).take 7 ∧ (back8 (num l)).getD 7 0 = (p8 l).getD 7 0 / 8 * 8 := by
  have hlt := nat8_lt l 8
  have hx : (BitVec.ofInt 64 ((num l : Nat) : Int) * 8#64).toNat = nat8 l 8 / 8 * 8 := by
    rw [BitVec.toNat_mul, BitVec.toNat_ofInt]
    unfold num
    simp only [BitVec.toNat_ofNat]
    omega
  have hb : ∀ i, (l.getD i 0).toNat < 256 := fun i => (l.getD i 0).toNat_lt
  have h0 := hb 0
  have h1 := hb 1
  have h2 := hb 2
  have h3 := hb 3
  have h4 := hb 4
  have h5 := hb 5
  have h6 := hb 6
  have h7 := hb 7
  unfold back8 be8
  simp only [qb_of, hx]
  have e : nat8 l 8 = 256 * (256 * (256 * (256 * (256 * (256 * (256 * (256 * 0 + (l.getD 0 0).toNat) + (l.getD 1 0).toNat) + (l.getD 2 0).toNat) + (l.getD 3 0).toNat) + (l.getD 4 0).toNat) + (l.getD 5 0).toNat) + (l.getD 6 0).toNat) + (l.getD 7 0).toNat := rfl
  have key : ∀ (b : UInt8) (n : Nat), n % 256 = b.toNat → UInt8.ofNat n = b := by
    intro b n h
    apply UInt8.toNat_inj.1
    rw [UInt8.toNat_ofNat']; exact h
  constructor
  · show [_, _, _, _, _, _, _] = [l.getD 0 0, l.getD 1 0, l.getD 2 0, l.getD 3 0, l.getD 4 0, l.getD 5 0, l.getD 6 0]
    rw [key (l.getD 0 0) _ (by rw [e]; omega), key (l.getD 1 0) _ (by rw [e]; omega), key (l.getD 2 0) _ (by rw [e]; omega), key (l.getD 3 0) _ (by rw [e]; omega), key (l.getD 4 0) _ (by rw [e]; omega), key (l.getD 5 0) _ (by rw [e]; omega), key (l.getD 6 0) _ (by rw [e]; omega)]
  · show UInt8.ofNat _ = l.getD 7 0 / 8 * 8
    apply key
    rw [UInt8.toNat_mul, UInt8.toNat_div, e]
    show _ = (l.getD 7 0).toNat / 8 * 8 % 256
    omega
end Go.Proofs.YtcjagjganiigiaaDoor.Sm
