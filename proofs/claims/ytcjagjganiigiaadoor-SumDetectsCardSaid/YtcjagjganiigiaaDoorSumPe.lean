/- Plain laws on flipping bits of a string, and what the checksum says of it. -/
import Derived.Test.YtcjagjganiigiaaDoorSumPb
namespace Go.Proofs.YtcjagjganiigiaaDoor.Sm
/-- whether the pattern's bit k falls on a bit of the string -/
def hits (n : Nat) (f : Int) (p : BitVec 32) (k : Nat) : Bool := eq32 ((p >>> k) &&& 1#32) 1#32 && decide (0 ≤ f + (k : Int)) && decide (f + (k : Int) < 8 * (n : Int))
def flipAt (l : List UInt8) (f : Int) (p : BitVec 32) : Nat → List UInt8 × Bool
  | 0 => (l, false)
  | k + 1 =>
    if hits l.length f p k then
      ((flipAt l f p k).1.set ((f + (k : Int)).toNat / 8) ((flipAt l f p k).1.getD ((f + (k : Int)).toNat / 8) 0 ^^^ shlB 1 ((f + (k : Int)).toNat % 8)), true)
    else flipAt l f p k
theorem flipAt_length (l : List UInt8) (f : Int) (p : BitVec 32) (k : Nat) : (flipAt l f p k).1.length = l.length := by
  induction k with
  | zero => rfl
  | succ k ih =>
    rw [flipAt]
    split
    · rw [List.length_set, ih]
    · exact ih
def bitAt (l : List UInt8) (i : Nat) : Bool := (l.getD (i / 8) 0).toBitVec.getLsbD (i % 8)
theorem bits8_getD (b : UInt8) (j : Nat) (h : j < 8) : (bits8 b).getD j false = b.toBitVec.getLsbD j := by
  rcases j with _ | _ | _ | _ | _ | _ | _ | _ | j
  all_goals first | omega | rfl
theorem bitsOf_getD (l : List UInt8) (i : Nat) (h : i < 8 * l.length) : (bitsOf l).getD i false = bitAt l i := by
  induction l generalizing i with
  | nil => simp at h
  | cons b l ih =>
    have e : bitsOf (b :: l) = bits8 b ++ bitsOf l := rfl
    have hb : (bits8 b).length = 8 := rfl
    rw [e, List.getD_eq_getElem?_getD]
    by_cases hi : i < 8
    · rw [List.getElem?_append_left (by omega), ← List.getD_eq_getElem?_getD, bits8_getD b i hi]
      unfold bitAt
      rw [show i / 8 = 0 from by omega, show i % 8 = i from by omega]
      rfl
    · rw [List.getElem?_append_right (by omega), hb, ← List.getD_eq_getElem?_getD, ih (i - 8) (by simp at h; omega)]
      unfold bitAt
      rw [show (i - 8) % 8 = i % 8 from by omega, show i / 8 = (i - 8) / 8 + 1 from by omega]
      rfl
theorem shl_one_bit (j : Nat) (hj : j < 8) (i : Nat) (hi : i < 8) : (shlB 1 j).toBitVec.getLsbD i = decide (i = j) := by
  have h : (List.range 8).all (fun j => (List.range 8).all (fun i => (shlB 1 j).toBitVec.getLsbD i == decide (i = j))) = true := by decide +kernel
  have h1 := List.all_eq_true.1 h j (List.mem_range.2 hj)
  have h2 := List.all_eq_true.1 h1 i (List.mem_range.2 hi)
  exact beq_iff_eq.1 h2
theorem bitAt_set (l : List UInt8) (a i : Nat) (ha : a / 8 < l.length) : bitAt (l.set (a / 8) (l.getD (a / 8) 0 ^^^ shlB 1 (a % 8))) i = (bitAt l i ^^ decide (i = a)) := by
  unfold bitAt
  by_cases h : i / 8 = a / 8
  · rw [h]
    have e : (l.set (a / 8) (l.getD (a / 8) 0 ^^^ shlB 1 (a % 8))).getD (a / 8) 0 = l.getD (a / 8) 0 ^^^ shlB 1 (a % 8) := by
      rw [List.getD_eq_getElem?_getD, List.getElem?_set_self ha]; rfl
    rw [e, UInt8.toBitVec_xor, BitVec.getLsbD_xor, shl_one_bit _ (by omega) _ (by omega)]
    congr 1
    rw [Bool.eq_iff_iff, decide_eq_true_iff, decide_eq_true_iff]
    omega
  · have e : (l.set (a / 8) (l.getD (a / 8) 0 ^^^ shlB 1 (a % 8))).getD (i / 8) 0 = l.getD (i / 8) 0 := by
      rw [List.getD_eq_getElem?_getD, List.getElem?_set_ne (by omega), ← List.getD_eq_getElem?_getD]
    rw [e, show decide (i = a) = false from by simp; omega]
    simp
/-- bit i of the flipped string -/
theorem flip_bit (l : List UInt8) (f : Int) (p : BitVec 32) (k : Nat) (i : Nat) : bitAt (flipAt l f p k).1 i = (bitAt l i ^^ (decide (f ≤ i ∧ (i : Int) < f + k) && hits l.length f p (((i : Int) - f).toNat))) := by
  induction k with
  | zero =>
    have : decide (f ≤ (i : Int) ∧ (i : Int) < f + ((0 : Nat) : Int)) = false := by rw [decide_eq_false_iff_not]; omega
    rw [this]; simp [flipAt]
  | succ k ih =>
    rw [flipAt]
    by_cases hh : hits l.length f p k = true
    · rw [if_pos hh]
      have h2 := hh
      simp only [hits, Bool.and_eq_true, decide_eq_true_eq] at h2
      obtain ⟨⟨_, h0⟩, h8⟩ := h2
      rw [bitAt_set _ _ _ (by rw [flipAt_length]; omega), ih]
      by_cases hi : (i : Int) = f + k
      · have e1 : ((i : Int) - f).toNat = k := by omega
        have e2 : decide (f ≤ (i : Int) ∧ (i : Int) < f + (k : Int)) = false := by simp; omega
        have e3 : decide (f ≤ (i : Int) ∧ (i : Int) < f + ((k + 1 : Nat) : Int)) = true := by simp; omega
        have e4 : decide (i = (f + (k : Int)).toNat) = true := by simp; omega
        rw [e1, e2, e3, e4, hh]; simp
      · have e2 : decide (f ≤ (i : Int) ∧ (i : Int) < f + ((k + 1 : Nat) : Int)) = decide (f ≤ (i : Int) ∧ (i : Int) < f + (k : Int)) := by
          rw [Bool.eq_iff_iff, decide_eq_true_iff, decide_eq_true_iff]; omega
        have e4 : decide (i = (f + (k : Int)).toNat) = false := by simp; omega
        rw [e2, e4]; simp
    · rw [if_neg hh, ih]
      by_cases hi : (i : Int) = f + k
      · have e1 : ((i : Int) - f).toNat = k := by omega
        rw [e1, Bool.eq_false_iff.2 hh]; simp
      · have e2 : decide (f ≤ (i : Int) ∧ (i : Int) < f + ((k + 1 : Nat) : Int)) = decide (f ≤ (i : Int) ∧ (i : Int) < f + (k : Int)) := by
          rw [Bool.eq_iff_iff, decide_eq_true_iff, decide_eq_true_iff]; omega
        rw [e2]
theorem flip_did (l : List UInt8) (f : Int) (p : BitVec 32) (k : Nat) : (flipAt l f p k).2 = true ↔ ∃ j, j < k ∧ hits l.length f p j = true := by
  induction k with
  | zero => simp [flipAt]
  | succ k ih =>
    rw [flipAt]
    by_cases hh : hits l.length f p k = true
    · rw [if_pos hh]
      exact ⟨fun _ => ⟨k, by omega, hh⟩, fun _ => rfl⟩
    · rw [if_neg hh, ih]
      constructor
      · rintro ⟨j, hj, h⟩; exact ⟨j, by omega, h⟩
      · rintro ⟨j, hj, h⟩
        have : j ≠ k := by rintro rfl; exact hh h
        exact ⟨j, by omega, h⟩
/-- the checksum tells a burst -/
theorem detects (l : List UInt8) (f : Int) (p : BitVec 32) : (!eq32 (crc l) (crc (flipAt l f p 32).1)) = (flipAt l f p 32).2 := by
  have hlen := flipAt_length l f p 32
  have hE : ∀ i, (List.zipWith Bool.xor (bitsOf l) (bitsOf (flipAt l f p 32).1)).getD i false = (decide (i < 8 * l.length) && (decide (f ≤ i ∧ (i : Int) < f + 32) && hits l.length f p (((i : Int) - f).toNat))) := by
    intro i
    by_cases hi : i < 8 * l.length
    · have e1 := bitsOf_getD l i hi
      have e2 := bitsOf_getD (flipAt l f p 32).1 i (by rw [hlen]; exact hi)
      rw [flip_bit] at e2
      have h1 : i < (bitsOf l).length := by rw [bitsOf_length]; exact hi
      have h2 : i < (bitsOf (flipAt l f p 32).1).length := by rw [bitsOf_length, hlen]; exact hi
      rw [List.getD_eq_getElem?_getD, List.getElem?_eq_getElem h1] at e1
      rw [List.getD_eq_getElem?_getD, List.getElem?_eq_getElem h2] at e2
      simp only [Option.getD_some] at e1 e2
      rw [List.getD_eq_getElem?_getD, List.getElem?_zipWith, List.getElem?_eq_getElem h1, List.getElem?_eq_getElem h2]
      simp only [Option.getD_some, e1, e2, hi, decide_true, Bool.true_and]
      show (bitAt l i ^^ (bitAt l i ^^ _)) = _
      rw [← Bool.xor_assoc, Bool.xor_self, Bool.false_xor]
      rfl
    · rw [List.getD_eq_getElem?_getD, List.getElem?_eq_none (by rw [List.length_zipWith, bitsOf_length]; omega)]
      simp [hi]
  have hb := burst (List.zipWith Bool.xor (bitsOf l) (bitsOf (flipAt l f p 32).1)) f.toNat (fun i hi => by
    rw [hE, Bool.and_eq_true, Bool.and_eq_true, decide_eq_true_eq, decide_eq_true_eq] at hi
    omega)
  have hc := crc_differ l (flipAt l f p 32).1 hlen.symm
  rw [hb] at hc
  rw [Bool.eq_iff_iff, flip_did, Bool.not_eq_true', eq32, decide_eq_false_iff_not, hc]
  constructor
  · intro hn
    obtain ⟨i, hi⟩ := Classical.not_forall.1 hn
    rw [hE] at hi
    have hi' := Bool.not_eq_false _ |>.mp hi
    rw [Bool.and_eq_true, Bool.and_eq_true, decide_eq_true_eq, decide_eq_true_eq] at hi'
    exact ⟨((i : Int) - f).toNat, by omega, hi'.2.2⟩
  · rintro ⟨j, hj, h⟩ hn
    have h2 := h
    simp only [hits, Bool.and_eq_true, decide_eq_true_eq] at h2
    obtain ⟨⟨_, h0⟩, h8⟩ := h2
    have := hn (f + (j : Int)).toNat
    rw [hE] at this
    have e : (((f + (j : Int)).toNat : Int) - f).toNat = j := by omega
    rw [e, h] at this
    have a1 : decide ((f + (j : Int)).toNat < 8 * l.length) = true := by simp; omega
    have a2 : decide (f ≤ ((f + (j : Int)).toNat : Int) ∧ ((f + (j : Int)).toNat : Int) < f + 32) = true := by simp; omega
    rw [a1, a2] at this
    simp at this
end Go.Proofs.YtcjagjganiigiaaDoor.Sm
