/- Plain laws on the checksum of a string followed by four bytes, and of the bytewise xor of three strings. -/
import Derived.Test.YtcjagjganiigiaaDoorSumPb
namespace Go.Proofs.YtcjagjganiigiaaDoor.Sm
def le4 (t : BitVec 32) : List UInt8 := [wb t, wb (t >>> 8), wb (t >>> 16), wb (t >>> 24)]
theorem bval_get (l : List Bool) (h : l.length ≤ 32) (i : Nat) : (bval l).getLsbD i = l.getD i false := by
  induction l generalizing i with
  | nil => simp [bval]
  | cons b l ih =>
    have h1 := ih (by simp at h; omega)
    simp only [bval, BitVec.getLsbD_xor, BitVec.getLsbD_shiftLeft, one32]
    cases i with
    | zero => cases b <;> simp
    | succ i =>
      rw [Nat.add_sub_cancel, h1]
      by_cases hi : i + 1 < 32
      · cases b <;> simp [hi]
      · have : l.getD i false = false := by
          rw [List.getD_eq_getElem?_getD, List.getElem?_eq_none (by simp at h; omega)]; rfl
        cases b <;> simp [hi]
        all_goals (simp [List.getD_eq_getElem?_getD] at this; simpa using this.symm)
theorem wb_bit (x : BitVec 32) (i : Nat) (h : i < 8) : (wb x).toBitVec.getLsbD i = x.getLsbD i := by
  simp [wb, BitVec.getLsbD_setWidth, h]
theorem bits_le4 (t : BitVec 32) : bitsOf (le4 t) = (List.range 32).map (fun i => t.getLsbD i) := by
  have e : ∀ x : BitVec 32, bits8 (wb x) = [x.getLsbD 0, x.getLsbD 1, x.getLsbD 2, x.getLsbD 3, x.getLsbD 4, x.getLsbD 5, x.getLsbD 6, x.getLsbD 7] := by
    intro x
    simp only [bits8, wb_bit x 0 (by omega), wb_bit x 1 (by omega), wb_bit x 2 (by omega), wb_bit x 3 (by omega), wb_bit x 4 (by omega), wb_bit x 5 (by omega), wb_bit x 6 (by omega), wb_bit x 7 (by omega)]
  show bits8 _ ++ (bits8 _ ++ (bits8 _ ++ (bits8 _ ++ []))) = _
  rw [e, e, e, e]
  simp only [BitVec.getLsbD_ushiftRight]
  rfl
theorem bval_le4 (t : BitVec 32) : bval (bitsOf (le4 t)) = t := by
  apply BitVec.eq_of_getLsbD_eq
  intro i hi
  rw [bval_get _ (by rw [bits_le4]; simp), bits_le4, List.getD_eq_getElem?_getD, List.getElem?_map, List.getElem?_range hi]
  rfl
theorem crc_le4 (l : List UInt8) (t : BitVec 32) : crc (l ++ le4 t) = ~~~ (csteps 32 (creg l ^^^ t)) := by
  have h : (bitsOf (le4 t)).length = 32 := by rw [bits_le4]; simp
  rw [crc, creg, List.foldl_append, run_feed _ (le4 t), feed_word _ _ (by omega), h, bval_le4]; rfl
theorem not_inj {a b : BitVec 32} (h : ~~~ a = ~~~ b) : a = b := by
  have := congrArg (fun x => ~~~ x) h
  simpa using this
theorem xor_not (a : BitVec 32) : a ^^^ ~~~ a = 0xffffffff#32 := by
  have h : ∀ i, i < 32 → (a ^^^ ~~~ a).getLsbD i = (BitVec.allOnes 32).getLsbD i := by
    intro i hi
    rw [BitVec.getLsbD_xor, BitVec.getLsbD_not, BitVec.getLsbD_allOnes]
    cases a.getLsbD i <;> simp [hi]
  exact BitVec.eq_of_getLsbD_eq h
theorem residue (l : List UInt8) : crc (l ++ le4 (crc l)) = 1214729159#32 := by
  rw [crc_le4, crc, xor_not]
  decide +kernel
theorem residue_iff (l : List UInt8) (t : BitVec 32) : eq32 (crc (l ++ le4 t)) 1214729159#32 = eq32 t (crc l) := by
  unfold eq32
  rw [Bool.eq_iff_iff, decide_eq_true_iff, decide_eq_true_iff]
  constructor
  · intro h
    rw [← residue l, crc_le4, crc_le4] at h
    have h1 := csteps_inj 32 _ _ (not_inj h)
    have h2 := congrArg (fun x => creg l ^^^ x) h1
    simpa [← BitVec.xor_assoc] using h2
  · rintro rfl; exact residue l
def xor3 (a b c : List UInt8) (n : Nat) : List UInt8 := (List.range n).map fun i => a.getD i 0 ^^^ b.getD i 0 ^^^ c.getD i 0
theorem xor3_snoc (a b c : List UInt8) (n : Nat) : xor3 a b c (n + 1) = xor3 a b c n ++ [a.getD n 0 ^^^ b.getD n 0 ^^^ c.getD n 0] := by simp [xor3, List.range_succ]
theorem bw_xor (a b : UInt8) : bw (a ^^^ b) = bw a ^^^ bw b := by
  unfold bw
  rw [UInt8.toBitVec_xor, BitVec.setWidth_xor]
theorem cbyte_xor (r q : BitVec 32) (a b : UInt8) : cbyte (r ^^^ q) (a ^^^ b) = cbyte r a ^^^ cbyte q b := by
  unfold cbyte
  rw [bw_xor, xor_shuffle, csteps_xor]
theorem creg_xor3 (a b c : List UInt8) (n : Nat) (ha : n ≤ a.length) (hb : n ≤ b.length) (hc : n ≤ c.length) :
    creg (a.take n) ^^^ creg (b.take n) ^^^ creg (c.take n) = creg (xor3 a b c n) := by
  induction n with
  | zero => simp [creg, xor3]
  | succ n ih =>
    have e : ∀ (l : List UInt8), n < l.length → l.take (n + 1) = l.take n ++ [l.getD n 0] := by
      intro l hl
      rw [List.take_succ_eq_append_getElem hl, List.getD_eq_getElem?_getD, List.getElem?_eq_getElem hl]; rfl
    rw [e a (by omega), e b (by omega), e c (by omega), xor3_snoc, creg_snoc, creg_snoc, creg_snoc, creg_snoc, ← cbyte_xor, ← cbyte_xor, ih (by omega) (by omega) (by omega)]
theorem crc_xor3 (a b c : List UInt8) (n : Nat) (ha : n ≤ a.length) (hb : n ≤ b.length) (hc : n ≤ c.length) :
    crc (a.take n) ^^^ crc (b.take n) ^^^ crc (c.take n) = crc (xor3 a b c n) := by
  unfold crc
  rw [← creg_xor3 a b c n ha hb hc]
  generalize creg (a.take n) = x
  generalize creg (b.take n) = y
  generalize creg (c.take n) = z
  apply BitVec.eq_of_getLsbD_eq
  intro i hi
  simp only [BitVec.getLsbD_xor, BitVec.getLsbD_not, hi, decide_true, Bool.true_and]
  cases x.getLsbD i <;> cases y.getLsbD i <;> cases z.getLsbD i <;> rfl
end Go.Proofs.YtcjagjganiigiaaDoor.Sm
