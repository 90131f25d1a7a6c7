/- Plain laws on the checksum: it is linear, its steps can be undone, and it sees every burst of up to 32 bits. -/
import Derived.Test.YthbpbkbjdfcnjaaGreatDoorSumM
namespace Go.Proofs.YthbpbkbjdfcnjaaGreatDoor.Sm
set_option linter.unusedSectionVars false
set_option linter.unusedVariables false
set_option linter.unusedSimpArgs false
def lsb (r : BitVec 32) : Bool := r.getLsbD 0
theorem eq_lsb (r : BitVec 32) : eq32 (r &&& 1#32) 1#32 = lsb r := by
  unfold eq32 lsb
  rw [Bool.eq_iff_iff, decide_eq_true_iff]
  constructor
  · intro h
    have := congrArg (fun x => BitVec.getLsbD x 0) h
    simpa using this
  · intro h
    apply BitVec.eq_of_getLsbD_eq
    intro i hi
    simp only [BitVec.getLsbD_and]
    cases i with
    | zero => simp [h]
    | succ i => simp
theorem cstep_eq (r : BitVec 32) : cstep r = (r >>> 1) ^^^ (if lsb r then 0x82f63b78#32 else 0#32) := by
  unfold cstep
  rw [eq_lsb]
  split <;> simp
theorem lsb_xor (a b : BitVec 32) : lsb (a ^^^ b) = (lsb a ^^ lsb b) := by simp [lsb]
theorem xor_shuffle (a b c d : BitVec 32) : (a ^^^ b) ^^^ (c ^^^ d) = (a ^^^ c) ^^^ (b ^^^ d) := by
  simp only [BitVec.xor_assoc]
  rw [← BitVec.xor_assoc b c d, BitVec.xor_comm b c, BitVec.xor_assoc]
theorem cstep_xor (a b : BitVec 32) : cstep (a ^^^ b) = cstep a ^^^ cstep b := by
  rw [cstep_eq, cstep_eq, cstep_eq, lsb_xor, xor_shuffle, BitVec.ushiftRight_xor_distrib]
  congr 1
  cases lsb a <;> cases lsb b <;> simp
theorem cstep_zero : cstep 0 = 0 := by decide
theorem csteps_zero (n : Nat) : csteps n 0 = 0 := by
  induction n with
  | zero => rfl
  | succ n ih => rw [csteps, ih, cstep_zero]
theorem csteps_xor (n : Nat) (a b : BitVec 32) : csteps n (a ^^^ b) = csteps n a ^^^ csteps n b := by
  induction n with
  | zero => rfl
  | succ n ih => rw [csteps, ih, cstep_xor]; rfl
theorem csteps_add (m n : Nat) (a : BitVec 32) : csteps (m + n) a = csteps m (csteps n a) := by
  induction m with
  | zero => rw [Nat.zero_add]; rfl
  | succ m ih => rw [Nat.add_right_comm, csteps, ih]; rfl
theorem cstep_ker (a : BitVec 32) (h : cstep a = 0) : a = 0 := by
  rw [cstep_eq] at h
  have hl : lsb a = false := by
    cases hb : lsb a with
    | false => rfl
    | true =>
      rw [hb] at h
      have := congrArg (fun x => BitVec.getLsbD x 31) h
      simp at this
  rw [hl] at h
  simp only [Bool.false_eq_true, if_false, BitVec.xor_zero] at h
  apply BitVec.eq_of_getLsbD_eq
  intro i hi
  cases i with
  | zero => simpa [lsb] using hl
  | succ i =>
    have := congrArg (fun x => BitVec.getLsbD x i) h
    simp only [BitVec.getLsbD_ushiftRight, BitVec.ofNat_eq_ofNat, BitVec.getLsbD_zero] at this
    rw [Nat.add_comm] at this
    simpa using this
theorem csteps_ker (n : Nat) (a : BitVec 32) (h : csteps n a = 0) : a = 0 := by
  induction n with
  | zero => exact h
  | succ n ih => exact ih (cstep_ker _ h)
theorem xor_eq_zero' (a b : BitVec 32) : a ^^^ b = 0 ↔ a = b := by
  constructor
  · intro h
    have : a ^^^ b ^^^ b = 0 ^^^ b := by rw [h]
    simpa [BitVec.xor_assoc] using this
  · rintro rfl; simp
theorem csteps_inj (n : Nat) (a b : BitVec 32) (h : csteps n a = csteps n b) : a = b := by
  rw [← xor_eq_zero', ← csteps_xor] at h
  exact (xor_eq_zero' a b).1 (csteps_ker n _ h)
/- bit by bit -/
def one32 (b : Bool) : BitVec 32 := if b then 1#32 else 0#32
def feed (r : BitVec 32) : List Bool → BitVec 32
  | [] => r
  | b :: l => feed (cstep (r ^^^ one32 b)) l
def bval : List Bool → BitVec 32
  | [] => 0#32
  | b :: l => one32 b ^^^ (bval l <<< 1)
theorem feed_append (r : BitVec 32) (l m : List Bool) : feed r (l ++ m) = feed (feed r l) m := by
  induction l generalizing r with
  | nil => rfl
  | cons b l ih => exact ih _
theorem bval_high (l : List Bool) (i : Nat) (h : l.length ≤ i) : (bval l).getLsbD i = false := by
  induction l generalizing i with
  | nil => simp [bval]
  | cons b l ih =>
    have hi : 0 < i := by simp at h; omega
    have h1 := ih (i - 1) (by simp at h; omega)
    simp only [bval, BitVec.getLsbD_xor, BitVec.getLsbD_shiftLeft, one32]
    cases b <;> simp [h1] <;> omega
theorem cstep_shl (x : BitVec 32) (h : x.getLsbD 31 = false) : cstep (x <<< 1) = x := by
  rw [cstep_eq]
  have hl : lsb (x <<< 1) = false := by simp [lsb]
  rw [hl]
  simp only [Bool.false_eq_true, if_false, BitVec.xor_zero]
  apply BitVec.eq_of_getLsbD_eq
  intro i hi
  simp only [BitVec.getLsbD_ushiftRight, BitVec.getLsbD_shiftLeft]
  by_cases h31 : i = 31
  · subst h31; have h' := h; simp at h' ⊢; exact h'
  · simp; omega
theorem feed_word (r : BitVec 32) (l : List Bool) (h : l.length ≤ 32) : feed r l = csteps l.length (r ^^^ bval l) := by
  induction l generalizing r with
  | nil => simp [feed, bval, csteps]
  | cons b l ih =>
    have hl : l.length ≤ 31 := by simp at h; omega
    rw [feed, ih _ (by omega), List.length_cons, csteps_add _ 1]
    show _ = csteps l.length (cstep (r ^^^ (one32 b ^^^ bval l <<< 1)))
    rw [← BitVec.xor_assoc, cstep_xor (r ^^^ one32 b), cstep_shl _ (bval_high l 31 hl)]
theorem feed_xor (r q : BitVec 32) (l m : List Bool) (h : l.length = m.length) : feed (r ^^^ q) (List.zipWith Bool.xor l m) = feed r l ^^^ feed q m := by
  induction l generalizing r q m with
  | nil => cases m with
    | nil => rfl
    | cons => simp at h
  | cons b l ih => cases m with
    | nil => simp at h
    | cons c m =>
      simp only [List.zipWith_cons_cons, feed]
      rw [← ih _ _ m (by simpa using h), ← cstep_xor, xor_shuffle]
      have : one32 (b ^^ c) = one32 b ^^^ one32 c := by cases b <;> cases c <;> decide
      rw [← this]
theorem feed_zeros (r : BitVec 32) (n : Nat) : feed r (List.replicate n false) = csteps n r := by
  induction n generalizing r with
  | zero => rfl
  | succ n ih =>
    rw [List.replicate_succ, feed, ih, csteps_add n 1]
    simp [one32, csteps]
def bits8 (b : UInt8) : List Bool := [b.toBitVec.getLsbD 0, b.toBitVec.getLsbD 1, b.toBitVec.getLsbD 2, b.toBitVec.getLsbD 3, b.toBitVec.getLsbD 4, b.toBitVec.getLsbD 5, b.toBitVec.getLsbD 6, b.toBitVec.getLsbD 7]
theorem bval_bits8 (b : UInt8) : bval (bits8 b) = bw b := by
  have h : (List.range 256).all (fun n => decide (bval (bits8 (UInt8.ofNat n)) = bw (UInt8.ofNat n))) = true := by decide +kernel
  have := List.all_eq_true.1 h b.toNat (List.mem_range.2 b.toNat_lt)
  rw [UInt8.ofNat_toNat] at this
  exact of_decide_eq_true this
def bitsOf (l : List UInt8) : List Bool := l.flatMap bits8
theorem cbyte_feed (r : BitVec 32) (b : UInt8) : cbyte r b = feed r (bits8 b) := by
  rw [feed_word r _ (by simp [bits8]), bval_bits8]; rfl
theorem run_feed (r : BitVec 32) (l : List UInt8) : l.foldl cbyte r = feed r (bitsOf l) := by
  induction l generalizing r with
  | nil => rfl
  | cons b l ih =>
    have : bitsOf (b :: l) = bits8 b ++ bitsOf l := rfl
    rw [List.foldl_cons, ih, this, feed_append, cbyte_feed]
theorem bitsOf_length (l : List UInt8) : (bitsOf l).length = 8 * l.length := by
  induction l with
  | nil => rfl
  | cons b l ih =>
    have : bitsOf (b :: l) = bits8 b ++ bitsOf l := rfl
    rw [this, List.length_append, ih]; simp [bits8]; omega
theorem crc_feed (l : List UInt8) : crc l = ~~~ (feed 0xffffffff#32 (bitsOf l)) := by rw [crc, creg, run_feed]
theorem crc_differ (l m : List UInt8) (h : l.length = m.length) : crc l = crc m ↔ feed 0 (List.zipWith Bool.xor (bitsOf l) (bitsOf m)) = 0 := by
  have e := feed_xor 0xffffffff#32 0xffffffff#32 (bitsOf l) (bitsOf m) (by rw [bitsOf_length, bitsOf_length, h])
  rw [BitVec.xor_self] at e
  have e' : feed 0 (List.zipWith Bool.xor (bitsOf l) (bitsOf m)) = feed 0xffffffff#32 (bitsOf l) ^^^ feed 0xffffffff#32 (bitsOf m) := e
  rw [e', xor_eq_zero', crc_feed, crc_feed]
  constructor
  · intro h
    have := congrArg (fun x => ~~~ x) h
    simpa using this
  · intro h; rw [h]
/-- a burst of at most 32 bits leaves a trace -/
theorem burst (E : List Bool) (a : Nat) (h : ∀ i, E.getD i false = true → a ≤ i ∧ i < a + 32) : feed 0 E = 0 ↔ ∀ i, E.getD i false = false := by
  induction E generalizing a with
  | nil => simp [feed]
  | cons b E ih =>
    cases b with
    | false =>
      have e : feed 0 (false :: E) = feed 0 E := by
        show feed (cstep (0 ^^^ one32 false)) E = _
        have : cstep (0 ^^^ one32 false) = 0 := by decide
        rw [this]
      rw [e, ih (a - 1) (fun i hi => by
        have := h (i + 1) (by simpa using hi)
        omega)]
      constructor
      · intro h i; cases i with
        | zero => rfl
        | succ i => simpa using h i
      · intro h i; simpa using h (i + 1)
    | true =>
      have h0 := h 0 rfl
      obtain rfl : a = 0 := by omega
      constructor
      · intro hz
        exfalso
        have hsplit : (true :: E) = (true :: E).take 32 ++ List.replicate ((true :: E).drop 32).length false := by
          conv => lhs; rw [← List.take_append_drop 32 (true :: E)]
          congr 1
          apply List.eq_replicate_of_mem
          intro b hb
          cases b with
          | false => rfl
          | true =>
            exfalso
            obtain ⟨j, hj, hjv⟩ := List.getElem_of_mem hb
            have := h (32 + j) (by
              rw [List.getD_eq_getElem?_getD, ← List.getElem?_drop, List.getElem?_eq_getElem hj, hjv]; rfl)
            omega
        rw [hsplit, feed_append, feed_zeros] at hz
        have h1 := csteps_ker _ _ hz
        rw [feed_word _ _ (by rw [List.length_take]; omega)] at h1
        have h2 := csteps_ker _ _ h1
        rw [List.take_succ_cons] at h2
        have h3 := congrArg (fun x => BitVec.getLsbD x 0) h2
        simp [bval, one32] at h3
      · intro hz; have := hz 0; simp at this
end Go.Proofs.YthbpbkbjdfcnjaaGreatDoor.Sm
