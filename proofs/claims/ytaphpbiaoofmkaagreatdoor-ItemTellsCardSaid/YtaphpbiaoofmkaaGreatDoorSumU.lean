/- Several texts in one. -/
import Derived.Test.YtaphpbiaoofmkaaGreatDoorSumM
set_option linter.unusedSectionVars false
set_option linter.unusedVariables false
set_option linter.unusedSimpArgs false
namespace Go.Proofs.YtaphpbiaoofmkaaGreatDoor.Sm
def lsb (r : BitVec 32) : Bool := r.getLsbD 0
theorem eq_lsb (r : BitVec 32) : eq32 (r &&& 1#32) 1#32 = lsb r := by
 unfold eq32 lsb
 rw [Bool.eq_iff_iff, decide_eq_true_iff]
 constructor
 ·intro h
  have := congrArg (fun x => BitVec.getLsbD x 0) h
  simpa using this
 ·intro h
  apply BitVec.eq_of_getLsbD_eq
  intro i hi
  simp only [BitVec.getLsbD_and]
  cases i with
  | zero => simp [h]
  | succ i => simp
theorem cstep_eq (r : BitVec 32) : cstep r = (r >>> 1) ^^^ (if lsb r then 0x82f63b78#32 else 0#32) := by
 unfold cstep
 rw [eq_lsb]
 split <;> simp
theorem lsb_xor (a b : BitVec 32) : lsb (a ^^^ b) = (lsb a ^^ lsb b) := by simp [lsb]
theorem xor_shuffle (a b c d : BitVec 32) : (a ^^^ b) ^^^ (c ^^^ d) = (a ^^^ c) ^^^ (b ^^^ d) := by
 simp only [BitVec.xor_assoc]
 rw [← BitVec.xor_assoc b c d, BitVec.xor_comm b c, BitVec.xor_assoc]
theorem cstep_xor (a b : BitVec 32) : cstep (a ^^^ b) = cstep a ^^^ cstep b := by
 rw [cstep_eq, cstep_eq, cstep_eq, lsb_xor, xor_shuffle, BitVec.ushiftRight_xor_distrib]
 congr 1
 cases lsb a <;> cases lsb b <;> simp
theorem cstep_zero : cstep 0 = 0 := by decide
theorem csteps_zero (n : Nat) : csteps n 0 = 0 := by
 induction n with
 | zero => rfl
 | succ n ih => rw [csteps, ih, cstep_zero]
theorem csteps_xor (n : Nat) (a b : BitVec 32) : csteps n (a ^^^ b) = csteps n a ^^^ csteps n b := by
 induction n with
 | zero => rfl
 | succ n ih => rw [csteps, ih, cstep_xor]; rfl
theorem csteps_add (m n : Nat) (a : BitVec 32) : csteps (m + n) a = csteps m (csteps n a) := by
 induction m with
 | zero => rw [Nat.zero_add]; rfl
 | succ m ih => rw [Nat.add_right_comm, csteps, ih]; rfl
theorem cstep_ker (a : BitVec 32) (h : cstep a = 0) : a = 0 := by
 rw [cstep_eq] at h
 have hl : lsb a = false := by
  cases hb : lsb a with
  | false => rfl
  | true =>
   rw [hb] at h
   have := congrArg (fun x => BitVec.getLsbD x 31) h
   simp at this
 rw [hl] at h
 simp only [Bool.false_eq_true, if_false, BitVec.xor_zero] at h
 apply BitVec.eq_of_getLsbD_eq
 intro i hi
 cases i with
 | zero => simpa [lsb] using hl
 | succ i =>
  have := congrArg (fun x => BitVec.getLsbD x i) h
  simp only [BitVec.getLsbD_ushiftRight, BitVec.ofNat_eq_ofNat, BitVec.getLsbD_zero] at this
  rw [Nat.add_comm] at this
  simpa using this
theorem csteps_ker (n : Nat) (a : BitVec 32) (h : csteps n a = 0) : a = 0 := by
 induction n with
 | zero => exact h
 | succ n ih => exact ih (cstep_ker _ h)
theorem xor_eq_zero' (a b : BitVec 32) : a ^^^ b = 0 ↔ a = b := by
 constructor
 ·intro h
  have : a ^^^ b ^^^ b = 0 ^^^ b := by rw [h]
  simpa [BitVec.xor_assoc] using this
 ·rintro rfl; simp
theorem csteps_inj (n : Nat) (a b : BitVec 32) (h : csteps n a = csteps n b) : a = b := by
 rw [← xor_eq_zero', ← csteps_xor] at h
 exact (xor_eq_zero' a b).1 (csteps_ker n _ h)
def one32 (b : Bool) : BitVec 32 := if b then 1#32 else 0#32
def feed (r : BitVec 32) : List Bool → BitVec 32
 | [] => r
 | b :: l => feed (cstep (r ^^^ one32 b)) l
def bval : List Bool → BitVec 32
 | [] => 0#32
 | b :: l => one32 b ^^^ (bval l <<< 1)
theorem feed_append (r : BitVec 32) (l m : List Bool) : feed r (l ++ m) = feed (feed r l) m := by
 induction l generalizing r with
 | nil => rfl
 | cons b l ih => exact ih _
theorem bval_high (l : List Bool) (i : Nat) (h : l.length ≤ i) : (bval l).getLsbD i = false := by
 induction l generalizing i with
 | nil => simp [bval]
 | cons b l ih =>
  have hi : 0 < i := by simp at h; omega
  have h1 := ih (i - 1) (by simp at h; omega)
  simp only [bval, BitVec.getLsbD_xor, BitVec.getLsbD_shiftLeft, one32]
  cases b <;> simp [h1] <;> omega
theorem cstep_shl (x : BitVec 32) (h : x.getLsbD 31 = false) : cstep (x <<< 1) = x := by
 rw [cstep_eq]
 have hl : lsb (x <<< 1) = false := by simp [lsb]
 rw [hl]
 simp only [Bool.false_eq_true, if_false, BitVec.xor_zero]
 apply BitVec.eq_of_getLsbD_eq
 intro i hi
 simp only [BitVec.getLsbD_ushiftRight, BitVec.getLsbD_shiftLeft]
 by_cases h31 : i = 31
 ·subst h31; have h' := h; simp at h' ⊢; exact h'
 ·simp; omega
theorem feed_word (r : BitVec 32) (l : List Bool) (h : l.length ≤ 32) : feed r l = csteps l.length (r ^^^ bval l) := by
 induction l generalizing r with
 | nil => simp [feed, bval, csteps]
 | cons b l ih =>
  have hl : l.length ≤ 31 := by simp at h; omega
  rw [feed, ih _ (by omega), List.length_cons, csteps_add _ 1]
  show _ = csteps l.length (cstep (r ^^^ (one32 b ^^^ bval l <<< 1)))
  rw [← BitVec.xor_assoc, cstep_xor (r ^^^ one32 b), cstep_shl _ (bval_high l 31 hl)]
theorem feed_xor (r q : BitVec 32) (l m : List Bool) (h : l.length = m.length) : feed (r ^^^ q) (List.zipWith Bool.xor l m) = feed r l ^^^ feed q m := by
 induction l generalizing r q m with
 | nil => cases m with
  | nil => rfl
  | cons => simp at h
 | cons b l ih => cases m with
  | nil => simp at h
  | cons c m =>
   simp only [List.zipWith_cons_cons, feed]
   rw [← ih _ _ m (by simpa using h), ← cstep_xor, xor_shuffle]
   have : one32 (b ^^ c) = one32 b ^^^ one32 c := by cases b <;> cases c <;> decide
   rw [← this]
theorem feed_zeros (r : BitVec 32) (n : Nat) : feed r (List.replicate n false) = csteps n r := by
 induction n generalizing r with
 | zero => rfl
 | succ n ih =>
  rw [List.replicate_succ, feed, ih, csteps_add n 1]
  simp [one32, csteps]
def bits8 (b : UInt8) : List Bool := [b.toBitVec.getLsbD 0, b.toBitVec.getLsbD 1, b.toBitVec.getLsbD 2, b.toBitVec.getLsbD 3, b.toBitVec.getLsbD 4, b.toBitVec.getLsbD 5, b.toBitVec.getLsbD 6, b.toBitVec.getLsbD 7]
theorem bval_bits8 (b : UInt8) : bval (bits8 b) = bw b := by
 have h : (List.range 256).all (fun n => decide (bval (bits8 (UInt8.ofNat n)) = bw (UInt8.ofNat n))) = true := by decide +kernel
 have := List.all_eq_true.1 h b.toNat (List.mem_range.2 b.toNat_lt)
 rw [UInt8.ofNat_toNat] at this
 exact of_decide_eq_true this
def bitsOf (l : List UInt8) : List Bool := l.flatMap bits8
theorem cbyte_feed (r : BitVec 32) (b : UInt8) : cbyte r b = feed r (bits8 b) := by
 rw [feed_word r _ (by simp [bits8]), bval_bits8]; rfl
theorem run_feed (r : BitVec 32) (l : List UInt8) : l.foldl cbyte r = feed r (bitsOf l) := by
 induction l generalizing r with
 | nil => rfl
 | cons b l ih =>
  have : bitsOf (b :: l) = bits8 b ++ bitsOf l := rfl
  rw [List.foldl_cons, ih, this, feed_append, cbyte_feed]
theorem bitsOf_length (l : List UInt8) : (bitsOf l).length = 8 * l.length := by
 induction l with
 | nil => rfl
 | cons b l ih =>
  have : bitsOf (b :: l) = bits8 b ++ bitsOf l := rfl
  rw [this, List.length_append, ih]; simp [bits8]; omega
theorem crc_feed (l : List UInt8) : crc l = ~~~ (feed 0xffffffff#32 (bitsOf l)) := by rw [crc, creg, run_feed]
theorem crc_differ (l m : List UInt8) (h : l.length = m.length) : crc l = crc m ↔ feed 0 (List.zipWith Bool.xor (bitsOf l) (bitsOf m)) = 0 := by
 have e := feed_xor 0xffffffff#32 0xffffffff#32 (bitsOf l) (bitsOf m) (by rw [bitsOf_length, bitsOf_length, h])
 rw [BitVec.xor_self] at e
 have e' : feed 0 (List.zipWith Bool.xor (bitsOf l) (bitsOf m)) = feed 0xffffffff#32 (bitsOf l) ^^^ feed 0xffffffff#32 (bitsOf m) := e
 rw [e', xor_eq_zero', crc_feed, crc_feed]
 constructor
 ·intro h
  have := congrArg (fun x => ~~~ x) h
  simpa using this
 ·intro h; rw [h]
theorem burst (E : List Bool) (a : Nat) (h : ∀ i, E.getD i false = true → a ≤ i ∧ i < a + 32) : feed 0 E = 0 ↔ ∀ i, E.getD i false = false := by
 induction E generalizing a with
 | nil => simp [feed]
 | cons b E ih =>
  cases b with
  | false =>
   have e : feed 0 (false :: E) = feed 0 E := by
    show feed (cstep (0 ^^^ one32 false)) E = _
    have : cstep (0 ^^^ one32 false) = 0 := by decide
    rw [this]
   rw [e, ih (a - 1) (fun i hi => by
    have := h (i + 1) (by simpa using hi)
    omega)]
   constructor
   ·intro h i; cases i with
    | zero => rfl
    | succ i => simpa using h i
   ·intro h i; simpa using h (i + 1)
  | true =>
   have h0 := h 0 rfl
   obtain rfl : a = 0 := by omega
   constructor
   ·intro hz
    exfalso
    have hsplit : (true :: E) = (true :: E).take 32 ++ List.replicate ((true :: E).drop 32).length false := by
     conv => lhs; rw [← List.take_append_drop 32 (true :: E)]
     congr 1
     apply List.eq_replicate_of_mem
     intro b hb
     cases b with
     | false => rfl
     | true =>
      exfalso
      obtain ⟨j, hj, hjv⟩ := List.getElem_of_mem hb
      have := h (32 + j) (by
       rw [List.getD_eq_getElem?_getD, ← List.getElem?_drop, List.getElem?_eq_getElem hj, hjv]; rfl)
      omega
    rw [hsplit, feed_append, feed_zeros] at hz
    have h1 := csteps_ker _ _ hz
    rw [feed_word _ _ (by rw [List.length_take]; omega)] at h1
    have h2 := csteps_ker _ _ h1
    rw [List.take_succ_cons] at h2
    have h3 := congrArg (fun x => BitVec.getLsbD x 0) h2
    simp [bval, one32] at h3
   ·intro hz; have := hz 0; simp at this
end Go.Proofs.YtaphpbiaoofmkaaGreatDoor.Sm
namespace Go.Proofs.YtaphpbiaoofmkaaGreatDoor
open Go
section
variable {P : Program} {t : TypeId}
theorem quo32 (a b : BitVec 32) (h : b.toNat ≠ 0) : binOp .quo t (w32 a) (w32 b) = pure (w32 (a / b)) := by
 show binOp .quo t (.int .u32 _) (.int .u32 _) = _
 rw [binOp_quo]
 have ha := a.isLt
 have hz' : ¬ (b.toNat : Int) = 0 := by omega
 unfold w32
 rw [BitVec.toNat_udiv]
 have hd : a.toNat / b.toNat < 4294967296 := Nat.lt_of_le_of_lt (Nat.div_le_self _ _) ha
 simp only [Op.intDiv, if_neg hz', IntKind.wrap_u32']
 congr 2
 rw [← Int.ofNat_tdiv]
 generalize a.toNat / b.toNat = q at hd ⊢
 omega
theorem rem32 (a b : BitVec 32) (h : b.toNat ≠ 0) : binOp .rem t (w32 a) (w32 b) = pure (w32 (a % b)) := by
 show binOp .rem t (.int .u32 _) (.int .u32 _) = _
 rw [binOp_rem]
 have hz' : ¬ (b.toNat : Int) = 0 := by omega
 unfold w32
 rw [BitVec.toNat_umod]
 simp only [Op.intDiv, if_neg hz']
 congr 2
@[go_sem] theorem quo32r (a : BitVec 32) (n : Nat) (h : n < 4294967296) (h0 : 0 < n) : binOp .quo t (w32 a) (.int .u32 (no_index (OfNat.ofNat n))) = pure (w32 (a / (BitVec.ofNat 32 n))) := by
 rw [lit32 n h, quo32]; rw [BitVec.toNat_ofNat, Nat.mod_eq_of_lt h]; omega
@[go_sem] theorem rem32r (a : BitVec 32) (n : Nat) (h : n < 4294967296) (h0 : 0 < n) : binOp .rem t (w32 a) (.int .u32 (no_index (OfNat.ofNat n))) = pure (w32 (a % (BitVec.ofNat 32 n))) := by
 rw [lit32 n h, rem32]; rw [BitVec.toNat_ofNat, Nat.mod_eq_of_lt h]; omega
end
namespace Sm
theorem rem2_and (c : BitVec 32) : c % 2#32 = c &&& 1#32 := by
 apply BitVec.eq_of_toNat_eq
 rw [BitVec.toNat_umod, BitVec.toNat_and]
 exact (Nat.and_one_is_mod _).symm
theorem quo2_shr (c : BitVec 32) : c / 2#32 = c >>> 1 := by
 apply BitVec.eq_of_toNat_eq
 rw [BitVec.toNat_udiv, BitVec.toNat_ushiftRight, Nat.shiftRight_eq_div_pow]
 rfl
theorem ones_sub (c : BitVec 32) : 4294967295#32 - c = ~~~ c := by
 apply BitVec.eq_of_toNat_eq
 have := c.isLt
 rw [BitVec.toNat_sub, BitVec.toNat_not, BitVec.toNat_ofNat]
 omega
theorem div16 (b : UInt8) : b / 16 = shrB b 4 := by
 apply UInt8.toNat_inj.1
 have := b.toNat_lt
 rw [UInt8.toNat_div]
 unfold shrB
 rw [UInt8.toNat_ofNat']
 show b.toNat / 16 = b.toNat / 16 % 2 ^ 8
 omega
theorem rem16 (b : UInt8) : b % 16 = b &&& 15 := by
 apply UInt8.toNat_inj.1
 rw [UInt8.toNat_mod, UInt8.toNat_and]
 exact (Nat.and_two_pow_sub_one_eq_mod b.toNat 4).symm
theorem rot_back (x : BitVec 32) (n : Int) (h0 : 0 < n) (h : n < 32) : (x >>> n.toNat ||| x <<< (32 - n).toNat) = rot x n.toNat := by
 rw [rot, BitVec.or_comm, show (32 - n).toNat = 32 - n.toNat from by omega]
def digR (c : UInt8) : Int := if (dig c).2 then ((dig c).1.toNat : Int) else 16
theorem digR_bound (c : UInt8) : 0 ≤ digR c ∧ digR c ≤ 16 ∧ (digR c = 16 ↔ (dig c).2 = false) := by
 have h : ∀ c : Fin 256, (0 ≤ digR (UInt8.ofNat c.val) ∧ digR (UInt8.ofNat c.val) ≤ 16 ∧ (digR (UInt8.ofNat c.val) = 16 ↔ (dig (UInt8.ofNat c.val)).2 = false)) := by decide +kernel
 have h1 := h ⟨c.toNat, c.toNat_lt⟩
 simpa using h1
theorem join4 (a b : UInt8) (ha : a.toNat < 16) (hb : b.toNat < 16) : UInt8.ofInt (16 * (a.toNat : Int) + (b.toNat : Int)) = shlB a 4 ||| b := by
 have h : ∀ a b : Fin 16, UInt8.ofInt (16 * ((UInt8.ofNat a.val).toNat : Int) + ((UInt8.ofNat b.val).toNat : Int)) = shlB (UInt8.ofNat a.val) 4 ||| UInt8.ofNat b.val := by decide +kernel
 have h1 := h ⟨a.toNat, ha⟩ ⟨b.toNat, hb⟩
 simpa using h1
theorem num_last (l : List UInt8) : 32 * (nat8 l 7 : Int) + ((l.getD 7 0).toNat : Int) / 8 = (num l : Int) := by
 have h : nat8 l 8 = 256 * nat8 l 7 + (l.getD 7 0).toNat := rfl
 unfold num
 rw [h]
 generalize nat8 l 7 = n
 generalize (l.getD 7 0).toNat = b
 omega
theorem word4_nat (a b c d : Nat) (ha : a < 256) (hb : b < 256) (hc : c < 256) (hd : d < 256) :
  (((a * 2 ^ 24 % 2 ^ 32 ||| b * 2 ^ 16 % 2 ^ 32) ||| c * 2 ^ 8 % 2 ^ 32) ||| d) = a * 16777216 + b * 65536 + c * 256 + d := by
 rw [Nat.mod_eq_of_lt (show a * 2 ^ 24 < 2 ^ 32 from by omega), Nat.mod_eq_of_lt (show b * 2 ^ 16 < 2 ^ 32 from by omega), Nat.mod_eq_of_lt (show c * 2 ^ 8 < 2 ^ 32 from by omega)]
 rw [nat_join 24 (a * 2 ^ 24) (b * 2 ^ 16) (by omega) (by omega), nat_join 16 (a * 2 ^ 24 + b * 2 ^ 16) (c * 2 ^ 8) (by omega) (by omega), nat_join 8 (a * 2 ^ 24 + b * 2 ^ 16 + c * 2 ^ 8) d (by omega) (by omega)]
theorem mul_toNat (x : BitVec 32) (n : Nat) (hx : x.toNat < 256) (hn : n ≤ 16777216) : (x * BitVec.ofNat 32 n).toNat = x.toNat * n := by
 rw [BitVec.toNat_mul, BitVec.toNat_ofNat, Nat.mod_eq_of_lt (show n < 2 ^ 32 from by omega)]
 have h : x.toNat * n ≤ 255 * 16777216 := Nat.mul_le_mul (by omega) hn
 exact Nat.mod_eq_of_lt (by omega)
theorem add_toNat (x y : BitVec 32) (h : x.toNat + y.toNat < 4294967296) : (x + y).toNat = x.toNat + y.toNat := by
 rw [BitVec.toNat_add]
 exact Nat.mod_eq_of_lt (by omega)
theorem word4_sum (a b c d : UInt8) : bw a * 16777216#32 + bw b * 65536#32 + bw c * 256#32 + bw d = word4 a b c d := by
 have q : ∀ x : UInt8, (bw x).toNat = x.toNat := fun x => by
  have := x.toNat_lt
  unfold bw
  rw [BitVec.toNat_setWidth, UInt8.toNat_toBitVec, Nat.mod_eq_of_lt (by omega)]
 have ha := a.toNat_lt
 have hb := b.toNat_lt
 have hc := c.toNat_lt
 have hd := d.toNat_lt
 apply BitVec.eq_of_toNat_eq
 have m1 := mul_toNat (bw a) 16777216 (by rw [q]; exact ha) (by omega)
 have m2 := mul_toNat (bw b) 65536 (by rw [q]; exact hb) (by omega)
 have m3 := mul_toNat (bw c) 256 (by rw [q]; exact hc) (by omega)
 rw [q] at m1 m2 m3
 have s1 := add_toNat (bw a * 16777216#32) (bw b * 65536#32) (by rw [m1, m2]; omega)
 have s2 := add_toNat (bw a * 16777216#32 + bw b * 65536#32) (bw c * 256#32) (by rw [s1, m1, m2, m3]; omega)
 have s3 := add_toNat (bw a * 16777216#32 + bw b * 65536#32 + bw c * 256#32) (bw d) (by rw [s2, s1, m1, m2, m3, q]; omega)
 rw [s3, s2, s1, m1, m2, m3, q]
 unfold word4
 rw [BitVec.toNat_or, BitVec.toNat_or, BitVec.toNat_or, BitVec.toNat_shiftLeft, BitVec.toNat_shiftLeft, BitVec.toNat_shiftLeft, Nat.shiftLeft_eq, Nat.shiftLeft_eq, Nat.shiftLeft_eq, q, q, q, q]
 exact (word4_nat _ _ _ _ ha hb hc hd).symm
def padded (l : List UInt8) : List UInt8 := ending l l.length
theorem absorb_add (l : List UInt8) (st : S8) (n m : Nat) : absorb l st (n + m) = absorb (l.drop (64 * n)) (absorb l st n) m := by
 induction m with
 | zero => rfl
 | succ m ih => rw [← Nat.add_assoc, absorb, absorb, ih, List.drop_drop, show 64 * n + 64 * m = 64 * (n + m) from by omega]
theorem absorb_prefix (l r : List UInt8) (st : S8) (n : Nat) (h : 64 * n ≤ l.length) : absorb (l ++ r) st n = absorb l st n := by
 induction n with
 | zero => rfl
 | succ n ih =>
  rw [absorb, absorb, ih (by omega), List.drop_append_of_le_length (by omega), List.take_append_of_le_length (by rw [List.length_drop]; omega)]
theorem padded_split (l : List UInt8) : padded l = l.take (64 * (l.length / 64)) ++ ending (l.drop (64 * (l.length / 64))) l.length := by
 unfold padded ending
 have hz : zerosN ((l.drop (64 * (l.length / 64))).length + 1) = zerosN (l.length + 1) := by
  rw [List.length_drop]
  unfold zerosN
  omega
 rw [hz]
 simp only [← List.append_assoc, List.take_append_drop]
theorem padded_state (l : List UInt8) : absorb (padded l) init8 ((padded l).length / 64) = shaState l := by
 unfold shaState
 have hl : (l.take (64 * (l.length / 64))).length = 64 * (l.length / 64) := by rw [List.length_take]; omega
 have hs := padded_split l
 have hlen : (padded l).length / 64 = l.length / 64 + (ending (l.drop (64 * (l.length / 64))) l.length).length / 64 := by
  rw [hs, List.length_append, hl]
  omega
 rw [hlen, absorb_add]
 have e1 : (padded l).drop (64 * (l.length / 64)) = ending (l.drop (64 * (l.length / 64))) l.length := by
  rw [hs]
  exact List.drop_left' hl
 have e2 : absorb (padded l) init8 (l.length / 64) = absorb l init8 (l.length / 64) := by
  rw [hs, absorb_prefix _ _ _ _ (by omega)]
  have e := absorb_prefix (l.take (64 * (l.length / 64))) (l.drop (64 * (l.length / 64))) init8 (l.length / 64) (by rw [hl]; exact Nat.le_refl _)
  rw [List.take_append_drop] at e
  exact e.symm
 rw [e1, e2]
def outR (st : S8) (k : Nat) : List UInt8 := (List.range k).map fun i => wb (st.list.getD (i / 4) 0 >>> (24 - 8 * (i % 4)))
theorem outR_snoc (st : S8) (k : Nat) : outR st (k + 1) = outR st k ++ [wb (st.list.getD (k / 4) 0 >>> (24 - 8 * (k % 4)))] := by simp [outR, List.range_succ]
theorem outR_length (st : S8) (k : Nat) : (outR st k).length = k := by simp [outR]
theorem outR_all (st : S8) : outR st 32 = st.list.flatMap be4 := by
 obtain ⟨a, b, c, d, e, f, g, h⟩ := st
 have z : ∀ x : BitVec 32, x >>> 0 = x := fun x => by simp
 show [wb (a >>> 24), wb (a >>> 16), wb (a >>> 8), wb (a >>> 0), wb (b >>> 24), wb (b >>> 16), wb (b >>> 8), wb (b >>> 0), wb (c >>> 24), wb (c >>> 16), wb (c >>> 8), wb (c >>> 0), wb (d >>> 24), wb (d >>> 16), wb (d >>> 8), wb (d >>> 0), wb (e >>> 24), wb (e >>> 16), wb (e >>> 8), wb (e >>> 0), wb (f >>> 24), wb (f >>> 16), wb (f >>> 8), wb (f >>> 0), wb (g >>> 24), wb (g >>> 16), wb (g >>> 8), wb (g >>> 0), wb (h >>> 24), wb (h >>> 16), wb (h >>> 8), wb (h >>> 0)] = _
 simp only [z]
 rfl
end Sm
end Go.Proofs.YtaphpbiaoofmkaaGreatDoor
namespace Go.Proofs.YtaphpbiaoofmkaaGreatDoor.Sm
def addTo (r s : List (BitVec 32)) : Nat → List (BitVec 32)
 | 0 => r
 | k + 1 => (addTo r s k).set k ((addTo r s k).getD k 0 + s.getD k 0)
theorem addTo_length (r s : List (BitVec 32)) (k : Nat) : (addTo r s k).length = r.length := by
 induction k with
 | zero => rfl
 | succ k ih => rw [addTo, List.length_set, ih]
theorem addTo_all (r s : S8) : (addTo r.list s.list 8).map w32 = (s.add r).cells := by
 obtain ⟨a, b, c, d, e, f, g, h⟩ := r
 obtain ⟨a', b', c', d', e', f', g', h'⟩ := s
 show [w32 (a + a'), w32 (b + b'), w32 (c + c'), w32 (d + d'), w32 (e + e'), w32 (f + f'), w32 (g + g'), w32 (h + h')] = [w32 (a' + a), w32 (b' + b), w32 (c' + c), w32 (d' + d), w32 (e' + e), w32 (f' + f), w32 (g' + g), w32 (h' + h)]
 rw [BitVec.add_comm a, BitVec.add_comm b, BitVec.add_comm c, BitVec.add_comm d, BitVec.add_comm e, BitVec.add_comm f, BitVec.add_comm g, BitVec.add_comm h]
theorem cells_list (s : S8) : s.cells = s.list.map w32 := rfl
theorem list_length (s : S8) : s.list.length = 8 := rfl
theorem tabK_length : tabK.length = 64 := rfl
end Go.Proofs.YtaphpbiaoofmkaaGreatDoor.Sm
