/- Plain laws: what the reference of package sum computes is what sum computes; and rules for division of words of 32 bits. -/
import Derived.Test.YthbpbkbjdfcnjaaGreatDoorSumPb
namespace Go.Proofs.YthbpbkbjdfcnjaaGreatDoor
set_option linter.unusedSectionVars false
set_option linter.unusedVariables false
set_option linter.unusedSimpArgs false
open Go
section
variable {P : Program} {t : TypeId}
theorem quo32 (a b : BitVec 32) (h : b.toNat ≠ 0) : binOp .quo t (w32 a) (w32 b) = pure (w32 (a / b)) := by
  show binOp .quo t (.int .u32 _) (.int .u32 _) = _
  rw [binOp_quo]
  have ha := a.isLt
  have hz' : ¬ (b.toNat : Int) = 0 := by omega
  unfold w32
  rw [BitVec.toNat_udiv]
  have hd : a.toNat / b.toNat < 4294967296 := Nat.lt_of_le_of_lt (Nat.div_le_self _ _) ha
  simp only [Op.intDiv, if_neg hz', IntKind.wrap_u32']
  congr 2
  rw [← Int.ofNat_tdiv]
  generalize a.toNat / b.toNat = q at hd ⊢
  omega
theorem rem32 (a b : BitVec 32) (h : b.toNat ≠ 0) : binOp .rem t (w32 a) (w32 b) = pure (w32 (a % b)) := by
  show binOp .rem t (.int .u32 _) (.int .u32 _) = _
  rw [binOp_rem]
  have hz' : ¬ (b.toNat : Int) = 0 := by omega
  unfold w32
  rw [BitVec.toNat_umod]
  simp only [Op.intDiv, if_neg hz']
  congr 2
@[go_sem] theorem quo32r (a : BitVec 32) (n : Nat) (h : n < 4294967296) (h0 : 0 < n) : binOp .quo t (w32 a) (.int .u32 (no_index (OfNat.ofNat n))) = pure (w32 (a / (BitVec.ofNat 32 n))) := by
  rw [lit32 n h, quo32]; rw [BitVec.toNat_ofNat, Nat.mod_eq_of_lt h]; omega
@[go_sem] theorem rem32r (a : BitVec 32) (n : Nat) (h : n < 4294967296) (h0 : 0 < n) : binOp .rem t (w32 a) (.int .u32 (no_index (OfNat.ofNat n))) = pure (w32 (a % (BitVec.ofNat 32 n))) := by
  rw [lit32 n h, rem32]; rw [BitVec.toNat_ofNat, Nat.mod_eq_of_lt h]; omega
end
namespace Sm
set_option linter.unusedSectionVars false
set_option linter.unusedVariables false
set_option linter.unusedSimpArgs false
theorem rem2_and (c : BitVec 32) : c % 2#32 = c &&& 1#32 := by
  apply BitVec.eq_of_toNat_eq
  rw [BitVec.toNat_umod, BitVec.toNat_and]
  exact (Nat.and_one_is_mod _).symm
theorem quo2_shr (c : BitVec 32) : c / 2#32 = c >>> 1 := by
  apply BitVec.eq_of_toNat_eq
  rw [BitVec.toNat_udiv, BitVec.toNat_ushiftRight, Nat.shiftRight_eq_div_pow]
  rfl
theorem ones_sub (c : BitVec 32) : 4294967295#32 - c = ~~~ c := by
  apply BitVec.eq_of_toNat_eq
  have := c.isLt
  rw [BitVec.toNat_sub, BitVec.toNat_not, BitVec.toNat_ofNat]
  omega
theorem div16 (b : UInt8) : b / 16 = shrB b 4 := by
  apply UInt8.toNat_inj.1
  have := b.toNat_lt
  rw [UInt8.toNat_div]
  unfold shrB
  rw [UInt8.toNat_ofNat']
  show b.toNat / 16 = b.toNat / 16 % 2 ^ 8
  omega
theorem rem16 (b : UInt8) : b % 16 = b &&& 15 := by
  apply UInt8.toNat_inj.1
  rw [UInt8.toNat_mod, UInt8.toNat_and]
  exact (Nat.and_two_pow_sub_one_eq_mod b.toNat 4).symm
theorem rot_back (x : BitVec 32) (n : Int) (h0 : 0 < n) (h : n < 32) : (x >>> n.toNat ||| x <<< (32 - n).toNat) = rot x n.toNat := by
  rw [rot, BitVec.or_comm, show (32 - n).toNat = 32 - n.toNat from by omega]
/-- the value of a digit as the reference has it -/
def digR (c : UInt8) : Int := if (dig c).2 then ((dig c).1.toNat : Int) else 16
theorem digR_bound (c : UInt8) : 0 ≤ digR c ∧ digR c ≤ 16 ∧ (digR c = 16 ↔ (dig c).2 = false) := by
  have h : ∀ c : Fin 256, (0 ≤ digR (UInt8.ofNat c.val) ∧ digR (UInt8.ofNat c.val) ≤ 16 ∧ (digR (UInt8.ofNat c.val) = 16 ↔ (dig (UInt8.ofNat c.val)).2 = false)) := by decide +kernel
  have h1 := h ⟨c.toNat, c.toNat_lt⟩
  simpa using h1
theorem join4 (a b : UInt8) (ha : a.toNat < 16) (hb : b.toNat < 16) : UInt8.ofInt (16 * (a.toNat : Int) + (b.toNat : Int)) = shlB a 4 ||| b := by
  have h : ∀ a b : Fin 16, UInt8.ofInt (16 * ((UInt8.ofNat a.val).toNat : Int) + ((UInt8.ofNat b.val).toNat : Int)) = shlB (UInt8.ofNat a.val) 4 ||| UInt8.ofNat b.val := by decide +kernel
  have h1 := h ⟨a.toNat, ha⟩ ⟨b.toNat, hb⟩
  simpa using h1
theorem num_last (l : List UInt8) : 32 * (nat8 l 7 : Int) + ((l.getD 7 0).toNat : Int) / 8 = (num l : Int) := by
  have h : nat8 l 8 = 256 * nat8 l 7 + (l.getD 7 0).toNat := rfl
  unfold num
  rw [h]
  generalize nat8 l 7 = n
  generalize (l.getD 7 0).toNat = b
  omega
theorem word4_nat (a b c d : Nat) (ha : a < 256) (hb : b < 256) (hc : c < 256) (hd : d < 256) :
    (((a * 2 ^ 24 % 2 ^ 32 ||| b * 2 ^ 16 % 2 ^ 32) ||| c * 2 ^ 8 % 2 ^ 32) ||| d) = a * 16777216 + b * 65536 + c * 256 + d := by
  rw [Nat.mod_eq_of_lt (show a * 2 ^ 24 < 2 ^ 32 from by omega), Nat.mod_eq_of_lt (show b * 2 ^ 16 < 2 ^ 32 from by omega), Nat.mod_eq_of_lt (show c * 2 ^ 8 < 2 ^ 32 from by omega)]
  rw [nat_join 24 (a * 2 ^ 24) (b * 2 ^ 16) (by omega) (by omega), nat_join 16 (a * 2 ^ 24 + b * 2 ^ 16) (c * 2 ^ 8) (by omega) (by omega), nat_join 8 (a * 2 ^ 24 + b * 2 ^ 16 + c * 2 ^ 8) d (by omega) (by omega)]
theorem mul_toNat (x : BitVec 32) (n : Nat) (hx : x.toNat < 256) (hn : n ≤ 16777216) : (x * BitVec.ofNat 32 n).toNat = x.toNat * n := by
  rw [BitVec.toNat_mul, BitVec.toNat_ofNat, Nat.mod_eq_of_lt (show n < 2 ^ 32 from by omega)]
  have h : x.toNat * n ≤ 255 * 16777216 := Nat.mul_le_mul (by omega) hn
  exact Nat.mod_eq_of_lt (by omega)
theorem add_toNat (x y : BitVec 32) (h : x.toNat + y.toNat < 4294967296) : (x + y).toNat = x.toNat + y.toNat := by
  rw [BitVec.toNat_add]
  exact Nat.mod_eq_of_lt (by omega)
theorem word4_sum (a b c d : UInt8) : bw a * 16777216#32 + bw b * 65536#32 + bw c * 256#32 + bw d = word4 a b c d := by
  have q : ∀ x : UInt8, (bw x).toNat = x.toNat := fun x => by
    have := x.toNat_lt
    unfold bw
    rw [BitVec.toNat_setWidth, UInt8.toNat_toBitVec, Nat.mod_eq_of_lt (by omega)]
  have ha := a.toNat_lt
  have hb := b.toNat_lt
  have hc := c.toNat_lt
  have hd := d.toNat_lt
  apply BitVec.eq_of_toNat_eq
  have m1 := mul_toNat (bw a) 16777216 (by rw [q]; exact ha) (by omega)
  have m2 := mul_toNat (bw b) 65536 (by rw [q]; exact hb) (by omega)
  have m3 := mul_toNat (bw c) 256 (by rw [q]; exact hc) (by omega)
  rw [q] at m1 m2 m3
  have s1 := add_toNat (bw a * 16777216#32) (bw b * 65536#32) (by rw [m1, m2]; omega)
  have s2 := add_toNat (bw a * 16777216#32 + bw b * 65536#32) (bw c * 256#32) (by rw [s1, m1, m2, m3]; omega)
  have s3 := add_toNat (bw a * 16777216#32 + bw b * 65536#32 + bw c * 256#32) (bw d) (by rw [s2, s1, m1, m2, m3, q]; omega)
  rw [s3, s2, s1, m1, m2, m3, q]
  unfold word4
  rw [BitVec.toNat_or, BitVec.toNat_or, BitVec.toNat_or, BitVec.toNat_shiftLeft, BitVec.toNat_shiftLeft, BitVec.toNat_shiftLeft, Nat.shiftLeft_eq, Nat.shiftLeft_eq, Nat.shiftLeft_eq, q, q, q, q]
  exact (word4_nat _ _ _ _ ha hb hc hd).symm
/- the digest: all blocks of the padded string -/
def padded (l : List UInt8) : List UInt8 := ending l l.length
theorem absorb_add (l : List UInt8) (st : S8) (n m : Nat) : absorb l st (n + m) = absorb (l.drop (64 * n)) (absorb l st n) m := by
  induction m with
  | zero => rfl
  | succ m ih => rw [← Nat.add_assoc, absorb, absorb, ih, List.drop_drop, show 64 * n + 64 * m = 64 * (n + m) from by omega]
theorem absorb_prefix (l r : List UInt8) (st : S8) (n : Nat) (h : 64 * n ≤ l.length) : absorb (l ++ r) st n = absorb l st n := by
  induction n with
  | zero => rfl
  | succ n ih =>
    rw [absorb, absorb, ih (by omega), List.drop_append_of_le_length (by omega), List.take_append_of_le_length (by rw [List.length_drop]; omega)]
theorem padded_split (l : List UInt8) : padded l = l.take (64 * (l.length / 64)) ++ ending (l.drop (64 * (l.length / 64))) l.length := by
  unfold padded ending
  have hz : zerosN ((l.drop (64 * (l.length / 64))).length + 1) = zerosN (l.length + 1) := by
    rw [List.length_drop]
    unfold zerosN
    omega
  rw [hz]
  simp only [← List.append_assoc, List.take_append_drop]
theorem padded_state (l : List UInt8) : absorb (padded l) init8 ((padded l).length / 64) = shaState l := by
  unfold shaState
  have hl : (l.take (64 * (l.length / 64))).length = 64 * (l.length / 64) := by rw [List.length_take]; omega
  have hs := padded_split l
  have hlen : (padded l).length / 64 = l.length / 64 + (ending (l.drop (64 * (l.length / 64))) l.length).length / 64 := by
    rw [hs, List.length_append, hl]
    omega
  rw [hlen, absorb_add]
  have e1 : (padded l).drop (64 * (l.length / 64)) = ending (l.drop (64 * (l.length / 64))) l.length := by
    rw [hs]
    exact List.drop_left' hl
  have e2 : absorb (padded l) init8 (l.length / 64) = absorb l init8 (l.length / 64) := by
    rw [hs, absorb_prefix _ _ _ _ (by omega)]
    have e := absorb_prefix (l.take (64 * (l.length / 64))) (l.drop (64 * (l.length / 64))) init8 (l.length / 64) (by rw [hl]; exact Nat.le_refl _)
    rw [List.take_append_drop] at e
    exact e.symm
  rw [e1, e2]
def outR (st : S8) (k : Nat) : List UInt8 := (List.range k).map fun i => wb (st.list.getD (i / 4) 0 >>> (24 - 8 * (i % 4)))
theorem outR_snoc (st : S8) (k : Nat) : outR st (k + 1) = outR st k ++ [wb (st.list.getD (k / 4) 0 >>> (24 - 8 * (k % 4)))] := by simp [outR, List.range_succ]
theorem outR_length (st : S8) (k : Nat) : (outR st k).length = k := by simp [outR]
theorem outR_all (st : S8) : outR st 32 = st.list.flatMap be4 := by
  obtain ⟨a, b, c, d, e, f, g, h⟩ := st
  have z : ∀ x : BitVec 32, x >>> 0 = x := fun x => by simp
  show [wb (a >>> 24), wb (a >>> 16), wb (a >>> 8), wb (a >>> 0), wb (b >>> 24), wb (b >>> 16), wb (b >>> 8), wb (b >>> 0), wb (c >>> 24), wb (c >>> 16), wb (c >>> 8), wb (c >>> 0), wb (d >>> 24), wb (d >>> 16), wb (d >>> 8), wb (d >>> 0), wb (e >>> 24), wb (e >>> 16), wb (e >>> 8), wb (e >>> 0), wb (f >>> 24), wb (f >>> 16), wb (f >>> 8), wb (f >>> 0), wb (g >>> 24), wb (g >>> 16), wb (g >>> 8), wb (g >>> 0), wb (h >>> 24), wb (h >>> 16), wb (h >>> 8), wb (h >>> 0)] = _
  simp only [z]
  rfl
end Sm
end Go.Proofs.YthbpbkbjdfcnjaaGreatDoor
namespace Go.Proofs.YthbpbkbjdfcnjaaGreatDoor.Sm
set_option linter.unusedSectionVars false
set_option linter.unusedVariables false
set_option linter.unusedSimpArgs false
/-- the first k words of s added in place -/
def addTo (r s : List (BitVec 32)) : Nat → List (BitVec 32)
  | 0 => r
  | k + 1 => (addTo r s k).set k ((addTo r s k).getD k 0 + s.getD k 0)
theorem addTo_length (r s : List (BitVec 32)) (k : Nat) : (addTo r s k).length = r.length := by
  induction k with
  | zero => rfl
  | succ k ih => rw [addTo, List.length_set, ih]
theorem addTo_all (r s : S8) : (addTo r.list s.list 8).map w32 = (s.add r).cells := by
  obtain ⟨a, b, c, d, e, f, g, h⟩ := r
  obtain ⟨a', b', c', d', e', f', g', h'⟩ := s
  show [w32 (a + a'), w32 (b + b'), w32 (c + c'), w32 (d + d'), w32 (e + e'), w32 (f + f'), w32 (g + g'), w32 (h + h')] = [w32 (a' + a), w32 (b' + b), w32 (c' + c), w32 (d' + d), w32 (e' + e), w32 (f' + f), w32 (g' + g), w32 (h' + h)]
  rw [BitVec.add_comm a, BitVec.add_comm b, BitVec.add_comm c, BitVec.add_comm d, BitVec.add_comm e, BitVec.add_comm f, BitVec.add_comm g, BitVec.add_comm h]
theorem cells_list (s : S8) : s.cells = s.list.map w32 := rfl
theorem list_length (s : S8) : s.list.length = 8 := rfl
theorem tabK_length : tabK.length = 64 := rfl
end Go.Proofs.YthbpbkbjdfcnjaaGreatDoor.Sm
