/- The plain functions that package sum (layer 3) computes, on lists of bytes and words of 32 bits; nothing of the program. -/
import Derived.Test.YtjicccjpooahoaaOps
set_option linter.unusedSectionVars false
set_option linter.unusedVariables false
set_option linter.unusedSimpArgs false
namespace Go.Proofs.Ytjicccjpooahoaa.Sm
open Go
def cstep (r : BitVec 32) : BitVec 32 := if eq32 (r &&& 1#32) 1#32 then (r >>> 1) ^^^ 0x82f63b78#32 else r >>> 1
def csteps : Nat → BitVec 32 → BitVec 32
 | 0, r => r
 | n + 1, r => cstep (csteps n r)
def cbyte (r : BitVec 32) (b : UInt8) : BitVec 32 := csteps 8 (r ^^^ bw b)
def creg (l : List UInt8) : BitVec 32 := l.foldl cbyte 0xffffffff#32
def crc (l : List UInt8) : BitVec 32 := ~~~ (creg l)
theorem cstep_odd (a : BitVec 32) (h : eq32 (a &&& 1#32) 1#32 = true) : (a >>> 1) ^^^ 0x82f63b78#32 = cstep a := by rw [cstep, if_pos h]
theorem cstep_even (a : BitVec 32) (h : eq32 (a &&& 1#32) 1#32 = false) : a >>> 1 = cstep a := by rw [cstep, h]; rfl
theorem creg_snoc (l : List UInt8) (b : UInt8) : creg (l ++ [b]) = cbyte (creg l) b := by simp [creg]
theorem take_snoc (s : ByteArray) (k : Nat) (h : k < s.size) : s.data.toList.take (k + 1) = s.data.toList.take k ++ [s[k]] := by
 rw [List.take_succ_eq_append_getElem (by simpa using h)]; rfl
theorem take_all (s : ByteArray) (k : Nat) (h : ¬ k < s.size) : s.data.toList.take k = s.data.toList := List.take_of_length_le (by simp; omega)
def word4 (a b c d : UInt8) : BitVec 32 := (bw a <<< 24) ||| (bw b <<< 16) ||| (bw c <<< 8) ||| bw d
def wordAt (l : List UInt8) (i : Nat) : BitVec 32 := word4 (l.getD (4 * i) 0) (l.getD (4 * i + 1) 0) (l.getD (4 * i + 2) 0) (l.getD (4 * i + 3) 0)
def rot (x : BitVec 32) (n : Nat) : BitVec 32 := (x <<< (32 - n)) ||| (x >>> n)
def sig0 (x : BitVec 32) : BitVec 32 := rot x 7 ^^^ rot x 18 ^^^ x >>> 3
def sig1 (x : BitVec 32) : BitVec 32 := rot x 17 ^^^ rot x 19 ^^^ x >>> 10
def firstW (l : List UInt8) (k : Nat) : List (BitVec 32) := (List.range k).map (wordAt l)
def nextW (ws : List (BitVec 32)) (i : Nat) : BitVec 32 := ws.getD (i - 16) 0 + sig0 (ws.getD (i - 15) 0) + ws.getD (i - 7) 0 + sig1 (ws.getD (i - 2) 0)
def schedN (l : List UInt8) : Nat → List (BitVec 32)
 | 0 => firstW l 16
 | n + 1 => schedN l n ++ [nextW (schedN l n) (16 + n)]
def sched (l : List UInt8) : List (BitVec 32) := schedN l 48
theorem schedN_length (l : List UInt8) (n : Nat) : (schedN l n).length = 16 + n := by
 induction n with
 | zero => simp [schedN, firstW]
 | succ n ih => simp [schedN, ih]; omega
theorem firstW_length (l : List UInt8) (k : Nat) : (firstW l k).length = k := by simp [firstW]
theorem firstW_snoc (l : List UInt8) (k : Nat) : firstW l (k + 1) = firstW l k ++ [wordAt l k] := by simp [firstW, List.range_succ]
theorem sched_length (l : List UInt8) : (sched l).length = 64 := by rw [sched, schedN_length]
theorem nextW_len (l : List UInt8) (n : Nat) : schedN l (n + 1) = schedN l n ++ [nextW (schedN l n) (16 + n)] := rfl
theorem getD_app {α : Type} (l : List α) (x d : α) (j : Nat) : (l ++ [x]).getD j d = if j = l.length then x else l.getD j d := by
 simp only [List.getD_eq_getElem?_getD, List.getElem?_append]
 split
 ·rename_i h; rw [if_neg (by omega)]
 ·rename_i h
  by_cases hj : j = l.length
  ·subst hj; simp
  ·rw [if_neg hj, List.getElem?_eq_none (by simp; omega), List.getElem?_eq_none (by omega)]
theorem extract_getD (s : ByteArray) (a b i : Nat) (h : a + i < b) (hb : b ≤ s.size) (h' : i < (s.extract a b).size) : (s.extract a b)[i] = s.data.toList.getD (a + i) 0 := by
 have hs : s.data.size = s.size := rfl
 rw [ByteArray.getElem_extract, List.getD_eq_getElem?_getD, List.getElem?_eq_getElem (by simp; omega)]
 rfl
def tabK : List (BitVec 32) := [1116352408, 1899447441, 3049323471, 3921009573, 961987163, 1508970993, 2453635748, 2870763221, 3624381080, 310598401, 607225278, 1426881987, 1925078388, 2162078206, 2614888103, 3248222580, 3835390401, 4022224774, 264347078, 604807628, 770255983, 1249150122, 1555081692, 1996064986, 2554220882, 2821834349, 2952996808, 3210313671, 3336571891, 3584528711, 113926993, 338241895, 666307205, 773529912, 1294757372, 1396182291, 1695183700, 1986661051, 2177026350, 2456956037, 2730485921, 2820302411, 3259730800, 3345764771, 3516065817, 3600352804, 4094571909, 275423344, 430227734, 506948616, 659060556, 883997877, 958139571, 1322822218, 1537002063, 1747873779, 1955562222, 2024104815, 2227730452, 2361852424, 2428436474, 2756734187, 3204031479, 3329325298]
structure S8 where
 a : BitVec 32
 b : BitVec 32
 c : BitVec 32
 d : BitVec 32
 e : BitVec 32
 f : BitVec 32
 g : BitVec 32
 h : BitVec 32
def S8.list (s : S8) : List (BitVec 32) := [s.a, s.b, s.c, s.d, s.e, s.f, s.g, s.h]
def S8.cells (s : S8) : List Value := [w32 s.a, w32 s.b, w32 s.c, w32 s.d, w32 s.e, w32 s.f, w32 s.g, w32 s.h]
theorem cells_length (s : S8) : s.cells.length = 8 := rfl
theorem cells_size (s : S8) : s.cells.toArray.size = 8 := rfl
theorem cells_fit (s t : S8) : s.cells.length = t.cells.toArray.size := (cells_length s).trans (cells_size t).symm
def S8.add (s t : S8) : S8 := ⟨s.a + t.a, s.b + t.b, s.c + t.c, s.d + t.d, s.e + t.e, s.f + t.f, s.g + t.g, s.h + t.h⟩
def one8 (k x : BitVec 32) (s : S8) : BitVec 32 := s.h + (rot s.e 6 ^^^ rot s.e 11 ^^^ rot s.e 25) + ((s.e &&& s.f) ^^^ (~~~ s.e &&& s.g)) + k + x
def two8 (s : S8) : BitVec 32 := (rot s.a 2 ^^^ rot s.a 13 ^^^ rot s.a 22) + ((s.a &&& s.b) ^^^ (s.a &&& s.c) ^^^ (s.b &&& s.c))
def round8 (k x : BitVec 32) (s : S8) : S8 := ⟨one8 k x s + two8 s, s.a, s.b, s.c, s.d + one8 k x s, s.e, s.f, s.g⟩
def rounds8 (l : List UInt8) (s : S8) : Nat → S8
 | 0 => s
 | n + 1 => round8 (tabK.getD n 0) ((sched l).getD n 0) (rounds8 l s n)
def mix8 (s : S8) (l : List UInt8) : S8 := s.add (rounds8 l s 64)
def init8 : S8 := ⟨1779033703, 3144134277, 1013904242, 2773480762, 1359893119, 2600822924, 528734635, 1541459225⟩
def zerosN (m : Nat) : Nat := (120 - m % 64) % 64
def be8 (x : BitVec 64) : List UInt8 := [qb (x >>> 56), qb (x >>> 48), qb (x >>> 40), qb (x >>> 32), qb (x >>> 24), qb (x >>> 16), qb (x >>> 8), qb (x >>> 0)]
def ending (l : List UInt8) (n : Int) : List UInt8 := l ++ [128] ++ List.replicate (zerosN (l.length + 1)) 0 ++ be8 (BitVec.ofInt 64 n * 8#64)
theorem zerosN_le (m : Nat) : zerosN m < 64 := Nat.mod_lt _ (by omega)
theorem zerosN_at (m : Nat) : (m + zerosN m) % 64 = 56 := by unfold zerosN; omega
theorem zerosN_before (m z : Nat) (h : z < zerosN m) : (m + z) % 64 ≠ 56 := by unfold zerosN at h; omega
def endZ (l : List UInt8) (z : Nat) : List UInt8 := l ++ [128] ++ List.replicate z 0
theorem endZ_length (l : List UInt8) (z : Nat) : (endZ l z).length = l.length + 1 + z := by simp [endZ]; omega
theorem endZ_snoc (l : List UInt8) (z : Nat) : endZ l (z + 1) = endZ l z ++ [0] := by simp [endZ, List.replicate_succ']
def beN (x : BitVec 64) (j : Nat) : List UInt8 := (be8 x).take j
theorem beN_snoc (x : BitVec 64) (j : Nat) (h : j < 8) : beN x (j + 1) = beN x j ++ [qb (x >>> (56 - 8 * j))] := by
 rcases j with _ | _ | _ | _ | _ | _ | _ | _ | j
 all_goals first | rfl | omega
theorem ending_length (l : List UInt8) (n : Int) : (ending l n).length = l.length + 1 + zerosN (l.length + 1) + 8 := by simp [ending, be8]; omega
def absorb (l : List UInt8) (st : S8) : Nat → S8
 | 0 => st
 | n + 1 => mix8 (absorb l st n) ((l.drop (64 * n)).take 64)
def be4 (x : BitVec 32) : List UInt8 := [wb (x >>> 24), wb (x >>> 16), wb (x >>> 8), wb x]
def shaState (l : List UInt8) : S8 :=
 let st := absorb l init8 (l.length / 64)
 let tail := ending (l.drop (64 * (l.length / 64))) l.length
 absorb tail st (tail.length / 64)
def sha (l : List UInt8) : List UInt8 := (shaState l).list.flatMap be4
theorem turn_low : ∀ n : Fin 32, 0 < n.val → (BitVec.ofInt 64 (-(n.val : Int)) &&& 31#64).toNat = 32 - n.val ∧ (32#64 - (BitVec.ofInt 64 (-(n.val : Int)) &&& 31#64)).toNat = n.val := by decide +kernel
theorem rot_eq (x : BitVec 32) (n : Int) (h0 : 0 < n) (h : n < 32) : (x <<< (BitVec.ofInt 64 (-n) &&& 31#64).toNat ||| x >>> (32#64 - (BitVec.ofInt 64 (-n) &&& 31#64)).toNat) = rot x n.toNat := by
 obtain ⟨k, rfl⟩ := Int.eq_ofNat_of_zero_le (Int.le_of_lt h0)
 have := turn_low ⟨k, by omega⟩ (by simp only; omega)
 simp only at this
 rw [this.1, this.2, rot, Int.toNat_natCast]
theorem ending_blocks (l : List UInt8) (n : Int) : (ending l n).length % 64 = 0 := by
 rw [ending_length]
 have := zerosN_at (l.length + 1)
 omega
def digs : List UInt8 := [48, 49, 50, 51, 52, 53, 54, 55, 56, 57, 97, 98, 99, 100, 101, 102]
def hexd (b : UInt8) : UInt8 := digs.getD b.toNat 0
def hex2 (b : UInt8) : List UInt8 := [hexd (shrB b 4), hexd (b &&& 15)]
def hex (l : List UInt8) : List UInt8 := l.flatMap hex2
theorem hex_snoc (l : List UInt8) (b : UInt8) : hex (l ++ [b]) = hex l ++ hex2 b := by simp [hex]
theorem hex_length (l : List UInt8) : (hex l).length = 2 * l.length := by
 induction l with
 | nil => rfl
 | cons b l ih =>
  have : hex (b :: l) = hex2 b ++ hex l := rfl
  rw [this, List.length_append, ih]
  simp [hex2]; omega
theorem shr4_lt (b : UInt8) : (shrB b 4).toNat < 16 := by
 have := b.toNat_lt
 unfold shrB
 rw [UInt8.toNat_ofNat']
 omega
theorem and15_lt (b : UInt8) : (b &&& 15).toNat < 16 := by
 rw [UInt8.toNat_and]
 have : b.toNat &&& (15 : UInt8).toNat ≤ 15 := Nat.and_le_right
 omega
def dig (c : UInt8) : UInt8 × Bool := if le8 48 c && le8 c 57 then (c - 48, true) else if le8 97 c && le8 c 102 then (c - 97 + 10, true) else (0, false)
def unhexAt (l : List UInt8) : Nat → Option (List UInt8)
 | 0 => some []
 | k + 1 => match unhexAt l k with
  | none => none
  | some out => if (dig (l.getD (2 * k) 0)).2 && (dig (l.getD (2 * k + 1) 0)).2 then some (out ++ [shlB (dig (l.getD (2 * k) 0)).1 4 ||| (dig (l.getD (2 * k + 1) 0)).1]) else none
def unhex (l : List UInt8) : List UInt8 × Bool :=
 if l.length % 2 = 0 then match unhexAt l (l.length / 2) with
  | some out => (out, true)
  | none => ([], false)
 else ([], false)
theorem unhexAt_none (l : List UInt8) (k j : Nat) (h : unhexAt l k = none) (hj : k ≤ j) : unhexAt l j = none := by
 induction j with
 | zero => obtain rfl : k = 0 := by omega
           exact h
 | succ j ih =>
  rcases Nat.eq_or_lt_of_le hj with rfl | hlt
  ·exact h
  ·rw [unhexAt, ih (by omega)]
theorem unhexAt_length (l : List UInt8) (k : Nat) (out : List UInt8) (h : unhexAt l k = some out) : out.length = k := by
 induction k generalizing out with
 | zero => simp [unhexAt] at h; subst h; rfl
 | succ k ih =>
  rw [unhexAt] at h
  cases hu : unhexAt l k with
  | none => rw [hu] at h; cases h
  | some o =>
   rw [hu] at h
   simp only at h
   split at h
   ·injection h with h
    rw [← h, List.length_append, ih o hu]; rfl
   ·cases h
theorem unhex_fail (l : List UInt8) (k : Nat) (out : List UInt8) (h : unhexAt l k = some out) (hk : k < l.length / 2) (hd : ((dig (l.getD (2 * k) 0)).2 && (dig (l.getD (2 * k + 1) 0)).2) = false) : unhex l = ([], false) := by
 have h1 : unhexAt l (k + 1) = none := by rw [unhexAt, h]; simp only [hd]; rfl
 have h2 := unhexAt_none l (k + 1) (l.length / 2) h1 (by omega)
 unfold unhex
 split
 ·rw [h2]
 ·rfl
def nat8 (l : List UInt8) : Nat → Nat
 | 0 => 0
 | k + 1 => 256 * nat8 l k + (l.getD k 0).toNat
def num (l : List UInt8) : Nat := nat8 l 8 / 8
theorem nat8_lt (l : List UInt8) (k : Nat) : nat8 l k < 256 ^ k := by
 induction k with
 | zero => simp [nat8]
 | succ k ih =>
  have := (l.getD k 0).toNat_lt
  rw [nat8, Nat.pow_succ]
  omega
theorem num_step (l : List UInt8) (k : Nat) (h : k < 8) : (BitVec.ofNat 64 (nat8 l k) <<< 8 ||| bq (l.getD k 0)) = BitVec.ofNat 64 (nat8 l (k + 1)) := by
 have hlt := nat8_lt l k
 have hp : 256 ^ k ≤ 256 ^ 7 := Nat.pow_le_pow_right (by omega) (by omega)
 have hb := (l.getD k 0).toNat_lt
 rw [nat8]
 apply BitVec.eq_of_toNat_eq
 rw [BitVec.toNat_or, BitVec.toNat_shiftLeft, BitVec.toNat_ofNat, BitVec.toNat_ofNat, Nat.shiftLeft_eq]
 have hq : (bq (l.getD k 0)).toNat = (l.getD k 0).toNat := by
  unfold bq
  rw [BitVec.toNat_setWidth, UInt8.toNat_toBitVec, Nat.mod_eq_of_lt (by omega)]
 rw [hq]
 generalize (l.getD k 0).toNat = b at hb ⊢
 generalize nat8 l k = n at hlt ⊢
 have h1 : n % 2 ^ 64 = n := Nat.mod_eq_of_lt (by omega)
 rw [h1]
 have h2 : n * 2 ^ 8 % 2 ^ 64 = n * 2 ^ 8 := Nat.mod_eq_of_lt (by omega)
 rw [h2, nat_join 8 (n * 2 ^ 8) b (by omega) (by omega)]
 omega
theorem num_skip (l : List UInt8) (k : Nat) (h : k < 8) (hk : l.length ≤ k) : BitVec.ofNat 64 (nat8 l k) <<< 8 = BitVec.ofNat 64 (nat8 l (k + 1)) := by
 have h1 := num_step l k h
 have h0 : l.getD k 0 = 0 := by simp [List.getD_eq_getElem?_getD, List.getElem?_eq_none hk]
 rw [h0] at h1
 rw [← h1]
 simp [bq]
theorem num_end (l : List UInt8) : i64of ((BitVec.ofNat 64 (nat8 l 8)) >>> 3) = (num l : Int) := by
 unfold i64of
 have hlt := nat8_lt l 8
 have h1 : ((BitVec.ofNat 64 (nat8 l 8)) >>> 3).toNat = num l := by
  rw [BitVec.toNat_ushiftRight, BitVec.toNat_ofNat, Nat.mod_eq_of_lt (by omega), Nat.shiftRight_eq_div_pow]; rfl
 rw [BitVec.toInt_eq_toNat_of_lt (by rw [h1]; unfold num; omega), h1]
theorem nonempty_of {y : ByteArray} (h : 0 < y.size) : y.toList.isEmpty = false := by
 rw [ByteArray.toList_eq]
 have : y.data.toList.length = y.size := by simp
 cases hh : y.data.toList with
 | nil => rw [hh] at this; simp at this; omega
 | cons a l => rfl
theorem empty_of {y : ByteArray} (h : ¬ 0 < y.size) : y.toList.isEmpty = true := by
 rw [ByteArray.toList_eq]
 have : y.data.toList.length = y.size := by simp
 cases hh : y.data.toList with
 | nil => rfl
 | cons a l => rw [hh] at this; simp at this; omega
theorem digest_snoc (st : S8) (j : Nat) (h : j < 8) : (st.list.take (j + 1)).flatMap be4 = (st.list.take j).flatMap be4 ++ be4 (st.list.getD j 0) := by
 rcases j with _ | _ | _ | _ | _ | _ | _ | _ | j
 all_goals first | rfl | omega
theorem size64 (r : ByteArray) (h : 64 ≤ r.size) : (r.extract 0 64).size = 64 := by rw [ByteArray.size_extract]; omega
theorem take64 (r : ByteArray) : (r.extract 0 64).data.toList = r.data.toList.take 64 := by
 simp [ByteArray.data_extract]
theorem drop64 (r : ByteArray) (b : Nat) (h : r.size ≤ b) : (r.extract 64 b).data.toList = r.data.toList.drop 64 := by
 have : r.data.toList.length = r.size := by simp
 rw [ByteArray.data_extract, Array.toList_extract, List.extract_eq_take_drop, List.take_of_length_le (by simp; omega)]
end Go.Proofs.Ytjicccjpooahoaa.Sm
