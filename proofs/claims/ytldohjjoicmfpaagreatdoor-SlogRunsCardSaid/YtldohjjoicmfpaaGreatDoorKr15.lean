/- A part. -/
import Derived.Test.YtldohjjoicmfpaaGreatDoorKr14
set_option linter.unusedSectionVars false
set_option linter.unusedVariables false
set_option linter.unusedSimpArgs false
namespace Go.Proofs.YtldohjjoicmfpaaGreatDoor
section
namespace Pe
open Tryz
open Go Go.RowKit Co
set_option maxRecDepth 100000
set_option maxHeartbeats 4000000
theorem TZ : ∀ (f n : Nat), n < f → n < 9223372036854775808 → AC prog 110 [.it .i64 n] [] (.st (num n)) []
 | 0, n, h, _ => absurd h (Nat.not_lt_zero _)
 | f + 1, n, hf, hn => by
  by_cases hs : n < 128
  ·refine Ai [110] [] func110 ?_
   have h0 : ¬ (n : Int) < 0 := by omega
   have h1 : (n : Int) < 128 := by omega
   have hw : IntKind.u8.wrap (n : Int) = (n : Int) := JJ (by omega) (by omega)
   have hb : bytesOf [AV.it .u8 (n : Int)] = some [UInt8.ofNat n] := by
    rw [show (AV.it .u8 (n : Int)) = u8 (UInt8.ofNat n) from by unfold u8; rw [Kg (by omega)]]
    exact JA [UInt8.ofNat n]
   rw [F7 hs];refine Aa (A4 h0 h1 hw hb) ?_;exact Ab
  ·have ih := TZ f (n / 128) (by omega) (by omega)
   refine Ai [110] [] func110 ?_;have h0 : ¬ (n : Int) < 0 := by omega
   have h1 : ¬ (n : Int) < 128 := by omega
   have hm : (n : Int).tmod 128 = ((n % 128 : Nat) : Int) := by rw [Int.tmod_eq_emod_of_nonneg (by omega)]; omega
   have hd : (n : Int).tdiv 128 = ((n / 128 : Nat) : Int) := by rw [Int.tdiv_eq_ediv_of_nonneg (by omega)]; omega
   have hw : IntKind.u8.wrap (128 + ((n % 128 : Nat) : Int)) = ((128 + n % 128 : Nat) : Int) := by rw [show (128 : Int) + ((n % 128 : Nat) : Int) = ((128 + n % 128 : Nat) : Int) from by omega]; exact JJ (by omega) (by omega)
   have hb : bytesOf [AV.it .u8 ((128 + n % 128 : Nat) : Int)] = some [UInt8.ofNat (128 + n % 128)] := by
    rw [show (AV.it .u8 ((128 + n % 128 : Nat) : Int)) = u8 (UInt8.ofNat (128 + n % 128)) from by unfold u8; rw [Kg (by omega)]]
    exact JA [UInt8.ofNat (128 + n % 128)]
   have hl := Ef (n := n / 128) (by omega)
   rw [Ic hs];refine Aa (A6 h0 h1 hm hd hw hb) ?_;refine cp ih ?_;refine run ?_;exact Ab
theorem Bi (n : Int) (h : n < 9223372036854775808) : AC prog 110 [.it .i64 n] [] (.st (Ah n)) [] := by
 by_cases h0 : n < 0
 ·refine Ai [110] [] func110 ?_
  rw [show Ah n = [] from by unfold Ah; rw [if_pos h0]]
  refine run ?_;exact Ab
 ·obtain ⟨m, rfl⟩ : ∃ m : Nat, n = (m : Int) := ⟨n.toNat, by omega⟩
  rw [E9];exact TZ (m + 1) m (by omega) (by omega)
theorem Cg (s : By) (h : s.length ≤ 1000000000) : AC prog 183 [.st s] [] (.st (text s)) [] := by
 refine Ai [110] [] func183 ?_;have k := Bi (s.length : Int) (by omega)
 rw [E9] at k;have hl := Ef (n := s.length) (by omega)
 unfold text;refine run ?_;refine cp k ?_;refine run ?_;exact Ab
end Pe
namespace Pe
open Tryz
open Go Go.RowKit Co Sg
set_option maxRecDepth 100000
set_option maxHeartbeats 4000000
theorem ZdH (a m : Int) (hm : 0 < m) : a % m = if a.tmod m < 0 then a.tmod m + m else a.tmod m := by
 rw [Int.emod_eq_tmod];have hb := Int.emod_nonneg a (show m ≠ 0 by omega)
 have ht := Int.tmod_lt_of_pos a hm;by_cases h0 : 0 ≤ a
 ·have := Int.tmod_nonneg m h0
  rw [if_pos (.inl h0), if_neg (by omega)]; omega
 ·by_cases hd : m ∣ a
  ·rw [if_pos (.inr hd), Int.tmod_eq_zero_of_dvd hd]; simp
  ·have hneg : a.tmod m < 0 := by
    have h2 := Int.emod_eq_tmod (a := a) (b := m);rw [if_neg (by rintro (h | h); exact h0 h; exact hd h)] at h2
    have h3 := Int.emod_lt_of_pos a hm
    have : (m.natAbs : Int) = m := by omega
    omega
   rw [if_neg (by rintro (h | h); exact h0 h; exact hd h), if_pos hneg]
   omega
theorem Wt (a : Nat) (ha : a < 18446744073709551616) : Go.bits .and .u64 (a : Int) 2147483647 = ((a % 2147483648 : Nat) : Int) := by
 have := bits_nat .and Nat.land (.inl ⟨rfl, rfl⟩) a 2147483647 ha (by omega) .u64 (.inl rfl)
 have e : Nat.land a 2147483647 = a % 2147483648 := Nat.and_two_pow_sub_one_eq_mod a 31;rw [e] at this;exact this.trans (C3 (by omega))
theorem Wu (a : Nat) (ha : a < 18446744073709551616) : Go.bits .and .u64 (a : Int) 1073741823 = ((a % 1073741824 : Nat) : Int) := by
 have := bits_nat .and Nat.land (.inl ⟨rfl, rfl⟩) a 1073741823 ha (by omega) .u64 (.inl rfl)
 have e : Nat.land a 1073741823 = a % 1073741824 := Nat.and_two_pow_sub_one_eq_mod a 30;rw [e] at this;exact this.trans (C3 (by omega))
theorem P7 {n : Nat} (h : n < 9223372036854775808) : IntKind.i64.wrap (n : Int) = (n : Int) := wrap64 (by omega) (by omega)
theorem ST (x0 x1 y0 y1 : Nat) : (x1 * 2147483648 + x0) * (y1 * 2147483648 + y0) = x1 * y1 * 4611686018427387904 + (x1 * y0 + x0 * y1) * 2147483648 + x0 * y0 := by
 grind
theorem F3 (a m : Int) (hm : 0 < m) (hm' : m < 4611686018427387904) (ha : -9223372036854775808 ≤ a ∧ a ≤ 9223372036854775807) : AC prog 202 [.it .i64 a, .it .i64 m] [] (.it .i64 (a % m)) [] := by
 refine Ai [] [] func202 ?_;have h1 := ZdH a m hm;have h2 : -m ≤ a.tmod m ∧ a.tmod m < m := by
  have hb := Int.emod_nonneg a (show m ≠ 0 by omega)
  have hc := Int.emod_lt_of_pos a hm;have ht := Int.tmod_lt_of_pos a hm;split at h1 <;> omega
 have hm0 : m ≠ 0 := by omega
 obtain ⟨t, ht⟩ : ∃ t, a.tmod m = t := ⟨_, rfl⟩
 rw [ht] at h1 h2;rw [h1];by_cases h0 : t < 0
 ·rw [if_pos h0]
  refine Aa (an ht hm0) ?_;exact Ab
 ·rw [if_neg h0]
  refine Aa (an ht hm0) ?_;exact Ab
theorem Rr (a b : Nat) (ha : a < 2305843009213693952) (hb : b < 2305843009213693952) : AC prog 248 [.it .i64 a, .it .i64 b] [] (.tup [.it .u64 ((a / 2147483648 * (b / 2147483648) : Nat) : Int), .it .u64 ((a / 2147483648 * (b % 2147483648) + a % 2147483648 * (b / 2147483648) : Nat) : Int), .it .u64 ((a % 2147483648 * (b % 2147483648) : Nat) : Int)]) [] := by
 refine Ai [] [] func248 ?_;have wa := C3 (n := a) (by omega)
 have wb := C3 (n := b) (by omega)
 have hx0 := Wt a (by omega)
 have hy0 := Wt b (by omega)
 have hx1 := Cw a 31 31 rfl (by omega)
 have hy1 := Cw b 31 31 rfl (by omega)
 rw [show (2 : Nat) ^ 31 = 2147483648 from rfl] at hx1 hy1
 have b0 : a % 2147483648 ≤ 2147483647 := by omega
 have b1 : a / 2147483648 ≤ 1073741823 := by omega
 have b2 : b % 2147483648 ≤ 2147483647 := by omega
 have b3 : b / 2147483648 ≤ 1073741823 := by omega
 generalize a % 2147483648 = x0 at *;generalize a / 2147483648 = x1 at *;generalize b % 2147483648 = y0 at *;generalize b / 2147483648 = y1 at *;have p00 : x0 * y0 ≤ 2147483647 * 2147483647 := Nat.mul_le_mul b0 b2;have p10 : x1 * y0 ≤ 1073741823 * 2147483647 := Nat.mul_le_mul b1 b2;have p01 : x0 * y1 ≤ 2147483647 * 1073741823 := Nat.mul_le_mul b0 b3;have p11 : x1 * y1 ≤ 1073741823 * 1073741823 := Nat.mul_le_mul b1 b3;have c00 : ((x0 : Int) * (y0 : Int)) = ((x0 * y0 : Nat) : Int) := by push_cast; rfl
 have c10 : ((x1 : Int) * (y0 : Int)) = ((x1 * y0 : Nat) : Int) := by push_cast; rfl
 have c01 : ((x0 : Int) * (y1 : Int)) = ((x0 * y1 : Nat) : Int) := by push_cast; rfl
 have c11 : ((x1 : Int) * (y1 : Int)) = ((x1 * y1 : Nat) : Int) := by push_cast; rfl
 generalize x0 * y0 = q00 at *;generalize x1 * y0 = q10 at *;generalize x0 * y1 = q01 at *;generalize x1 * y1 = q11 at *;have w00 : IntKind.u64.wrap (q00 : Int) = (q00 : Int) := C3 (by omega)
 have w10 : IntKind.u64.wrap (q10 : Int) = (q10 : Int) := C3 (by omega)
 have w01 : IntKind.u64.wrap (q01 : Int) = (q01 : Int) := C3 (by omega)
 have w11 : IntKind.u64.wrap (q11 : Int) = (q11 : Int) := C3 (by omega)
 have ws : IntKind.u64.wrap ((q10 : Int) + (q01 : Int)) = ((q10 + q01 : Nat) : Int) := by rw [AM]; omega
 refine Aa (an wa (an @wb (an hx0 (an hy0 (Bg hx1 hy1 c00 c10 c01 c11 w00 w10 w01 w11 ws))))) ?_;exact Ab
theorem RC (a b : Int) (ha : -9223372036854775808 ≤ a ∧ a ≤ 9223372036854775807) (hb : -9223372036854775808 ≤ b ∧ b ≤ 9223372036854775807) : AC prog 203 [.it .i64 a, .it .i64 b] [] (.it .i64 (Ig a b : Nat)) [] := by
 refine Ai [202, 248] [] func203 ?_;unfold Ig;have a1 := Int.emod_nonneg a (show (2305843009213693951 : Int) ≠ 0 by omega)
 have a2 := Int.emod_lt_of_pos a (show (0 : Int) < 2305843009213693951 by omega)
 have b1 := Int.emod_nonneg b (show (2305843009213693951 : Int) ≠ 0 by omega)
 have b2 := Int.emod_lt_of_pos b (show (0 : Int) < 2305843009213693951 by omega)
 obtain ⟨x, hx⟩ := Int.eq_ofNat_of_zero_le a1;obtain ⟨y, hy⟩ := Int.eq_ofNat_of_zero_le b1;have ra := F3 a 2305843009213693951 (by omega) (by omega) ha
 have rb := F3 b 2305843009213693951 (by omega) (by omega) hb
 rw [hx] at ra a1 a2 ⊢;rw [hy] at rb b1 b2 ⊢;rw [Int.toNat_natCast, Int.toNat_natCast];have hm := Rr x y (by omega) (by omega)
 have hxy : x * y = x / 2147483648 * (y / 2147483648) * 4611686018427387904 + (x / 2147483648 * (y % 2147483648) + x % 2147483648 * (y / 2147483648)) * 2147483648 + x % 2147483648 * (y % 2147483648) := by
  rw [← ST, Nat.div_add_mod', Nat.div_add_mod']
 have d0 : x % 2147483648 ≤ 2147483647 := by omega
 have d1 : x / 2147483648 ≤ 1073741823 := by omega
 have d2 : y % 2147483648 ≤ 2147483647 := by omega
 have d3 : y / 2147483648 ≤ 1073741823 := by omega
 generalize x % 2147483648 = x0 at *;generalize x / 2147483648 = x1 at *;generalize y % 2147483648 = y0 at *;generalize y / 2147483648 = y1 at *;have p00 : x0 * y0 ≤ 2147483647 * 2147483647 := Nat.mul_le_mul d0 d2;have p10 : x1 * y0 ≤ 1073741823 * 2147483647 := Nat.mul_le_mul d1 d2;have p01 : x0 * y1 ≤ 2147483647 * 1073741823 := Nat.mul_le_mul d0 d3;have p11 : x1 * y1 ≤ 1073741823 * 1073741823 := Nat.mul_le_mul d1 d3;have hmid : x1 * y0 + x0 * y1 ≤ 4611686018427387904 := by omega
 generalize x1 * y0 + x0 * y1 = md at *;generalize x1 * y1 = hi at *;generalize x0 * y0 = lo at *;generalize x * y = xy at *;have k1 := Cw md 30 30 rfl (by omega)
 rw [show (2 : Nat) ^ 30 = 1073741824 from rfl] at k1
 have k2 := Wu md (by omega)
 have k3 := GF (md % 1073741824) 31 31 rfl (by omega)
 have e3 : md % 1073741824 * 2 ^ 31 % 18446744073709551616 = md % 1073741824 * 2147483648 := by omega
 rw [e3] at k3;have k4 : IntKind.u64.wrap (2 * (hi : Int)) = ((2 * hi : Nat) : Int) := by rw [AM]; omega
 have k5 : IntKind.u64.wrap (((2 * hi : Nat) : Int) + ((md / 1073741824 : Nat) : Int)) = ((2 * hi + md / 1073741824 : Nat) : Int) := by rw [AM]; omega
 have k6 : IntKind.u64.wrap (((2 * hi + md / 1073741824 : Nat) : Int) + ((md % 1073741824 * 2147483648 : Nat) : Int)) = ((2 * hi + md / 1073741824 + md % 1073741824 * 2147483648 : Nat) : Int) := by rw [AM]; omega
 have k7 : IntKind.u64.wrap (((2 * hi + md / 1073741824 + md % 1073741824 * 2147483648 : Nat) : Int) + (lo : Int)) = ((2 * hi + md / 1073741824 + md % 1073741824 * 2147483648 + lo : Nat) : Int) := by rw [AM]; omega
 have k8 : ((2 * hi + md / 1073741824 + md % 1073741824 * 2147483648 + lo : Nat) : Int).tmod 2305843009213693951 = ((xy % 2305843009213693951 : Nat) : Int) := by
  rw [Int.tmod_eq_emod_of_nonneg (by omega)]; omega
 have k9 : IntKind.i64.wrap ((xy % 2305843009213693951 : Nat) : Int) = ((xy % 2305843009213693951 : Nat) : Int) := P7 (by omega)
 refine run ?_;refine cp ra ?_;refine run ?_;refine cp rb ?_;refine run ?_;refine cp hm ?_;refine Aa (A9 k1 k2 k3 @k4 @k5 k6 k7 k8 k9) ?_;exact Ab
theorem Zad (a b : Int) (ha : -9223372036854775808 ≤ a ∧ a ≤ 9223372036854775807) (hb : -9223372036854775808 ≤ b ∧ b ≤ 9223372036854775807) : AC prog 186 [.it .i64 a, .it .i64 b] [] (.it .i64 (D3 a b : Nat)) [] := by
 refine Ai [202, 248] [] func186 ?_;unfold D3;have a1 := Int.emod_nonneg a (show (2305843009213693950 : Int) ≠ 0 by omega)
 have a2 := Int.emod_lt_of_pos a (show (0 : Int) < 2305843009213693950 by omega)
 have b1 := Int.emod_nonneg b (show (2305843009213693950 : Int) ≠ 0 by omega)
 have b2 := Int.emod_lt_of_pos b (show (0 : Int) < 2305843009213693950 by omega)
 obtain ⟨x, hx⟩ := Int.eq_ofNat_of_zero_le a1;obtain ⟨y, hy⟩ := Int.eq_ofNat_of_zero_le b1;have ra := F3 a 2305843009213693950 (by omega) (by omega) ha
 have rb := F3 b 2305843009213693950 (by omega) (by omega) hb
 rw [hx] at ra a1 a2 ⊢;rw [hy] at rb b1 b2 ⊢;rw [Int.toNat_natCast, Int.toNat_natCast];have hm := Rr x y (by omega) (by omega)
 have hxy : x * y = x / 2147483648 * (y / 2147483648) * 4611686018427387904 + (x / 2147483648 * (y % 2147483648) + x % 2147483648 * (y / 2147483648)) * 2147483648 + x % 2147483648 * (y % 2147483648) := by
  rw [← ST, Nat.div_add_mod', Nat.div_add_mod']
 have d0 : x % 2147483648 ≤ 2147483647 := by omega
 have d1 : x / 2147483648 ≤ 1073741823 := by omega
 have d2 : y % 2147483648 ≤ 2147483647 := by omega
 have d3 : y / 2147483648 ≤ 1073741823 := by omega
 generalize x % 2147483648 = x0 at *;generalize x / 2147483648 = x1 at *;generalize y % 2147483648 = y0 at *;generalize y / 2147483648 = y1 at *;have p00 : x0 * y0 ≤ 2147483647 * 2147483647 := Nat.mul_le_mul d0 d2;have p10 : x1 * y0 ≤ 1073741823 * 2147483647 := Nat.mul_le_mul d1 d2;have p01 : x0 * y1 ≤ 2147483647 * 1073741823 := Nat.mul_le_mul d0 d3;have p11 : x1 * y1 ≤ 1073741823 * 1073741823 := Nat.mul_le_mul d1 d3;have hmid : x1 * y0 + x0 * y1 ≤ 4611686018427387904 := by omega
 generalize x1 * y0 + x0 * y1 = md at *;generalize x1 * y1 = hi at *;generalize x0 * y0 = lo at *;generalize x * y = xy at *;have k1 := Cw md 30 30 rfl (by omega)
 rw [show (2 : Nat) ^ 30 = 1073741824 from rfl] at k1
 have k2 := Wu md (by omega)
 have k3 := GF (md % 1073741824) 31 31 rfl (by omega)
 have e3 : md % 1073741824 * 2 ^ 31 % 18446744073709551616 = md % 1073741824 * 2147483648 := by omega
 rw [e3] at k3;have k4 : IntKind.u64.wrap (4 * (hi : Int)) = ((4 * hi : Nat) : Int) := by rw [AM]; omega
 have k4' : IntKind.u64.wrap (2 * ((md / 1073741824 : Nat) : Int)) = ((2 * (md / 1073741824) : Nat) : Int) := by rw [AM]; omega
 have k5 : IntKind.u64.wrap (((4 * hi : Nat) : Int) + ((2 * (md / 1073741824) : Nat) : Int)) = ((4 * hi + 2 * (md / 1073741824) : Nat) : Int) := by rw [AM]; omega
 have k6 : IntKind.u64.wrap (((4 * hi + 2 * (md / 1073741824) : Nat) : Int) + ((md % 1073741824 * 2147483648 : Nat) : Int)) = ((4 * hi + 2 * (md / 1073741824) + md % 1073741824 * 2147483648 : Nat) : Int) := by rw [AM]; omega
 have k7 : IntKind.u64.wrap (((4 * hi + 2 * (md / 1073741824) + md % 1073741824 * 2147483648 : Nat) : Int) + (lo : Int)) = ((4 * hi + 2 * (md / 1073741824) + md % 1073741824 * 2147483648 + lo : Nat) : Int) := by rw [AM]; omega
 have k8 : ((4 * hi + 2 * (md / 1073741824) + md % 1073741824 * 2147483648 + lo : Nat) : Int).tmod 2305843009213693950 = ((xy % 2305843009213693950 : Nat) : Int) := by
  rw [Int.tmod_eq_emod_of_nonneg (by omega)]; omega
 have k9 : IntKind.i64.wrap ((xy % 2305843009213693950 : Nat) : Int) = ((xy % 2305843009213693950 : Nat) : Int) := P7 (by omega)
 refine run ?_;refine cp ra ?_;refine run ?_;refine cp rb ?_;refine run ?_;refine cp hm ?_;refine Aa (Gv k1 k2 k3 @k4 k4' @k5 k6 k7 k8 k9) ?_;exact Ab
theorem Zbf (a b : Int) (ha : -9223372036854775808 ≤ a ∧ a ≤ 9223372036854775807) (hb : -9223372036854775808 ≤ b ∧ b ≤ 9223372036854775807) : AC prog 185 [.it .i64 a, .it .i64 b] [] (.it .i64 ((a % 2305843009213693950 + b % 2305843009213693950) % 2305843009213693950)) [] := by
 refine Ai [202] [] func185 ?_;have a1 := Int.emod_nonneg a (show (2305843009213693950 : Int) ≠ 0 by omega)
 have a2 := Int.emod_lt_of_pos a (show (0 : Int) < 2305843009213693950 by omega)
 have b1 := Int.emod_nonneg b (show (2305843009213693950 : Int) ≠ 0 by omega)
 have b2 := Int.emod_lt_of_pos b (show (0 : Int) < 2305843009213693950 by omega)
 refine run ?_;refine cp (F3 a 2305843009213693950 (by omega) (by omega) ha) ?_
 refine run ?_;refine cp (F3 b 2305843009213693950 (by omega) (by omega) hb) ?_
 refine run ?_;refine cp (F3 (a % 2305843009213693950 + b % 2305843009213693950) 2305843009213693950 (by omega) (by omega) (by omega)) ?_
 refine run ?_;exact Ab
theorem RK (a e : Int) (ha : -9223372036854775808 ≤ a ∧ a ≤ 9223372036854775807) (he : -9223372036854775808 ≤ e ∧ e ≤ 9223372036854775807) : AC prog 144 [.it .i64 a, .it .i64 e] [] (.it .i64 (GY a e : Nat)) [] := by
 refine Ai [202, 203] [] func144 ?_;unfold GY Br;have a1 := Int.emod_nonneg a (show (2305843009213693951 : Int) ≠ 0 by omega)
 have a2 := Int.emod_lt_of_pos a (show (0 : Int) < 2305843009213693951 by omega)
 have ra := F3 a 2305843009213693951 (by omega) (by omega) ha
 obtain ⟨x, hx⟩ := Int.eq_ofNat_of_zero_le a1;rw [hx] at ra a1 a2 ⊢;rw [Int.toNat_natCast, Nat.mod_eq_of_lt (show x < 2305843009213693951 by omega)]
 have hE : ∃ n : Nat, n < 9223372036854775808 ∧ ((if e < 0 then (e % 2305843009213693950).toNat else e.toNat) = n) ∧ (if e < 0 then e % 2305843009213693950 else e) = (n : Int) := by
  split
  ·exact ⟨(e % 2305843009213693950).toNat, by omega, rfl, by omega⟩
  ·exact ⟨e.toNat, by omega, rfl, by omega⟩
 obtain ⟨n, hn, en, eI⟩ := hE;rw [en];have hp0 : (n : Nat) < 2 ^ 63 := by omega
 by_cases hneg : e < 0
 focus
  rw [if_pos hneg] at eI;have re := F3 e 2305843009213693950 (by omega) (by omega) he
  rw [eI] at re;refine run ?_;refine cp re ?_;refine run ?_;refine cp ra ?_;refine run ?_
 rotate_left;focus
  rw [if_neg hneg] at eI;subst eI;refine run ?_;refine cp ra ?_;refine run ?_
 all_goals
  refine Bp (fun m e S => S = [] ∧ m ≤ 64 ∧ ∃ q r p : Nat, e 1 = .it .i64 (q : Int) ∧ e 5 = .it .i64 (r : Int) ∧ e 6 = .it .i64 (p : Int) ∧ q < 2 ^ m ∧ q < 9223372036854775808 ∧ r < 2305843009213693951 ∧ p < 2305843009213693951 ∧ EM 64 1 x n = EM m r p q) 64
   ⟨rfl, by omega, n, 1, x, Ad, Ad, Ad, by omega, by omega, by decide, by omega, rfl⟩ ?_
  rintro m e S ⟨rfl, hm, q, r, p, s1, s5, s6, hq, hq2, hr, hp, hpow⟩
  by_cases h0 : q = 0
  ·subst h0
   rw [Oe] at hpow;rw [hpow];refine Aa (A3 s1 s5 s6) ?_;exact Ab
  obtain ⟨m', rfl⟩ : ∃ m', m = m' + 1 := ⟨m - 1, by
   cases m with
   | zero => simp at hq; omega
   | succ m => omega⟩
  have hq0 : (0 : Int) < (q : Int) := by omega
  rw [Ke m' r p q] at hpow;have hq' : q / 2 < 2 ^ m' := by rw [Nat.pow_succ] at hq; omega
  have mpp := RC (p : Int) (p : Int) (by omega) (by omega)
  have mrp := RC (r : Int) (p : Int) (by omega) (by omega)
  rw [Kk hp hp] at mpp;rw [Kk hr hp] at mrp;have lpp : p * p % 2305843009213693951 < 2305843009213693951 := Nat.mod_lt _ (by decide)
  have lrp : r * p % 2305843009213693951 < 2305843009213693951 := Nat.mod_lt _ (by decide)
  have t1 : (q : Int).tmod 2 = ((q % 2 : Nat) : Int) := by rw [Int.tmod_eq_emod_of_nonneg (by omega)]; omega
  have t2 : (q : Int).tdiv 2 = ((q / 2 : Nat) : Int) := by rw [Int.tdiv_eq_ediv_of_nonneg (by omega)]; omega
  by_cases ho : q % 2 = 1
  ·rw [if_pos ho] at hpow
   have hoI : ((q % 2 : Nat) : Int) = 1 := by omega
   refine Aa (A7 s1 s5 s6 t1 t2 hoI hq0) ?_;refine cp mrp ?_;refine Aa (A4 s1 s5 s6 t2) ?_;refine cp mpp ?_;refine Aa (A4 s1 s5 s6 t2) ?_;exact AG m' (by omega) ⟨rfl, by omega, q / 2, r * p % 2305843009213693951, p * p % 2305843009213693951, Ad, Ad, Ad, hq', by omega, lrp, lpp, hpow⟩
  ·rw [if_neg ho] at hpow
   have hoI : ((q % 2 : Nat) : Int) = 0 := by omega
   refine Aa (A7 s1 s5 s6 t1 t2 hoI hq0) ?_;refine cp mpp ?_;refine Aa (A4 s1 s5 s6 t2) ?_;exact AG m' (by omega) ⟨rfl, by omega, q / 2, r, p * p % 2305843009213693951, Ad, Ad, Ad, hq', by omega, hr, lpp, hpow⟩
theorem ZK (l : By) (h : l.length ≤ 140737488355328) : AC prog 272 [.st l] [] (.it .i64 (Sm.num l : Nat)) [] := by
 refine AC.ofBelow (by kernel_rfl) fun w g cargs ht hargs => ?_
 rw [Jh hargs];refine (Zaa ⟨l.toArray⟩ w (by simp [ByteArray.size]; omega)).mono ?_
 rintro r w' ⟨rfl, rfl⟩
 exact ⟨_, rfl, fun g' => .it g' _ _, Below.refl _ _⟩
theorem RJ (l : By) (h : l.length ≤ 1000000000) : AC prog 247 [.st l] [] (.it .i64 (Sg.hash l : Nat)) [] := by
 refine Ai [93, 272] [] func247 ?_;have hs : (Sm.sha l).length ≤ 140737488355328 := by show 32 ≤ _; omega
 refine run ?_;refine cp (I7 l (by omega)) ?_
 refine run ?_;refine cp (ZK _ hs) ?_;refine run ?_;exact Ab
theorem ZO (l : By) (h : l.length ≤ 1000000000) : AC prog 182 [.st l] [] (.it .i64 (Fz (Sg.hash l) : Nat)) [] := by
 refine Ai [247] [] func182 ?_;have hh := KB l;have hc := RJ l h;unfold Fz;generalize Sg.hash l = h at *;have e : (h : Int).tmod 2305843009213693949 = ((h % 2305843009213693949 : Nat) : Int) := by rw [Int.tmod_eq_emod_of_nonneg (by omega)]; omega
 have e2 : (1 : Int) + ((h % 2305843009213693949 : Nat) : Int) = ((1 + h % 2305843009213693949 : Nat) : Int) := by omega
 refine run ?_;refine cp hc ?_;refine Aa (an e e2) ?_;exact Ab
theorem Z8 (s : Int) (hs : -9223372036854775808 ≤ s ∧ s ≤ 9223372036854775807) : AC prog 82 [.it .i64 s] [] (Cr (Sg.keyOf s)) [] := by
 refine Ai [144] [] func82 ?_;unfold Sg.keyOf;by_cases h1 : s < 1
 ·rw [if_pos (.inl h1)]
  refine run ?_;exact Ab
 by_cases h2 : 2305843009213693949 < s
 ·have h3 : 2305843009213693950 ≤ s := by omega
  rw [if_pos (.inr h2)];refine Aa h3 ?_;exact Ab
 ·have h3 : ¬ 2305843009213693950 ≤ s := by omega
  rw [if_neg (by omega)]
  obtain ⟨n, rfl⟩ := Int.eq_ofNat_of_zero_le (show 0 ≤ s by omega)
  have he := RK 37 (n : Int) (by omega) (by omega)
  rw [Js 37 37 n rfl (by decide)] at he
  refine run ?_;refine cp he ?_;refine run ?_;exact Ab
theorem Ja (k : Key) (hs : -9223372036854775808 ≤ k.secret ∧ k.secret ≤ 9223372036854775807) : AC prog 40 [Cr k] [] (.bo k.right) [] := by
 refine Ai [82] [] func40 ?_;unfold Key.right;have ke : decide (k = Sg.keyOf k.secret) = ((k.secret == (Sg.keyOf k.secret).secret) && (k.pub == (Sg.keyOf k.secret).pub)) := by
  generalize Sg.keyOf k.secret = q;obtain ⟨a, b⟩ := k;obtain ⟨c, d⟩ := q;rw [Bool.eq_iff_iff];simp
 rw [ke];by_cases h1 : 1 ≤ k.secret
 ·have h2 : 0 < k.secret := by omega
  rw [decide_eq_true h1];refine Aa h2 ?_;refine cp (Z8 k.secret hs) ?_;refine run ?_;exact Ab
 ·have h2 : ¬ 0 < k.secret := by omega
  rw [decide_eq_false h1];refine Aa h2 ?_;exact Ab
theorem Zbc (r p : Int) (m : By) (hm : m.length ≤ 100000000) (hr : -9223372036854775808 ≤ r ∧ r ≤ 9223372036854775807) (hp : -9223372036854775808 ≤ p ∧ p ≤ 9223372036854775807) : AC prog 184 [.it .i64 r, .it .i64 p, .st m] [] (.it .i64 (DE r p m : Nat)) [] := by
 refine Ai [183, 110, 247] [] func184 ?_;have tw : (text E3).length = 5 := by rfl
 have tm := JP m hm;have l1 := Jg r (by omega)
 have l2 := Jg p (by omega)
 have hlt := KB (text E3 ++ Ah r ++ Ah p ++ text m);unfold DE;have hh := RJ (text E3 ++ Ah r ++ Ah p ++ text m) (by simp only [List.length_append]; omega)
 generalize Sg.hash (text E3 ++ Ah r ++ Ah p ++ text m) = h at *;have e : (h : Int).tmod 2305843009213693950 = ((h % 2305843009213693950 : Nat) : Int) := by rw [Int.tmod_eq_emod_of_nonneg (by omega)]; omega
 refine run ?_;refine cp (Cg E3 (by simp)) ?_
 refine run ?_;refine cp (Bi r (by omega)) ?_
 refine run ?_;refine cp (Bi p (by omega)) ?_
 refine run ?_;refine cp (Cg m (by omega)) ?_
 refine run ?_;refine cp hh ?_;refine Aa e ?_;exact Ab
theorem ZL (k : Key) (m : By) (hm : m.length ≤ 100000000) (hs : -9223372036854775808 ≤ k.secret ∧ k.secret ≤ 9223372036854775807) : AC prog 117 [Cr k, .st m] [] (H5 (Df k m)) [] := by
 refine Ai [40, 183, 110, 182, 144, 184, 186, 185] [] func117 ?_;unfold Df;refine run ?_;refine cp (Ja k hs) ?_;cases hr : k.right with
 | false =>
  rw [if_neg (by simp)]
  refine run ?_;exact Ab
 | true =>
  rw [if_pos rfl];obtain ⟨p1, p2⟩ := Od hr;obtain ⟨q1, q2, _⟩ := Key.right_iff.1 hr;have tm := JP m hm;have tw : (text FX).length = 6 := by rfl
  have l1 := Jg k.secret (by omega)
  have hred := ZO (text FX ++ Ah k.secret ++ text m) (by simp only [List.length_append]; omega)
  change AC _ _ _ _ (.it .i64 (nonce k m : Nat)) _ at hred;obtain ⟨n1, n2⟩ : 1 ≤ nonce k m ∧ nonce k m < 2305843009213693950 := J7 _;generalize nonce k m = u at *;have hexp := RK 37 (u : Int) (by omega) (by omega)
  rw [Js 37 37 u rfl (by decide)] at hexp
  have hpl := Kc 37 u;have hch := Zbc (Br 37 u : Nat) k.pub m hm (by omega) (by omega)
  have hel := MX (Br 37 u : Nat) k.pub m;generalize DE (Br 37 u : Nat) k.pub m = e at *;have hmul := Zad (e : Int) k.secret (by omega) (by omega)
  have hml : D3 e k.secret < 2305843009213693950 := Nat.mod_lt _ (by decide)
  have hadd := Zbf (u : Int) (D3 e k.secret : Nat) (by omega) (by omega)
  have hval : ((u : Int) % 2305843009213693950 + ((D3 e k.secret : Nat) : Int) % 2305843009213693950) % 2305843009213693950 = (((u + e * k.secret.toNat) % 2305843009213693950 : Nat) : Int) := by
   have h1 : D3 e k.secret = e * k.secret.toNat % 2305843009213693950 := by
    unfold D3;rw [show ((e : Int) % 2305843009213693950).toNat = e by omega, show (k.secret % 2305843009213693950).toNat = k.secret.toNat by omega]
   rw [h1];generalize e * k.secret.toNat = z;omega
  rw [hval] at hadd;refine run ?_;refine cp (Cg FX (by simp)) ?_
  refine run ?_;refine cp (Bi k.secret (by omega)) ?_
  refine run ?_;refine cp (Cg m (by omega)) ?_
  refine run ?_;refine cp hred ?_;refine run ?_;refine cp hexp ?_;refine run ?_;refine cp hch ?_;refine run ?_;refine cp hmul ?_;refine run ?_;refine cp hadd ?_;refine run ?_;exact Ab
end Pe
namespace Pe
open Tryz
open Go Go.RowKit Co Sg Ac It
set_option maxRecDepth 100000
set_option maxHeartbeats 4000000
theorem T4 (l : List By) (hl : l.length ≤ 1000000) (hx : ∀ x ∈ l, x.length ≤ 1000000) : AC prog 208 [Bn l] [] (.st (list l)) [] := by
 refine Ai [110, 183] [] func208 ?_;have hn9 := Ef (n := l.length) (by omega)
 have kn := Bi (l.length : Int) (by omega)
 rw [E9] at kn;refine run ?_;refine cp kn ?_;refine run ?_;refine Bp (fun m e S => S = [] ∧ e 0 = Bn l ∧ ∃ (k : Nat) (acc : By), e 3 = .st acc ∧ e 4 = .it .i64 (k : Int) ∧ acc = num l.length ++ ((l.take k).map text).flatten ∧ k ≤ l.length ∧ m = l.length - k) l.length
  ⟨rfl, Ad, 0, num l.length, Ad, Ad, by simp, by omega, rfl⟩ ?_
 rintro m e S ⟨rfl, s0, k, acc, s3, s4, hacc, hk, rfl⟩
 by_cases hlt : k < l.length
 ·have ga : l[k]? = some l[k] := List.getElem?_eq_getElem hlt
  have hxk := hx l[k] (List.getElem_mem hlt);have htl := AR hxk;have hal : acc.length ≤ 1000009000009 := by
   have h1 := O7 (l := l.take k) fun x h => hx x (List.mem_of_mem_take h)
   have h2 : (l.take k).length * 1000009 ≤ 1000000 * 1000009 := Nat.mul_le_mul_right _ (by rw [List.length_take]; omega)
   rw [hacc, List.length_append]; omega
  have hft := Uc hlt;generalize l[k] = x at *;refine Aa (A4 s0 s3 s4 ga) ?_;refine cp (Cg x (by omega)) ?_
  refine Aa (A3 s0 s3 s4) ?_;refine AG (l.length - (k + 1)) (by omega) ⟨rfl, Ad, k + 1, acc ++ text x, Ad, Ad, by rw [hacc, hft, List.append_assoc], by omega, rfl⟩
 ·obtain rfl : k = l.length := by omega
  rw [List.take_length] at hacc;refine Aa (A3 s0 s3 s4) ?_;rw [show list l = acc from hacc.symm]
  exact Ab
theorem Zdk (c : It.Claim) (h1 : c.actor.length ≤ 1000000 ∧ c.prev.length ≤ 1000000) (h2 : ∀ x ∈ [c.base, c.gen, c.home, c.pub, c.time], -9223372036854775808 ≤ x ∧ x ≤ 9223372036854775807) : AC prog 153 [KP c] [] (.st (Da c)) [] := by
 refine Ai [183, 110] [] func153 ?_;simp only [List.forall_mem_cons] at h2;have l1 := AR h1.1;have l2 := AR h1.2;have n1 := Ak c.base (by omega)
 have n2 := Ak c.gen (by omega)
 have n3 := Ak c.home (by omega)
 have n4 := Ak c.pub (by omega)
 have n5 := Ak c.time (by omega)
 unfold Da;refine run ?_;refine cp (Cg c.actor (by omega)) ?_
 refine run ?_;refine cp (Bi c.base (by omega)) ?_
 refine run ?_;refine cp (Cg c.prev (by omega)) ?_
 refine run ?_;refine cp (Bi c.gen (by omega)) ?_
 refine run ?_;refine cp (Bi c.home (by omega)) ?_
 refine run ?_;refine cp (Bi c.pub (by omega)) ?_
 refine run ?_;refine cp (Bi c.time (by omega)) ?_
 refine run ?_;exact Ab
theorem Zdl (b : It.Ballot) (h1 : b.actor.length ≤ 1000000 ∧ b.claim.length ≤ 1000000) (h2 : ∀ x ∈ [b.server, b.gen, b.time], -9223372036854775808 ≤ x ∧ x ≤ 9223372036854775807) : AC prog 155 [KW b] [] (.st (Dc b)) [] := by
 refine Ai [183, 110] [] func155 ?_;simp only [List.forall_mem_cons] at h2;have l1 := AR h1.1;have l2 := AR h1.2;have n1 := Ak b.server (by omega)
 have n2 := Ak b.gen (by omega)
 have n3 := Ak b.time (by omega)
 unfold Dc;refine run ?_;refine cp (Bi b.server (by omega)) ?_
 refine run ?_;refine cp (Cg b.actor (by omega)) ?_
 refine run ?_;refine cp (Bi b.gen (by omega)) ?_
 refine run ?_;refine cp (Cg b.claim (by omega)) ?_
 refine run ?_;refine cp (Bi b.time (by omega)) ?_
 refine run ?_;exact Ab
theorem Zde (d : It.Decision) (h1 : d.actor.length ≤ 1000000 ∧ d.object.length ≤ 1000000 ∧ d.text.length ≤ 1000000) (ht : d.to.length ≤ 1000000 ∧ ∀ s ∈ d.to, s.length ≤ 1000000) (h2 : ∀ x ∈ [d.server, d.number, d.kind, d.n, d.frm, d.til], -9223372036854775808 ≤ x ∧ x ≤ 9223372036854775807) : AC prog 156 [FP d] [] (.st (C8 d)) [] := by
 refine Ai [183, 110, 208] [] func156 ?_;simp only [List.forall_mem_cons] at h2;have l1 := AR h1.1;have l2 := AR h1.2.1;have l3 := AR h1.2.2;have n1 := Ak d.server (by omega)
 have n2 := Ak d.number (by omega)
 have n3 := Ak d.kind (by omega)
 have n4 := Ak d.n (by omega)
 have n5 := Ak d.frm (by omega)
 have n6 := Ak d.til (by omega)
 have ll := Oy ht.1 ht.2;unfold C8;refine run ?_;refine cp (Bi d.server (by omega)) ?_
 refine run ?_;refine cp (Bi d.number (by omega)) ?_
 refine run ?_;refine cp (Bi d.kind (by omega)) ?_
 refine run ?_;refine cp (Cg d.actor (by omega)) ?_
 refine run ?_;refine cp (Cg d.object (by omega)) ?_
 refine run ?_;refine cp (Cg d.text (by omega)) ?_
 refine run ?_;refine cp (T4 d.to ht.1 ht.2) ?_;refine run ?_;refine cp (Bi d.n (by omega)) ?_
 refine run ?_;refine cp (Bi d.frm (by omega)) ?_
 refine run ?_;refine cp (Bi d.til (by omega)) ?_
 refine run ?_;exact Ab
end Pe
end
section
namespace Pe
open Tryz
open Go Go.RowKit Co
set_option maxRecDepth 100000
set_option maxHeartbeats 4000000
def Dt : By → Nat → Nat
 | [], _ => 0
 | d :: r, i => if 9 ≤ i then 0 else if 128 ≤ d.toNat then Dt r (i + 1) else if d.toNat = 0 ∧ 0 < i then 0 else i + 1
theorem Ny (d : UInt8) (r : By) (i : Nat) : Dt (d :: r) i = if 9 ≤ i then 0 else if 128 ≤ d.toNat then Dt r (i + 1) else if d.toNat = 0 ∧ 0 < i then 0 else i + 1 := rfl
def val : By → Nat
 | [] => 0
 | d :: r => d.toNat % 128 + 128 * val r
theorem Nx : ∀ (l : By) (i : Nat), Dt l i = 0 ∨ (i < Dt l i ∧ Dt l i ≤ i + l.length ∧ Dt l i ≤ 9)
 | [], i => .inl rfl
 | d :: r, i => by
  rw [Ny];by_cases h9 : 9 ≤ i
  ·rw [if_pos h9]; exact .inl rfl
  rw [if_neg h9];by_cases h128 : 128 ≤ d.toNat
  ·rw [if_pos h128, List.length_cons]
   rcases Nx r (i + 1) with h | h
   ·exact .inl h
   ·exact .inr (by omega)
  ·rw [if_neg h128]
   by_cases hz : d.toNat = 0 ∧ 0 < i
   ·rw [if_pos hz]; exact .inl rfl
   ·rw [if_neg hz, List.length_cons]; exact .inr (by omega)
theorem RW : ∀ (l : By) (i n : Nat), Dw l i n = if Dt l i = 0 then none else some (n + val (l.take (Dt l i - i)) * 2 ^ (7 * i), l.drop (Dt l i - i))
 | [], i, n => by rw [show Dt [] i = 0 from rfl, if_pos rfl]; rfl
 | d :: r, i, n => by
  rw [Jc, Ny];have hd : d.toNat < 256 := d.toNat_lt;by_cases h9 : 9 ≤ i
  ·rw [if_pos h9, if_pos h9, if_pos rfl]
  rw [if_neg h9, if_neg h9];by_cases h128 : 128 ≤ d.toNat
  ·rw [if_pos h128, if_pos h128, RW r (i + 1) _]
   rcases Nx r (i + 1) with h | h
   ·rw [if_pos h, if_pos h]
   ·have e : Dt r (i + 1) - i = (Dt r (i + 1) - (i + 1)) + 1 := by omega
    have hp : 2 ^ (7 * (i + 1)) = 128 * 2 ^ (7 * i) := by rw [show 7 * (i + 1) = 7 + 7 * i from by omega, Nat.pow_add]
    rw [if_neg (by omega), if_neg (by omega), e, List.take_succ_cons, List.drop_succ_cons, val, hp, show d.toNat % 128 = d.toNat - 128 from by omega, Nat.add_mul, Nat.add_assoc]
    congr 3
    rw [Nat.mul_comm 128 (val _), Nat.mul_assoc]
  ·rw [if_neg h128, if_neg h128]
   by_cases hz : d.toNat = 0 ∧ 0 < i
   ·rw [if_pos hz, if_pos hz, if_pos rfl]
   ·rw [if_neg hz, if_neg hz, if_neg (by omega), show i + 1 - i = 0 + 1 from by omega, List.take_succ_cons, List.drop_succ_cons, List.take_zero, List.drop_zero]
    rw [show val [d] = d.toNat from by simp only [val]; omega]
theorem Nz : ∀ (l : By), val l < 128 ^ l.length
 | [] => by decide
 | d :: r => by
  have := Nz r;rw [val, List.length_cons, Nat.pow_succ];omega
theorem Ym {l : By} (h : l.length ≤ 9) : val l < 9223372036854775808 := Nat.lt_of_lt_of_le (Nz l) (Nat.pow_le_pow_right (by omega) h)
theorem Yn {l : By} (h : l.length ≤ 8) : val l < 72057594037927936 := Nat.lt_of_lt_of_le (Nz l) (Nat.pow_le_pow_right (by omega) h)
theorem Zc4 (l : By) (hl : l.length < 9223372036854775808) : AC prog 148 [.st l] [] (.it .i64 (Dt l 0 : Nat)) [] := by
 refine Ai [] [] func148 ?_;refine run ?_;refine Bp (fun m e S => S = [] ∧ e 0 = .st l ∧ ∃ i : Nat, e 3 = .it .i64 (i : Int) ∧ i ≤ 9 ∧ i ≤ l.length ∧ Dt l 0 = Dt (l.drop i) i ∧ m = 9 - i) 9 ⟨rfl, Ad, 0, Ad, by omega, by omega, rfl, rfl⟩ ?_
 rintro m e S ⟨rfl, s0, i, s3, hi, hil, hv, rfl⟩
 by_cases hlt : i < l.length
 rotate_left
 ·rw [hv, List.drop_eq_nil_of_le (by omega)]
  refine Aa (an s0 s3) ?_;exact Ab
 have hdr : l.drop i = l[i] :: l.drop (i + 1) := List.drop_eq_getElem_cons hlt;have hg : l[i]? = some l[i] := List.getElem?_eq_getElem hlt
 generalize l[i] = d at *;have hu : u8 d = .it .u8 (d.toNat : Int) := rfl;have hd : d.toNat < 256 := d.toNat_lt;rw [hdr, Ny] at hv;by_cases h9 : 9 ≤ i
 ·rw [if_pos h9] at hv
  rw [hv];refine Aa (an s0 s3) ?_;exact Ab
 rw [if_neg h9] at hv;by_cases h128 : 128 ≤ d.toNat
 ·rw [if_pos h128] at hv
  refine Aa (A4 s0 s3 hg hu) ?_;exact AG (9 - (i + 1)) (by omega) ⟨rfl, Ad, i + 1, Ad, by omega, by omega, hv, rfl⟩
 rw [if_neg h128] at hv;by_cases hz : d.toNat = 0 ∧ 0 < i
 ·rw [if_pos hz] at hv
  rw [hv];have hz0 := hz.1;have hz1 := hz.2;refine Aa (A5 s0 s3 hg hu hz0) ?_;exact Ab
 ·rw [if_neg hz] at hv
  rw [hv];by_cases hz0 : d.toNat = 0
  ·obtain rfl : i = 0 := by omega
   refine Aa (A5 s0 s3 hg hu hz0) ?_;exact Ab
  ·refine Aa (A4 s0 s3 hg hu) ?_
   exact Ab
theorem TQ : ∀ (l : By), l ≠ [] → l.length ≤ 9 → AC prog 150 [.st l] [] (.it .i64 (val l : Nat)) []
 | [], h, _ => absurd rfl h
 | d :: r, _, hl => by
  have hu : u8 d = .it .u8 (d.toNat : Int) := rfl;have hd : d.toNat < 256 := d.toNat_lt;have hw : IntKind.i64.wrap (d.toNat : Int) = (d.toNat : Int) := wrap64 (by omega) (by omega)
  have hm : (d.toNat : Int).tmod 128 = ((d.toNat % 128 : Nat) : Int) := by rw [Int.tmod_eq_emod_of_nonneg (by omega)]; omega
  by_cases hr : r = []
  ·subst hr
   rw [show val [d] = d.toNat % 128 from by simp only [val]; omega]
   refine Ai [150] [] func150 ?_;refine Aa (A3 hu hw hm) ?_;exact Ab
  ·have ih := TQ r hr (by rw [List.length_cons] at hl; omega)
   have hrl : 0 < r.length := List.length_pos_iff.2 hr;have hv := Yn (l := r) (by rw [List.length_cons] at hl; omega)
   have hl9 : r.length ≤ 8 := by rw [List.length_cons] at hl; omega
   rw [show val (d :: r) = d.toNat % 128 + 128 * val r from rfl]
   have e : ((d.toNat % 128 : Nat) : Int) + 128 * (val r : Int) = ((d.toNat % 128 + 128 * val r : Nat) : Int) := by push_cast; rfl
   have hdd : r.take r.length = r := List.take_length;refine Ai [150] [] func150 ?_;refine Aa (A4 hu hw hm hdd) ?_;refine cp ih ?_;refine Aa e ?_;exact Ab
theorem MG (s : By) : AC prog 88 [.st s] [] (.ptr 0 0) [rd ⟨s, false⟩] := by
 refine Ai [] [] func88 ?_;refine run ?_;exact Aq [0] (by rfl) (EI 0 (by rfl) (by rfl)) (by rfl) (by rfl) (by rfl)
theorem MJ (x : R) : AC prog 149 [.ptr 0 0] [rd x] (.tup []) [rd Co.fail] := by
 refine Ai [] [] func149 ?_;refine run ?_;exact MO
theorem KF (x : R) : AC prog 91 [.ptr 0 0] [rd x] (.it .i64 x.rest.length) [rd x] := by
 refine Ai [] [] func91 ?_;refine run ?_;exact Bj
theorem Zdd (x : R) : AC prog 259 [.ptr 0 0] [rd x] (.bo (!x.bad && x.rest == [])) [rd x] := by
 refine Ai [] [] func259 ?_;obtain ⟨r, b⟩ := x;cases r with
 | nil =>
  cases b
  ·refine run ?_
   exact Bj
  ·refine run ?_
   exact Bj
 | cons d r =>
  have e : ((d :: r : By) == []) = false := rfl;cases b
  ·refine Aa e ?_
   exact Bj
  ·refine Aa e ?_
   exact Bj
theorem KD (x : R) (hx : x.rest.length < 9223372036854775808) : AC prog 89 [.ptr 0 0] [rd x] (.it .i64 x.num.1) [rd x.num.2] := by
 refine Ai [148, 150] [] func89 ?_;have hv := RW x.rest 0 0;have kl := Zc4 x.rest hx;unfold R.num;rcases Nx x.rest 0 with h | h
 ·rw [if_pos h] at hv
  rw [hv];rw [h] at kl;refine run ?_;refine cp kl ?_;refine run ?_;refine c1 0 (MJ x) ?_;refine run ?_;exact Bj
 ·rw [if_neg (by omega)] at hv
  rw [hv];simp only [Nat.sub_zero, Nat.mul_zero, Nat.pow_zero, Nat.mul_one, Nat.zero_add] at h ⊢;generalize Dt x.rest 0 = n at *;have hlt : (x.rest.take n).length = n := by rw [List.length_take]; omega
  have kv := TQ (x.rest.take n) (fun e => by rw [e] at hlt; simp at hlt; omega) (by omega)
  have hv9 := Ym (l := x.rest.take n) (by omega)
  have hn0 : ¬ (n : Int) = 0 := by omega
  have hdd : x.rest.take x.rest.length = x.rest := List.take_length;refine run ?_;refine cp kl ?_;refine Aa hn0 ?_;refine cp kv ?_;refine Aa hdd ?_;exact Bj
theorem ZcK (x : R) (n : Nat) (hn : n < 9223372036854775808) (hx : x.rest.length < 9223372036854775808) : AC prog 260 [.ptr 0 0, .it .i64 n] [rd x] (.st (x.take n).1) [rd (x.take n).2] := by
 refine Ai [] [] func260 ?_;obtain ⟨r, b⟩ := x;unfold R.take;by_cases h : r.length < n
 ·rw [if_pos (.inr h)]
  refine run ?_;refine c1 0 (MJ ⟨r, b⟩) ?_;refine run ?_;exact Bj
 cases b
 rotate_left
 ·rw [if_pos (.inl rfl)]
  refine run ?_;refine c1 0 (MJ ⟨r, true⟩) ?_;refine run ?_;exact Bj
 ·rw [if_neg (by simp; omega)]
  have hdd : r.take r.length = r := List.take_length;refine Aa hdd ?_;exact Bj
theorem TU (x : R) (hx : x.rest.length < 9223372036854775808) : AC prog 205 [.ptr 0 0] [rd x] (.st x.text.1) [rd x.text.2] := by
 refine Ai [] [] func205 ?_;have h1 := F8 x;have h2 := Cq x;refine run ?_;refine c1 0 (KD x hx) ?_;refine run ?_;refine c1 0 (ZcK x.num.2 x.num.1 (by omega) (by omega)) ?_
 refine run ?_;exact Bj
def Wf (x : R) : Prop := x.bad = true → x.rest = []
theorem Qo (r : By) : Wf ⟨r, false⟩ := fun h => by cases h
theorem Nw : Wf Co.fail := fun _ => rfl
theorem Yf {x : R} (h : Wf x) : Wf x.num.2 := by
 obtain ⟨r, b⟩ := x;unfold R.num;cases b
 ·cases hr : Dw r 0 0 with
  | none => simp only [hr]; exact Nw
  | some p => obtain ⟨m, q⟩ := p; simp only [hr]; exact Qo q
 ·have : r = [] := h rfl
  subst this;exact Nw
theorem Ye (x : R) (n : Nat) : Wf (x.take n).2 := by
 obtain ⟨r, b⟩ := x;unfold R.take;split
 ·exact Nw
 ·rename_i hc
  cases b
  ·exact Qo _
  ·exact absurd (.inl rfl) hc
theorem Yd (x : R) : Wf x.text.2 := Ye _ _
def Dp (x : R) : Nat × R := if x.num.2.rest.length < x.num.1 then (0, Co.fail) else x.num
theorem OV (n : Nat) (r : By) : R.texts n ⟨r, true⟩ = ([], ⟨r, true⟩) := by cases n <;> rfl
theorem ZcJ (n : Nat) (r : By) : R.texts (n + 1) ⟨r, false⟩ = ((R.text ⟨r, false⟩).1 :: (R.texts n (R.text ⟨r, false⟩).2).1, (R.texts n (R.text ⟨r, false⟩).2).2) := rfl
theorem Zce (x : R) : x.list = if ((Dp x).2.texts (Dp x).1).2.bad then ([], ((Dp x).2.texts (Dp x).1).2) else (Dp x).2.texts (Dp x).1 := by
 unfold R.list Dp;simp only
 by_cases h : x.num.2.rest.length < x.num.1
 ·rw [if_pos h, if_pos h]
  rw [show Co.fail = ⟨[], true⟩ from rfl, OV, OV]
 ·rw [if_neg h, if_neg h]
theorem Zew {x : R} (h : Wf x) : (Dp x).2.bad = true → (Dp x).1 = 0 := by
 unfold Dp;split
 ·intro _; rfl
 ·intro hb
  have hw := Yf h hb;rename_i hc
  rw [hw] at hc;simp only [List.length_nil] at hc;omega
theorem Zev (x : R) : (Dp x).2.rest.length ≤ x.rest.length ∧ (Dp x).1 ≤ (Dp x).2.rest.length := by
 have := Cq x;unfold Dp;split
 ·exact ⟨Nat.zero_le _, Nat.zero_le _⟩
 ·exact ⟨this, by omega⟩
theorem Zdg (x : R) (hx : x.rest.length < 9223372036854775808) : AC prog 261 [.ptr 0 0] [rd x] (.it .i64 (Dp x).1) [rd (Dp x).2] := by
 refine Ai [] [] func261 ?_;have h1 := F8 x;have h2 := Cq x;have k := KD x hx;unfold Dp;generalize x.num = q at *;obtain ⟨n, z⟩ := q;simp only at h1 h2 k ⊢
 by_cases hlt : z.rest.length < n
 ·rw [if_pos hlt]
  refine run ?_;refine c1 0 k ?_;refine run ?_;refine c1 0 (MJ z) ?_;refine run ?_;exact Bj
 ·rw [if_neg hlt]
  refine run ?_;refine c1 0 k ?_;refine run ?_;exact Bj
theorem ZcQ (x : R) (hx : x.rest.length ≤ 1000000) (hw : Wf x) : AC prog 206 [.ptr 0 0] [rd x] (Bn x.list.1) [rd x.list.2] := by
 refine Ai [] [] func206 ?_;have h1 := Zev x;have h2 := Zew hw;have k := Zdg x (by omega)
 rw [Zce];generalize Dp x = q at *;obtain ⟨n, y⟩ := q;simp only at h1 h2 k ⊢
 refine run ?_;refine c1 0 k ?_;refine run ?_;refine Eg (fun m e S => e 0 = .ptr 0 0 ∧ e 3 = .it .i64 (n : Int) ∧ ∃ (k : Nat) (acc : List By) (r : By) (b : Bool), e 4 = .sl (.own 1) (acc.map .st) ∧ e 5 = .it .i64 (k : Int) ∧ S = [rd ⟨r, b⟩, .buf acc.length 9 1] ∧
   acc.length = k ∧ k ≤ n ∧ r.length ≤ 1000000 ∧ (b = true → n = 0) ∧ R.texts n y = (acc ++ (R.texts (n - k) ⟨r, b⟩).1, (R.texts (n - k) ⟨r, b⟩).2) ∧ m = n - k) n _ _ (Ay.reserve 1 4 (es := []) (by rfl) 9 1)
   ⟨Ad, Ad, 0, [], y.rest, y.bad, Ad, Ad, rfl, rfl, by omega, by omega, h2, rfl, rfl⟩ ?_
 rintro m e S ⟨s0, s3, k, acc, r, b, s4, s5, rfl, hal, hk, hr, hnb, htx, rfl⟩
 by_cases hkn : k < n
 ·have hb : b = false := by
   cases b with
   | false => rfl
   | true => have := hnb rfl; omega
  subst hb;obtain ⟨j, hj⟩ : ∃ j, n - k = j + 1 := ⟨n - k - 1, by omega⟩
  rw [hj, ZcJ] at htx;have htr := Ep ⟨r, false⟩;have hc := TU ⟨r, false⟩ (by show r.length < _; omega)
  generalize R.text ⟨r, false⟩ = t at *;obtain ⟨ts, tr, tb⟩ := t;simp only at htr hc htx
  cases tb with
  | true =>
   rw [OV] at htx;rw [htx, if_pos rfl];refine Aa (A4 s0 s3 s4 s5) ?_;refine c1 0 hc ?_;refine Aa (A4 s0 s3 s4 s5) ?_;exact GZ
  | false =>
   refine Aa (A4 s0 s3 s4 s5) ?_;refine c1 0 hc ?_;refine Aa (A4 s0 s3 s4 s5) ?_;refine AG (n - (k + 1)) (by omega) ⟨Ad, Ad, k + 1, acc ++ [ts], tr, false, by rw [List.map_append]; exact Ad, Ad, by rw [List.length_append]; rfl, by rw [List.length_append, hal]; rfl, by omega, by omega, (fun h => by cases h), ?_, rfl⟩
   rw [htx, show n - (k + 1) = j from by omega, List.append_assoc]; rfl
 ·have hkn' : n - k = 0 := by omega
  rw [hkn'] at htx;have htx : R.texts n y = (acc, ⟨r, b⟩) := by rw [htx]; simp [R.texts]
  rw [htx];cases b with
  | false =>
   rw [if_neg (by simp)]
   refine Aa (A4 s0 s3 s4 s5) ?_;exact GZ
  | true =>
   have hn0 := hnb rfl;obtain rfl : acc = [] := List.eq_nil_of_length_eq_zero (by omega)
   rw [if_pos rfl];refine Aa (A4 s0 s3 s4 s5) ?_;exact GZ
end Pe
end
section
namespace Pe
open Tryz
open Go Go.RowKit Co Dm Wl
set_option maxRecDepth 100000
set_option maxHeartbeats 4000000
theorem Za9 (l : By) (h : l.length ≤ 9223372036854775807) : AC prog 173 [.st l] [] (.it .u32 ((Sm.crc l).toNat : Int)) [] := by
 refine AC.ofBelow (by kernel_rfl) fun w g cargs ht hargs => ?_
 rw [Jh hargs];refine (Zba ⟨l.toArray⟩ w (by simp [ByteArray.size]; omega)).mono ?_
 rintro r w' ⟨rfl, rfl⟩
 refine ⟨_, rfl, fun g' => ?_, Below.refl _ _⟩
 exact .it g' _ _
theorem Rq (s : By) (h : s.length ≤ 140737488355328) : AC prog 108 [.st s] [] (.st (AK s)) [] := by
 have e0 := Gy (Sm.crc s).toNat;have e1 := Gy ((Sm.crc s).toNat / 256);have e2 := Gy ((Sm.crc s).toNat / 65536);have e3 := Gy ((Sm.crc s).toNat / 16777216);have g1 : Dd .u32 ((Sm.crc s).toNat : Int) 8 = _ := H6 _ 8 (by omega)
 have g2 : Dd .u32 ((Sm.crc s).toNat : Int) 16 = _ := H6 _ 16 (by omega)
 have g3 : Dd .u32 ((Sm.crc s).toNat : Int) 24 = _ := H6 _ 24 (by omega)
 simp only [Nat.reducePow] at g1 g2 g3;have hk : ck s = [UInt8.ofNat ((Sm.crc s).toNat % 256), UInt8.ofNat ((Sm.crc s).toNat / 256 % 256), UInt8.ofNat ((Sm.crc s).toNat / 65536 % 256), UInt8.ofNat ((Sm.crc s).toNat / 16777216 % 256)] := rfl;unfold AK;rw [hk];have hc := Za9 s (by omega)
 have hl := Ak (s.length : Int) (by omega)
 have kn := Bi (s.length : Int) (by omega)
 rw [E9] at hl kn;clear hk;generalize (Sm.crc s).toNat = n at *;generalize UInt8.ofNat (n % 256) = b0 at *;generalize UInt8.ofNat (n / 256 % 256) = b1 at *;generalize UInt8.ofNat (n / 65536 % 256) = b2 at *;generalize UInt8.ofNat (n / 16777216 % 256) = b3 at *;generalize num s.length = ns at *;refine Ai [173, 110] [] func108 ?_;refine run ?_;refine cp hc ?_;have hb : bytesOf [AV.it .u8 (b0.toNat : Int), .it .u8 (b1.toNat : Int), .it .u8 (b2.toNat : Int), .it .u8 (b3.toNat : Int)] = some [b0, b1, b2, b3] := JA [b0, b1, b2, b3];refine Aa (A8 e0 e1 e2 e3 g1 g2 g3 hb) ?_;refine cp kn ?_;refine Aa (A8 e0 e1 e2 e3 g1 g2 g3 hb) ?_;exact Ab
theorem Zau (b : By) (hb : b.length ≤ 16777216) : AC prog 146 [.st b] [] (.tup [.st (Iq b).1, .it .i64 ((Iq b).2 : Int)]) [] := by
 have hf := Zc9 b;have kn := KD ⟨b, false⟩ (by show b.length < _; omega)
 have hle : (R.num ⟨b, false⟩).2.rest.length ≤ b.length := Cq ⟨b, false⟩;generalize R.num ⟨b, false⟩ = nx at *;obtain ⟨n, x⟩ := nx;simp only at hf kn hle
 generalize hL : x.rest.length = left at *;refine As [108] [] func146 ?_;refine run ?_;refine Au (AC.newAt (MG b) _) ?_;refine run ?_;refine c1 0 kn ?_;refine run ?_;have kl := KF x;rw [hL] at kl;refine c1 0 kl ?_;by_cases h1 : (n : Int) > 1048576
 ·rw [if_pos (by omega)] at hf
  rw [hf];refine Aa h1 ?_;exact Ab
 by_cases h2 : (left : Int) < 4
 ·rw [if_pos (by omega)] at hf
  rw [hf];refine Aa (an h1 h2) ?_;exact Ab
 by_cases h3 : (n : Int) > (left : Int) - 4
 ·rw [if_pos (by omega)] at hf
  rw [hf];refine Aa (A3 h1 h2 h3) ?_;exact Ab
 rw [if_neg (by omega)] at hf
 have hE : (b.length : Int) - (left : Int) + 4 + (n : Int) = ((b.length - left + 4 + n : Nat) : Int) := by omega
 have hE0 : ((b.length - left + 4 + n : Nat) : Int) - (n : Int) = ((b.length - left + 4 : Nat) : Int) := by omega
 have hb1 : b.length - left + 4 ≤ b.length - left + 4 + n := by omega
 have hb2 : b.length - left + 4 + n ≤ b.length := by omega
 have hsl : ((b.take (b.length - left + 4 + n)).drop (b.length - left + 4)).length ≤ 16777216 := by rw [List.length_drop, List.length_take]; omega
 refine Aa (A7 h1 h2 h3 hE hE0 hb1 hb2) ?_;refine cp (Rq ((b.take (b.length - left + 4 + n)).drop (b.length - left + 4)) (by omega)) ?_
 by_cases hr : AK ((b.take (b.length - left + 4 + n)).drop (b.length - left + 4)) = b.take (b.length - left + 4 + n)
 ·rw [if_pos hr] at hf
  rw [hf];have hq : (AK ((b.take (b.length - left + 4 + n)).drop (b.length - left + 4)) == b.take (b.length - left + 4 + n)) = true := by rw [hr]; exact beq_self_eq_true _
  refine Aa (A5 hE hE0 hb1 hb2 hq) ?_;exact Ab
 ·rw [if_neg hr] at hf
  rw [hf];have hq : (AK ((b.take (b.length - left + 4 + n)).drop (b.length - left + 4)) == b.take (b.length - left + 4 + n)) = false := Dx _ _ hr;refine Aa (A5 hE hE0 hb1 hb2 hq) ?_;exact Ab
end Pe
end
section
namespace Pe
open Tryz
open Go Go.RowKit Dm
set_option maxRecDepth 100000
set_option maxHeartbeats 4000000
def Ex (d : Dk) (ks : List Int) (j : Nat) : Nat → Fl := fun i => if i < j then (d.fs i).crash (ks.getD i 0) else d.fs i
theorem ZcG (d : Dk) (ks : List Int) (j : Nat) : Ex d ks j j = d.fs j := if_neg (Nat.lt_irrefl _)
theorem ZcF (d : Dk) (ks : List Int) (j : Nat) : Dm.upd (Ex d ks j) j ((d.fs j).crash (ks.getD j 0)) = Ex d ks (j + 1) := by
 funext i
 unfold Dm.upd Ex;by_cases h : i = j
 ·subst h
  rw [if_pos rfl, if_pos (Nat.lt_succ_self _)]
 ·rw [if_neg h]
  by_cases h2 : i < j
  ·rw [if_pos h2, if_pos (by omega)]
  ·rw [if_neg h2, if_neg (by omega)]
theorem Zdn (f : Fl) (h : f.dur ≤ f.data.length) (k : Int) : fL (f.crash k) = [.st (f.data.take f.dur ++ (f.data.drop f.dur).take (min (f.data.length - f.dur) k.toNat)), .st []] := by
 have hs : f.stay k ≤ f.data.length := by unfold Fl.stay; omega
 show [AV.st ((f.data.take (f.stay k)).take (f.stay k)), AV.st ((f.data.take (f.stay k)).drop (f.stay k))] = _
 rw [List.take_take, Nat.min_self, List.drop_eq_nil_of_le (by rw [List.length_take]; omega)]
 unfold Fl.stay;rw [List.take_add]
abbrev WV (d : Dk) (ks : List Int) (m : Nat) (e : Af) (S : Ae) : Prop := e 0 = .ptr 0 0 ∧ e 1 = ints .ro ks ∧ ∃ j : Nat, e 4 = .it .i64 (j : Int) ∧ S = [.cells [.ws 1 0 8 8, .it .i64 (d.lost : Int), .bo true, .it .i64 0, .sl .full []], .cells (Aj (Ex d ks j))] ∧ j ≤ 8 ∧ m = 8 - j
theorem ZX (d : Dk) (ks : List Int) (j : Nat) (hj : j < 8) (z : Int) (hz : z = (j : Int)) (e : Af) (C : SObj) (h0 : e 0 = .ptr 0 0) (h1 : e 1 = ints .ro ks) (h4 : e 4 = .it .i64 (z + 1)) : I8 2 (WV d ks) (8 - j) e [.cells [.ws 1 0 8 8, .it .i64 (d.lost : Int), .bo true, .it .i64 0, .sl .full []], .cells (Aj (Ex d ks (j + 1))), C] := by
 have h4' : e 4 = .it .i64 ((j + 1 : Nat) : Int) := by rw [h4, hz]; rfl
 exact N3 (8 - (j + 1)) (upd (upd (upd (fun _ => .junk) 0 (.ptr 0 0)) 1 (ints .ro ks)) 4 (.it .i64 ((j + 1 : Nat) : Int))) _ (Ay.sub 2 (List.range 2) ((((Gt.nil _ _).cons 0 (.ptr 0 0) (.ptr 0 0) rfl rfl h0).cons 1 (ints .ro ks) (ints .ro ks) rfl rfl h1).cons 4 (.it .i64 ((j + 1 : Nat) : Int)) (.it .i64 ((j + 1 : Nat) : Int)) rfl rfl h4') (LT _ _ _ rfl) rfl) (by omega) ⟨Ad, Ad, j + 1, Ad, rfl, by omega, rfl⟩
theorem Za7 (d : Dk) (ho : Ok d) (h0 : d.armed = 0) (ks : List Int) : AC prog 17 [.ptr 0 0, ints .ro ks] (RD d) (.tup []) (RD (crash d ks)) := by
 refine As [] [] func17 ?_;cases hd : d.down with
 | true =>
  have hp : crash d ks = d := by unfold crash; rw [hd]; rfl
  rw [hp];refine Aa hd ?_;exact Aq (List.range 2) (by rfl) (BJ d) (by rfl) (by rfl) (by rfl)
 | false =>
  have hp : crash d ks = ⟨fun i => (d.fs i).crash (ks.getD i 0), true, d.lost, 0, []⟩ := by unfold crash; rw [hd]; rfl
  rw [hp];refine Aa hd ?_;refine Bp (WV d ks) 8 ⟨Ad, Ad, 0, Ad, rfl, by omega, rfl⟩ ?_
  rintro m e S ⟨s0, s1, j, s4, rfl, hj, rfl⟩
  by_cases hlt : j < 8
  rotate_left
  ·obtain rfl : j = 8 := by omega
   have c1 : ¬ ((8 : Nat) : Int) < 8 := by omega
   refine Aa (A4 s0 s1 s4 @c1) ?_;exact Aq (List.range 2) (by rfl) (LT _ _ [] rfl) (by rfl) (by rfl) (by rfl)
  have c1 : (j : Int) < 8 := by omega
  have hat := ZcG d ks j;have hnx := ZcF d ks j;have hdu := (ho.fs j).dur;have hlen := (ho.fs j).len;have hcr := Zdn (d.fs j) hdu (ks.getD j 0);have hG := Jm (Ex d ks j);have hS := TR (Ex d ks j);obtain ⟨u0, u1, u2, u3, u4, u5, u6, u7⟩ := OY (Ex d ks j);have hld : ((d.fs j).data.drop (d.fs j).dur).length = (d.fs j).data.length - (d.fs j).dur := List.length_drop;refine Gu (fun e S => e 0 = .ptr 0 0 ∧ e 1 = ints .ro ks ∧ e 4 = .it .i64 (j : Int) ∧ S = [.cells [.ws 1 0 8 8, .it .i64 (d.lost : Int), .bo true, .it .i64 0, .sl .full []], .cells (Aj (Ex d ks j))]) (fun Kt hK => ?_) ?_
  ·refine Aa (A4 s0 s1 s4 @c1) ?_
   exact hK _ _ ⟨Ad, Ad, Ad, rfl⟩
  clear s0 s1 s4;rintro e S ⟨s0, s1, s4, rfl⟩
  rw [IQ, Nk, EG, EG, EG, EG];refine Gu (fun e S => e 0 = .ptr 0 0 ∧ e 1 = ints .ro ks ∧ e 4 = .it .i64 (j : Int) ∧ e 5 = .ptr 2 0 ∧ e 6 = .it .i64 ((min ((d.fs j).data.length - (d.fs j).dur) (ks.getD j 0).toNat : Nat) : Int) ∧ S = [.cells [.ws 1 0 8 8, .it .i64 (d.lost : Int), .bo true, .it .i64 0, .sl .full []], .cells (Aj (Ex d ks j)), .cells (fL (d.fs j))]) (fun Kt hK => ?_) ?_
  ·have w0 : (((0 : Nat) : Int)) = 0 := rfl
   obtain ⟨z, hz⟩ : ∃ z : Int, z = (j : Int) := ⟨_, rfl⟩
   rw [← EG, ← EG, ← EG];refine Gu (fun e S => e 0 = .ptr 0 0 ∧ e 1 = ints .ro ks ∧ e 4 = .it .i64 z ∧ e 5 = .ptr 2 0 ∧ S = [.cells [.ws 1 0 8 8, .it .i64 (d.lost : Int), .bo true, .it .i64 0, .sl .full []], .cells (Aj (Ex d ks j)), .cells (fL (Ex d ks j j))]) (fun K2 hK2 => ?_) ?_
   ·rw [← hz] at s4
    clear hK hcr hdu hlen hld hat hnx u0 u1 u2 u3 u4 u5 u6 u7 c1;have h8 : (z = 0 ∧ j = 0) ∨ (z = 1 ∧ j = 1) ∨ (z = 2 ∧ j = 2) ∨ (z = 3 ∧ j = 3) ∨ (z = 4 ∧ j = 4) ∨ (z = 5 ∧ j = 5) ∨ (z = 6 ∧ j = 6) ∨ (z = 7 ∧ j = 7) := by omega
    rcases h8 with ⟨rfl, rfl⟩ | ⟨rfl, rfl⟩ | ⟨rfl, rfl⟩ | ⟨rfl, rfl⟩ | ⟨rfl, rfl⟩ | ⟨rfl, rfl⟩ | ⟨rfl, rfl⟩ | ⟨rfl, rfl⟩
    all_goals
     refine Aa (A5 s0 s1 s4 hG hS) ?_;clear hz hG hS;show K2 _ _
     exact hK2 _ _ ⟨Ad, Ad, Ad, Ad, rfl⟩
   clear s0 s1 s4;rintro e S ⟨s0, s1, s4, s5, rfl⟩
   rw [hz] at s4;rw [hat];have hn0 : ∀ x : Int, x < 0 → x.toNat = 0 := fun x h => by omega
   by_cases hkj : j < ks.length
   ·have hg : ks[j]? = some ks[j] := List.getElem?_eq_getElem hkj
    have hgd : ks.getD j 0 = ks[j] := by rw [List.getD_eq_getElem?_getD, hg]; rfl
    rw [hgd] at hK;have c2 : (j : Int) < (ks.length : Int) := by omega
    generalize ks[j] = k at *;have hsz : AE 1 (ks.map (AV.it .i64)) = true := BN 1 _ (fun _ => rfl) _
    have hj0 : (0 : Int) ≤ (j : Int) := by omega
    by_cases c3 : k < 0
    ·have hm : (min ((d.fs j).data.length - (d.fs j).dur) k.toNat : Nat) = 0 := by omega
     rw [hm] at hK;have c4 : ¬ (0 : Int) > (((d.fs j).data.drop (d.fs j).dur).length : Int) := by omega
     refine Aa (Gv s0 s1 s4 s5 c2 hg hsz hj0 c3 c4) ?_;exact hK _ _ ⟨Ad, Ad, Ad, Ad, Ad, rfl⟩
    ·by_cases c4 : k > (((d.fs j).data.drop (d.fs j).dur).length : Int)
     ·have hm : (min ((d.fs j).data.length - (d.fs j).dur) k.toNat : Nat) = (d.fs j).data.length - (d.fs j).dur := by omega
      rw [hm, ← hld] at hK;refine Aa (Gv s0 s1 s4 s5 c2 hg hsz hj0 c3 c4) ?_;exact hK _ _ ⟨Ad, Ad, Ad, Ad, Ad, rfl⟩
     ·have hm : ((min ((d.fs j).data.length - (d.fs j).dur) k.toNat : Nat) : Int) = k := by omega
      rw [hm] at hK;refine Aa (Gv s0 s1 s4 s5 c2 hg hsz hj0 c3 c4) ?_;exact hK _ _ ⟨Ad, Ad, Ad, Ad, Ad, rfl⟩
   ·have hgd : ks.getD j 0 = 0 := by rw [List.getD_eq_getElem?_getD, List.getElem?_eq_none (by omega)]; rfl
    rw [hgd] at hK;have hm : (min ((d.fs j).data.length - (d.fs j).dur) (0 : Int).toNat : Nat) = 0 := by omega
    rw [hm] at hK;have c2 : ¬ (j : Int) < (ks.length : Int) := by omega
    have c4 : ¬ (0 : Int) > (((d.fs j).data.drop (d.fs j).dur).length : Int) := by omega
    refine Aa (A6 s0 s1 s4 s5 c2 c4) ?_;exact hK _ _ ⟨Ad, Ad, Ad, Ad, Ad, rfl⟩
  ·clear s0 s1 s4
   rintro e S ⟨s0, s1, s4, s5, s6, rfl⟩
   rw [← hld] at hcr s6;generalize hn : min ((d.fs j).data.drop (d.fs j).dur).length (ks.getD j 0).toNat = n at hcr s6;have c3 : n ≤ ((d.fs j).data.drop (d.fs j).dur).length := by omega
   have hlt1 : ((d.fs j).data.take (d.fs j).dur).length ≤ 16777216 := by rw [List.length_take]; omega
   have c4 : ((d.fs j).data.take (d.fs j).dur).length + (((d.fs j).data.drop (d.fs j).dur).take n).length ≤ 9223372036854775807 := by rw [List.length_take (i := n)]; omega
   obtain ⟨z, hz⟩ : ∃ z : Int, z = (j : Int) := ⟨_, rfl⟩
   rw [← hz] at s4;have hend := ZX d ks j hlt z hz;clear hat hn c1;have h8 : (z = 0 ∧ j = 0) ∨ (z = 1 ∧ j = 1) ∨ (z = 2 ∧ j = 2) ∨ (z = 3 ∧ j = 3) ∨ (z = 4 ∧ j = 4) ∨ (z = 5 ∧ j = 5) ∨ (z = 6 ∧ j = 6) ∨ (z = 7 ∧ j = 7) := by omega
   clear hld hlen hlt;rcases h8 with ⟨rfl, rfl⟩ | ⟨rfl, rfl⟩ | ⟨rfl, rfl⟩ | ⟨rfl, rfl⟩ | ⟨rfl, rfl⟩ | ⟨rfl, rfl⟩ | ⟨rfl, rfl⟩ | ⟨rfl, rfl⟩
   all_goals
    clear hz;refine Aa (A9 s0 s1 s4 s5 s6 hG hS c3 c4) ?_;rw [← hcr];first | rw [u0] | rw [u1] | rw [u2] | rw [u3] | rw [u4] | rw [u5] | rw [u6] | rw [u7]
    rw [hnx];exact hend _ _ Ad Ad Ad
end Pe
end
section
namespace Pe
open Tryz
open Go Go.RowKit Co Dm Wl
set_option maxRecDepth 100000
set_option maxHeartbeats 4000000
theorem ZT {b : By} (h : Wl.step ⟨b, false⟩ = none) : AD b = [] := by
 unfold AD;cases b.length with
 | zero => rfl
 | succ n => unfold Er; rw [h]
theorem RP : ∀ acc : List By, acc.length ≤ (Ar acc).length
 | [] => Nat.zero_le _
 | x :: acc => by
  have h1 := J9 x;have h2 := RP acc;rw [FA, List.length_append, List.length_cons];omega
theorem ZP (b : By) (hb : b.length ≤ 16777216) : AC prog 84 [.st b] [] (.tup [.sl .ro ((AD b).map .st), .it .i64 ((Ar (AD b)).length : Int)]) [] := by
 refine As [146] [] func84 ?_;refine run ?_;refine Eg (fun m e S => e 0 = .st b ∧ ∃ (acc : List By) (rest : By) (T : Ae), e 5 = .it .i64 ((Ar acc).length : Int) ∧ e 4 = .sl (.own 0) (acc.map .st) ∧ S = .buf acc.length 9 1 :: T ∧ DO acc ∧ b = Ar acc ++ rest ∧ m = rest.length) b.length _ _ (Ay.reserve 0 4 (es := []) (by rfl) 9 1)
  ⟨Ad, [], b, [], Ad, Ad, rfl, fun s hs => absurd hs (by simp), rfl, rfl⟩ ?_
 rintro m e S ⟨s0, acc, rest, T, s5, s4, rfl, hok, hbr, rfl⟩
 have hT1 : ∀ y : SObj, (T ++ [y])[T.length]? = some y := fun y => by simp
 have hT2 : ∀ y z : SObj, (T ++ [y]).set T.length z = T ++ [z] := fun y z => by simp
 have hrows := (ZU hok rest).1;rw [← hbr] at hrows;have hlen : b.length = (Ar acc).length + rest.length := by rw [hbr, List.length_append]
 have hal := RP acc;by_cases hlt : (Ar acc).length < b.length
 ·have hdr : b.drop (Ar acc).length = rest := by rw [hbr, List.drop_left']; rfl
  have hle : (Ar acc).length ≤ b.length := by omega
  have kf := Zau rest (by omega)
  cases hst : Wl.step ⟨rest, false⟩ with
  | none =>
   rw [Uf hst] at kf;rw [ZT hst, List.append_nil] at hrows;refine Aa (A8 s0 s5 s4 hlt hdr hle hT1 hT2) ?_;refine cp kf ?_;rw [hrows];refine Aa (A3 s0 s5 s4) ?_;exact AH
  | some r =>
   obtain ⟨s, x⟩ := r;obtain ⟨hr, hs, hx⟩ := Wl.step_inv hst;rw [Ue hst] at kf;have hpos := J9 s;have hq : (((AK s).length : Int) == 0) = false := by rw [beq_eq_false_iff_ne]; omega
   have hq2 : ((Ar acc).length : Int) + ((AK s).length : Int) = ((Ar (acc ++ [s])).length : Int) := by rw [J8, List.length_append]; omega
   have hrl : rest.length = (AK s).length + x.rest.length := by rw [hr, List.length_append]
   refine Aa (A8 s0 s5 s4 hlt hdr hle hT1 hT2) ?_;refine cp kf ?_;refine Aa (A5 s0 s5 s4 hq hq2) ?_;exact AG x.rest.length (by omega) ⟨Ad, acc ++ [s], x.rest, _, Ad, by rw [List.map_append]; exact Ad, by rw [List.length_append]; rfl, Oj hok (fun y hy => by rw [List.mem_singleton.1 hy]; exact hs), by rw [J8, hbr, List.append_assoc, ← hr], rfl⟩
 ·have hrest : rest = [] := List.eq_nil_of_length_eq_zero (by omega)
  subst hrest
  have : AD [] = [] := rfl;rw [this, List.append_nil] at hrows;have c1 : ¬ ((Ar acc).length : Int) < (b.length : Int) := by omega
  rw [hrows];refine Aa (A4 s0 s5 s4 @c1) ?_;exact AH
theorem Pc {P : Program} {rs : List ResultVar} {v : AV} {e : Af} {S S' : Ae} {vs : List AV} {N0 : Nat} (κ : List Nat) (h : CM P rs e S = some vs) (hs : SubOk κ S S') (hn : κ.take N0 = List.range N0) (hk : v.ok κ.length = true) (hv : (Dh vs).wk = v.ren (At κ)) : C6 P rs N0 v S' .ret e S :=
 ⟨e, S, vs, κ, Ay.refl N0 e S, h, hs, hn, hk, .inr hv⟩
theorem Ay.roC (N0 : Nat) {e : Af} {S : Ae} (k j : Nat) {cells es : List AV} {m : Mode} (hk : S[k]? = some (.cells cells)) (hj : cells[j]? = some (.sl m es)) : Ay N0 e S e (S.set k (.cells (cells.set j (.sl .ro es)))) := by
 rintro N w0 g0 a w hN ⟨h1, h2, g, h3, h4, h5⟩
 have hkS : k < S.length := (List.getElem?_eq_some_iff.1 hk).1
 obtain ⟨m1, m2, m3, arr', T', fr', m4, m5, m6, m7, m8⟩ := h3.obj k _ hk;refine ⟨h1, h2, g, ?_, h4, h5⟩
 refine h3.touch (w' := w) (g' := g) hkS (Le.refl _ _) rfl (fun _ _ _ => ⟨rfl, rfl, rfl, rfl, rfl⟩) (fun b hb => .inl hb) (Nat.le_refl _) (fun _ _ _ => rfl) (fun _ _ _ => rfl) ?_
 refine ⟨m1, m2, m3, arr', T', fr', m4, m5, by simpa using m6, m7, fun i u v hu hv => ?_⟩
 by_cases hij : i = j
 ·subst hij
  have hlt := (List.getElem?_eq_some_iff.1 hj).1
  rw [List.getElem?_set_self hlt] at hu
  cases hu
  exact (m8 i _ v hj hv).wk1
 ·rw [List.getElem?_set_ne (Ne.symm hij)] at hu
  exact m8 i u v hu hv
abbrev DC (b : Nat) (d : Dk) : SObj := .cells [.ws b 0 8 8, .it .i64 (d.lost : Int), .bo d.down, .it .i64 0, .sl .full []]
section
variable {P : Program} {pf rf : List FuncId} {e : Af} {f : FuncId} {dst : Option Nat} {rest : List AO} {K : Af → Ae → Prop}
theorem RT (d : Dk) : ∀ (i : Nat) (o : SObj), (RD d)[i]? = some o → o.ok 2 = true := fun i o hi => by
 match i, hi with
 | 0, hi => cases hi; rfl
 | 1, hi => cases hi; rfl
structure RdAt (T : Ae) (a b : Nat) (d : Dk) : Prop where
 ab : a ≠ b
 d0 : T[a]? = some (DC b d)
 f0 : T[b]? = some (.cells (Aj d.fs))
theorem RdAt.sub {T : Ae} {a b : Nat} {d : Dk} (h : RdAt T a b d) : SubOk [a, b] T (RD d) := ⟨by simp [h.ab], rfl, fun i o hi => by
 match i, hi with
 | 0, hi => cases hi; exact ⟨rfl, h.d0⟩
 | 1, hi => cases hi; exact ⟨rfl, h.f0⟩⟩
theorem AC.rd {args : List AV} {T : Ae} {d d' : Dk} {v : AV} {a b : Nat} (hl : RdAt T a b d) (h : AC P f (.ptr 0 0 :: args) (RD d) v (RD d')) (ha : args.all (AV.ok 0) = true) (hv : v.ok 0 = true) : AC P f (.ptr a 0 :: args) T v ((T.set a (DC b d')).set b (.cells (Aj d'.fs))) := by
 have ha1 : ∀ u ∈ args, u.ok 2 = true := fun u hu => CT (List.all_eq_true.1 ha u hu) (Nat.zero_le 2)
 have := h.frame (T := T) [a, b] hl.sub (by simp only [List.all_cons, Bool.and_eq_true]; exact ⟨rfl, List.all_eq_true.2 ha1⟩) (CT hv (Nat.zero_le 2)) (RT _)
 rw [List.map_cons, F5 ha, Cn hv (fun i hi => absurd hi (Nat.not_lt_zero _))] at this
 have hM : ∀ ρ, (SObj.cells (Aj d'.fs)).ren ρ = .cells (Aj d'.fs) := fun ρ => rfl
 unfold RD at this;generalize SObj.cells (Aj d'.fs) = M at *;simp only [after, List.map_cons, List.drop_succ_cons, List.drop_zero, List.length_cons, List.length_nil, hM] at this;simpa [after, B6, ext, At, SObj.ren, AV.r1, AV.r0, Mode.ren, AV.ren, AV.r2] using this
theorem FQ {args gargs : List AV} {T : Ae} {d d' : Dk} {v : AV} (a b : Nat) (h : AC P f (.ptr 0 0 :: args) (RD d) v (RD d'))
  (h' : Bh P pf rf rest (put e dst v) ((T.set a (DC b d')).set b (.cells (Aj d'.fs))) K)
  (hl : RdAt T a b d := by exact ⟨by decide, rfl, rfl⟩) (ha : args.all (AV.ok 0) = true := by rfl) (hv : v.ok 0 = true := by rfl) (hg : gargs.map AV.wk = .ptr a 0 :: args := by rfl) :
  BL (EE P f gargs T) (CN P pf rf dst rest e K) := Au (show AC P f (gargs.map AV.wk) T v _ by rw [hg]; exact AC.rd hl h ha hv) h'
end
abbrev LR (d : Dk) (f : Int) (rows : List By) : Ae := [DC 1 d, .cells (Aj d.fs), .cells [.ptr 0 0, .it .i64 f, .sl .ro (rows.map .st)]]
theorem Km (d : Dk) (f : Int) (rows : List By) (T : Ae) : SubOk (List.range 3) (LR d f rows ++ T) (LR d f rows) := ⟨by decide, rfl, fun i o hi => by
 match i, hi with
 | 0, hi => cases hi; exact ⟨rfl, rfl⟩
 | 1, hi => cases hi; exact ⟨rfl, rfl⟩
 | 2, hi => cases hi; exact ⟨rfl, rfl⟩⟩
theorem Zca (d : Dk) (f : Int) (l : List AV) (T : Ae) (o : SObj) : SubOk (List.range 3) (DC 1 d :: .cells (Aj d.fs) :: .cells [.ptr 0 0, .it .i64 f, .sl .ro l] :: o :: T) [DC 1 d, .cells (Aj d.fs), .cells [.ptr 0 0, .it .i64 f, .sl .ro l]] := ⟨by decide, rfl, fun i o hi => by
 match i, hi with
 | 0, hi => cases hi; exact ⟨rfl, rfl⟩
 | 1, hi => cases hi; exact ⟨rfl, rfl⟩
 | 2, hi => cases hi; exact ⟨rfl, rfl⟩⟩
theorem Zag (d : Dk) (ho : Ok d) (h0 : d.armed = 0) (f : Int) (rows : List By) : AC prog 55 [.ptr 2 0] (LR d f rows) (.it .i64 (flushD d f).1) (LR (flushD d f).2 f rows) := by
 refine As [] [] func55 ?_;have kf := RU d ho h0 f;generalize flushD d f = q at *;obtain ⟨en, d'⟩ := q;simp only at kf ⊢
 refine run ?_;refine FQ 0 1 kf ?_;refine run ?_;exact Aq (List.range 3) (by rfl) (Km d' f rows []) (by rfl) (by rfl) (by rfl)
theorem Zak (d : Dk) (f : Int) (rows : List By) (hr : rows.length ≤ 16777216) : AC prog 42 [.ptr 2 0] (LR d f rows) (.sl .ro (rows.map .st)) (LR d f rows) := by
 refine As [] [] func42 ?_;have hs1 : AE 1 (rows.map AV.st) = true := BN 1 AV.st (fun _ => rfl) _
 refine Aa hs1 ?_;exact Pc (List.range 3) (by rfl) (Km d f rows _) (by rfl) (by rfl) (by rfl)
theorem Zal (d : Dk) (ho : Ok d) (h0 : d.armed = 0) (f : Int) (rows : List By) (s : By) (hr : rows.length ≤ 16777216) (hs : s.length ≤ 140737488000000) : AC prog 52 [.ptr 2 0, .st s] (LR d f rows) (.it .i64 (Bv d f s).1) (LR (Bv d f s).2 f (if (Bv d f s).1 = 0 then rows ++ [s] else rows)) := by
 refine As [108] [] func52 ?_;have had : Bv d f s = (if 1048576 < s.length then (7, d) else appendD d f (AK s)) := rfl
 by_cases h1 : (s.length : Int) > 1048576
 ·rw [if_pos (by omega)] at had
  rw [had];rw [if_neg (by simp)]
  refine Aa h1 ?_;exact Aq (List.range 3) (by rfl) (Km d f rows []) (by rfl) (by rfl) (by rfl)
 rw [if_neg (by omega)] at had
 rw [had];have hrl : (AK s).length ≤ 140737488355328 := by
  have hl := Ak (s.length : Int) (by omega)
  rw [E9] at hl;simp only [AK, List.length_append, G4];omega
 have kr := Rq s (by omega)
 have ka := Za8 d ho h0 f (AK s) hrl;have hs1 : AE 1 (rows.map AV.st) = true := BN 1 AV.st (fun _ => rfl) _
 generalize appendD d f (AK s) = q at *;obtain ⟨en, d'⟩ := q;simp only at ka ⊢
 refine Aa h1 ?_;refine cp kr ?_;refine run ?_;refine FQ 0 1 ka ?_;by_cases he : en = 0
 ·subst he
  rw [if_pos rfl];refine Aa hs1 ?_;have e : LR d' f (rows ++ [s]) = [DC 1 d', .cells (Aj d'.fs), .cells [.ptr 0 0, .it .i64 f, .sl .ro (rows.map .st ++ [.st s])]] := by
   show [_, _, SObj.cells [_, _, AV.sl _ (List.map _ _)]] = _
   rw [List.map_append]; rfl
  rw [e];exact KG _ [DC 1 d', .cells (Aj d'.fs), .cells [.ptr 0 0, .it .i64 f, .sl .ro (rows.map .st ++ [.st s])], .buf (rows.length + 1) 9 1] (Ay.roC 3 2 2 (cells := [.ptr 0 0, .it .i64 f, .sl (.own 3) (rows.map .st ++ [.st s])]) (by rfl) (by rfl)) (List.range 3) (by rfl) (Zca _ _ _ _ _) (by rfl) (by rfl) (by rfl)
 ·rw [if_neg he]
  have hq : (en == 0) = false := by simp [he]
  refine Aa (an hq he) ?_;exact Aq (List.range 3) (by rfl) (Km d' f rows []) (by rfl) (by rfl) (by rfl)
theorem Z0 (d : Dk) (f : Int) (hf : ¬ (0 ≤ f ∧ f ≤ 6)) : AC prog 41 [.ptr 0 0, .it .i64 f] (RD d) (.tup [.ot (.pointer none), .it .i64 1]) (RD d) := by
 refine As [84] [] func41 ?_;by_cases h0 : f < 0
 ·refine Aa h0 ?_
  exact Aq (List.range 2) (by rfl) (BJ d) (by rfl) (by rfl) (by rfl)
 ·have h1 : f > 6 := by omega
  refine Aa (an h0 h1) ?_;exact Aq (List.range 2) (by rfl) (BJ d) (by rfl) (by rfl) (by rfl)
structure Un (d : Dk) : Prop where
 ok : Ok d
 armed : d.armed = 0
theorem YK {d : Dk} (h : d.armed = 0) (e : Int) : (struck d e).2.armed = 0 := by rw [IV h]; exact h
theorem Ze1 {d : Dk} (h : d.armed = 0) (l : List Int) : (beginD d l).2.armed = 0 := by
 unfold beginD;split
 ·exact h
 ·exact YK h _
theorem U6 {d : Dk} (h : d.armed = 0) (f n : Int) : (cutD d f n).2.armed = 0 := by
 have hb := Ze1 h [f];unfold cutD;simp only
 split
 ·exact hb
 split
 ·exact hb
 ·exact hb
end Pe
end
section
namespace Pe
open Tryz
open Go Go.RowKit Co Dm Wl
set_option maxRecDepth 100000
set_option maxHeartbeats 4000000
theorem Ry (d : Dk) (hu : Un d) (f : Int) (hf : 0 ≤ f ∧ f ≤ 6) (v : AV) (S' : Ae)
  (w0 : (AU d f).1 = 0 → v = .tup [.ptr 2 0, .it .i64 0] ∧ S' = LR (AU d f).2 f (AD (peek d f).1))
  (w1 : (AU d f).1 ≠ 0 → v = .tup [.ot (.pointer none), .it .i64 (AU d f).1] ∧ S' = RD (AU d f).2) :
  AC prog 41 [.ptr 0 0, .it .i64 f] (RD d) v S' := by
 refine As [84] [] func41 ?_;have hod : AU d f = (if (peek d f).2 ≠ 0 then ((peek d f).2, d) else
  if (Bw d f).1 ≠ 0 then Bw d f else
  if (BG (Bw d f).2 f).1 ≠ 0 then BG (Bw d f).2 f else
  flushD (BG (Bw d f).2 f).2 f) := rfl
 have htr : Bw d f = (if (Ar (AD (peek d f).1)).length < (peek d f).1.length then cutD d f ((Ar (AD (peek d f).1)).length : Int) else (0, d)) := rfl
 have hn1 : ¬ f < 0 := by omega
 have hn2 : ¬ f > 6 := by omega
 have hn3 : f + 1 ≤ 9223372036854775807 := by omega
 have hpl : (peek d f).1.length ≤ 16777216 := by
  unfold peek;split
  ·exact Nat.zero_le _
  split
  ·exact (hu.ok.fs _).len
  ·exact Nat.zero_le _
 have k1 := Za4 d hu.ok f;have k2 := ZP (peek d f).1 hpl;have k3 := RV d hu.ok hu.armed f ((Ar (AD (peek d f).1)).length : Int);have ot : Un (Bw d f).2 := ⟨Qy hu.ok, by rw [htr]; split; exact U6 hu.armed _ _; exact hu.armed⟩
 have hb2 : ∀ e' : Int, e' ≠ 0 → (e' == 0) = false := fun e' h => by rw [beq_eq_false_iff_ne]; exact h
 rw [EG, EG, EG, EG];refine Gu (fun e S => e 0 = .ptr 0 0 ∧ e 1 = .it .i64 f ∧ e 6 = .st (peek d f).1 ∧ e 7 = .it .i64 0 ∧ e 8 = .sl .ro ((AD (peek d f).1).map .st) ∧ e 9 = .it .i64 ((Ar (AD (peek d f).1)).length : Int) ∧ S = RD d ∧ (peek d f).2 = 0) (fun Kt hK => ?_) ?_
 ·refine Aa (an hn1 hn2) ?_
  refine Au k1 ?_;generalize peek d f = p at *;obtain ⟨b, e0⟩ := p;simp only at *
  by_cases he0 : e0 = 0
  ·subst he0
   refine run ?_;refine cp k2 ?_;refine run ?_;exact hK _ _ ⟨Ad, Ad, Ad, Ad, Ad, Ad, rfl, rfl⟩
  ·have hq := hb2 e0 he0
   rw [if_pos he0] at hod;rw [hod] at w0 w1;obtain ⟨rfl, rfl⟩ := w1 he0;refine Aa (an hq he0) ?_;exact Aq (List.range 2) (by rfl) (BJ d) (by rfl) (by rfl) (by rfl)
 rintro e S ⟨s0, s1, s6, s7, s8, s9, rfl, hp0⟩
 rw [hp0, if_neg (by simp)] at hod
 clear k1 k2;generalize hrows : AD (peek d f).1 = rows at *;refine Gu (fun e S => e 0 = .ptr 0 0 ∧ e 1 = .it .i64 f ∧ e 7 = .it .i64 (Bw d f).1 ∧ e 8 = .sl .ro (rows.map .st) ∧ S = RD (Bw d f).2) (fun Kt hK => ?_) ?_
 ·by_cases hlt : (Ar rows).length < (peek d f).1.length
  ·rw [if_pos hlt] at htr
   rw [htr] at hK;have c1 : ((Ar rows).length : Int) < ((peek d f).1.length : Int) := by omega
   refine Aa (A7 s0 s1 s6 s7 s8 s9 @c1) ?_;refine Au k3 ?_;refine Aa (A6 s0 s1 s6 s7 s8 s9) ?_;exact hK _ _ ⟨Ad, Ad, Ad, Ad, rfl⟩
  ·rw [if_neg hlt] at htr
   rw [htr] at hK;have c1 : ¬ ((Ar rows).length : Int) < ((peek d f).1.length : Int) := by omega
   refine Aa (A7 s0 s1 s6 s7 s8 s9 @c1) ?_;exact hK _ _ ⟨Ad, Ad, Ad, Ad, rfl⟩
 clear s0 s1 s6 s7 s8 s9;rintro e S ⟨s0, s1, s7, s8, rfl⟩
 clear htr k3;generalize Bw d f = t1 at *;obtain ⟨e1, d1⟩ := t1;simp only at *
 have hcl : BG d1 f = (if size d1 (f + 1) = 0 then (0, d1) else cutD d1 (f + 1) 0) := rfl
 have k4 := N7 d1 ot.ok (f + 1);have k5 := RV d1 ot.ok ot.armed (f + 1) 0;have oc : Un (BG d1 f).2 := ⟨Vr ot.ok, by rw [hcl]; split; exact ot.armed; exact U6 ot.armed _ _⟩
 refine Gu (fun e S => e 0 = .ptr 0 0 ∧ e 1 = .it .i64 f ∧ e 8 = .sl .ro (rows.map .st) ∧ ((e1 ≠ 0 ∧ e 7 = .it .i64 e1 ∧ S = RD d1) ∨ (e1 = 0 ∧ e 7 = .it .i64 (BG d1 f).1 ∧ S = RD (BG d1 f).2))) (fun Kt hK => ?_) ?_
 ·by_cases he1 : e1 = 0
  ·subst he1
   by_cases hz : size d1 (f + 1) = 0
   ·rw [if_pos hz] at hcl
    rw [hcl] at hK;have c1 : ¬ ((size d1 (f + 1) : Int) > 0) := by omega
    refine Aa (A4 s0 s1 s7 s8) ?_;refine Au k4 ?_;refine Aa (A5 s0 s1 s7 s8 @c1) ?_;exact hK _ _ ⟨Ad, Ad, Ad, .inr ⟨rfl, Ad, rfl⟩⟩
   ·rw [if_neg hz] at hcl
    rw [hcl] at hK;have c1 : (size d1 (f + 1) : Int) > 0 := by omega
    refine Aa (A4 s0 s1 s7 s8) ?_;refine Au k4 ?_;refine Aa (A5 s0 s1 s7 s8 @c1) ?_;refine Au k5 ?_;refine Aa (A5 s0 s1 s7 s8 @c1) ?_;exact hK _ _ ⟨Ad, Ad, Ad, .inr ⟨rfl, Ad, rfl⟩⟩
  ·have hq := hb2 e1 he1
   refine Aa (A6 s0 s1 s7 s8 hq he1) ?_;exact hK _ _ ⟨Ad, Ad, Ad, .inl ⟨he1, Ad, rfl⟩⟩
 clear s0 s1 s7 s8 hcl k4 k5;rintro e S ⟨s0, s1, s8, hcase⟩
 generalize BG d1 f = t2 at *;obtain ⟨e2, d2⟩ := t2;simp only at *
 have k6 := RU d2 oc.ok oc.armed f;rcases hcase with ⟨he1, s7, rfl⟩ | ⟨rfl, s7, rfl⟩
 ·rw [if_pos he1] at hod
  rw [hod] at w0 w1;obtain ⟨rfl, rfl⟩ := w1 he1;have hq := hb2 e1 he1;refine Aa (A6 s0 s1 s7 s8 hq he1) ?_;exact Aq (List.range 2) (by rfl) (BJ d1) (by rfl) (by rfl) (by rfl)
 rw [if_neg (by simp)] at hod
 by_cases he2 : e2 = 0
 rotate_left
 ·rw [if_pos he2] at hod
  rw [hod] at w0 w1;obtain ⟨rfl, rfl⟩ := w1 he2;have hq := hb2 e2 he2;refine Aa (A6 s0 s1 s7 s8 hq he2) ?_;exact Aq (List.range 2) (by rfl) (BJ d2) (by rfl) (by rfl) (by rfl)
 subst he2;rw [if_neg (by simp)] at hod
 rw [hod] at w0 w1;refine Aa (A4 s0 s1 s7 s8) ?_;refine Au k6 ?_;generalize flushD d2 f = t3 at *;obtain ⟨e3, d3⟩ := t3;simp only at *
 by_cases he3 : e3 = 0
 ·subst he3
  obtain ⟨rfl, rfl⟩ := w0 rfl;refine Aa (A4 s0 s1 s7 s8) ?_;exact Aq (List.range 3) (by rfl) (Km d3 f rows []) (by rfl) (by rfl) (by rfl)
 ·obtain ⟨rfl, rfl⟩ := w1 he3
  have hq := hb2 e3 he3;refine Aa (A6 s0 s1 s7 s8 hq he3) ?_;exact Aq (List.range 2) (by rfl) (BJ d3) (by rfl) (by rfl) (by rfl)
end Pe
end
section
namespace Pe
open Tryz
open Go Go.RowKit Co Sg Ac
set_option maxRecDepth 100000
set_option maxHeartbeats 4000000
structure In (a : Ac.Act) : Prop where
 sz : Sz a
 prev : a.prev.length ≤ 140737488355328
 object : a.object.length ≤ 140737488355328
 body : a.body.nonce.length ≤ 140737488355328 ∧ a.body.data.length ≤ 140737488355328 ∧ a.body.tag.length ≤ 140737488355328
 ws : ∀ w ∈ a.wraps, w.box.nonce.length ≤ 140737488355328 ∧ w.box.data.length ≤ 140737488355328 ∧ w.box.tag.length ≤ 140737488355328
 ints : (-9223372036854775808 ≤ a.epoch ∧ a.epoch ≤ 9223372036854775807) ∧ (-9223372036854775808 ≤ a.m ∧ a.m ≤ 9223372036854775807)
theorem Q7 {n us} (h : Bm prog 140737488351232 (n + 2) 45 us) : ∃ l : List By, us = [Bn l] ∧ l.length ≤ 140737488351232 ∧ ∀ s ∈ l, s.length ≤ 140737488351232 := by
 obtain ⟨l, h1, h2, h3⟩ := JW AV.st (fun s : By => s.length ≤ 140737488351232) underlying45 h (fun x hx => by
  obtain ⟨s, rfl, hs⟩ := Dg underlying9 hx;exact ⟨s, by rw [show EC prog 9 = false from by kernel_rfl]; rfl, hs⟩)
 exact ⟨l, h1, h2, h3⟩
theorem Q8 {n us} (h : Bm prog 140737488351232 (n + 2) 47 us) : ∃ b : Box, us = [.st b.nonce, .st b.data, .st b.tag] ∧ b.nonce.length ≤ 140737488351232 ∧ b.data.length ≤ 140737488351232 ∧ b.tag.length ≤ 140737488351232 := by
 have h := E4 underlying47 h;obtain ⟨a0, b0, rfl, h0, h⟩ := h;obtain ⟨a1, b1, rfl, h1, h⟩ := h;obtain ⟨a2, b2, rfl, h2, rfl⟩ := h;obtain ⟨s0, rfl, w0⟩ := Dg underlying9 h0;obtain ⟨s1, rfl, w1⟩ := Dg underlying9 h1;obtain ⟨s2, rfl, w2⟩ := Dg underlying9 h2;exact ⟨⟨s0, s1, s2⟩, rfl, w0, w1, w2⟩
theorem Zc {n us} (h : Bm prog 140737488351232 (n + 2) 50 us) : ∃ s : Sig, us = [.it .i64 s.e, .it .i64 s.s] := by
 have h := E4 underlying50 h;obtain ⟨a0, b0, rfl, h0, h⟩ := h;obtain ⟨a1, b1, rfl, h1, rfl⟩ := h;obtain ⟨i0, rfl, w0⟩ := Bt underlying3 h0;obtain ⟨i1, rfl, w1⟩ := Bt underlying3 h1;exact ⟨⟨i0, i1⟩, rfl⟩
theorem Y9 {n us} (h : Bm prog 140737488351232 (n + 3) 153 us) : ∃ w : Wrap, us = (Bb w).cells ∧ w.box.nonce.length ≤ 140737488351232 ∧ w.box.data.length ≤ 140737488351232 ∧ w.box.tag.length ≤ 140737488351232 := by
 have h := E4 underlying153 h;obtain ⟨a0, b0, rfl, h0, h⟩ := h;obtain ⟨a1, b1, rfl, h1, h⟩ := h;obtain ⟨a2, b2, rfl, h2, rfl⟩ := h;obtain ⟨i0, rfl, w0⟩ := Bt underlying3 h0;obtain ⟨i1, rfl, w1⟩ := Bt underlying3 h1;obtain ⟨b, rfl, w2⟩ := Q8 h2;exact ⟨⟨i0, i1, b⟩, rfl, w2⟩
theorem Y8 {n us} (h : Bm prog 140737488351232 (n + 4) 48 us) : ∃ l : List Wrap, us = [.sl .ro (l.map Bb)] ∧ l.length ≤ 140737488351232 ∧ ∀ w ∈ l, w.box.nonce.length ≤ 140737488351232 ∧ w.box.data.length ≤ 140737488351232 ∧ w.box.tag.length ≤ 140737488351232 :=
 JW Bb (fun w : Wrap => w.box.nonce.length ≤ 140737488351232 ∧ w.box.data.length ≤ 140737488351232 ∧ w.box.tag.length ≤ 140737488351232) underlying48 h fun x hx => by
  obtain ⟨w, rfl, hw⟩ := Y9 hx;exact ⟨w, by rw [show EC prog 153 = true from by kernel_rfl]; rfl, hw⟩
theorem Zk {n us} (h : Bm prog 140737488351232 (n + 5) 52 us) : ∃ a : Ac.Act, us = (Bl a).cells ∧ In a := by
 have h := E4 underlying52 h;obtain ⟨a0, b0, rfl, h0, h⟩ := h;obtain ⟨a1, b1, rfl, h1, h⟩ := h;obtain ⟨a2, b2, rfl, h2, h⟩ := h;obtain ⟨a3, b3, rfl, h3, h⟩ := h;obtain ⟨a4, b4, rfl, h4, h⟩ := h;obtain ⟨a5, b5, rfl, h5, h⟩ := h;obtain ⟨a6, b6, rfl, h6, h⟩ := h;obtain ⟨a7, b7, rfl, h7, h⟩ := h;obtain ⟨a8, b8, rfl, h8, h⟩ := h;obtain ⟨a9, b9, rfl, h9, h⟩ := h;obtain ⟨a10, b10, rfl, h10, h⟩ := h;obtain ⟨a11, b11, rfl, h11, h⟩ := h;obtain ⟨a12, b12, rfl, h12, h⟩ := h;obtain ⟨a13, b13, rfl, h13, h⟩ := h;obtain ⟨a14, b14, rfl, h14, h⟩ := h;obtain ⟨a15, b15, rfl, h15, h⟩ := h;obtain ⟨a16, b16, rfl, h16, rfl⟩ := h;obtain ⟨author, rfl, w0⟩ := Dg underlying9 h0;obtain ⟨seq, rfl, w1⟩ := Bt underlying3 h1;obtain ⟨prev, rfl, w2⟩ := Dg underlying9 h2;obtain ⟨kind, rfl, w3⟩ := Bt underlying3 h3;obtain ⟨time, rfl, w4⟩ := Bt underlying3 h4;obtain ⟨object, rfl, w5⟩ := Dg underlying9 h5;obtain ⟨target, rfl, w6⟩ := Dg underlying9 h6;obtain ⟨scope, rfl, w7⟩ := Bt underlying3 h7;obtain ⟨group, rfl, w8⟩ := Dg underlying9 h8;obtain ⟨to, rfl, w9, w9'⟩ := Q7 h9;obtain ⟨text, rfl, w10⟩ := Dg underlying9 h10;obtain ⟨body, rfl, w11⟩ := Q8 h11;obtain ⟨epoch, rfl, w12⟩ := Bt underlying3 h12;obtain ⟨wr, rfl, w13, w13'⟩ := Y8 h13;obtain ⟨n, rfl, w14⟩ := Bt underlying3 h14;obtain ⟨m, rfl, w15⟩ := Bt underlying3 h15;obtain ⟨sig, rfl⟩ := Zc h16;refine ⟨⟨author, seq, prev, kind, time, object, target, scope, group, to, text, body, epoch, wr, n, m, sig⟩, rfl, ⟨?_, ?_, ?_, ?_, fun s hs => ?_, ?_, ?_⟩, ?_, ?_, ?_, fun w hw => ?_, w12, w15⟩
 ·show author.length ≤ _; omega
 ·show target.length ≤ _; omega
 ·show group.length ≤ _; omega
 ·show text.length ≤ _; omega
 ·have := w9' s hs; omega
 ·show to.length ≤ _; omega
 ·show wr.length ≤ _; omega
 ·show prev.length ≤ _; omega
 ·show object.length ≤ _; omega
 ·show body.nonce.length ≤ _ ∧ body.data.length ≤ _ ∧ body.tag.length ≤ _; omega
 ·have := w13' w hw; omega
end Pe
end
end Go.Proofs.YtldohjjoicmfpaaGreatDoor
