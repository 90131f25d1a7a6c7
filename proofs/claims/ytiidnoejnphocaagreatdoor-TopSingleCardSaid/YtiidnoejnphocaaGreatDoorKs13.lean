import Derived.Test.YtiidnoejnphocaaGreatDoorKs12
set_option linter.unusedSectionVars false
set_option linter.unusedVariables false
set_option linter.unusedSimpArgs false
namespace Go.Proofs.YtiidnoejnphocaaGreatDoor
section
namespace Pe
open Tryz
open Go Go.RowKit Co
set_option maxRecDepth 100000
set_option maxHeartbeats 4000000
theorem TI : ∀ (f n : Nat), n < f → n < 9223372036854775808 → AC prog 80 [.it .i64 n] [] (.st (num n)) []
 | 0, n, h, _ => absurd h (Nat.not_lt_zero _)
 | f + 1, n, hf, hn => by
  by_cases hs : n < 128
  ·refine Ar [80] [] func80 ?_
   have h0 : ¬ (n : Int) < 0 := by omega
   have h1 : (n : Int) < 128 := by omega
   have hw : IntKind.u8.wrap (n : Int) = (n : Int) := JQ (by omega) (by omega)
   have hb : bytesOf [AV.it .u8 (n : Int)] = some [UInt8.ofNat n] := by
    rw [show (AV.it .u8 (n : Int)) = u8 (UInt8.ofNat n) from by unfold u8; rw [MC (by omega)]]
    exact JE [UInt8.ofNat n]
   rw [Ih hs];refine Aa (A4 @h0 @h1 @hw @hb) ?_;exact Ab
  ·have ih := TI f (n / 128) (by omega) (by omega)
   refine Ar [80] [] func80 ?_;have h0 : ¬ (n : Int) < 0 := by omega
   have h1 : ¬ (n : Int) < 128 := by omega
   have hm : (n : Int).tmod 128 = ((n % 128 : Nat) : Int) := by rw [Int.tmod_eq_emod_of_nonneg (by omega)]; omega
   have hd : (n : Int).tdiv 128 = ((n / 128 : Nat) : Int) := by rw [Int.tdiv_eq_ediv_of_nonneg (by omega)]; omega
   have hw : IntKind.u8.wrap (128 + ((n % 128 : Nat) : Int)) = ((128 + n % 128 : Nat) : Int) := by rw [show (128 : Int) + ((n % 128 : Nat) : Int) = ((128 + n % 128 : Nat) : Int) from by omega]; exact JQ (by omega) (by omega)
   have hb : bytesOf [AV.it .u8 ((128 + n % 128 : Nat) : Int)] = some [UInt8.ofNat (128 + n % 128)] := by
    rw [show (AV.it .u8 ((128 + n % 128 : Nat) : Int)) = u8 (UInt8.ofNat (128 + n % 128)) from by unfold u8; rw [MC (by omega)]]
    exact JE [UInt8.ofNat (128 + n % 128)]
   have hl := DM (n := n / 128) (by omega)
   rw [KS hs];refine Aa (A6 @h0 @h1 @hm @hd @hw @hb) ?_;refine cp ih ?_;refine run ?_;exact Ab
theorem AL (n : Int) (h : n < 9223372036854775808) : AC prog 80 [.it .i64 n] [] (.st (Ag n)) [] := by
 by_cases h0 : n < 0
 ·refine Ar [80] [] func80 ?_
  rw [show Ag n = [] from by unfold Ag; rw [if_pos h0]]
  refine run ?_;exact Ab
 ·obtain ⟨m, rfl⟩ : ∃ m : Nat, n = (m : Int) := ⟨n.toNat, by omega⟩
  rw [GT];exact TI (m + 1) m (by omega) (by omega)
theorem Bq (s : By) (h : s.length ≤ 1000000000) : AC prog 77 [.st s] [] (.st (text s)) [] := by
 refine Ar [80] [] func77 ?_;have k := AL (s.length : Int) (by omega)
 rw [GT] at k;have hl := DM (n := s.length) (by omega)
 unfold text;refine run ?_;refine cp k ?_;refine run ?_;exact Ab
end Pe
namespace Pe
open Tryz
open Go Go.RowKit Co Sg
set_option maxRecDepth 100000
set_option maxHeartbeats 4000000
theorem ZcN (a m : Int) (hm : 0 < m) : a % m = if a.tmod m < 0 then a.tmod m + m else a.tmod m := by
 rw [Int.emod_eq_tmod];have hb := Int.emod_nonneg a (show m ≠ 0 by omega)
 have ht := Int.tmod_lt_of_pos a hm;by_cases h0 : 0 ≤ a
 ·have := Int.tmod_nonneg m h0
  rw [if_pos (.inl h0), if_neg (by omega)]; omega
 ·by_cases hd : m ∣ a
  ·rw [if_pos (.inr hd), Int.tmod_eq_zero_of_dvd hd]; simp
  ·have hneg : a.tmod m < 0 := by
    have h2 := Int.emod_eq_tmod (a := a) (b := m);rw [if_neg (by rintro (h | h); exact h0 h; exact hd h)] at h2
    have h3 := Int.emod_lt_of_pos a hm
    have : (m.natAbs : Int) = m := by omega
    omega
   rw [if_neg (by rintro (h | h); exact h0 h; exact hd h), if_pos hneg]
   omega
theorem VO (a : Nat) (ha : a < 18446744073709551616) : Go.bits .and .u64 (a : Int) 2147483647 = ((a % 2147483648 : Nat) : Int) := by
 have := bits_nat .and Nat.land (.inl ⟨rfl, rfl⟩) a 2147483647 ha (by omega) .u64 (.inl rfl)
 have e : Nat.land a 2147483647 = a % 2147483648 := Nat.and_two_pow_sub_one_eq_mod a 31;rw [e] at this;exact this.trans (Dx (by omega))
theorem VP (a : Nat) (ha : a < 18446744073709551616) : Go.bits .and .u64 (a : Int) 1073741823 = ((a % 1073741824 : Nat) : Int) := by
 have := bits_nat .and Nat.land (.inl ⟨rfl, rfl⟩) a 1073741823 ha (by omega) .u64 (.inl rfl)
 have e : Nat.land a 1073741823 = a % 1073741824 := Nat.and_two_pow_sub_one_eq_mod a 30;rw [e] at this;exact this.trans (Dx (by omega))
theorem Qw {n : Nat} (h : n < 9223372036854775808) : IntKind.i64.wrap (n : Int) = (n : Int) := wrap64 (by omega) (by omega)
theorem Ss (x0 x1 y0 y1 : Nat) : (x1 * 2147483648 + x0) * (y1 * 2147483648 + y0) = x1 * y1 * 4611686018427387904 + (x1 * y0 + x0 * y1) * 2147483648 + x0 * y0 := by
 grind
theorem Gg (a m : Int) (hm : 0 < m) (hm' : m < 4611686018427387904) (ha : -9223372036854775808 ≤ a ∧ a ≤ 9223372036854775807) : AC prog 148 [.it .i64 a, .it .i64 m] [] (.it .i64 (a % m)) [] := by
 refine Ar [] [] func148 ?_;have h1 := ZcN a m hm;have h2 : -m ≤ a.tmod m ∧ a.tmod m < m := by
  have hb := Int.emod_nonneg a (show m ≠ 0 by omega)
  have hc := Int.emod_lt_of_pos a hm;have ht := Int.tmod_lt_of_pos a hm;split at h1 <;> omega
 have hm0 : m ≠ 0 := by omega
 obtain ⟨t, ht⟩ : ∃ t, a.tmod m = t := ⟨_, rfl⟩
 rw [ht] at h1 h2;rw [h1];by_cases h0 : t < 0
 ·rw [if_pos h0]
  refine Aa (an @ht @hm0) ?_;exact Ab
 ·rw [if_neg h0]
  refine Aa (an @ht @hm0) ?_;exact Ab
theorem Rp (a b : Nat) (ha : a < 2305843009213693952) (hb : b < 2305843009213693952) : AC prog 150 [.it .i64 a, .it .i64 b] [] (.tup [.it .u64 ((a / 2147483648 * (b / 2147483648) : Nat) : Int), .it .u64 ((a / 2147483648 * (b % 2147483648) + a % 2147483648 * (b / 2147483648) : Nat) : Int), .it .u64 ((a % 2147483648 * (b % 2147483648) : Nat) : Int)]) [] := by
 refine Ar [] [] func150 ?_;have wa := Dx (n := a) (by omega)
 have wb := Dx (n := b) (by omega)
 have hx0 := VO a (by omega)
 have hy0 := VO b (by omega)
 have hx1 := Dy a 31 31 rfl (by omega)
 have hy1 := Dy b 31 31 rfl (by omega)
 rw [show (2 : Nat) ^ 31 = 2147483648 from rfl] at hx1 hy1
 have b0 : a % 2147483648 ≤ 2147483647 := by omega
 have b1 : a / 2147483648 ≤ 1073741823 := by omega
 have b2 : b % 2147483648 ≤ 2147483647 := by omega
 have b3 : b / 2147483648 ≤ 1073741823 := by omega
 generalize a % 2147483648 = x0 at *;generalize a / 2147483648 = x1 at *;generalize b % 2147483648 = y0 at *;generalize b / 2147483648 = y1 at *;have p00 : x0 * y0 ≤ 2147483647 * 2147483647 := Nat.mul_le_mul b0 b2;have p10 : x1 * y0 ≤ 1073741823 * 2147483647 := Nat.mul_le_mul b1 b2;have p01 : x0 * y1 ≤ 2147483647 * 1073741823 := Nat.mul_le_mul b0 b3;have p11 : x1 * y1 ≤ 1073741823 * 1073741823 := Nat.mul_le_mul b1 b3;have c00 : ((x0 : Int) * (y0 : Int)) = ((x0 * y0 : Nat) : Int) := by push_cast; rfl
 have c10 : ((x1 : Int) * (y0 : Int)) = ((x1 * y0 : Nat) : Int) := by push_cast; rfl
 have c01 : ((x0 : Int) * (y1 : Int)) = ((x0 * y1 : Nat) : Int) := by push_cast; rfl
 have c11 : ((x1 : Int) * (y1 : Int)) = ((x1 * y1 : Nat) : Int) := by push_cast; rfl
 generalize x0 * y0 = q00 at *;generalize x1 * y0 = q10 at *;generalize x0 * y1 = q01 at *;generalize x1 * y1 = q11 at *;have w00 : IntKind.u64.wrap (q00 : Int) = (q00 : Int) := Dx (by omega)
 have w10 : IntKind.u64.wrap (q10 : Int) = (q10 : Int) := Dx (by omega)
 have w01 : IntKind.u64.wrap (q01 : Int) = (q01 : Int) := Dx (by omega)
 have w11 : IntKind.u64.wrap (q11 : Int) = (q11 : Int) := Dx (by omega)
 have ws : IntKind.u64.wrap ((q10 : Int) + (q01 : Int)) = ((q10 + q01 : Nat) : Int) := by rw [Bf]; omega
 refine Aa (an @wa (an @wb (an @hx0 (an @hy0 (Aw @hx1 @hy1 @c00 @c10 @c01 @c11 @w00 @w10 @w01 @w11 @ws))))) ?_;exact Ab
theorem Om (a b : Int) (ha : -9223372036854775808 ≤ a ∧ a ≤ 9223372036854775807) (hb : -9223372036854775808 ≤ b ∧ b ≤ 9223372036854775807) : AC prog 149 [.it .i64 a, .it .i64 b] [] (.it .i64 (Il a b : Nat)) [] := by
 refine Ar [148, 150] [] func149 ?_;unfold Il;have a1 := Int.emod_nonneg a (show (2305843009213693951 : Int) ≠ 0 by omega)
 have a2 := Int.emod_lt_of_pos a (show (0 : Int) < 2305843009213693951 by omega)
 have b1 := Int.emod_nonneg b (show (2305843009213693951 : Int) ≠ 0 by omega)
 have b2 := Int.emod_lt_of_pos b (show (0 : Int) < 2305843009213693951 by omega)
 obtain ⟨x, hx⟩ := Int.eq_ofNat_of_zero_le a1;obtain ⟨y, hy⟩ := Int.eq_ofNat_of_zero_le b1;have ra := Gg a 2305843009213693951 (by omega) (by omega) ha
 have rb := Gg b 2305843009213693951 (by omega) (by omega) hb
 rw [hx] at ra a1 a2 ⊢;rw [hy] at rb b1 b2 ⊢;rw [Int.toNat_natCast, Int.toNat_natCast];have hm := Rp x y (by omega) (by omega)
 have hxy : x * y = x / 2147483648 * (y / 2147483648) * 4611686018427387904 + (x / 2147483648 * (y % 2147483648) + x % 2147483648 * (y / 2147483648)) * 2147483648 + x % 2147483648 * (y % 2147483648) := by
  rw [← Ss, Nat.div_add_mod', Nat.div_add_mod']
 have d0 : x % 2147483648 ≤ 2147483647 := by omega
 have d1 : x / 2147483648 ≤ 1073741823 := by omega
 have d2 : y % 2147483648 ≤ 2147483647 := by omega
 have d3 : y / 2147483648 ≤ 1073741823 := by omega
 generalize x % 2147483648 = x0 at *;generalize x / 2147483648 = x1 at *;generalize y % 2147483648 = y0 at *;generalize y / 2147483648 = y1 at *;have p00 : x0 * y0 ≤ 2147483647 * 2147483647 := Nat.mul_le_mul d0 d2;have p10 : x1 * y0 ≤ 1073741823 * 2147483647 := Nat.mul_le_mul d1 d2;have p01 : x0 * y1 ≤ 2147483647 * 1073741823 := Nat.mul_le_mul d0 d3;have p11 : x1 * y1 ≤ 1073741823 * 1073741823 := Nat.mul_le_mul d1 d3;have hmid : x1 * y0 + x0 * y1 ≤ 4611686018427387904 := by omega
 generalize x1 * y0 + x0 * y1 = md at *;generalize x1 * y1 = hi at *;generalize x0 * y0 = lo at *;generalize x * y = xy at *;have k1 := Dy md 30 30 rfl (by omega)
 rw [show (2 : Nat) ^ 30 = 1073741824 from rfl] at k1
 have k2 := VP md (by omega)
 have k3 := KB (md % 1073741824) 31 31 rfl (by omega)
 have e3 : md % 1073741824 * 2 ^ 31 % 18446744073709551616 = md % 1073741824 * 2147483648 := by omega
 rw [e3] at k3;have k4 : IntKind.u64.wrap (2 * (hi : Int)) = ((2 * hi : Nat) : Int) := by rw [Bf]; omega
 have k5 : IntKind.u64.wrap (((2 * hi : Nat) : Int) + ((md / 1073741824 : Nat) : Int)) = ((2 * hi + md / 1073741824 : Nat) : Int) := by rw [Bf]; omega
 have k6 : IntKind.u64.wrap (((2 * hi + md / 1073741824 : Nat) : Int) + ((md % 1073741824 * 2147483648 : Nat) : Int)) = ((2 * hi + md / 1073741824 + md % 1073741824 * 2147483648 : Nat) : Int) := by rw [Bf]; omega
 have k7 : IntKind.u64.wrap (((2 * hi + md / 1073741824 + md % 1073741824 * 2147483648 : Nat) : Int) + (lo : Int)) = ((2 * hi + md / 1073741824 + md % 1073741824 * 2147483648 + lo : Nat) : Int) := by rw [Bf]; omega
 have k8 : ((2 * hi + md / 1073741824 + md % 1073741824 * 2147483648 + lo : Nat) : Int).tmod 2305843009213693951 = ((xy % 2305843009213693951 : Nat) : Int) := by
  rw [Int.tmod_eq_emod_of_nonneg (by omega)]; omega
 have k9 : IntKind.i64.wrap ((xy % 2305843009213693951 : Nat) : Int) = ((xy % 2305843009213693951 : Nat) : Int) := Qw (by omega)
 refine run ?_;refine cp ra ?_;refine run ?_;refine cp rb ?_;refine run ?_;refine cp hm ?_;refine Aa (A9 @k1 @k2 @k3 @k4 @k5 @k6 @k7 @k8 @k9) ?_;exact Ab
theorem Zl (a b : Int) (ha : -9223372036854775808 ≤ a ∧ a ≤ 9223372036854775807) (hb : -9223372036854775808 ≤ b ∧ b ≤ 9223372036854775807) : AC prog 84 [.it .i64 a, .it .i64 b] [] (.it .i64 (Ik a b : Nat)) [] := by
 refine Ar [148, 150] [] func84 ?_;unfold Ik;have a1 := Int.emod_nonneg a (show (2305843009213693950 : Int) ≠ 0 by omega)
 have a2 := Int.emod_lt_of_pos a (show (0 : Int) < 2305843009213693950 by omega)
 have b1 := Int.emod_nonneg b (show (2305843009213693950 : Int) ≠ 0 by omega)
 have b2 := Int.emod_lt_of_pos b (show (0 : Int) < 2305843009213693950 by omega)
 obtain ⟨x, hx⟩ := Int.eq_ofNat_of_zero_le a1;obtain ⟨y, hy⟩ := Int.eq_ofNat_of_zero_le b1;have ra := Gg a 2305843009213693950 (by omega) (by omega) ha
 have rb := Gg b 2305843009213693950 (by omega) (by omega) hb
 rw [hx] at ra a1 a2 ⊢;rw [hy] at rb b1 b2 ⊢;rw [Int.toNat_natCast, Int.toNat_natCast];have hm := Rp x y (by omega) (by omega)
 have hxy : x * y = x / 2147483648 * (y / 2147483648) * 4611686018427387904 + (x / 2147483648 * (y % 2147483648) + x % 2147483648 * (y / 2147483648)) * 2147483648 + x % 2147483648 * (y % 2147483648) := by
  rw [← Ss, Nat.div_add_mod', Nat.div_add_mod']
 have d0 : x % 2147483648 ≤ 2147483647 := by omega
 have d1 : x / 2147483648 ≤ 1073741823 := by omega
 have d2 : y % 2147483648 ≤ 2147483647 := by omega
 have d3 : y / 2147483648 ≤ 1073741823 := by omega
 generalize x % 2147483648 = x0 at *;generalize x / 2147483648 = x1 at *;generalize y % 2147483648 = y0 at *;generalize y / 2147483648 = y1 at *;have p00 : x0 * y0 ≤ 2147483647 * 2147483647 := Nat.mul_le_mul d0 d2;have p10 : x1 * y0 ≤ 1073741823 * 2147483647 := Nat.mul_le_mul d1 d2;have p01 : x0 * y1 ≤ 2147483647 * 1073741823 := Nat.mul_le_mul d0 d3;have p11 : x1 * y1 ≤ 1073741823 * 1073741823 := Nat.mul_le_mul d1 d3;have hmid : x1 * y0 + x0 * y1 ≤ 4611686018427387904 := by omega
 generalize x1 * y0 + x0 * y1 = md at *;generalize x1 * y1 = hi at *;generalize x0 * y0 = lo at *;generalize x * y = xy at *;have k1 := Dy md 30 30 rfl (by omega)
 rw [show (2 : Nat) ^ 30 = 1073741824 from rfl] at k1
 have k2 := VP md (by omega)
 have k3 := KB (md % 1073741824) 31 31 rfl (by omega)
 have e3 : md % 1073741824 * 2 ^ 31 % 18446744073709551616 = md % 1073741824 * 2147483648 := by omega
 rw [e3] at k3;have k4 : IntKind.u64.wrap (4 * (hi : Int)) = ((4 * hi : Nat) : Int) := by rw [Bf]; omega
 have k4' : IntKind.u64.wrap (2 * ((md / 1073741824 : Nat) : Int)) = ((2 * (md / 1073741824) : Nat) : Int) := by rw [Bf]; omega
 have k5 : IntKind.u64.wrap (((4 * hi : Nat) : Int) + ((2 * (md / 1073741824) : Nat) : Int)) = ((4 * hi + 2 * (md / 1073741824) : Nat) : Int) := by rw [Bf]; omega
 have k6 : IntKind.u64.wrap (((4 * hi + 2 * (md / 1073741824) : Nat) : Int) + ((md % 1073741824 * 2147483648 : Nat) : Int)) = ((4 * hi + 2 * (md / 1073741824) + md % 1073741824 * 2147483648 : Nat) : Int) := by rw [Bf]; omega
 have k7 : IntKind.u64.wrap (((4 * hi + 2 * (md / 1073741824) + md % 1073741824 * 2147483648 : Nat) : Int) + (lo : Int)) = ((4 * hi + 2 * (md / 1073741824) + md % 1073741824 * 2147483648 + lo : Nat) : Int) := by rw [Bf]; omega
 have k8 : ((4 * hi + 2 * (md / 1073741824) + md % 1073741824 * 2147483648 + lo : Nat) : Int).tmod 2305843009213693950 = ((xy % 2305843009213693950 : Nat) : Int) := by
  rw [Int.tmod_eq_emod_of_nonneg (by omega)]; omega
 have k9 : IntKind.i64.wrap ((xy % 2305843009213693950 : Nat) : Int) = ((xy % 2305843009213693950 : Nat) : Int) := Qw (by omega)
 refine run ?_;refine cp ra ?_;refine run ?_;refine cp rb ?_;refine run ?_;refine cp hm ?_;refine Aa (B1 @k1 @k2 @k3 @k4 @k4' @k5 @k6 @k7 @k8 @k9) ?_;exact Ab
theorem ZM (a b : Int) (ha : -9223372036854775808 ≤ a ∧ a ≤ 9223372036854775807) (hb : -9223372036854775808 ≤ b ∧ b ≤ 9223372036854775807) : AC prog 83 [.it .i64 a, .it .i64 b] [] (.it .i64 ((a % 2305843009213693950 + b % 2305843009213693950) % 2305843009213693950)) [] := by
 refine Ar [148] [] func83 ?_;have a1 := Int.emod_nonneg a (show (2305843009213693950 : Int) ≠ 0 by omega)
 have a2 := Int.emod_lt_of_pos a (show (0 : Int) < 2305843009213693950 by omega)
 have b1 := Int.emod_nonneg b (show (2305843009213693950 : Int) ≠ 0 by omega)
 have b2 := Int.emod_lt_of_pos b (show (0 : Int) < 2305843009213693950 by omega)
 refine run ?_;refine cp (Gg a 2305843009213693950 (by omega) (by omega) ha) ?_
 refine run ?_;refine cp (Gg b 2305843009213693950 (by omega) (by omega) hb) ?_
 refine run ?_;refine cp (Gg (a % 2305843009213693950 + b % 2305843009213693950) 2305843009213693950 (by omega) (by omega) (by omega)) ?_
 refine run ?_;exact Ab
theorem Jl (a e : Int) (ha : -9223372036854775808 ≤ a ∧ a ≤ 9223372036854775807) (he : -9223372036854775808 ≤ e ∧ e ≤ 9223372036854775807) : AC prog 82 [.it .i64 a, .it .i64 e] [] (.it .i64 (FY a e : Nat)) [] := by
 refine Ar [148, 149] [] func82 ?_;unfold FY AY;have a1 := Int.emod_nonneg a (show (2305843009213693951 : Int) ≠ 0 by omega)
 have a2 := Int.emod_lt_of_pos a (show (0 : Int) < 2305843009213693951 by omega)
 have ra := Gg a 2305843009213693951 (by omega) (by omega) ha
 obtain ⟨x, hx⟩ := Int.eq_ofNat_of_zero_le a1;rw [hx] at ra a1 a2 ⊢;rw [Int.toNat_natCast, Nat.mod_eq_of_lt (show x < 2305843009213693951 by omega)]
 have hE : ∃ n : Nat, n < 9223372036854775808 ∧ ((if e < 0 then (e % 2305843009213693950).toNat else e.toNat) = n) ∧ (if e < 0 then e % 2305843009213693950 else e) = (n : Int) := by
  split
  ·exact ⟨(e % 2305843009213693950).toNat, by omega, rfl, by omega⟩
  ·exact ⟨e.toNat, by omega, rfl, by omega⟩
 obtain ⟨n, hn, en, eI⟩ := hE;rw [en];have hp0 : (n : Nat) < 2 ^ 63 := by omega
 by_cases hneg : e < 0
 focus
  rw [if_pos hneg] at eI;have re := Gg e 2305843009213693950 (by omega) (by omega) he
  rw [eI] at re;refine run ?_;refine cp re ?_;refine run ?_;refine cp ra ?_;refine run ?_
 rotate_left;focus
  rw [if_neg hneg] at eI;subst eI;refine run ?_;refine cp ra ?_;refine run ?_
 all_goals
  refine AF (fun m e S => S = [] ∧ m ≤ 64 ∧ ∃ q r p : Nat, e 1 = .it .i64 (q : Int) ∧ e 5 = .it .i64 (r : Int) ∧ e 6 = .it .i64 (p : Int) ∧ q < 2 ^ m ∧ q < 9223372036854775808 ∧ r < 2305843009213693951 ∧ p < 2305843009213693951 ∧ EY 64 1 x n = EY m r p q) 64
   ⟨rfl, by omega, n, 1, x, Ad, Ad, Ad, by omega, by omega, by decide, by omega, rfl⟩ ?_
  rintro m e S ⟨rfl, hm, q, r, p, s1, s5, s6, hq, hq2, hr, hp, hpow⟩
  by_cases h0 : q = 0
  ·subst h0
   rw [Oy] at hpow;rw [hpow];refine Aa (A3 @s1 @s5 @s6) ?_;exact Ab
  obtain ⟨m', rfl⟩ : ∃ m', m = m' + 1 := ⟨m - 1, by
   cases m with
   | zero => simp at hq; omega
   | succ m => omega⟩
  have hq0 : (0 : Int) < (q : Int) := by omega
  rw [KM m' r p q] at hpow;have hq' : q / 2 < 2 ^ m' := by rw [Nat.pow_succ] at hq; omega
  have mpp := Om (p : Int) (p : Int) (by omega) (by omega)
  have mrp := Om (r : Int) (p : Int) (by omega) (by omega)
  rw [Jo hp hp] at mpp;rw [Jo hr hp] at mrp;have lpp : p * p % 2305843009213693951 < 2305843009213693951 := Nat.mod_lt _ (by decide)
  have lrp : r * p % 2305843009213693951 < 2305843009213693951 := Nat.mod_lt _ (by decide)
  have t1 : (q : Int).tmod 2 = ((q % 2 : Nat) : Int) := by rw [Int.tmod_eq_emod_of_nonneg (by omega)]; omega
  have t2 : (q : Int).tdiv 2 = ((q / 2 : Nat) : Int) := by rw [Int.tdiv_eq_ediv_of_nonneg (by omega)]; omega
  by_cases ho : q % 2 = 1
  ·rw [if_pos ho] at hpow
   have hoI : ((q % 2 : Nat) : Int) = 1 := by omega
   refine Aa (A7 @s1 @s5 @s6 @t1 @t2 @hoI @hq0) ?_;refine cp mrp ?_;refine Aa (A4 @s1 @s5 @s6 @t2) ?_;refine cp mpp ?_;refine Aa (A4 @s1 @s5 @s6 @t2) ?_;exact Ao m' (by omega) ⟨rfl, by omega, q / 2, r * p % 2305843009213693951, p * p % 2305843009213693951, Ad, Ad, Ad, hq', by omega, lrp, lpp, hpow⟩
  ·rw [if_neg ho] at hpow
   have hoI : ((q % 2 : Nat) : Int) = 0 := by omega
   refine Aa (A7 @s1 @s5 @s6 @t1 @t2 @hoI @hq0) ?_;refine cp mpp ?_;refine Aa (A4 @s1 @s5 @s6 @t2) ?_;exact Ao m' (by omega) ⟨rfl, by omega, q / 2, r, p * p % 2305843009213693951, Ad, Ad, Ad, hq', by omega, hr, lpp, hpow⟩
theorem Rm (l : By) (h : l.length ≤ 140737488355328) : AC prog 242 [.st l] [] (.it .i64 (Sm.num l : Nat)) [] := by
 refine AC.ofBelow (by kernel_rfl) fun w g cargs ht hargs => ?_
 rw [KX hargs];refine (Zi ⟨l.toArray⟩ w (by simp [ByteArray.size]; omega)).mono ?_
 rintro r w' ⟨rfl, rfl⟩
 exact ⟨_, rfl, fun g' => .it g' _ _, Below.refl _ _⟩
theorem RB (l : By) (h : l.length ≤ 1000000000) : AC prog 144 [.st l] [] (.it .i64 (Sg.hash l : Nat)) [] := by
 refine Ar [118, 242] [] func144 ?_;have hs : (Sm.sha l).length ≤ 140737488355328 := by show 32 ≤ _; omega
 refine run ?_;refine cp (FN l (by omega)) ?_
 refine run ?_;refine cp (Rm _ hs) ?_;refine run ?_;exact Ab
theorem Ro (l : By) (h : l.length ≤ 1000000000) : AC prog 76 [.st l] [] (.it .i64 (GR (Sg.hash l) : Nat)) [] := by
 refine Ar [144] [] func76 ?_;have hh := Pd l;have hc := RB l h;unfold GR;generalize Sg.hash l = h at *;have e : (h : Int).tmod 2305843009213693949 = ((h % 2305843009213693949 : Nat) : Int) := by rw [Int.tmod_eq_emod_of_nonneg (by omega)]; omega
 have e2 : (1 : Int) + ((h % 2305843009213693949 : Nat) : Int) = ((1 + h % 2305843009213693949 : Nat) : Int) := by omega
 refine run ?_;refine cp hc ?_;refine Aa (an @e @e2) ?_;exact Ab
theorem Ry (s : Int) (hs : -9223372036854775808 ≤ s ∧ s ≤ 9223372036854775807) : AC prog 75 [.it .i64 s] [] (Ea (Sg.keyOf s)) [] := by
 refine Ar [82] [] func75 ?_;unfold Sg.keyOf;by_cases h1 : s < 1
 ·rw [if_pos (.inl h1)]
  refine run ?_;exact Ab
 by_cases h2 : 2305843009213693949 < s
 ·have h3 : 2305843009213693950 ≤ s := by omega
  rw [if_pos (.inr h2)];refine Aa @h3 ?_;exact Ab
 ·have h3 : ¬ 2305843009213693950 ≤ s := by omega
  rw [if_neg (by omega)]
  obtain ⟨n, rfl⟩ := Int.eq_ofNat_of_zero_le (show 0 ≤ s by omega)
  have he := Jl 37 (n : Int) (by omega) (by omega)
  rw [G6 37 37 n rfl (by decide)] at he
  refine run ?_;refine cp he ?_;refine run ?_;exact Ab
theorem RA (seed : By) (hm : seed.length ≤ 100000000) : AC prog 30 [.st seed] [] (Ea (Jt seed)) [] := by
 refine Ar [77, 76, 75] [] func30 ?_;have tm := L1 seed hm;have tw : (text HV).length = 4 := by rfl
 have hr := Mv (Sg.hash (text HV ++ text seed));have hh := Ro (text HV ++ text seed) (by rw [List.length_append]; omega)
 unfold Jt;generalize GR (Sg.hash (text HV ++ text seed)) = h at *;refine run ?_;refine cp (Bq HV (by simp)) ?_
 refine run ?_;refine cp (Bq seed (by omega)) ?_
 refine run ?_;refine cp hh ?_;refine run ?_;refine cp (Ry h (by omega)) ?_
 refine run ?_;exact Ab
theorem Mq (k : Key) (hs : -9223372036854775808 ≤ k.secret ∧ k.secret ≤ 9223372036854775807) : AC prog 33 [Ea k] [] (.bo k.right) [] := by
 refine Ar [75] [] func33 ?_;unfold Key.right;have ke : decide (k = Sg.keyOf k.secret) = ((k.secret == (Sg.keyOf k.secret).secret) && (k.pub == (Sg.keyOf k.secret).pub)) := by
  generalize Sg.keyOf k.secret = q;obtain ⟨a, b⟩ := k;obtain ⟨c, d⟩ := q;rw [Bool.eq_iff_iff];simp
 rw [ke];by_cases h1 : 1 ≤ k.secret
 ·have h2 : 0 < k.secret := by omega
  rw [decide_eq_true h1];refine Aa @h2 ?_;refine cp (Ry k.secret hs) ?_;refine run ?_;exact Ab
 ·have h2 : ¬ 0 < k.secret := by omega
  rw [decide_eq_false h1];refine Aa @h2 ?_;exact Ab
theorem RG (r p : Int) (m : By) (hm : m.length ≤ 100000000) (hr : -9223372036854775808 ≤ r ∧ r ≤ 9223372036854775807) (hp : -9223372036854775808 ≤ p ∧ p ≤ 9223372036854775807) : AC prog 81 [.it .i64 r, .it .i64 p, .st m] [] (.it .i64 (Dt r p m : Nat)) [] := by
 refine Ar [77, 80, 144] [] func81 ?_;have tw : (text Fj).length = 5 := by rfl
 have tm := L1 m hm;have l1 := KU r (by omega)
 have l2 := KU p (by omega)
 have hlt := Pd (text Fj ++ Ag r ++ Ag p ++ text m);unfold Dt;have hh := RB (text Fj ++ Ag r ++ Ag p ++ text m) (by simp only [List.length_append]; omega)
 generalize Sg.hash (text Fj ++ Ag r ++ Ag p ++ text m) = h at *;have e : (h : Int).tmod 2305843009213693950 = ((h % 2305843009213693950 : Nat) : Int) := by rw [Int.tmod_eq_emod_of_nonneg (by omega)]; omega
 refine run ?_;refine cp (Bq Fj (by simp)) ?_
 refine run ?_;refine cp (AL r (by omega)) ?_
 refine run ?_;refine cp (AL p (by omega)) ?_
 refine run ?_;refine cp (Bq m (by omega)) ?_
 refine run ?_;refine cp hh ?_;refine Aa @e ?_;exact Ab
theorem Rn (k : Key) (m : By) (hm : m.length ≤ 100000000) (hs : -9223372036854775808 ≤ k.secret ∧ k.secret ≤ 9223372036854775807) : AC prog 34 [Ea k, .st m] [] (GO (CX k m)) [] := by
 refine Ar [33, 77, 80, 76, 82, 81, 84, 83] [] func34 ?_;unfold CX;refine run ?_;refine cp (Mq k hs) ?_;cases hr : k.right with
 | false =>
  rw [if_neg (by simp)]
  refine run ?_;exact Ab
 | true =>
  rw [if_pos rfl];obtain ⟨p1, p2⟩ := RQ hr;obtain ⟨q1, q2, _⟩ := Key.right_iff.1 hr;have tm := L1 m hm;have tw : (text wNonce).length = 6 := by rfl
  have l1 := KU k.secret (by omega)
  have hred := Ro (text wNonce ++ Ag k.secret ++ text m) (by simp only [List.length_append]; omega)
  change AC _ _ _ _ (.it .i64 (nonce k m : Nat)) _ at hred;obtain ⟨n1, n2⟩ : 1 ≤ nonce k m ∧ nonce k m < 2305843009213693950 := Mv _;generalize nonce k m = u at *;have hexp := Jl 37 (u : Int) (by omega) (by omega)
  rw [G6 37 37 u rfl (by decide)] at hexp
  have hpl := Zzr 37 u;have hch := RG (AY 37 u : Nat) k.pub m hm (by omega) (by omega)
  have hel := PR (AY 37 u : Nat) k.pub m;generalize Dt (AY 37 u : Nat) k.pub m = e at *;have hmul := Zl (e : Int) k.secret (by omega) (by omega)
  have hml : Ik e k.secret < 2305843009213693950 := Nat.mod_lt _ (by decide)
  have hadd := ZM (u : Int) (Ik e k.secret : Nat) (by omega) (by omega)
  have hval : ((u : Int) % 2305843009213693950 + ((Ik e k.secret : Nat) : Int) % 2305843009213693950) % 2305843009213693950 = (((u + e * k.secret.toNat) % 2305843009213693950 : Nat) : Int) := by
   have h1 : Ik e k.secret = e * k.secret.toNat % 2305843009213693950 := by
    unfold Ik;rw [show ((e : Int) % 2305843009213693950).toNat = e by omega, show (k.secret % 2305843009213693950).toNat = k.secret.toNat by omega]
   rw [h1];generalize e * k.secret.toNat = z;omega
  rw [hval] at hadd;refine run ?_;refine cp (Bq wNonce (by simp)) ?_
  refine run ?_;refine cp (AL k.secret (by omega)) ?_
  refine run ?_;refine cp (Bq m (by omega)) ?_
  refine run ?_;refine cp hred ?_;refine run ?_;refine cp hexp ?_;refine run ?_;refine cp hch ?_;refine run ?_;refine cp hmul ?_;refine run ?_;refine cp hadd ?_;refine run ?_;exact Ab
theorem ZK (p : Int) (s : Sig) (h1 : 1 ≤ p) (h2 : p < 2305843009213693951) (re : 0 ≤ s.e ∧ s.e < 2305843009213693950) (rs : 0 ≤ s.s ∧ s.s < 2305843009213693950) : AC prog 230 [.it .i64 p, GO s] [] (.it .i64 (Ev p s : Nat)) [] := by
 refine Ar [82, 149] [] func230 ?_;have x1 := Jl 37 s.s (by omega) (by omega)
 have x2 := Jl p (2305843009213693950 - s.e) (by omega) (by omega)
 have e1 : FY 37 s.s = AY 37 s.s.toNat := by
  have := G6 37 37 s.s.toNat rfl (by decide)
  rwa [Int.toNat_of_nonneg rs.1] at this
 have e2 : FY p (2305843009213693950 - s.e) = AY p.toNat (2305843009213693950 - s.e).toNat := by
  have := G6 p p.toNat (2305843009213693950 - s.e).toNat (by omega) (by omega)
  rwa [Int.toNat_of_nonneg (by omega)] at this
 rw [e1] at x1;rw [e2] at x2;have l1 := Zzr 37 s.s.toNat;have l2 := Zzr p.toNat (2305843009213693950 - s.e).toNat;have hmul := Om (AY 37 s.s.toNat : Nat) (AY p.toNat (2305843009213693950 - s.e).toNat : Nat) (by omega) (by omega)
 rw [Jo l1 l2] at hmul;change AC _ _ _ _ (.it .i64 ((Ev p s : Nat) : Int)) _ at hmul;generalize Ev p s = c at *;generalize AY 37 s.s.toNat = y1 at *;generalize AY p.toNat (2305843009213693950 - s.e).toNat = y2 at *;refine run ?_;refine cp x1 ?_;refine run ?_;refine cp x2 ?_;refine run ?_;refine cp hmul ?_;refine run ?_;exact Ab
theorem Y8 (p : Int) (s : Sig) : AC prog 229 [.it .i64 p, GO s] [] (.bo (decide (1 ≤ p) && decide (p < 2305843009213693951) && decide (0 ≤ s.e) && decide (s.e < 2305843009213693950) && decide (0 ≤ s.s) && decide (s.s < 2305843009213693950))) [] := by
 refine Ar [] [] func229 ?_;by_cases h1 : 1 ≤ p
 rotate_left
 ·rw [decide_eq_false h1]
  refine run ?_;exact Ab
 by_cases h2 : p < 2305843009213693951
 rotate_left
 ·rw [decide_eq_true h1, decide_eq_false h2]
  refine run ?_;exact Ab
 by_cases h3 : 0 ≤ s.e
 rotate_left
 ·rw [decide_eq_true h1, decide_eq_true h2, decide_eq_false h3]
  refine run ?_;exact Ab
 by_cases h4 : s.e < 2305843009213693950
 rotate_left
 ·rw [decide_eq_true h1, decide_eq_true h2, decide_eq_true h3, decide_eq_false h4]
  refine run ?_;exact Ab
 by_cases h5 : 0 ≤ s.s
 rotate_left
 ·rw [decide_eq_true h1, decide_eq_true h2, decide_eq_true h3, decide_eq_true h4, decide_eq_false h5]
  refine run ?_;exact Ab
 rw [decide_eq_true h1, decide_eq_true h2, decide_eq_true h3, decide_eq_true h4, decide_eq_true h5];refine run ?_;exact Ab
theorem YS (p : Int) (m : By) (s : Sig) (hm : m.length ≤ 100000000) : AC prog 138 [.it .i64 p, .st m, GO s] [] (.bo (Gb p m s)) [] := by
 refine Ar [229, 230, 81] [] func138 ?_;have hc := Y8 p s;unfold Gb FW;by_cases h : 1 ≤ p ∧ p < 2305843009213693951 ∧ 0 ≤ s.e ∧ s.e < 2305843009213693950 ∧ 0 ≤ s.s ∧ s.s < 2305843009213693950
 ·obtain ⟨h1, h2, h3, h4, h5, h6⟩ := h
  rw [decide_eq_true h1, decide_eq_true h2, decide_eq_true h3, decide_eq_true h4, decide_eq_true h5, decide_eq_true h6] at hc ⊢;have hco := ZK p s h1 h2 ⟨h3, h4⟩ ⟨h5, h6⟩;have hcl : Ev p s < 2305843009213693951 := Nat.mod_lt _ (by decide)
  have hch := RG (Ev p s : Nat) p m hm (by omega) (by omega)
  generalize Ev p s = c at *;generalize Dt (c : Int) p m = h at *;have hsym : ((h : Int) == s.e) = (s.e == (h : Int)) := by rw [Bool.eq_iff_iff]; simp only [beq_iff_eq]; exact eq_comm
  refine run ?_;refine cp hc ?_;refine run ?_;refine cp hco ?_;refine run ?_;refine cp hch ?_;refine Aa @hsym ?_;exact Ab
 ·have e : (decide (1 ≤ p) && decide (p < 2305843009213693951) && decide (0 ≤ s.e) && decide (s.e < 2305843009213693950) && decide (0 ≤ s.s) && decide (s.s < 2305843009213693950)) = false := by
   rw [Bool.eq_false_iff];intro hh;simp only [Bool.and_eq_true, decide_eq_true_eq] at hh;omega
  have e2 : (decide (1 ≤ p) && decide (p < 2305843009213693951) && (decide (0 ≤ s.e) && decide (s.e < 2305843009213693950)) && (decide (0 ≤ s.s) && decide (s.s < 2305843009213693950)) && decide (s.e = (Dt (Ev p s) p m : Nat))) = false := by
   rw [Bool.eq_false_iff];intro hh;simp only [Bool.and_eq_true, decide_eq_true_eq] at hh;omega
  rw [e] at hc;rw [e2];refine run ?_;refine cp hc ?_;refine run ?_;exact Ab
end Pe
namespace Pe
open Tryz
open Go Go.RowKit Co Sg Ac It
set_option maxRecDepth 100000
set_option maxHeartbeats 4000000
theorem Ps (l : List By) (hl : l.length ≤ 1000000) (hx : ∀ x ∈ l, x.length ≤ 1000000) : AC prog 161 [At l] [] (.st (list l)) [] := by
 refine Ar [80, 77] [] func161 ?_;have hn9 := DM (n := l.length) (by omega)
 have kn := AL (l.length : Int) (by omega)
 rw [GT] at kn;refine run ?_;refine cp kn ?_;refine run ?_;refine AF (fun m e S => S = [] ∧ e 0 = At l ∧ ∃ (k : Nat) (acc : By), e 3 = .st acc ∧ e 4 = .it .i64 (k : Int) ∧ acc = num l.length ++ ((l.take k).map text).flatten ∧ k ≤ l.length ∧ m = l.length - k) l.length
  ⟨rfl, Ad, 0, num l.length, Ad, Ad, by simp, by omega, rfl⟩ ?_
 rintro m e S ⟨rfl, s0, k, acc, s3, s4, hacc, hk, rfl⟩
 by_cases hlt : k < l.length
 ·have ga : l[k]? = some l[k] := List.getElem?_eq_getElem hlt
  have hxk := hx l[k] (List.getElem_mem hlt);have htl := AG hxk;have hal : acc.length ≤ 1000009000009 := by
   have h1 := Px (l := l.take k) fun x h => hx x (List.mem_of_mem_take h)
   have h2 : (l.take k).length * 1000009 ≤ 1000000 * 1000009 := Nat.mul_le_mul_right _ (by rw [List.length_take]; omega)
   rw [hacc, List.length_append]; omega
  have hft := TR hlt;generalize l[k] = x at *;refine Aa (A4 @s0 @s3 @s4 @ga) ?_;refine cp (Bq x (by omega)) ?_
  refine Aa (A3 @s0 @s3 @s4) ?_;refine Ao (l.length - (k + 1)) (by omega) ⟨rfl, Ad, k + 1, acc ++ text x, Ad, Ad, by rw [hacc, hft, List.append_assoc], by omega, rfl⟩
 ·obtain rfl : k = l.length := by omega
  rw [List.take_length] at hacc;refine Aa (A3 @s0 @s3 @s4) ?_;rw [show list l = acc from hacc.symm]
  exact Ab
theorem Zco (c : It.Claim) (h1 : c.actor.length ≤ 1000000 ∧ c.prev.length ≤ 1000000) (h2 : ∀ x ∈ [c.base, c.gen, c.home, c.pub, c.time], -9223372036854775808 ≤ x ∧ x ≤ 9223372036854775807) : AC prog 235 [JD c] [] (.st (Dd c)) [] := by
 refine Ar [77, 80] [] func235 ?_;simp only [List.forall_mem_cons] at h2;have l1 := AG h1.1;have l2 := AG h1.2;have n1 := Aj c.base (by omega)
 have n2 := Aj c.gen (by omega)
 have n3 := Aj c.home (by omega)
 have n4 := Aj c.pub (by omega)
 have n5 := Aj c.time (by omega)
 unfold Dd;refine run ?_;refine cp (Bq c.actor (by omega)) ?_
 refine run ?_;refine cp (AL c.base (by omega)) ?_
 refine run ?_;refine cp (Bq c.prev (by omega)) ?_
 refine run ?_;refine cp (AL c.gen (by omega)) ?_
 refine run ?_;refine cp (AL c.home (by omega)) ?_
 refine run ?_;refine cp (AL c.pub (by omega)) ?_
 refine run ?_;refine cp (AL c.time (by omega)) ?_
 refine run ?_;exact Ab
theorem Zcq (b : It.Ballot) (h1 : b.actor.length ≤ 1000000 ∧ b.claim.length ≤ 1000000) (h2 : ∀ x ∈ [b.server, b.gen, b.time], -9223372036854775808 ≤ x ∧ x ≤ 9223372036854775807) : AC prog 237 [PY b] [] (.st (Df b)) [] := by
 refine Ar [77, 80] [] func237 ?_;simp only [List.forall_mem_cons] at h2;have l1 := AG h1.1;have l2 := AG h1.2;have n1 := Aj b.server (by omega)
 have n2 := Aj b.gen (by omega)
 have n3 := Aj b.time (by omega)
 unfold Df;refine run ?_;refine cp (AL b.server (by omega)) ?_
 refine run ?_;refine cp (Bq b.actor (by omega)) ?_
 refine run ?_;refine cp (AL b.gen (by omega)) ?_
 refine run ?_;refine cp (Bq b.claim (by omega)) ?_
 refine run ?_;refine cp (AL b.time (by omega)) ?_
 refine run ?_;exact Ab
theorem Zck (d : It.Decision) (h1 : d.actor.length ≤ 1000000 ∧ d.object.length ≤ 1000000 ∧ d.text.length ≤ 1000000) (ht : d.to.length ≤ 1000000 ∧ ∀ s ∈ d.to, s.length ≤ 1000000) (h2 : ∀ x ∈ [d.server, d.number, d.kind, d.n, d.frm, d.til], -9223372036854775808 ≤ x ∧ x ≤ 9223372036854775807) : AC prog 238 [G9 d] [] (.st (Dc d)) [] := by
 refine Ar [77, 80, 161] [] func238 ?_;simp only [List.forall_mem_cons] at h2;have l1 := AG h1.1;have l2 := AG h1.2.1;have l3 := AG h1.2.2;have n1 := Aj d.server (by omega)
 have n2 := Aj d.number (by omega)
 have n3 := Aj d.kind (by omega)
 have n4 := Aj d.n (by omega)
 have n5 := Aj d.frm (by omega)
 have n6 := Aj d.til (by omega)
 have ll := OV ht.1 ht.2;unfold Dc;refine run ?_;refine cp (AL d.server (by omega)) ?_
 refine run ?_;refine cp (AL d.number (by omega)) ?_
 refine run ?_;refine cp (AL d.kind (by omega)) ?_
 refine run ?_;refine cp (Bq d.actor (by omega)) ?_
 refine run ?_;refine cp (Bq d.object (by omega)) ?_
 refine run ?_;refine cp (Bq d.text (by omega)) ?_
 refine run ?_;refine cp (Ps d.to ht.1 ht.2) ?_;refine run ?_;refine cp (AL d.n (by omega)) ?_
 refine run ?_;refine cp (AL d.frm (by omega)) ?_
 refine run ?_;refine cp (AL d.til (by omega)) ?_
 refine run ?_;exact Ab
end Pe
end
section
namespace Pe
open Tryz
open Go Go.RowKit Co Sg Ac It
set_option maxRecDepth 100000
set_option maxHeartbeats 4000000
theorem Xl (x y : Wrap) : ((x.to == y.to) && ((x.eph == y.eph) && ((x.box.nonce == y.box.nonce) && ((x.box.data == y.box.data) && (x.box.tag == y.box.tag))))) = decide (x = y) := by
 obtain ⟨x1, x2, ⟨x3, x4, x5⟩⟩ := x;obtain ⟨y1, y2, ⟨y3, y4, y5⟩⟩ := y;rw [Bool.eq_iff_iff];simp
theorem ZeD {a b : Ac.Act} (h : a.author = b.author ∧ a.seq = b.seq ∧ a.prev = b.prev ∧ a.kind = b.kind ∧ a.time = b.time ∧ a.object = b.object ∧ a.target = b.target ∧ a.scope = b.scope ∧ a.group = b.group ∧ a.to = b.to ∧ a.text = b.text ∧ a.body.nonce = b.body.nonce ∧ a.body.data = b.body.data ∧ a.body.tag = b.body.tag ∧ a.epoch = b.epoch ∧ a.wraps = b.wraps ∧ a.n = b.n ∧ a.m = b.m ∧ a.sig.e = b.sig.e ∧ a.sig.s = b.sig.s) : a = b := by
 obtain ⟨x1, x2, x3, x4, x5, x6, x7, x8, x9, x10, x11, ⟨x12, x13, x14⟩, x15, x16, x17, x18, ⟨x19, x20⟩⟩ := a;obtain ⟨y1, y2, y3, y4, y5, y6, y7, y8, y9, y10, y11, ⟨y12, y13, y14⟩, y15, y16, y17, y18, ⟨y19, y20⟩⟩ := b;simp only at h
 obtain ⟨rfl, rfl, rfl, rfl, rfl, rfl, rfl, rfl, rfl, rfl, rfl, rfl, rfl, rfl, rfl, rfl, rfl, rfl, rfl, rfl⟩ := h;rfl
theorem MP {α : Type} {a b : List α} (hl : a.length = b.length) (h : ∀ j (h1 : j < a.length) (h2 : j < b.length), a[j] = b[j]) : a = b := List.ext_getElem hl h
theorem TA (a b : Ac.Act) (ha : a.to.length ≤ 140737488355328 ∧ a.wraps.length ≤ 140737488355328) (hb : b.to.length ≤ 140737488355328 ∧ b.wraps.length ≤ 140737488355328) : AC prog 99 [As a, As b] [] (.bo (decide (a = b))) [] := by
 refine Ai [] [] func99 ?_;obtain ⟨q, hq⟩ : ∃ q, decide (a = b) = q := ⟨_, rfl⟩
 rw [hq];have hsa : Ax 5 (a.wraps.map Ba) = true := Bh 5 Ba (fun _ => rfl) _
 have hsb : Ax 5 (b.wraps.map Ba) = true := Bh 5 Ba (fun _ => rfl) _
 by_cases l1 : a.to.length = b.to.length
 rotate_left
 ·obtain rfl : q = false := by rw [← hq]; exact decide_eq_false (fun e => l1 (by rw [e]))
  refine run ?_;exact Ab
 by_cases l2 : a.wraps.length = b.wraps.length
 rotate_left
 ·obtain rfl : q = false := by rw [← hq]; exact decide_eq_false (fun e => l2 (by rw [e]))
  refine run ?_;exact Ab
 refine run ?_;refine AF (fun m e S => e 2 = .ptr 0 0 ∧ e 3 = .ptr 1 0 ∧ S = [.cells (FE a), .cells (FE b)] ∧ ∃ k : Nat, e 5 = .it .i64 (k : Int) ∧ k ≤ a.to.length ∧ (∀ j (h1 : j < a.to.length) (h2 : j < b.to.length), j < k → a.to[j] = b.to[j]) ∧ m = a.to.length - k) a.to.length
  ⟨Ad, Ad, rfl, 0, Ad, by omega, fun j _ _ h => absurd h (Nat.not_lt_zero _), rfl⟩ ?_
 rintro m e S ⟨s2, s3, rfl, k, s5, hk, hall, rfl⟩
 by_cases hlt : k < a.to.length
 focus
  have hga : a.to[k]? = some a.to[k] := List.getElem?_eq_getElem hlt
  have hgb : b.to[k]? = some (b.to[k]'(by omega)) := List.getElem?_eq_getElem (by omega)
  have hlb : k < b.to.length := by omega
  by_cases he : a.to[k] = b.to[k]
  ·have qe : (a.to[k] == b.to[k]) = true := by rw [he]; exact beq_self_eq_true _
   refine Aa (A6 @s2 @s3 @s5 @hga @hgb @qe) ?_;exact Ao (a.to.length - (k + 1)) (by omega) ⟨Ad, Ad, rfl, k + 1, Ad, by omega, (fun j h1 h2 hj => by
    by_cases ej : j = k
    ·subst ej; exact he
    ·exact hall j h1 h2 (by omega)), rfl⟩
  ·have qe : (a.to[k] == b.to[k]) = false := by simpa using he
   obtain rfl : q = false := by rw [← hq]; exact decide_eq_false (fun e => he (by subst e; rfl))
   refine Aa (A6 @s2 @s3 @s5 @hga @hgb @qe) ?_;exact Ab
 have e_to : a.to = b.to := MP l1 fun j h1 h2 => hall j h1 h2 (by omega)
 refine Aa (A3 @s2 @s3 @s5) ?_;refine AF (fun m e S => e 2 = .ptr 0 0 ∧ e 3 = .ptr 1 0 ∧ S = [.cells (FE a), .cells (FE b)] ∧ ∃ k : Nat, e 6 = .it .i64 (k : Int) ∧ k ≤ a.wraps.length ∧ (∀ j (h1 : j < a.wraps.length) (h2 : j < b.wraps.length), j < k → a.wraps[j] = b.wraps[j]) ∧ m = a.wraps.length - k) a.wraps.length
  ⟨Ad, Ad, rfl, 0, Ad, by omega, fun j _ _ h => absurd h (Nat.not_lt_zero _), rfl⟩ ?_
 clear s2 s3 s5 hall hlt;rintro m e S ⟨s2, s3, rfl, k, s6, hk, hall, rfl⟩
 by_cases hlt : k < a.wraps.length
 focus
  have hga : a.wraps[k]? = some a.wraps[k] := List.getElem?_eq_getElem hlt
  have hgb : b.wraps[k]? = some (b.wraps[k]'(by omega)) := List.getElem?_eq_getElem (by omega)
  have hlb : k < b.wraps.length := by omega
  have hw := Xl a.wraps[k] b.wraps[k];by_cases he : a.wraps[k] = b.wraps[k]
  ·rw [decide_eq_true he] at hw
   refine Aa (A8 @s2 @s3 @s6 @hga @hgb @hsa @hsb @hw) ?_;exact Ao (a.wraps.length - (k + 1)) (by omega) ⟨Ad, Ad, rfl, k + 1, Ad, by omega, (fun j h1 h2 hj => by
    by_cases ej : j = k
    ·subst ej; exact he
    ·exact hall j h1 h2 (by omega)), rfl⟩
  ·rw [decide_eq_false he] at hw
   obtain rfl : q = false := by rw [← hq]; exact decide_eq_false (fun e => he (by subst e; rfl))
   refine Aa (A8 @s2 @s3 @s6 @hga @hgb @hsa @hsb @hw) ?_;exact Ab
 have e_wraps : a.wraps = b.wraps := MP l2 fun j h1 h2 => hall j h1 h2 (by omega)
 by_cases h_author : a.author = b.author
 rotate_left
 ·have q_author : (a.author == b.author) = false := by simpa using h_author
  obtain rfl : q = false := by rw [← hq]; exact decide_eq_false (fun e => h_author (by rw [e]))
  refine Aa (A4 @s2 @s3 @s6 @q_author) ?_;exact Ab
 have q_author : (a.author == b.author) = true := by rw [h_author]; exact beq_self_eq_true _
 by_cases h_seq : a.seq = b.seq
 rotate_left
 ·have q_seq : (a.seq == b.seq) = false := by simpa using h_seq
  obtain rfl : q = false := by rw [← hq]; exact decide_eq_false (fun e => h_seq (by rw [e]))
  refine Aa (A5 @s2 @s3 @s6 @q_author @q_seq) ?_;exact Ab
 have q_seq : (a.seq == b.seq) = true := by rw [h_seq]; exact beq_self_eq_true _
 by_cases h_prev : a.prev = b.prev
 rotate_left
 ·have q_prev : (a.prev == b.prev) = false := by simpa using h_prev
  obtain rfl : q = false := by rw [← hq]; exact decide_eq_false (fun e => h_prev (by rw [e]))
  refine Aa (A6 @s2 @s3 @s6 @q_author @q_seq @q_prev) ?_;exact Ab
 have q_prev : (a.prev == b.prev) = true := by rw [h_prev]; exact beq_self_eq_true _
 by_cases h_kind : a.kind = b.kind
 rotate_left
 ·have q_kind : (a.kind == b.kind) = false := by simpa using h_kind
  obtain rfl : q = false := by rw [← hq]; exact decide_eq_false (fun e => h_kind (by rw [e]))
  refine Aa (A7 @s2 @s3 @s6 @q_author @q_seq @q_prev @q_kind) ?_;exact Ab
 have q_kind : (a.kind == b.kind) = true := by rw [h_kind]; exact beq_self_eq_true _
 by_cases h_time : a.time = b.time
 rotate_left
 ·have q_time : (a.time == b.time) = false := by simpa using h_time
  obtain rfl : q = false := by rw [← hq]; exact decide_eq_false (fun e => h_time (by rw [e]))
  refine Aa (A8 @s2 @s3 @s6 @q_author @q_seq @q_prev @q_kind @q_time) ?_;exact Ab
 have q_time : (a.time == b.time) = true := by rw [h_time]; exact beq_self_eq_true _
 by_cases h_object : a.object = b.object
 rotate_left
 ·have q_object : (a.object == b.object) = false := by simpa using h_object
  obtain rfl : q = false := by rw [← hq]; exact decide_eq_false (fun e => h_object (by rw [e]))
  refine Aa (A9 @s2 @s3 @s6 @q_author @q_seq @q_prev @q_kind @q_time @q_object) ?_;exact Ab
 have q_object : (a.object == b.object) = true := by rw [h_object]; exact beq_self_eq_true _
 by_cases h_target : a.target = b.target
 rotate_left
 ·have q_target : (a.target == b.target) = false := by simpa using h_target
  obtain rfl : q = false := by rw [← hq]; exact decide_eq_false (fun e => h_target (by rw [e]))
  refine Aa (B1 @s2 @s3 @s6 @q_author @q_seq @q_prev @q_kind @q_time @q_object @q_target) ?_;exact Ab
 have q_target : (a.target == b.target) = true := by rw [h_target]; exact beq_self_eq_true _
 by_cases h_scope : a.scope = b.scope
 rotate_left
 ·have q_scope : (a.scope == b.scope) = false := by simpa using h_scope
  obtain rfl : q = false := by rw [← hq]; exact decide_eq_false (fun e => h_scope (by rw [e]))
  refine Aa (Aw @s2 @s3 @s6 @q_author @q_seq @q_prev @q_kind @q_time @q_object @q_target @q_scope) ?_;exact Ab
 have q_scope : (a.scope == b.scope) = true := by rw [h_scope]; exact beq_self_eq_true _
 by_cases h_group : a.group = b.group
 rotate_left
 ·have q_group : (a.group == b.group) = false := by simpa using h_group
  obtain rfl : q = false := by rw [← hq]; exact decide_eq_false (fun e => h_group (by rw [e]))
  refine Aa (an @s2 (Aw @s3 @s6 @q_author @q_seq @q_prev @q_kind @q_time @q_object @q_target @q_scope @q_group)) ?_;exact Ab
 have q_group : (a.group == b.group) = true := by rw [h_group]; exact beq_self_eq_true _
 by_cases h_text : a.text = b.text
 rotate_left
 ·have q_text : (a.text == b.text) = false := by simpa using h_text
  obtain rfl : q = false := by rw [← hq]; exact decide_eq_false (fun e => h_text (by rw [e]))
  refine Aa (an @s2 (an @s3 (Aw @s6 @q_author @q_seq @q_prev @q_kind @q_time @q_object @q_target @q_scope @q_group @q_text))) ?_;exact Ab
 have q_text : (a.text == b.text) = true := by rw [h_text]; exact beq_self_eq_true _
 by_cases h_body_nonce : a.body.nonce = b.body.nonce
 rotate_left
 ·have q_body_nonce : (a.body.nonce == b.body.nonce) = false := by simpa using h_body_nonce
  obtain rfl : q = false := by rw [← hq]; exact decide_eq_false (fun e => h_body_nonce (by rw [e]))
  refine Aa (an @s2 (an @s3 (an @s6 (Aw @q_author @q_seq @q_prev @q_kind @q_time @q_object @q_target @q_scope @q_group @q_text @q_body_nonce)))) ?_;exact Ab
 have q_body_nonce : (a.body.nonce == b.body.nonce) = true := by rw [h_body_nonce]; exact beq_self_eq_true _
 by_cases h_body_data : a.body.data = b.body.data
 rotate_left
 ·have q_body_data : (a.body.data == b.body.data) = false := by simpa using h_body_data
  obtain rfl : q = false := by rw [← hq]; exact decide_eq_false (fun e => h_body_data (by rw [e]))
  refine Aa (an @s2 (an @s3 (an @s6 (an @q_author (Aw @q_seq @q_prev @q_kind @q_time @q_object @q_target @q_scope @q_group @q_text @q_body_nonce @q_body_data))))) ?_;exact Ab
 have q_body_data : (a.body.data == b.body.data) = true := by rw [h_body_data]; exact beq_self_eq_true _
 by_cases h_body_tag : a.body.tag = b.body.tag
 rotate_left
 ·have q_body_tag : (a.body.tag == b.body.tag) = false := by simpa using h_body_tag
  obtain rfl : q = false := by rw [← hq]; exact decide_eq_false (fun e => h_body_tag (by rw [e]))
  refine Aa (an @s2 (an @s3 (an @s6 (an @q_author (an @q_seq (Aw @q_prev @q_kind @q_time @q_object @q_target @q_scope @q_group @q_text @q_body_nonce @q_body_data @q_body_tag)))))) ?_;exact Ab
 have q_body_tag : (a.body.tag == b.body.tag) = true := by rw [h_body_tag]; exact beq_self_eq_true _
 by_cases h_epoch : a.epoch = b.epoch
 rotate_left
 ·have q_epoch : (a.epoch == b.epoch) = false := by simpa using h_epoch
  obtain rfl : q = false := by rw [← hq]; exact decide_eq_false (fun e => h_epoch (by rw [e]))
  refine Aa (an @s2 (an @s3 (an @s6 (an @q_author (an @q_seq (an @q_prev (Aw @q_kind @q_time @q_object @q_target @q_scope @q_group @q_text @q_body_nonce @q_body_data @q_body_tag @q_epoch))))))) ?_;exact Ab
 have q_epoch : (a.epoch == b.epoch) = true := by rw [h_epoch]; exact beq_self_eq_true _
 by_cases h_n : a.n = b.n
 rotate_left
 ·have q_n : (a.n == b.n) = false := by simpa using h_n
  obtain rfl : q = false := by rw [← hq]; exact decide_eq_false (fun e => h_n (by rw [e]))
  refine Aa (an @s2 (an @s3 (an @s6 (an @q_author (an @q_seq (an @q_prev (an @q_kind (Aw @q_time @q_object @q_target @q_scope @q_group @q_text @q_body_nonce @q_body_data @q_body_tag @q_epoch @q_n)))))))) ?_;exact Ab
 have q_n : (a.n == b.n) = true := by rw [h_n]; exact beq_self_eq_true _
 by_cases h_m : a.m = b.m
 rotate_left
 ·have q_m : (a.m == b.m) = false := by simpa using h_m
  obtain rfl : q = false := by rw [← hq]; exact decide_eq_false (fun e => h_m (by rw [e]))
  refine Aa (an @s2 (an @s3 (an @s6 (an @q_author (an @q_seq (an @q_prev (an @q_kind (an @q_time (Aw @q_object @q_target @q_scope @q_group @q_text @q_body_nonce @q_body_data @q_body_tag @q_epoch @q_n @q_m))))))))) ?_;exact Ab
 have q_m : (a.m == b.m) = true := by rw [h_m]; exact beq_self_eq_true _
 by_cases h_sig_e : a.sig.e = b.sig.e
 rotate_left
 ·have q_sig_e : (a.sig.e == b.sig.e) = false := by simpa using h_sig_e
  obtain rfl : q = false := by rw [← hq]; exact decide_eq_false (fun e => h_sig_e (by rw [e]))
  refine Aa (an @s2 (an @s3 (an @s6 (an @q_author (an @q_seq (an @q_prev (an @q_kind (an @q_time (an @q_object (Aw @q_target @q_scope @q_group @q_text @q_body_nonce @q_body_data @q_body_tag @q_epoch @q_n @q_m @q_sig_e)))))))))) ?_;exact Ab
 have q_sig_e : (a.sig.e == b.sig.e) = true := by rw [h_sig_e]; exact beq_self_eq_true _
 by_cases h_sig_s : a.sig.s = b.sig.s
 rotate_left
 ·have q_sig_s : (a.sig.s == b.sig.s) = false := by simpa using h_sig_s
  obtain rfl : q = false := by rw [← hq]; exact decide_eq_false (fun e => h_sig_s (by rw [e]))
  refine Aa (an @s2 (an @s3 (an @s6 (an @q_author (an @q_seq (an @q_prev (an @q_kind (an @q_time (an @q_object (an @q_target (Aw @q_scope @q_group @q_text @q_body_nonce @q_body_data @q_body_tag @q_epoch @q_n @q_m @q_sig_e @q_sig_s))))))))))) ?_;exact Ab
 have q_sig_s : (a.sig.s == b.sig.s) = true := by rw [h_sig_s]; exact beq_self_eq_true _
 obtain rfl : q = true := by
  rw [← hq];exact decide_eq_true (ZeD ⟨h_author, h_seq, h_prev, h_kind, h_time, h_object, h_target, h_scope, h_group, e_to, h_text, h_body_nonce, h_body_data, h_body_tag, h_epoch, e_wraps, h_n, h_m, h_sig_e, h_sig_s⟩)
 refine Aa (an @s2 (an @s3 (an @s6 (an @q_author (an @q_seq (an @q_prev (an @q_kind (an @q_time (an @q_object (an @q_target (Aw @q_scope @q_group @q_text @q_body_nonce @q_body_data @q_body_tag @q_epoch @q_n @q_m @q_sig_e @q_sig_s))))))))))) ?_;exact Ab
theorem Tz (a b : It.Decision) (ha : a.to.length ≤ 140737488355328) (hb : b.to.length ≤ 140737488355328) : AC prog 100 [G9 a, G9 b] [] (.bo (decide (a = b))) [] := by
 refine Ai [] [] func100 ?_;obtain ⟨q, hq⟩ : ∃ q, decide (a = b) = q := ⟨_, rfl⟩
 rw [hq];by_cases l1 : a.to.length = b.to.length
 rotate_left
 ·obtain rfl : q = false := by rw [← hq]; exact decide_eq_false (fun e => l1 (by rw [e]))
  refine run ?_;exact Ab
 refine run ?_;refine AF (fun m e S => e 2 = .ptr 0 0 ∧ e 3 = .ptr 1 0 ∧ S = [.cells (UI a), .cells (UI b)] ∧ ∃ k : Nat, e 5 = .it .i64 (k : Int) ∧ k ≤ a.to.length ∧ (∀ j (h1 : j < a.to.length) (h2 : j < b.to.length), j < k → a.to[j] = b.to[j]) ∧ m = a.to.length - k) a.to.length
  ⟨Ad, Ad, rfl, 0, Ad, by omega, fun j _ _ h => absurd h (Nat.not_lt_zero _), rfl⟩ ?_
 rintro m e S ⟨s2, s3, rfl, k, s5, hk, hall, rfl⟩
 by_cases hlt : k < a.to.length
 focus
  have hga : a.to[k]? = some a.to[k] := List.getElem?_eq_getElem hlt
  have hgb : b.to[k]? = some (b.to[k]'(by omega)) := List.getElem?_eq_getElem (by omega)
  have hlb : k < b.to.length := by omega
  by_cases he : a.to[k] = b.to[k]
  ·have qe : (a.to[k] == b.to[k]) = true := by rw [he]; exact beq_self_eq_true _
   refine Aa (A6 @s2 @s3 @s5 @hga @hgb @qe) ?_;exact Ao (a.to.length - (k + 1)) (by omega) ⟨Ad, Ad, rfl, k + 1, Ad, by omega, (fun j h1 h2 hj => by
    by_cases ej : j = k
    ·subst ej; exact he
    ·exact hall j h1 h2 (by omega)), rfl⟩
  ·have qe : (a.to[k] == b.to[k]) = false := by simpa using he
   obtain rfl : q = false := by rw [← hq]; exact decide_eq_false (fun e => he (by subst e; rfl))
   refine Aa (A6 @s2 @s3 @s5 @hga @hgb @qe) ?_;exact Ab
 have e_to : a.to = b.to := MP l1 fun j h1 h2 => hall j h1 h2 (by omega)
 by_cases h_server : a.server = b.server
 rotate_left
 ·have q_server : (a.server == b.server) = false := by simpa using h_server
  obtain rfl : q = false := by rw [← hq]; exact decide_eq_false (fun e => h_server (by rw [e]))
  refine Aa (A4 @s2 @s3 @s5 @q_server) ?_;exact Ab
 have q_server : (a.server == b.server) = true := by rw [h_server]; exact beq_self_eq_true _
 by_cases h_number : a.number = b.number
 rotate_left
 ·have q_number : (a.number == b.number) = false := by simpa using h_number
  obtain rfl : q = false := by rw [← hq]; exact decide_eq_false (fun e => h_number (by rw [e]))
  refine Aa (A5 @s2 @s3 @s5 @q_server @q_number) ?_;exact Ab
 have q_number : (a.number == b.number) = true := by rw [h_number]; exact beq_self_eq_true _
 by_cases h_kind : a.kind = b.kind
 rotate_left
 ·have q_kind : (a.kind == b.kind) = false := by simpa using h_kind
  obtain rfl : q = false := by rw [← hq]; exact decide_eq_false (fun e => h_kind (by rw [e]))
  refine Aa (A6 @s2 @s3 @s5 @q_server @q_number @q_kind) ?_;exact Ab
 have q_kind : (a.kind == b.kind) = true := by rw [h_kind]; exact beq_self_eq_true _
 by_cases h_actor : a.actor = b.actor
 rotate_left
 ·have q_actor : (a.actor == b.actor) = false := by simpa using h_actor
  obtain rfl : q = false := by rw [← hq]; exact decide_eq_false (fun e => h_actor (by rw [e]))
  refine Aa (A7 @s2 @s3 @s5 @q_server @q_number @q_kind @q_actor) ?_;exact Ab
 have q_actor : (a.actor == b.actor) = true := by rw [h_actor]; exact beq_self_eq_true _
 by_cases h_object : a.object = b.object
 rotate_left
 ·have q_object : (a.object == b.object) = false := by simpa using h_object
  obtain rfl : q = false := by rw [← hq]; exact decide_eq_false (fun e => h_object (by rw [e]))
  refine Aa (A8 @s2 @s3 @s5 @q_server @q_number @q_kind @q_actor @q_object) ?_;exact Ab
 have q_object : (a.object == b.object) = true := by rw [h_object]; exact beq_self_eq_true _
 by_cases h_text : a.text = b.text
 rotate_left
 ·have q_text : (a.text == b.text) = false := by simpa using h_text
  obtain rfl : q = false := by rw [← hq]; exact decide_eq_false (fun e => h_text (by rw [e]))
  refine Aa (A9 @s2 @s3 @s5 @q_server @q_number @q_kind @q_actor @q_object @q_text) ?_;exact Ab
 have q_text : (a.text == b.text) = true := by rw [h_text]; exact beq_self_eq_true _
 by_cases h_n : a.n = b.n
 rotate_left
 ·have q_n : (a.n == b.n) = false := by simpa using h_n
  obtain rfl : q = false := by rw [← hq]; exact decide_eq_false (fun e => h_n (by rw [e]))
  refine Aa (B1 @s2 @s3 @s5 @q_server @q_number @q_kind @q_actor @q_object @q_text @q_n) ?_;exact Ab
 have q_n : (a.n == b.n) = true := by rw [h_n]; exact beq_self_eq_true _
 by_cases h_frm : a.frm = b.frm
 rotate_left
 ·have q_frm : (a.frm == b.frm) = false := by simpa using h_frm
  obtain rfl : q = false := by rw [← hq]; exact decide_eq_false (fun e => h_frm (by rw [e]))
  refine Aa (Aw @s2 @s3 @s5 @q_server @q_number @q_kind @q_actor @q_object @q_text @q_n @q_frm) ?_;exact Ab
 have q_frm : (a.frm == b.frm) = true := by rw [h_frm]; exact beq_self_eq_true _
 by_cases h_til : a.til = b.til
 rotate_left
 ·have q_til : (a.til == b.til) = false := by simpa using h_til
  obtain rfl : q = false := by rw [← hq]; exact decide_eq_false (fun e => h_til (by rw [e]))
  refine Aa (an @s2 (Aw @s3 @s5 @q_server @q_number @q_kind @q_actor @q_object @q_text @q_n @q_frm @q_til)) ?_;exact Ab
 have q_til : (a.til == b.til) = true := by rw [h_til]; exact beq_self_eq_true _
 by_cases h_sig_e : a.sig.e = b.sig.e
 rotate_left
 ·have q_sig_e : (a.sig.e == b.sig.e) = false := by simpa using h_sig_e
  obtain rfl : q = false := by rw [← hq]; exact decide_eq_false (fun e => h_sig_e (by rw [e]))
  refine Aa (an @s2 (an @s3 (Aw @s5 @q_server @q_number @q_kind @q_actor @q_object @q_text @q_n @q_frm @q_til @q_sig_e))) ?_;exact Ab
 have q_sig_e : (a.sig.e == b.sig.e) = true := by rw [h_sig_e]; exact beq_self_eq_true _
 by_cases h_sig_s : a.sig.s = b.sig.s
 rotate_left
 ·have q_sig_s : (a.sig.s == b.sig.s) = false := by simpa using h_sig_s
  obtain rfl : q = false := by rw [← hq]; exact decide_eq_false (fun e => h_sig_s (by rw [e]))
  refine Aa (an @s2 (an @s3 (an @s5 (Aw @q_server @q_number @q_kind @q_actor @q_object @q_text @q_n @q_frm @q_til @q_sig_e @q_sig_s)))) ?_;exact Ab
 have q_sig_s : (a.sig.s == b.sig.s) = true := by rw [h_sig_s]; exact beq_self_eq_true _
 obtain rfl : q = true := by
  rw [← hq];refine decide_eq_true ?_
  cases a; cases b
  rename_i x1 x2 x3 x4 x5 x6 x7 x8 x9 x10 x11 y1 y2 y3 y4 y5 y6 y7 y8 y9 y10 y11
  cases x11; cases y11
  simp only at *
  simp only [*]
 refine Aa (an @s2 (an @s3 (an @s5 (Aw @q_server @q_number @q_kind @q_actor @q_object @q_text @q_n @q_frm @q_til @q_sig_e @q_sig_s)))) ?_;exact Ab
theorem Zb3 (a b : It.Item) (ha : Lz a) (hb : Lz b) : AC prog 47 [AN a, AN b] [] (.bo (decide (a = b))) [] := by
 refine Ai [99, 100] [] func47 ?_;obtain ⟨q, hq⟩ : ∃ q, decide (a = b) = q := ⟨_, rfl⟩
 rw [hq];have k1 := TA a.act b.act ⟨ha.to, ha.wraps⟩ ⟨hb.to, hb.wraps⟩;have k2 := Tz a.decision b.decision ha.dto hb.dto;have qc := U1 a.claim b.claim;have qb := VE a.ballot b.ballot;by_cases h1 : a.act = b.act
 rotate_left
 ·obtain rfl : q = false := by rw [← hq]; exact decide_eq_false (fun e => h1 (by rw [e]))
  rw [decide_eq_false h1] at k1;refine run ?_;refine cp k1 ?_;refine run ?_;exact Ab
 rw [decide_eq_true h1] at k1;by_cases h2 : a.kind = b.kind
 rotate_left
 ·obtain rfl : q = false := by rw [← hq]; exact decide_eq_false (fun e => h2 (by rw [e]))
  have q2 : (a.kind == b.kind) = false := FB h2;refine run ?_;refine cp k1 ?_;refine Aa @q2 ?_;exact Ab
 have q2 : (a.kind == b.kind) = true := by rw [h2]; exact beq_self_eq_true _
 by_cases h3 : a.claim = b.claim
 rotate_left
 ·obtain rfl : q = false := by rw [← hq]; exact decide_eq_false (fun e => h3 (by rw [e]))
  rw [decide_eq_false h3] at qc;refine run ?_;refine cp k1 ?_;refine Aa (an @q2 @qc) ?_;exact Ab
 rw [decide_eq_true h3] at qc;by_cases h4 : a.ballot = b.ballot
 rotate_left
 ·obtain rfl : q = false := by rw [← hq]; exact decide_eq_false (fun e => h4 (by rw [e]))
  rw [decide_eq_false h4] at qb;refine run ?_;refine cp k1 ?_;refine Aa (A3 @q2 @qc @qb) ?_;exact Ab
 rw [decide_eq_true h4] at qb;have e5 : decide (a.decision = b.decision) = q := by
  rw [← hq, Bool.eq_iff_iff, decide_eq_true_eq, decide_eq_true_eq];constructor
  ·intro h5
   cases a; cases b
   simp only at *
   simp only [*]
  ·intro e; rw [e]
 rw [e5] at k2;refine run ?_;refine cp k1 ?_;refine Aa (A3 @q2 @qc @qb) ?_;refine cp k2 ?_;refine run ?_;exact Ab
end Pe
end
section
namespace Pe
open Tryz
open Go Sm Mk
set_option maxRecDepth 100000
theorem Y4 (n : Nat) (h : 2 ≤ n) (h' : n < 9223372036854775808) : AC prog 145 [.it .i64 n] [] (.it .i64 (sp n)) [] := by
 refine Ar [] [] func145 ?_;refine run ?_;refine AF (fun m e S => S = [] ∧ e 0 = .it .i64 n ∧ ∃ j, e 3 = .it .i64 ((2 ^ j : Nat) : Int) ∧ 2 ^ j < n ∧ m = n - 2 ^ j) (n - 1) ⟨rfl, Ad, 0, Ad, by omega, rfl⟩ ?_
 rintro m e S ⟨rfl, h0, j, h3, hj, rfl⟩
 generalize hk : 2 ^ j = k at *;have hw : IntKind.i64.wrap ((n : Int) - (k : Int)) = (n : Int) - (k : Int) := wrap64 (by omega) (by omega)
 refine Aa (A3 @h0 @h3 @hw) ?_;refine Fy (fun hc => ?_) (fun hc => ?_)
 ·have hlt : k < n - k := by simp at hc; omega
  have hw2 : IntKind.i64.wrap (2 * (k : Int)) = 2 * (k : Int) := wrap64 (by omega) (by omega)
  refine Aa (A3 @h0 @h3 @hw2) ?_;exact Ao (n - 2 * k) (by have := Nat.pow_pos (n := j) (show 0 < 2 by omega); omega) ⟨rfl, Ad, j + 1, by rw [Nat.pow_succ, hk, Nat.mul_comm]; exact Ad, by rw [Nat.pow_succ, hk]; omega, by rw [Nat.pow_succ, hk, Nat.mul_comm]⟩
 ·have hge : ¬ k < n - k := by simp at hc; omega
  refine Aa (an @h0 @h3) ?_;have e : sp n = k := by rw [← hk]; exact Yg (by omega) (by rw [Nat.pow_succ]; omega)
  rw [e];exact Ab
theorem Zn (l : List UInt8) (h : l.length ≤ 1000000) : AC prog 244 [.st l] [] (.st (leaf l)) [] := by
 refine Ar [118] [] func244 ?_;refine run ?_;refine Bu (FN (0 :: l) (by simp; omega)) (by rfl) (by rfl) (by rfl) ?_
 refine run ?_;exact Ab
theorem Y9 (l r : List UInt8) (h : l.length ≤ 1000000) (h' : r.length ≤ 1000000) : AC prog 243 [.st l, .st r] [] (.st (My l r)) [] := by
 refine Ar [] [] func243 ?_;refine run ?_;exact Ab
theorem Zj (l r : List UInt8) (h : l.length ≤ 1000000) (h' : r.length ≤ 1000000) : AC prog 146 [.st l, .st r] [] (.st (Gn l r)) [] := by
 refine Ar [118, 243] [] func146 ?_;refine run ?_;refine Bu (Y9 l r h h') (by rfl) (by rfl) (by rfl) ?_
 refine run ?_;refine Bu (FN (My l r) (by simp [My]; omega)) (by rfl) (by rfl) (by rfl) ?_
 refine run ?_;exact Ab
theorem Y6 (k : Nat) : ∀ (l : List By), l.length ≤ k → l.length ≤ 1000000 → (∀ x ∈ l, x.length ≤ 1000000) →
  AC prog 78 [At l] [] (.st (root l)) [] := by
 induction k with
 | zero =>
  intro l hk hl hx
  have : l = [] := List.eq_nil_of_length_eq_zero (by omega)
  subst this;refine Ar [78, 145, 146, 118] [] func78 ?_;refine run ?_;refine Bu (FN [] (by simp)) (by rfl) (by rfl) (by rfl) ?_
  refine run ?_;exact Ab
 | succ k ih =>
  intro l hk hl hx;refine Ar [78, 145, 146, 118] [] func78 ?_;by_cases h0 : l.length = 0
  ·have : l = [] := List.eq_nil_of_length_eq_zero (by omega)
   subst this;refine run ?_;refine Bu (FN [] (by simp)) (by rfl) (by rfl) (by rfl) ?_
   refine run ?_;exact Ab
  rw [KH (by omega)]
  by_cases h1 : l.length = 1
  ·obtain ⟨a, rfl⟩ := List.length_eq_one_iff.1 h1
   refine run ?_;rw [Oj (by simp)]
   exact Ab
  ·have h2 : 2 ≤ l.length := by omega
   have h3 := Fl h2;have h4 := FM l.length;have ht : (List.take (sp l.length) l).length = sp l.length := by simp; omega
   have hd : (l.drop (sp l.length)).length = l.length - sp l.length := List.length_drop;have hxt : ∀ x ∈ l.take (sp l.length), x.length ≤ 1000000 := fun x hx' => hx x (List.mem_of_mem_take hx')
   have hxd : ∀ x ∈ l.drop (sp l.length), x.length ≤ 1000000 := fun x hx' => hx x (List.mem_of_mem_drop hx')
   have f1 := ih (l.take (sp l.length)) (by omega) (by omega) hxt
   have f2 := ih (l.drop (sp l.length)) (by omega) (by omega) hxd
   rw [KH (by omega)] at f1 f2
   refine run ?_;refine Bu (Y4 l.length h2 (by omega)) (by rfl) (by rfl) (by rfl) ?_
   refine run ?_;refine Bu f1 (by rfl) (by rfl) (by rfl) ?_
   refine Aa (@List.take_length (List UInt8)) ?_;refine Bu f2 (by rfl) (by rfl) (by rfl) ?_
   refine run ?_;refine Bu (Zj _ _ (Mo hxt) (Mo hxd)) (by rfl) (by rfl) (by rfl) ?_
   refine run ?_;rw [Mn h2];exact Ab
end Pe
end
section
namespace Pe
open Tryz
open Go Go.RowKit Co Sg Ac It Sl
set_option maxRecDepth 100000
set_option maxHeartbeats 4000000
theorem Zb2 (a b : List It.Entry) (ha : EOk a) (hb : EOk b) : AC prog 16 [BY a, BY b] [] (.bo (decide (a = b))) [] := by
 refine Ai [47] [] func16 ?_;obtain ⟨q, hq⟩ : ∃ q, decide (a = b) = q := ⟨_, rfl⟩
 rw [hq];have hal := ha.len;have hbl := hb.len;have hsa := Fa a;have hsb := Fa b;by_cases l1 : a.length = b.length
 rotate_left
 ·obtain rfl : q = false := by rw [← hq]; exact decide_eq_false (fun e => l1 (by rw [e]))
  refine run ?_;exact Ab
 refine run ?_;refine AF (fun m e S => S = [] ∧ e 0 = BY a ∧ e 1 = BY b ∧ ∃ k : Nat, e 5 = .it .i64 (k : Int) ∧ k ≤ a.length ∧ (∀ j (h1 : j < a.length) (h2 : j < b.length), j < k → a[j] = b[j]) ∧ m = a.length - k) a.length
  ⟨rfl, Ad, Ad, 0, Ad, by omega, fun j _ _ h => absurd h (Nat.not_lt_zero _), rfl⟩ ?_
 rintro m e S ⟨rfl, s0, s1, k, s5, hk, hall, rfl⟩
 by_cases hlt : k < a.length
 ·have hlb : k < b.length := by omega
  have hga : a[k]? = some a[k] := List.getElem?_eq_getElem hlt
  have hgb : b[k]? = some b[k] := List.getElem?_eq_getElem hlb
  have za := ha.iz a[k] (List.getElem_mem hlt);have zb := hb.iz b[k] (List.getElem_mem hlb);have hbad : a[k] ≠ b[k] → q = false := fun h => by rw [← hq]; exact decide_eq_false (fun e => h (by subst e; rfl))
  have hgood : a[k] = b[k] → ∀ j (h1 : j < a.length) (h2 : j < b.length), j < k + 1 → a[j] = b[j] := fun h j h1 h2 hj => by
   by_cases ej : j = k
   ·subst ej; exact h
   ·exact hall j h1 h2 (by omega)
  generalize a[k] = x at *;generalize b[k] = y at *;have ks := Zb3 x.item y.item za.lz zb.lz;by_cases hi : x.item = y.item
  rotate_left
  ·rw [decide_eq_false hi] at ks
   obtain rfl := hbad fun e => hi (by rw [e])
   refine Aa (A7 @s0 @s1 @s5 @hga @hgb @hsa @hsb) ?_;refine cp ks ?_;refine Aa (A3 @s0 @s1 @s5) ?_;exact Ab
  rw [decide_eq_true hi] at ks;by_cases ht : x.time = y.time
  ·have qt : (x.time != y.time) = false := B7 ht
   refine Aa (A7 @s0 @s1 @s5 @hga @hgb @hsa @hsb) ?_;refine cp ks ?_;refine Aa (A8 @s0 @s1 @s5 @hga @hgb @hsa @hsb @qt) ?_;exact Ao (a.length - (k + 1)) (by omega) ⟨rfl, Ad, Ad, k + 1, Ad, by omega, hgood (by cases x; cases y; simp only at ht hi; rw [ht, hi]), rfl⟩
  ·have qt : (x.time != y.time) = true := B6 ht
   obtain rfl := hbad fun e => ht (by rw [e])
   refine Aa (A7 @s0 @s1 @s5 @hga @hgb @hsa @hsb) ?_;refine cp ks ?_;refine Aa (A8 @s0 @s1 @s5 @hga @hgb @hsa @hsb @qt) ?_;exact Ab
 ·obtain rfl : q = true := by rw [← hq]; exact decide_eq_true (MP l1 fun j h1 h2 => hall j h1 h2 (by omega))
  refine Aa (A3 @s0 @s1 @s5) ?_;exact Ab
end Pe
end
section
namespace Pe
open Tryz
open Go Go.RowKit Co
set_option maxRecDepth 100000
set_option maxHeartbeats 4000000
def val : By → Nat
 | [] => 0
 | d :: r => d.toNat % 128 + 128 * val r
end Pe
end
section
namespace Pe
open Tryz
open Go Go.RowKit Co Sg Ac
set_option maxRecDepth 100000
set_option maxHeartbeats 4000000
theorem O1 : ∀ (x y : By), (!Op.bytesLess x y) = (Op.bytesLess y x || y == x)
 | [], [] => rfl
 | _ :: _, [] => rfl
 | [], _ :: _ => rfl
 | a :: x, b :: y => by
  have ih := O1 x y;rw [Op.bytesLess, Op.bytesLess];by_cases h : a = b
  ·subst h
   have h0 : ¬ a < a := by rw [UInt8.lt_iff_toNat_lt]; omega
   have hb : (a == a) = true := beq_self_eq_true a;rw [decide_eq_false h0, hb, show ((a :: y == a :: x) : Bool) = (y == x) from by simp]
   simpa using ih
  ·have h1 : (a == b) = false := by simpa using h
   have h2 : (b == a) = false := by simpa using fun e : b = a => h e.symm
   have h3 : ((b :: y == a :: x) : Bool) = false := by simpa using fun e : b = a => absurd e.symm h
   rw [h1, h2, h3];by_cases h4 : a < b
   ·have h5 : ¬ b < a := by rw [UInt8.lt_iff_toNat_lt] at *; omega
    simp [h4, h5]
   ·have h5 : b < a := by
     rw [UInt8.lt_iff_toNat_lt] at *
     have : a.toNat ≠ b.toNat := fun e => h (UInt8.toNat_inj.1 e)
     omega
    simp [h4, h5]
theorem M8 (b l h : Nat) : AC prog 220 [.it .u8 b, .it .u8 l, .it .u8 h] [] (.bo (decide (l ≤ b) && decide (b ≤ h))) [] := by
 refine Ar [] [] func220 ?_;by_cases h1 : l ≤ b
 rotate_left
 ·have h1' : ¬ (l : Int) ≤ (b : Int) := by omega
  rw [decide_eq_false h1];refine Aa @h1' ?_;exact Ab
 by_cases h2 : b ≤ h
 ·have h1' : (l : Int) ≤ (b : Int) := by omega
  have h2' : (b : Int) ≤ (h : Int) := by omega
  rw [decide_eq_true h1, decide_eq_true h2];refine Aa (an @h1' @h2') ?_;exact Ab
 ·have h1' : (l : Int) ≤ (b : Int) := by omega
  have h2' : ¬ (b : Int) ≤ (h : Int) := by omega
  rw [decide_eq_true h1, decide_eq_false h2];refine Aa (an @h1' @h2') ?_;exact Ab
theorem DG (s : By) (hs : s.length ≤ 140737488355328) : AC prog 135 [.st s] [] (.bo (AD s)) [] := by
 refine Ar [220] [] func135 ?_;unfold AD;refine run ?_;refine AF (fun m e S => S = [] ∧ e 0 = .st s ∧ ∃ k : Nat, e 3 = .it .i64 (k : Int) ∧ k ≤ s.length ∧ (s.take k).all E7 = true ∧ m = s.length - k) s.length ⟨rfl, Ad, 0, Ad, by omega, rfl, rfl⟩ ?_
 rintro m e S ⟨rfl, s0, k, s3, hk, hall, rfl⟩
 by_cases hlt : k < s.length
 rotate_left
 ·obtain rfl : k = s.length := by omega
  rw [List.take_length] at hall;rw [hall];by_cases h16 : s.length = 16
  ·have h16' : (s.length : Int) = 16 := by omega
   rw [decide_eq_true h16];refine Aa (A3 @s0 @s3 @h16') ?_;exact Ab
  ·have h16' : ¬ (s.length : Int) = 16 := by omega
   rw [decide_eq_false h16];refine Aa (A3 @s0 @s3 @h16') ?_;exact Ab
 have hg : s[k]? = some s[k] := List.getElem?_eq_getElem hlt
 have hstep : s.take (k + 1) = s.take k ++ [s[k]] := List.take_succ_eq_append_getElem hlt;have hbad : E7 s[k] = false → s.all E7 = false := fun h => List.all_eq_false.2 ⟨s[k], List.getElem_mem hlt, by simp [h]⟩
 generalize s[k] = b at *;have hu : u8 b = .it .u8 (b.toNat : Int) := rfl;have k1 := M8 b.toNat 48 57;have k2 := M8 b.toNat 97 102;have hx : E7 b = ((decide (48 ≤ b.toNat) && decide (b.toNat ≤ 57)) || (decide (97 ≤ b.toNat) && decide (b.toNat ≤ 102))) := rfl;generalize (decide (48 ≤ b.toNat) && decide (b.toNat ≤ 57)) = c1 at *;generalize (decide (97 ≤ b.toNat) && decide (b.toNat ≤ 102)) = c2 at *;refine Aa (A4 @s0 @s3 @hg @hu) ?_;refine cp k1 ?_;cases c1 with
 | true =>
  refine Aa (A4 @s0 @s3 @hg @hu) ?_;exact Ao (s.length - (k + 1)) (by omega) ⟨rfl, Ad, k + 1, Ad, by omega, by rw [hstep, List.all_append, hall]; simp [hx], rfl⟩
 | false =>
  refine Aa (A4 @s0 @s3 @hg @hu) ?_;refine cp k2 ?_;cases c2 with
  | true =>
   refine Aa (A4 @s0 @s3 @hg @hu) ?_;exact Ao (s.length - (k + 1)) (by omega) ⟨rfl, Ad, k + 1, Ad, by omega, by rw [hstep, List.all_append, hall]; simp [hx], rfl⟩
  | false =>
   rw [hbad (by rw [hx]; rfl), Bool.and_false]
   refine Aa (A4 @s0 @s3 @hg @hu) ?_;exact Ab
theorem G3 (s : By) (hs : s.length ≤ 140737488355328) : AC prog 222 [.st s] [] (.bo (BQ s)) [] := by
 refine Ar [220] [] func222 ?_;refine run ?_;refine AF (fun m e S => S = [] ∧ e 0 = .st s ∧ ∃ k : Nat, e 3 = .it .i64 (k : Int) ∧ k ≤ s.length ∧ (∀ j (hj : j < s.length), j < k → (if j = 0 then Cx s[j] else C1 s[j]) = true) ∧ m = s.length - k) s.length ⟨rfl, Ad, 0, Ad, by omega, fun j _ h => absurd h (Nat.not_lt_zero _), rfl⟩ ?_
 rintro m e S ⟨rfl, s0, k, s3, hk, hall, rfl⟩
 by_cases hlt : k < s.length
 rotate_left
 ·obtain rfl : k = s.length := by omega
  by_cases h1 : 1 ≤ s.length
  rotate_left
  ·have h1' : ¬ (1 : Int) ≤ (s.length : Int) := by omega
   obtain rfl : s = [] := List.eq_nil_of_length_eq_zero (by omega)
   refine Aa (A3 @s0 @s3 @h1') ?_;exact Ab
  have h1' : (1 : Int) ≤ (s.length : Int) := by omega
  by_cases h2 : s.length ≤ 24
  ·have h2' : (s.length : Int) ≤ 24 := by omega
   rw [Sp (by omega) h2 fun j hj => hall j hj hj]
   refine Aa (A4 @s0 @s3 @h1' @h2') ?_;exact Ab
  ·have h2' : ¬ (s.length : Int) ≤ 24 := by omega
   rw [Sq (by omega)]
   refine Aa (A4 @s0 @s3 @h1' @h2') ?_;exact Ab
 have hg : s[k]? = some s[k] := List.getElem?_eq_getElem hlt
 have hbad : (if k = 0 then Cx s[k] else C1 s[k]) = false → BQ s = false := Sr hlt
 have hgood : (if k = 0 then Cx s[k] else C1 s[k]) = true → ∀ j (hj : j < s.length), j < k + 1 → (if j = 0 then Cx s[j] else C1 s[j]) = true := fun h j hj hjk => by
  by_cases e : j = k
  ·subst e; exact h
  ·exact hall j hj (by omega)
 generalize s[k] = b at *;have hu : u8 b = .it .u8 (b.toNat : Int) := rfl;have k1 := M8 b.toNat 97 122;have k2 := M8 b.toNat 48 57;have hx : Cx b = (decide (97 ≤ b.toNat) && decide (b.toNat ≤ 122)) := rfl;have hy : C1 b = (Cx b || (decide (48 ≤ b.toNat) && decide (b.toNat ≤ 57)) || decide (b.toNat = 95)) := rfl;rw [← hx] at k1;clear hx;generalize (decide (48 ≤ b.toNat) && decide (b.toNat ≤ 57)) = c2 at *;refine Aa (A4 @s0 @s3 @hg @hu) ?_;refine cp k1 ?_;cases hl : Cx b with
 | true =>
  rw [hl] at hy hgood;refine Aa (A4 @s0 @s3 @hg @hu) ?_;exact Ao (s.length - (k + 1)) (by omega) ⟨rfl, Ad, k + 1, Ad, by omega, hgood (by rw [hy]; simp), rfl⟩
 | false =>
  rw [hl] at hy hbad hgood;by_cases h0 : k = 0
  ·subst h0
   rw [hbad (by simp)]
   refine Aa (A4 @s0 @s3 @hg @hu) ?_;exact Ab
  have h0' : ¬ (k : Int) = 0 := by omega
  rw [if_neg h0] at hbad hgood;cases c2 with
  | true =>
   refine Aa (A5 @s0 @s3 @hg @hu @h0') ?_;refine cp k2 ?_;refine Aa (A4 @s0 @s3 @hg @hu) ?_;exact Ao (s.length - (k + 1)) (by omega) ⟨rfl, Ad, k + 1, Ad, by omega, hgood (by rw [hy]; simp), rfl⟩
  | false =>
   by_cases h95 : b.toNat = 95
   ·have e95 : ((b.toNat : Int) != 95) = false := by rw [h95]; rfl
    refine Aa (A5 @s0 @s3 @hg @hu @h0') ?_;refine cp k2 ?_;refine Aa (A5 @s0 @s3 @hg @hu @e95) ?_;exact Ao (s.length - (k + 1)) (by omega) ⟨rfl, Ad, k + 1, Ad, by omega, hgood (by rw [hy, h95]; rfl), rfl⟩
   ·have e95 : ((b.toNat : Int) != 95) = true := B6 (by omega)
    rw [hbad (by rw [hy, decide_eq_false h95]; rfl)]
    refine Aa (A5 @s0 @s3 @hg @hu @h0') ?_;refine cp k2 ?_;refine Aa (A5 @s0 @s3 @hg @hu @e95) ?_;exact Ab
theorem JB (l : List By) (hs : ∀ s ∈ l, s.length ≤ 140737488355328) (hl : l.length ≤ 140737488355328) : AC prog 225 [At l] [] (.bo (BR l)) [] := by
 refine Ai [135] [] func225 ?_;unfold BR;refine run ?_;refine AF (fun m e S => S = [] ∧ e 0 = At l ∧ ∃ k : Nat, e 3 = .it .i64 (k : Int) ∧ k ≤ l.length ∧ (∀ j (h : j < l.length), j < k → AD l[j] = true) ∧
  (∀ j (h : j + 1 < l.length), j + 1 < k → (Op.bytesLess l[j + 1] l[j] || l[j + 1] == l[j]) = false) ∧ m = l.length - k) l.length ⟨rfl, Ad, 0, Ad, by omega, fun j _ h => absurd h (Nat.not_lt_zero _), fun j _ h => absurd h (Nat.not_lt_zero _), rfl⟩ ?_
 rintro m e S ⟨rfl, s0, k, s3, hk, hid, hasc, rfl⟩
 by_cases hlt : k < l.length
 rotate_left
 ·obtain rfl : k = l.length := by omega
  have h1 : l.all AD = true := List.all_eq_true.2 fun x hx => by
   obtain ⟨j, hj, rfl⟩ := List.getElem_of_mem hx;exact hid j hj hj
  rw [h1, P0 fun j h => hasc j h h]
  by_cases h64 : l.length ≤ 64
  ·have h64' : (l.length : Int) ≤ 64 := by omega
   rw [decide_eq_true h64];refine Aa (A3 @s0 @s3 @h64') ?_;exact Ab
  ·have h64' : ¬ (l.length : Int) ≤ 64 := by omega
   rw [decide_eq_false h64];refine Aa (A3 @s0 @s3 @h64') ?_;exact Ab
 have hg : l[k]? = some l[k] := List.getElem?_eq_getElem hlt
 have hsk := hs l[k] (List.getElem_mem hlt);have ki := DG l[k] hsk;cases hb : AD l[k] with
 | false =>
  have : l.all AD = false := List.all_eq_false.2 ⟨l[k], List.getElem_mem hlt, by simp [hb]⟩
  rw [this, Bool.and_false, Bool.false_and];rw [hb] at ki;refine Aa (A3 @s0 @s3 @hg) ?_;refine cp ki ?_;refine Aa (A3 @s0 @s3 @hg) ?_;exact Ab
 | true =>
  rw [hb] at ki;have hid' : ∀ j (h : j < l.length), j < k + 1 → AD l[j] = true := fun j h hj => by
   by_cases e : j = k
   ·subst e; exact hb
   ·exact hid j h (by omega)
  cases k with
  | zero =>
   refine Aa (A3 @s0 @s3 @hg) ?_;refine cp ki ?_;refine Aa (A3 @s0 @s3 @hg) ?_;exact Ao (l.length - 1) (by omega) ⟨rfl, Ad, 1, Ad, by omega, hid', fun j _ h => by omega, rfl⟩
  | succ k =>
   have hg' : l[k]? = some l[k] := List.getElem?_eq_getElem (by omega)
   have hc : ((k + 1 : Nat) : Int) - 1 = (k : Int) := by omega
   have hpos : (0 : Int) < ((k + 1 : Nat) : Int) := by omega
   cases hcmp : (Op.bytesLess l[k + 1] l[k] || l[k + 1] == l[k]) with
   | true =>
    have hcm : Op.bytesLess l[k] l[k + 1] = false := by
     have := O1 l[k] l[k + 1];rw [hcmp] at this;simpa using this
    rw [P1 (j := k) hlt hcmp, Bool.and_false];refine Aa (A3 @s0 @s3 @hg) ?_;refine cp ki ?_;refine Aa (A7 @s0 @s3 @hg @hg' @hc @hcm @hpos) ?_;exact Ab
   | false =>
    have hcm : Op.bytesLess l[k] l[k + 1] = true := by
     have := O1 l[k] l[k + 1];rw [hcmp] at this;simpa using this
    refine Aa (A3 @s0 @s3 @hg) ?_;refine cp ki ?_;refine Aa (A7 @s0 @s3 @hg @hg' @hc @hcm @hpos) ?_;exact Ao (l.length - (k + 1 + 1)) (by omega) ⟨rfl, Ad, k + 1 + 1, Ad, by omega, hid', fun j h hj => by
     by_cases e : j = k
     ·subst e; exact hcmp
     ·exact hasc j h (by omega), rfl⟩
end Pe
end
end Go.Proofs.YtiidnoejnphocaaGreatDoor
