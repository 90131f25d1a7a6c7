/- Several texts in one. -/
import Derived.Test.YtaphpbiaoofmkaaGreatDoorCoW
import Derived.Test.YtaphpbiaoofmkaaGreatDoorShaC
import Derived.Test.YtaphpbiaoofmkaaGreatDoorSgW
import Derived.Test.YtaphpbiaoofmkaaGreatDoorSumR1
import Derived.Test.YtaphpbiaoofmkaaGreatDoorItW
set_option linter.unusedSectionVars false
set_option linter.unusedVariables false
set_option linter.unusedSimpArgs false
namespace Go.Proofs.YtaphpbiaoofmkaaGreatDoor.Pe
open Go Go.RowKit Co
set_option maxRecDepth 100000
set_option maxHeartbeats 4000000
theorem fnum_nat : ∀ (f n : Nat), n < f → n < 9223372036854775808 → AC Tryz.prog 120 [.it .i64 n] [] (.st (num n)) []
 | 0, n, h, _ => absurd h (Nat.not_lt_zero _)
 | f + 1, n, hf, hn => by
  by_cases hs : n < 128
  ·refine AC.enter [120] [] Tryz.func120 rfl (by decide) (by decide) (Nat.le_of_ble_eq_true rfl) (by kernel_rfl) ?_; simp only [eraseC, eraseO, List.map_cons, List.map_nil, List.map_toArray, List.getElem?_toArray, List.getElem?_cons_zero, List.getElem?_cons_succ, Option.bind_some, Option.bind_none, List.append_eq, List.cons_append, List.nil_append]
   have h0 : ¬ (n : Int) < 0 := by omega
   have h1 : (n : Int) < 128 := by omega
   have hw : IntKind.u8.wrap (n : Int) = (n : Int) := wrap8 (by omega) (by omega)
   have hb : bytesOf [AV.it .u8 (n : Int)] = some [UInt8.ofNat n] := by
    rw [show (AV.it .u8 (n : Int)) = u8 (UInt8.ofNat n) from by unfold u8; rw [ofNat8 (by omega)]]
    exact bytesOf_map [UInt8.ofNat n]
   rw [num_small hs]
   refine runf (an @h0 (an @h1 (an @hw @hb))) ?_
   exact er0
  ·have ih := fnum_nat f (n / 128) (by omega) (by omega)
   refine AC.enter [120] [] Tryz.func120 rfl (by decide) (by decide) (Nat.le_of_ble_eq_true rfl) (by kernel_rfl) ?_; simp only [eraseC, eraseO, List.map_cons, List.map_nil, List.map_toArray, List.getElem?_toArray, List.getElem?_cons_zero, List.getElem?_cons_succ, Option.bind_some, Option.bind_none, List.append_eq, List.cons_append, List.nil_append]
   have h0 : ¬ (n : Int) < 0 := by omega
   have h1 : ¬ (n : Int) < 128 := by omega
   have hm : (n : Int).tmod 128 = ((n % 128 : Nat) : Int) := by rw [Int.tmod_eq_emod_of_nonneg (by omega)]; omega
   have hd : (n : Int).tdiv 128 = ((n / 128 : Nat) : Int) := by rw [Int.tdiv_eq_ediv_of_nonneg (by omega)]; omega
   have hw : IntKind.u8.wrap (128 + ((n % 128 : Nat) : Int)) = ((128 + n % 128 : Nat) : Int) := by rw [show (128 : Int) + ((n % 128 : Nat) : Int) = ((128 + n % 128 : Nat) : Int) from by omega]; exact wrap8 (by omega) (by omega)
   have hb : bytesOf [AV.it .u8 ((128 + n % 128 : Nat) : Int)] = some [UInt8.ofNat (128 + n % 128)] := by
    rw [show (AV.it .u8 ((128 + n % 128 : Nat) : Int)) = u8 (UInt8.ofNat (128 + n % 128)) from by unfold u8; rw [ofNat8 (by omega)]]
    exact bytesOf_map [UInt8.ofNat (128 + n % 128)]
   have hl := num_len9 (n := n / 128) (by omega)
   rw [num_big hs]
   refine runf (an @h0 (an @h1 (an @hm (an @hd (an @hw @hb))))) ?_
   refine cp ih ?_
   refine run ?_
   exact er0
theorem fnum_c (n : Int) (h : n < 9223372036854775808) : AC Tryz.prog 120 [.it .i64 n] [] (.st (numI n)) [] := by
 by_cases h0 : n < 0
 ·refine AC.enter [120] [] Tryz.func120 rfl (by decide) (by decide) (Nat.le_of_ble_eq_true rfl) (by kernel_rfl) ?_; simp only [eraseC, eraseO, List.map_cons, List.map_nil, List.map_toArray, List.getElem?_toArray, List.getElem?_cons_zero, List.getElem?_cons_succ, Option.bind_some, Option.bind_none, List.append_eq, List.cons_append, List.nil_append]
  rw [show numI n = [] from by unfold numI; rw [if_pos h0]]
  refine run ?_
  exact er0
 ·obtain ⟨m, rfl⟩ : ∃ m : Nat, n = (m : Int) := ⟨n.toNat, by omega⟩
  rw [numI_nat]
  exact fnum_nat (m + 1) m (by omega) (by omega)
theorem ftext_c (s : By) (h : s.length ≤ 1000000000) : AC Tryz.prog 119 [.st s] [] (.st (text s)) [] := by
 refine AC.enter [120] [] Tryz.func119 rfl (by decide) (by decide) (Nat.le_of_ble_eq_true rfl) (by kernel_rfl) ?_; simp only [eraseC, eraseO, List.map_cons, List.map_nil, List.map_toArray, List.getElem?_toArray, List.getElem?_cons_zero, List.getElem?_cons_succ, Option.bind_some, Option.bind_none, List.append_eq, List.cons_append, List.nil_append]
 have k := fnum_c (s.length : Int) (by omega)
 rw [numI_nat] at k
 have hl := num_len9 (n := s.length) (by omega)
 unfold text
 refine run ?_
 refine cp k ?_
 refine run ?_
 exact er0
end Go.Proofs.YtaphpbiaoofmkaaGreatDoor.Pe
namespace Go.Proofs.YtaphpbiaoofmkaaGreatDoor.Pe
open Go Go.RowKit Co Sg
set_option maxRecDepth 100000
set_option maxHeartbeats 4000000
theorem emod_tmod (a m : Int) (hm : 0 < m) : a % m = if a.tmod m < 0 then a.tmod m + m else a.tmod m := by
 rw [Int.emod_eq_tmod]
 have hb := Int.emod_nonneg a (show m ≠ 0 by omega)
 have ht := Int.tmod_lt_of_pos a hm
 by_cases h0 : 0 ≤ a
 ·have := Int.tmod_nonneg m h0
  rw [if_pos (.inl h0), if_neg (by omega)]; omega
 ·by_cases hd : m ∣ a
  ·rw [if_pos (.inr hd), Int.tmod_eq_zero_of_dvd hd]; simp
  ·have hneg : a.tmod m < 0 := by
    have h2 := Int.emod_eq_tmod (a := a) (b := m)
    rw [if_neg (by rintro (h | h); exact h0 h; exact hd h)] at h2
    have h3 := Int.emod_lt_of_pos a hm
    have : (m.natAbs : Int) = m := by omega
    omega
   rw [if_neg (by rintro (h | h); exact h0 h; exact hd h), if_pos hneg]
   omega
theorem and31 (a : Nat) (ha : a < 18446744073709551616) : Go.bits .and .u64 (a : Int) 2147483647 = ((a % 2147483648 : Nat) : Int) := by
 have := bits_nat .and Nat.land (.inl ⟨rfl, rfl⟩) a 2147483647 ha (by omega) .u64 (.inl rfl)
 have e : Nat.land a 2147483647 = a % 2147483648 := Nat.and_two_pow_sub_one_eq_mod a 31
 rw [e] at this
 exact this.trans (wrapn (by omega))
theorem and30 (a : Nat) (ha : a < 18446744073709551616) : Go.bits .and .u64 (a : Int) 1073741823 = ((a % 1073741824 : Nat) : Int) := by
 have := bits_nat .and Nat.land (.inl ⟨rfl, rfl⟩) a 1073741823 ha (by omega) .u64 (.inl rfl)
 have e : Nat.land a 1073741823 = a % 1073741824 := Nat.and_two_pow_sub_one_eq_mod a 30
 rw [e] at this
 exact this.trans (wrapn (by omega))
theorem wrapi {n : Nat} (h : n < 9223372036854775808) : IntKind.i64.wrap (n : Int) = (n : Int) := wrap64 (by omega) (by omega)
theorem mul_parts31 (x0 x1 y0 y1 : Nat) : (x1 * 2147483648 + x0) * (y1 * 2147483648 + y0) = x1 * y1 * 4611686018427387904 + (x1 * y0 + x0 * y1) * 2147483648 + x0 * y0 := by
 grind
theorem rmod_c (a m : Int) (hm : 0 < m) (hm' : m < 4611686018427387904) (ha : -9223372036854775808 ≤ a ∧ a ≤ 9223372036854775807) : AC Tryz.prog 272 [.it .i64 a, .it .i64 m] [] (.it .i64 (a % m)) [] := by
 refine AC.enter [] [] Tryz.func272 rfl (by decide) (by decide) (Nat.le_of_ble_eq_true rfl) (by kernel_rfl) ?_; simp only [eraseC, eraseO, List.map_cons, List.map_nil, List.map_toArray, List.getElem?_toArray, List.getElem?_cons_zero, List.getElem?_cons_succ, Option.bind_some, Option.bind_none, List.append_eq, List.cons_append, List.nil_append]
 have h1 := emod_tmod a m hm
 have h2 : -m ≤ a.tmod m ∧ a.tmod m < m := by
  have hb := Int.emod_nonneg a (show m ≠ 0 by omega)
  have hc := Int.emod_lt_of_pos a hm
  have ht := Int.tmod_lt_of_pos a hm
  split at h1 <;> omega
 have hm0 : m ≠ 0 := by omega
 obtain ⟨t, ht⟩ : ∃ t, a.tmod m = t := ⟨_, rfl⟩
 rw [ht] at h1 h2
 rw [h1]
 by_cases h0 : t < 0
 ·rw [if_pos h0]
  refine runf (an @ht @hm0) ?_
  exact er0
 ·rw [if_neg h0]
  refine runf (an @ht @hm0) ?_
  exact er0
theorem rparts_c (a b : Nat) (ha : a < 2305843009213693952) (hb : b < 2305843009213693952) : AC Tryz.prog 274 [.it .i64 a, .it .i64 b] [] (.tup [.it .u64 ((a / 2147483648 * (b / 2147483648) : Nat) : Int), .it .u64 ((a / 2147483648 * (b % 2147483648) + a % 2147483648 * (b / 2147483648) : Nat) : Int), .it .u64 ((a % 2147483648 * (b % 2147483648) : Nat) : Int)]) [] := by
 refine AC.enter [] [] Tryz.func274 rfl (by decide) (by decide) (Nat.le_of_ble_eq_true rfl) (by kernel_rfl) ?_; simp only [eraseC, eraseO, List.map_cons, List.map_nil, List.map_toArray, List.getElem?_toArray, List.getElem?_cons_zero, List.getElem?_cons_succ, Option.bind_some, Option.bind_none, List.append_eq, List.cons_append, List.nil_append]
 have wa := wrapn (n := a) (by omega)
 have wb := wrapn (n := b) (by omega)
 have hx0 := and31 a (by omega)
 have hy0 := and31 b (by omega)
 have hx1 := shr_lit a 31 31 rfl (by omega)
 have hy1 := shr_lit b 31 31 rfl (by omega)
 rw [show (2 : Nat) ^ 31 = 2147483648 from rfl] at hx1 hy1
 have b0 : a % 2147483648 ≤ 2147483647 := by omega
 have b1 : a / 2147483648 ≤ 1073741823 := by omega
 have b2 : b % 2147483648 ≤ 2147483647 := by omega
 have b3 : b / 2147483648 ≤ 1073741823 := by omega
 generalize a % 2147483648 = x0 at *
 generalize a / 2147483648 = x1 at *
 generalize b % 2147483648 = y0 at *
 generalize b / 2147483648 = y1 at *
 have p00 : x0 * y0 ≤ 2147483647 * 2147483647 := Nat.mul_le_mul b0 b2
 have p10 : x1 * y0 ≤ 1073741823 * 2147483647 := Nat.mul_le_mul b1 b2
 have p01 : x0 * y1 ≤ 2147483647 * 1073741823 := Nat.mul_le_mul b0 b3
 have p11 : x1 * y1 ≤ 1073741823 * 1073741823 := Nat.mul_le_mul b1 b3
 have c00 : ((x0 : Int) * (y0 : Int)) = ((x0 * y0 : Nat) : Int) := by push_cast; rfl
 have c10 : ((x1 : Int) * (y0 : Int)) = ((x1 * y0 : Nat) : Int) := by push_cast; rfl
 have c01 : ((x0 : Int) * (y1 : Int)) = ((x0 * y1 : Nat) : Int) := by push_cast; rfl
 have c11 : ((x1 : Int) * (y1 : Int)) = ((x1 * y1 : Nat) : Int) := by push_cast; rfl
 generalize x0 * y0 = q00 at *
 generalize x1 * y0 = q10 at *
 generalize x0 * y1 = q01 at *
 generalize x1 * y1 = q11 at *
 have w00 : IntKind.u64.wrap (q00 : Int) = (q00 : Int) := wrapn (by omega)
 have w10 : IntKind.u64.wrap (q10 : Int) = (q10 : Int) := wrapn (by omega)
 have w01 : IntKind.u64.wrap (q01 : Int) = (q01 : Int) := wrapn (by omega)
 have w11 : IntKind.u64.wrap (q11 : Int) = (q11 : Int) := wrapn (by omega)
 have ws : IntKind.u64.wrap ((q10 : Int) + (q01 : Int)) = ((q10 + q01 : Nat) : Int) := by rw [wrapu]; omega
 refine runf (an @wa (an @wb (an @hx0 (an @hy0 (an @hx1 (an @hy1 (an @c00 (an @c10 (an @c01 (an @c11 (an @w00 (an @w10 (an @w01 (an @w11 @ws)))))))))))))) ?_
 exact er0
theorem rmul_c (a b : Int) (ha : -9223372036854775808 ≤ a ∧ a ≤ 9223372036854775807) (hb : -9223372036854775808 ≤ b ∧ b ≤ 9223372036854775807) : AC Tryz.prog 273 [.it .i64 a, .it .i64 b] [] (.it .i64 (mulI a b : Nat)) [] := by
 refine AC.enter [272, 274] [] Tryz.func273 rfl (by decide) (by decide) (Nat.le_of_ble_eq_true rfl) (by kernel_rfl) ?_; simp only [eraseC, eraseO, List.map_cons, List.map_nil, List.map_toArray, List.getElem?_toArray, List.getElem?_cons_zero, List.getElem?_cons_succ, Option.bind_some, Option.bind_none, List.append_eq, List.cons_append, List.nil_append]
 unfold mulI
 have a1 := Int.emod_nonneg a (show (2305843009213693951 : Int) ≠ 0 by omega)
 have a2 := Int.emod_lt_of_pos a (show (0 : Int) < 2305843009213693951 by omega)
 have b1 := Int.emod_nonneg b (show (2305843009213693951 : Int) ≠ 0 by omega)
 have b2 := Int.emod_lt_of_pos b (show (0 : Int) < 2305843009213693951 by omega)
 obtain ⟨x, hx⟩ := Int.eq_ofNat_of_zero_le a1
 obtain ⟨y, hy⟩ := Int.eq_ofNat_of_zero_le b1
 have ra := rmod_c a 2305843009213693951 (by omega) (by omega) ha
 have rb := rmod_c b 2305843009213693951 (by omega) (by omega) hb
 rw [hx] at ra a1 a2 ⊢
 rw [hy] at rb b1 b2 ⊢
 rw [Int.toNat_natCast, Int.toNat_natCast]
 have hm := rparts_c x y (by omega) (by omega)
 have hxy : x * y = x / 2147483648 * (y / 2147483648) * 4611686018427387904 + (x / 2147483648 * (y % 2147483648) + x % 2147483648 * (y / 2147483648)) * 2147483648 + x % 2147483648 * (y % 2147483648) := by
  rw [← mul_parts31, Nat.div_add_mod', Nat.div_add_mod']
 have d0 : x % 2147483648 ≤ 2147483647 := by omega
 have d1 : x / 2147483648 ≤ 1073741823 := by omega
 have d2 : y % 2147483648 ≤ 2147483647 := by omega
 have d3 : y / 2147483648 ≤ 1073741823 := by omega
 generalize x % 2147483648 = x0 at *
 generalize x / 2147483648 = x1 at *
 generalize y % 2147483648 = y0 at *
 generalize y / 2147483648 = y1 at *
 have p00 : x0 * y0 ≤ 2147483647 * 2147483647 := Nat.mul_le_mul d0 d2
 have p10 : x1 * y0 ≤ 1073741823 * 2147483647 := Nat.mul_le_mul d1 d2
 have p01 : x0 * y1 ≤ 2147483647 * 1073741823 := Nat.mul_le_mul d0 d3
 have p11 : x1 * y1 ≤ 1073741823 * 1073741823 := Nat.mul_le_mul d1 d3
 have hmid : x1 * y0 + x0 * y1 ≤ 4611686018427387904 := by omega
 generalize x1 * y0 + x0 * y1 = md at *
 generalize x1 * y1 = hi at *
 generalize x0 * y0 = lo at *
 generalize x * y = xy at *
 have k1 := shr_lit md 30 30 rfl (by omega)
 rw [show (2 : Nat) ^ 30 = 1073741824 from rfl] at k1
 have k2 := and30 md (by omega)
 have k3 := shl_lit (md % 1073741824) 31 31 rfl (by omega)
 have e3 : md % 1073741824 * 2 ^ 31 % 18446744073709551616 = md % 1073741824 * 2147483648 := by omega
 rw [e3] at k3
 have k4 : IntKind.u64.wrap (2 * (hi : Int)) = ((2 * hi : Nat) : Int) := by rw [wrapu]; omega
 have k5 : IntKind.u64.wrap (((2 * hi : Nat) : Int) + ((md / 1073741824 : Nat) : Int)) = ((2 * hi + md / 1073741824 : Nat) : Int) := by rw [wrapu]; omega
 have k6 : IntKind.u64.wrap (((2 * hi + md / 1073741824 : Nat) : Int) + ((md % 1073741824 * 2147483648 : Nat) : Int)) = ((2 * hi + md / 1073741824 + md % 1073741824 * 2147483648 : Nat) : Int) := by rw [wrapu]; omega
 have k7 : IntKind.u64.wrap (((2 * hi + md / 1073741824 + md % 1073741824 * 2147483648 : Nat) : Int) + (lo : Int)) = ((2 * hi + md / 1073741824 + md % 1073741824 * 2147483648 + lo : Nat) : Int) := by rw [wrapu]; omega
 have k8 : ((2 * hi + md / 1073741824 + md % 1073741824 * 2147483648 + lo : Nat) : Int).tmod 2305843009213693951 = ((xy % 2305843009213693951 : Nat) : Int) := by
  rw [Int.tmod_eq_emod_of_nonneg (by omega)]; omega
 have k9 : IntKind.i64.wrap ((xy % 2305843009213693951 : Nat) : Int) = ((xy % 2305843009213693951 : Nat) : Int) := wrapi (by omega)
 refine run ?_
 refine cp ra ?_
 refine run ?_
 refine cp rb ?_
 refine run ?_
 refine cp hm ?_
 refine runf (an @k1 (an @k2 (an @k3 (an @k4 (an @k5 (an @k6 (an @k7 (an @k8 @k9)))))))) ?_
 exact er0
theorem rmulN_c (a b : Int) (ha : -9223372036854775808 ≤ a ∧ a ≤ 9223372036854775807) (hb : -9223372036854775808 ≤ b ∧ b ≤ 9223372036854775807) : AC Tryz.prog 202 [.it .i64 a, .it .i64 b] [] (.it .i64 (mulNI a b : Nat)) [] := by
 refine AC.enter [272, 274] [] Tryz.func202 rfl (by decide) (by decide) (Nat.le_of_ble_eq_true rfl) (by kernel_rfl) ?_; simp only [eraseC, eraseO, List.map_cons, List.map_nil, List.map_toArray, List.getElem?_toArray, List.getElem?_cons_zero, List.getElem?_cons_succ, Option.bind_some, Option.bind_none, List.append_eq, List.cons_append, List.nil_append]
 unfold mulNI
 have a1 := Int.emod_nonneg a (show (2305843009213693950 : Int) ≠ 0 by omega)
 have a2 := Int.emod_lt_of_pos a (show (0 : Int) < 2305843009213693950 by omega)
 have b1 := Int.emod_nonneg b (show (2305843009213693950 : Int) ≠ 0 by omega)
 have b2 := Int.emod_lt_of_pos b (show (0 : Int) < 2305843009213693950 by omega)
 obtain ⟨x, hx⟩ := Int.eq_ofNat_of_zero_le a1
 obtain ⟨y, hy⟩ := Int.eq_ofNat_of_zero_le b1
 have ra := rmod_c a 2305843009213693950 (by omega) (by omega) ha
 have rb := rmod_c b 2305843009213693950 (by omega) (by omega) hb
 rw [hx] at ra a1 a2 ⊢
 rw [hy] at rb b1 b2 ⊢
 rw [Int.toNat_natCast, Int.toNat_natCast]
 have hm := rparts_c x y (by omega) (by omega)
 have hxy : x * y = x / 2147483648 * (y / 2147483648) * 4611686018427387904 + (x / 2147483648 * (y % 2147483648) + x % 2147483648 * (y / 2147483648)) * 2147483648 + x % 2147483648 * (y % 2147483648) := by
  rw [← mul_parts31, Nat.div_add_mod', Nat.div_add_mod']
 have d0 : x % 2147483648 ≤ 2147483647 := by omega
 have d1 : x / 2147483648 ≤ 1073741823 := by omega
 have d2 : y % 2147483648 ≤ 2147483647 := by omega
 have d3 : y / 2147483648 ≤ 1073741823 := by omega
 generalize x % 2147483648 = x0 at *
 generalize x / 2147483648 = x1 at *
 generalize y % 2147483648 = y0 at *
 generalize y / 2147483648 = y1 at *
 have p00 : x0 * y0 ≤ 2147483647 * 2147483647 := Nat.mul_le_mul d0 d2
 have p10 : x1 * y0 ≤ 1073741823 * 2147483647 := Nat.mul_le_mul d1 d2
 have p01 : x0 * y1 ≤ 2147483647 * 1073741823 := Nat.mul_le_mul d0 d3
 have p11 : x1 * y1 ≤ 1073741823 * 1073741823 := Nat.mul_le_mul d1 d3
 have hmid : x1 * y0 + x0 * y1 ≤ 4611686018427387904 := by omega
 generalize x1 * y0 + x0 * y1 = md at *
 generalize x1 * y1 = hi at *
 generalize x0 * y0 = lo at *
 generalize x * y = xy at *
 have k1 := shr_lit md 30 30 rfl (by omega)
 rw [show (2 : Nat) ^ 30 = 1073741824 from rfl] at k1
 have k2 := and30 md (by omega)
 have k3 := shl_lit (md % 1073741824) 31 31 rfl (by omega)
 have e3 : md % 1073741824 * 2 ^ 31 % 18446744073709551616 = md % 1073741824 * 2147483648 := by omega
 rw [e3] at k3
 have k4 : IntKind.u64.wrap (4 * (hi : Int)) = ((4 * hi : Nat) : Int) := by rw [wrapu]; omega
 have k4' : IntKind.u64.wrap (2 * ((md / 1073741824 : Nat) : Int)) = ((2 * (md / 1073741824) : Nat) : Int) := by rw [wrapu]; omega
 have k5 : IntKind.u64.wrap (((4 * hi : Nat) : Int) + ((2 * (md / 1073741824) : Nat) : Int)) = ((4 * hi + 2 * (md / 1073741824) : Nat) : Int) := by rw [wrapu]; omega
 have k6 : IntKind.u64.wrap (((4 * hi + 2 * (md / 1073741824) : Nat) : Int) + ((md % 1073741824 * 2147483648 : Nat) : Int)) = ((4 * hi + 2 * (md / 1073741824) + md % 1073741824 * 2147483648 : Nat) : Int) := by rw [wrapu]; omega
 have k7 : IntKind.u64.wrap (((4 * hi + 2 * (md / 1073741824) + md % 1073741824 * 2147483648 : Nat) : Int) + (lo : Int)) = ((4 * hi + 2 * (md / 1073741824) + md % 1073741824 * 2147483648 + lo : Nat) : Int) := by rw [wrapu]; omega
 have k8 : ((4 * hi + 2 * (md / 1073741824) + md % 1073741824 * 2147483648 + lo : Nat) : Int).tmod 2305843009213693950 = ((xy % 2305843009213693950 : Nat) : Int) := by
  rw [Int.tmod_eq_emod_of_nonneg (by omega)]; omega
 have k9 : IntKind.i64.wrap ((xy % 2305843009213693950 : Nat) : Int) = ((xy % 2305843009213693950 : Nat) : Int) := wrapi (by omega)
 refine run ?_
 refine cp ra ?_
 refine run ?_
 refine cp rb ?_
 refine run ?_
 refine cp hm ?_
 refine runf (an @k1 (an @k2 (an @k3 (an @k4 (an @k4' (an @k5 (an @k6 (an @k7 (an @k8 @k9))))))))) ?_
 exact er0
theorem raddN_c (a b : Int) (ha : -9223372036854775808 ≤ a ∧ a ≤ 9223372036854775807) (hb : -9223372036854775808 ≤ b ∧ b ≤ 9223372036854775807) : AC Tryz.prog 201 [.it .i64 a, .it .i64 b] [] (.it .i64 ((a % 2305843009213693950 + b % 2305843009213693950) % 2305843009213693950)) [] := by
 refine AC.enter [272] [] Tryz.func201 rfl (by decide) (by decide) (Nat.le_of_ble_eq_true rfl) (by kernel_rfl) ?_; simp only [eraseC, eraseO, List.map_cons, List.map_nil, List.map_toArray, List.getElem?_toArray, List.getElem?_cons_zero, List.getElem?_cons_succ, Option.bind_some, Option.bind_none, List.append_eq, List.cons_append, List.nil_append]
 have a1 := Int.emod_nonneg a (show (2305843009213693950 : Int) ≠ 0 by omega)
 have a2 := Int.emod_lt_of_pos a (show (0 : Int) < 2305843009213693950 by omega)
 have b1 := Int.emod_nonneg b (show (2305843009213693950 : Int) ≠ 0 by omega)
 have b2 := Int.emod_lt_of_pos b (show (0 : Int) < 2305843009213693950 by omega)
 refine run ?_
 refine cp (rmod_c a 2305843009213693950 (by omega) (by omega) ha) ?_
 refine run ?_
 refine cp (rmod_c b 2305843009213693950 (by omega) (by omega) hb) ?_
 refine run ?_
 refine cp (rmod_c (a % 2305843009213693950 + b % 2305843009213693950) 2305843009213693950 (by omega) (by omega) (by omega)) ?_
 refine run ?_
 exact er0
theorem rexp_c (a e : Int) (ha : -9223372036854775808 ≤ a ∧ a ≤ 9223372036854775807) (he : -9223372036854775808 ≤ e ∧ e ≤ 9223372036854775807) : AC Tryz.prog 200 [.it .i64 a, .it .i64 e] [] (.it .i64 (expI a e : Nat)) [] := by
 refine AC.enter [272, 273] [] Tryz.func200 rfl (by decide) (by decide) (Nat.le_of_ble_eq_true rfl) (by kernel_rfl) ?_; simp only [eraseC, eraseO, List.map_cons, List.map_nil, List.map_toArray, List.getElem?_toArray, List.getElem?_cons_zero, List.getElem?_cons_succ, Option.bind_some, Option.bind_none, List.append_eq, List.cons_append, List.nil_append]
 unfold expI powm
 have a1 := Int.emod_nonneg a (show (2305843009213693951 : Int) ≠ 0 by omega)
 have a2 := Int.emod_lt_of_pos a (show (0 : Int) < 2305843009213693951 by omega)
 have ra := rmod_c a 2305843009213693951 (by omega) (by omega) ha
 obtain ⟨x, hx⟩ := Int.eq_ofNat_of_zero_le a1
 rw [hx] at ra a1 a2 ⊢
 rw [Int.toNat_natCast, Nat.mod_eq_of_lt (show x < 2305843009213693951 by omega)]
 have hE : ∃ n : Nat, n < 9223372036854775808 ∧ ((if e < 0 then (e % 2305843009213693950).toNat else e.toNat) = n) ∧ (if e < 0 then e % 2305843009213693950 else e) = (n : Int) := by
  split
  ·exact ⟨(e % 2305843009213693950).toNat, by omega, rfl, by omega⟩
  ·exact ⟨e.toNat, by omega, rfl, by omega⟩
 obtain ⟨n, hn, en, eI⟩ := hE
 rw [en]
 have hp0 : (n : Nat) < 2 ^ 63 := by omega
 by_cases hneg : e < 0
 focus
  rw [if_pos hneg] at eI
  have re := rmod_c e 2305843009213693950 (by omega) (by omega) he
  rw [eI] at re
  refine run ?_
  refine cp re ?_
  refine run ?_
  refine cp ra ?_
  refine run ?_
 rotate_left
 focus
  rw [if_neg hneg] at eI
  subst eI
  refine run ?_
  refine cp ra ?_
  refine run ?_
 all_goals
  refine loop_mk (fun m e S => S = [] ∧ m ≤ 64 ∧ ∃ q r p : Nat, e 1 = .it .i64 (q : Int) ∧ e 5 = .it .i64 (r : Int) ∧ e 6 = .it .i64 (p : Int) ∧ q < 2 ^ m ∧ q < 9223372036854775808 ∧ r < 2305843009213693951 ∧ p < 2305843009213693951 ∧ powF 64 1 x n = powF m r p q) 64
   ⟨rfl, by omega, n, 1, x, (by first | rfl | (simp only [↓upd_apply, ↓put_some, ↓reduceIte, Nat.reduceEqDiff, ↓argEnv_zero, ↓argEnv_succ, *]; done)), (by first | rfl | (simp only [↓upd_apply, ↓put_some, ↓reduceIte, Nat.reduceEqDiff, ↓argEnv_zero, ↓argEnv_succ, *]; done)), (by first | rfl | (simp only [↓upd_apply, ↓put_some, ↓reduceIte, Nat.reduceEqDiff, ↓argEnv_zero, ↓argEnv_succ, *]; done)), by omega, by omega, by decide, by omega, rfl⟩ ?_
  rintro m e S ⟨rfl, hm, q, r, p, s1, s5, s6, hq, hq2, hr, hp, hpow⟩
  by_cases h0 : q = 0
  ·subst h0
   rw [powF_zero] at hpow
   rw [hpow]
   refine runf (an @s1 (an @s5 @s6)) ?_
   exact er0
  obtain ⟨m', rfl⟩ : ∃ m', m = m' + 1 := ⟨m - 1, by
   cases m with
   | zero => simp at hq; omega
   | succ m => omega⟩
  have hq0 : (0 : Int) < (q : Int) := by omega
  rw [powF_succ m' r p q] at hpow
  have hq' : q / 2 < 2 ^ m' := by rw [Nat.pow_succ] at hq; omega
  have mpp := rmul_c (p : Int) (p : Int) (by omega) (by omega)
  have mrp := rmul_c (r : Int) (p : Int) (by omega) (by omega)
  rw [mulI_nat hp hp] at mpp
  rw [mulI_nat hr hp] at mrp
  have lpp : p * p % 2305843009213693951 < 2305843009213693951 := Nat.mod_lt _ (by decide)
  have lrp : r * p % 2305843009213693951 < 2305843009213693951 := Nat.mod_lt _ (by decide)
  have t1 : (q : Int).tmod 2 = ((q % 2 : Nat) : Int) := by rw [Int.tmod_eq_emod_of_nonneg (by omega)]; omega
  have t2 : (q : Int).tdiv 2 = ((q / 2 : Nat) : Int) := by rw [Int.tdiv_eq_ediv_of_nonneg (by omega)]; omega
  by_cases ho : q % 2 = 1
  ·rw [if_pos ho] at hpow
   have hoI : ((q % 2 : Nat) : Int) = 1 := by omega
   refine runf (an @s1 (an @s5 (an @s6 (an @t1 (an @t2 (an @hoI @hq0)))))) ?_
   refine cp mrp ?_
   refine runf (an @s1 (an @s5 (an @s6 @t2))) ?_
   refine cp mpp ?_
   refine runf (an @s1 (an @s5 (an @s6 @t2))) ?_
   exact round_mk m' (by omega) ⟨rfl, by omega, q / 2, r * p % 2305843009213693951, p * p % 2305843009213693951, (by first | rfl | (simp only [↓upd_apply, ↓put_some, ↓reduceIte, Nat.reduceEqDiff, ↓argEnv_zero, ↓argEnv_succ, *]; done)), (by first | rfl | (simp only [↓upd_apply, ↓put_some, ↓reduceIte, Nat.reduceEqDiff, ↓argEnv_zero, ↓argEnv_succ, *]; done)), (by first | rfl | (simp only [↓upd_apply, ↓put_some, ↓reduceIte, Nat.reduceEqDiff, ↓argEnv_zero, ↓argEnv_succ, *]; done)), hq', by omega, lrp, lpp, hpow⟩
  ·rw [if_neg ho] at hpow
   have hoI : ((q % 2 : Nat) : Int) = 0 := by omega
   refine runf (an @s1 (an @s5 (an @s6 (an @t1 (an @t2 (an @hoI @hq0)))))) ?_
   refine cp mpp ?_
   refine runf (an @s1 (an @s5 (an @s6 @t2))) ?_
   exact round_mk m' (by omega) ⟨rfl, by omega, q / 2, r, p * p % 2305843009213693951, (by first | rfl | (simp only [↓upd_apply, ↓put_some, ↓reduceIte, Nat.reduceEqDiff, ↓argEnv_zero, ↓argEnv_succ, *]; done)), (by first | rfl | (simp only [↓upd_apply, ↓put_some, ↓reduceIte, Nat.reduceEqDiff, ↓argEnv_zero, ↓argEnv_succ, *]; done)), (by first | rfl | (simp only [↓upd_apply, ↓put_some, ↓reduceIte, Nat.reduceEqDiff, ↓argEnv_zero, ↓argEnv_succ, *]; done)), hq', by omega, hr, lpp, hpow⟩
end Go.Proofs.YtaphpbiaoofmkaaGreatDoor.Pe
namespace Go.Proofs.YtaphpbiaoofmkaaGreatDoor.Pe
open Go Go.RowKit Co Sg
set_option maxRecDepth 100000
set_option maxHeartbeats 4000000
theorem rsnum_c (l : By) (h : l.length ≤ 140737488355328) : AC Tryz.prog 297 [.st l] [] (.it .i64 (Sm.num l : Nat)) [] := by
 refine AC.ofBelow (by kernel_rfl) fun w g cargs ht hargs => ?_
 rw [lrel_st hargs]
 refine (rnum_any ⟨l.toArray⟩ w (by simp [ByteArray.size]; omega)).mono ?_
 rintro r w' ⟨rfl, rfl⟩
 exact ⟨_, rfl, fun g' => .it g' _ _, Below.refl _ _⟩
theorem rhash_c (l : By) (h : l.length ≤ 1000000000) : AC Tryz.prog 271 [.st l] [] (.it .i64 (Sg.hash l : Nat)) [] := by
 refine AC.enter [146, 297] [] Tryz.func271 rfl (by decide) (by decide) (Nat.le_of_ble_eq_true rfl) (by kernel_rfl) ?_; simp only [eraseC, eraseO, List.map_cons, List.map_nil, List.map_toArray, List.getElem?_toArray, List.getElem?_cons_zero, List.getElem?_cons_succ, Option.bind_some, Option.bind_none, List.append_eq, List.cons_append, List.nil_append]
 have hs : (Sm.sha l).length ≤ 140737488355328 := by show 32 ≤ _; omega
 refine run ?_
 refine cp (rsha_c l (by omega)) ?_
 refine run ?_
 refine cp (rsnum_c _ hs) ?_
 refine run ?_
 exact er0
theorem rsecret_c (l : By) (h : l.length ≤ 1000000000) : AC Tryz.prog 198 [.st l] [] (.it .i64 (reduce (Sg.hash l) : Nat)) [] := by
 refine AC.enter [271] [] Tryz.func198 rfl (by decide) (by decide) (Nat.le_of_ble_eq_true rfl) (by kernel_rfl) ?_; simp only [eraseC, eraseO, List.map_cons, List.map_nil, List.map_toArray, List.getElem?_toArray, List.getElem?_cons_zero, List.getElem?_cons_succ, Option.bind_some, Option.bind_none, List.append_eq, List.cons_append, List.nil_append]
 have hh := hash_lt l
 have hc := rhash_c l h
 unfold reduce
 generalize Sg.hash l = h at *
 have e : (h : Int).tmod 2305843009213693949 = ((h % 2305843009213693949 : Nat) : Int) := by rw [Int.tmod_eq_emod_of_nonneg (by omega)]; omega
 have e2 : (1 : Int) + ((h % 2305843009213693949 : Nat) : Int) = ((1 + h % 2305843009213693949 : Nat) : Int) := by omega
 refine run ?_
 refine cp hc ?_
 refine runf (an @e @e2) ?_
 exact er0
theorem rof_c (s : Int) (hs : -9223372036854775808 ≤ s ∧ s ≤ 9223372036854775807) : AC Tryz.prog 197 [.it .i64 s] [] (keyV (Sg.keyOf s)) [] := by
 refine AC.enter [200] [] Tryz.func197 rfl (by decide) (by decide) (Nat.le_of_ble_eq_true rfl) (by kernel_rfl) ?_; simp only [eraseC, eraseO, List.map_cons, List.map_nil, List.map_toArray, List.getElem?_toArray, List.getElem?_cons_zero, List.getElem?_cons_succ, Option.bind_some, Option.bind_none, List.append_eq, List.cons_append, List.nil_append]
 unfold Sg.keyOf
 by_cases h1 : s < 1
 ·rw [if_pos (.inl h1)]
  refine run ?_
  exact er0
 by_cases h2 : 2305843009213693949 < s
 ·have h3 : 2305843009213693950 ≤ s := by omega
  rw [if_pos (.inr h2)]
  refine runf @h3 ?_
  exact er0
 ·have h3 : ¬ 2305843009213693950 ≤ s := by omega
  rw [if_neg (by omega)]
  obtain ⟨n, rfl⟩ := Int.eq_ofNat_of_zero_le (show 0 ≤ s by omega)
  have he := rexp_c 37 (n : Int) (by omega) (by omega)
  rw [expI_nat 37 37 n rfl (by decide)] at he
  refine run ?_
  refine cp he ?_
  refine run ?_
  exact er0
theorem rkeyright_c (k : Key) (hs : -9223372036854775808 ≤ k.secret ∧ k.secret ≤ 9223372036854775807) : AC Tryz.prog 104 [keyV k] [] (.bo k.right) [] := by
 refine AC.enter [197] [] Tryz.func104 rfl (by decide) (by decide) (Nat.le_of_ble_eq_true rfl) (by kernel_rfl) ?_; simp only [eraseC, eraseO, List.map_cons, List.map_nil, List.map_toArray, List.getElem?_toArray, List.getElem?_cons_zero, List.getElem?_cons_succ, Option.bind_some, Option.bind_none, List.append_eq, List.cons_append, List.nil_append]
 unfold Key.right
 have ke : decide (k = Sg.keyOf k.secret) = ((k.secret == (Sg.keyOf k.secret).secret) && (k.pub == (Sg.keyOf k.secret).pub)) := by
  generalize Sg.keyOf k.secret = q
  obtain ⟨a, b⟩ := k
  obtain ⟨c, d⟩ := q
  rw [Bool.eq_iff_iff]
  simp
 rw [ke]
 by_cases h1 : 1 ≤ k.secret
 ·have h2 : 0 < k.secret := by omega
  rw [decide_eq_true h1]
  refine runf @h2 ?_
  refine cp (rof_c k.secret hs) ?_
  refine run ?_
  exact er0
 ·have h2 : ¬ 0 < k.secret := by omega
  rw [decide_eq_false h1]
  refine runf @h2 ?_
  exact er0
theorem rchallenge_c (r p : Int) (m : By) (hm : m.length ≤ 100000000) (hr : -9223372036854775808 ≤ r ∧ r ≤ 9223372036854775807) (hp : -9223372036854775808 ≤ p ∧ p ≤ 9223372036854775807) : AC Tryz.prog 199 [.it .i64 r, .it .i64 p, .st m] [] (.it .i64 (challenge r p m : Nat)) [] := by
 refine AC.enter [119, 120, 271] [] Tryz.func199 rfl (by decide) (by decide) (Nat.le_of_ble_eq_true rfl) (by kernel_rfl) ?_; simp only [eraseC, eraseO, List.map_cons, List.map_nil, List.map_toArray, List.getElem?_toArray, List.getElem?_cons_zero, List.getElem?_cons_succ, Option.bind_some, Option.bind_none, List.append_eq, List.cons_append, List.nil_append]
 have tw : (text wSign).length = 5 := by rfl
 have tm := text_le m hm
 have l1 := numI_len r (by omega)
 have l2 := numI_len p (by omega)
 have hlt := hash_lt (text wSign ++ numI r ++ numI p ++ text m)
 unfold challenge
 have hh := rhash_c (text wSign ++ numI r ++ numI p ++ text m) (by simp only [List.length_append]; omega)
 generalize Sg.hash (text wSign ++ numI r ++ numI p ++ text m) = h at *
 have e : (h : Int).tmod 2305843009213693950 = ((h % 2305843009213693950 : Nat) : Int) := by rw [Int.tmod_eq_emod_of_nonneg (by omega)]; omega
 refine run ?_
 refine cp (ftext_c wSign (by simp)) ?_
 refine run ?_
 refine cp (fnum_c r (by omega)) ?_
 refine run ?_
 refine cp (fnum_c p (by omega)) ?_
 refine run ?_
 refine cp (ftext_c m (by omega)) ?_
 refine run ?_
 refine cp hh ?_
 refine runf @e ?_
 exact er0
theorem rsign_c (k : Key) (m : By) (hm : m.length ≤ 100000000) (hs : -9223372036854775808 ≤ k.secret ∧ k.secret ≤ 9223372036854775807) : AC Tryz.prog 105 [keyV k, .st m] [] (sigV (sign k m)) [] := by
 refine AC.enter [104, 119, 120, 198, 200, 199, 202, 201] [] Tryz.func105 rfl (by decide) (by decide) (Nat.le_of_ble_eq_true rfl) (by kernel_rfl) ?_; simp only [eraseC, eraseO, List.map_cons, List.map_nil, List.map_toArray, List.getElem?_toArray, List.getElem?_cons_zero, List.getElem?_cons_succ, Option.bind_some, Option.bind_none, List.append_eq, List.cons_append, List.nil_append]
 unfold sign
 refine run ?_
 refine cp (rkeyright_c k hs) ?_
 cases hr : k.right with
 | false =>
  rw [if_neg (by simp)]
  refine run ?_
  exact er0
 | true =>
  rw [if_pos rfl]
  obtain ⟨p1, p2⟩ := pub_range hr
  obtain ⟨q1, q2, _⟩ := Key.right_iff.1 hr
  have tm := text_le m hm
  have tw : (text wNonce).length = 6 := by rfl
  have l1 := numI_len k.secret (by omega)
  have hred := rsecret_c (text wNonce ++ numI k.secret ++ text m) (by simp only [List.length_append]; omega)
  change AC _ _ _ _ (.it .i64 (nonce k m : Nat)) _ at hred
  obtain ⟨n1, n2⟩ : 1 ≤ nonce k m ∧ nonce k m < 2305843009213693950 := reduce_lt _
  generalize nonce k m = u at *
  have hexp := rexp_c 37 (u : Int) (by omega) (by omega)
  rw [expI_nat 37 37 u rfl (by decide)] at hexp
  have hpl := powm_lt 37 u
  have hch := rchallenge_c (powm 37 u : Nat) k.pub m hm (by omega) (by omega)
  have hel := challenge_lt (powm 37 u : Nat) k.pub m
  generalize challenge (powm 37 u : Nat) k.pub m = e at *
  have hmul := rmulN_c (e : Int) k.secret (by omega) (by omega)
  have hml : mulNI e k.secret < 2305843009213693950 := Nat.mod_lt _ (by decide)
  have hadd := raddN_c (u : Int) (mulNI e k.secret : Nat) (by omega) (by omega)
  have hval : ((u : Int) % 2305843009213693950 + ((mulNI e k.secret : Nat) : Int) % 2305843009213693950) % 2305843009213693950 = (((u + e * k.secret.toNat) % 2305843009213693950 : Nat) : Int) := by
   have h1 : mulNI e k.secret = e * k.secret.toNat % 2305843009213693950 := by
    unfold mulNI
    rw [show ((e : Int) % 2305843009213693950).toNat = e by omega, show (k.secret % 2305843009213693950).toNat = k.secret.toNat by omega]
   rw [h1]
   generalize e * k.secret.toNat = z
   omega
  rw [hval] at hadd
  refine run ?_
  refine cp (ftext_c wNonce (by simp)) ?_
  refine run ?_
  refine cp (fnum_c k.secret (by omega)) ?_
  refine run ?_
  refine cp (ftext_c m (by omega)) ?_
  refine run ?_
  refine cp hred ?_
  refine run ?_
  refine cp hexp ?_
  refine run ?_
  refine cp hch ?_
  refine run ?_
  refine cp hmul ?_
  refine run ?_
  refine cp hadd ?_
  refine run ?_
  exact er0
theorem rcommit_c (p : Int) (s : Sig) (h1 : 1 ≤ p) (h2 : p < 2305843009213693951) (re : 0 ≤ s.e ∧ s.e < 2305843009213693950) (rs : 0 ≤ s.s ∧ s.s < 2305843009213693950) : AC Tryz.prog 206 [.it .i64 p, sigV s] [] (.it .i64 (commit p s : Nat)) [] := by
 refine AC.enter [200, 273] [] Tryz.func206 rfl (by decide) (by decide) (Nat.le_of_ble_eq_true rfl) (by kernel_rfl) ?_; simp only [eraseC, eraseO, List.map_cons, List.map_nil, List.map_toArray, List.getElem?_toArray, List.getElem?_cons_zero, List.getElem?_cons_succ, Option.bind_some, Option.bind_none, List.append_eq, List.cons_append, List.nil_append]
 have x1 := rexp_c 37 s.s (by omega) (by omega)
 have x2 := rexp_c p (2305843009213693950 - s.e) (by omega) (by omega)
 have e1 : expI 37 s.s = powm 37 s.s.toNat := by
  have := expI_nat 37 37 s.s.toNat rfl (by decide)
  rwa [Int.toNat_of_nonneg rs.1] at this
 have e2 : expI p (2305843009213693950 - s.e) = powm p.toNat (2305843009213693950 - s.e).toNat := by
  have := expI_nat p p.toNat (2305843009213693950 - s.e).toNat (by omega) (by omega)
  rwa [Int.toNat_of_nonneg (by omega)] at this
 rw [e1] at x1
 rw [e2] at x2
 have l1 := powm_lt 37 s.s.toNat
 have l2 := powm_lt p.toNat (2305843009213693950 - s.e).toNat
 have hmul := rmul_c (powm 37 s.s.toNat : Nat) (powm p.toNat (2305843009213693950 - s.e).toNat : Nat) (by omega) (by omega)
 rw [mulI_nat l1 l2] at hmul
 change AC _ _ _ _ (.it .i64 ((commit p s : Nat) : Int)) _ at hmul
 generalize commit p s = c at *
 generalize powm 37 s.s.toNat = y1 at *
 generalize powm p.toNat (2305843009213693950 - s.e).toNat = y2 at *
 refine run ?_
 refine cp x1 ?_
 refine run ?_
 refine cp x2 ?_
 refine run ?_
 refine cp hmul ?_
 refine run ?_
 exact er0
theorem rranges_c (p : Int) (s : Sig) : AC Tryz.prog 205 [.it .i64 p, sigV s] [] (.bo (decide (1 ≤ p) && decide (p < 2305843009213693951) && decide (0 ≤ s.e) && decide (s.e < 2305843009213693950) && decide (0 ≤ s.s) && decide (s.s < 2305843009213693950))) [] := by
 refine AC.enter [] [] Tryz.func205 rfl (by decide) (by decide) (Nat.le_of_ble_eq_true rfl) (by kernel_rfl) ?_; simp only [eraseC, eraseO, List.map_cons, List.map_nil, List.map_toArray, List.getElem?_toArray, List.getElem?_cons_zero, List.getElem?_cons_succ, Option.bind_some, Option.bind_none, List.append_eq, List.cons_append, List.nil_append]
 by_cases h1 : 1 ≤ p
 rotate_left
 ·rw [decide_eq_false h1]
  refine run ?_
  exact er0
 by_cases h2 : p < 2305843009213693951
 rotate_left
 ·rw [decide_eq_true h1, decide_eq_false h2]
  refine run ?_
  exact er0
 by_cases h3 : 0 ≤ s.e
 rotate_left
 ·rw [decide_eq_true h1, decide_eq_true h2, decide_eq_false h3]
  refine run ?_
  exact er0
 by_cases h4 : s.e < 2305843009213693950
 rotate_left
 ·rw [decide_eq_true h1, decide_eq_true h2, decide_eq_true h3, decide_eq_false h4]
  refine run ?_
  exact er0
 by_cases h5 : 0 ≤ s.s
 rotate_left
 ·rw [decide_eq_true h1, decide_eq_true h2, decide_eq_true h3, decide_eq_true h4, decide_eq_false h5]
  refine run ?_
  exact er0
 rw [decide_eq_true h1, decide_eq_true h2, decide_eq_true h3, decide_eq_true h4, decide_eq_true h5]
 refine run ?_
 exact er0
theorem rverify_c (p : Int) (m : By) (s : Sig) (hm : m.length ≤ 100000000) : AC Tryz.prog 107 [.it .i64 p, .st m, sigV s] [] (.bo (verify p m s)) [] := by
 refine AC.enter [205, 206, 199] [] Tryz.func107 rfl (by decide) (by decide) (Nat.le_of_ble_eq_true rfl) (by kernel_rfl) ?_; simp only [eraseC, eraseO, List.map_cons, List.map_nil, List.map_toArray, List.getElem?_toArray, List.getElem?_cons_zero, List.getElem?_cons_succ, Option.bind_some, Option.bind_none, List.append_eq, List.cons_append, List.nil_append]
 have hc := rranges_c p s
 unfold verify inOrder
 by_cases h : 1 ≤ p ∧ p < 2305843009213693951 ∧ 0 ≤ s.e ∧ s.e < 2305843009213693950 ∧ 0 ≤ s.s ∧ s.s < 2305843009213693950
 ·obtain ⟨h1, h2, h3, h4, h5, h6⟩ := h
  rw [decide_eq_true h1, decide_eq_true h2, decide_eq_true h3, decide_eq_true h4, decide_eq_true h5, decide_eq_true h6] at hc ⊢
  have hco := rcommit_c p s h1 h2 ⟨h3, h4⟩ ⟨h5, h6⟩
  have hcl : commit p s < 2305843009213693951 := Nat.mod_lt _ (by decide)
  have hch := rchallenge_c (commit p s : Nat) p m hm (by omega) (by omega)
  generalize commit p s = c at *
  generalize challenge (c : Int) p m = h at *
  have hsym : ((h : Int) == s.e) = (s.e == (h : Int)) := by rw [Bool.eq_iff_iff]; simp only [beq_iff_eq]; exact eq_comm
  refine run ?_
  refine cp hc ?_
  refine run ?_
  refine cp hco ?_
  refine run ?_
  refine cp hch ?_
  refine runf @hsym ?_
  exact er0
 ·have e : (decide (1 ≤ p) && decide (p < 2305843009213693951) && decide (0 ≤ s.e) && decide (s.e < 2305843009213693950) && decide (0 ≤ s.s) && decide (s.s < 2305843009213693950)) = false := by
   rw [Bool.eq_false_iff]
   intro hh
   simp only [Bool.and_eq_true, decide_eq_true_eq] at hh
   omega
  have e2 : (decide (1 ≤ p) && decide (p < 2305843009213693951) && (decide (0 ≤ s.e) && decide (s.e < 2305843009213693950)) && (decide (0 ≤ s.s) && decide (s.s < 2305843009213693950)) && decide (s.e = (challenge (commit p s) p m : Nat))) = false := by
   rw [Bool.eq_false_iff]
   intro hh
   simp only [Bool.and_eq_true, decide_eq_true_eq] at hh
   omega
  rw [e] at hc
  rw [e2]
  refine run ?_
  refine cp hc ?_
  refine run ?_
  exact er0
end Go.Proofs.YtaphpbiaoofmkaaGreatDoor.Pe
namespace Go.Proofs.YtaphpbiaoofmkaaGreatDoor.Pe
open Go Go.RowKit Co Sg Ac It
set_option maxRecDepth 100000
set_option maxHeartbeats 4000000
theorem flist_c (l : List By) (hl : l.length ≤ 1000000) (hx : ∀ x ∈ l, x.length ≤ 1000000) : AC Tryz.prog 121 [sls l] [] (.st (list l)) [] := by
 refine AC.enter [120, 119] [] Tryz.func121 rfl (by decide) (by decide) (Nat.le_of_ble_eq_true rfl) (by kernel_rfl) ?_; simp only [eraseC, eraseO, List.map_cons, List.map_nil, List.map_toArray, List.getElem?_toArray, List.getElem?_cons_zero, List.getElem?_cons_succ, Option.bind_some, Option.bind_none, List.append_eq, List.cons_append, List.nil_append]
 have hn9 := num_len9 (n := l.length) (by omega)
 have kn := fnum_c (l.length : Int) (by omega)
 rw [numI_nat] at kn
 refine run ?_
 refine cp kn ?_
 refine run ?_
 refine loop_mk (fun m e S => S = [] ∧ e 0 = sls l ∧ ∃ (k : Nat) (acc : By), e 3 = .st acc ∧ e 4 = .it .i64 (k : Int) ∧ acc = num l.length ++ ((l.take k).map text).flatten ∧ k ≤ l.length ∧ m = l.length - k) l.length
  ⟨rfl, (by first | rfl | (simp only [↓upd_apply, ↓put_some, ↓reduceIte, Nat.reduceEqDiff, ↓argEnv_zero, ↓argEnv_succ, *]; done)), 0, num l.length, (by first | rfl | (simp only [↓upd_apply, ↓put_some, ↓reduceIte, Nat.reduceEqDiff, ↓argEnv_zero, ↓argEnv_succ, *]; done)), (by first | rfl | (simp only [↓upd_apply, ↓put_some, ↓reduceIte, Nat.reduceEqDiff, ↓argEnv_zero, ↓argEnv_succ, *]; done)), by simp, by omega, rfl⟩ ?_
 rintro m e S ⟨rfl, s0, k, acc, s3, s4, hacc, hk, rfl⟩
 by_cases hlt : k < l.length
 ·have ga : l[k]? = some l[k] := List.getElem?_eq_getElem hlt
  have hxk := hx l[k] (List.getElem_mem hlt)
  have htl := text_len hxk
  have hal : acc.length ≤ 1000009000009 := by
   have h1 := fl_len (l := l.take k) fun x h => hx x (List.mem_of_mem_take h)
   have h2 : (l.take k).length * 1000009 ≤ 1000000 * 1000009 := Nat.mul_le_mul_right _ (by rw [List.length_take]; omega)
   rw [hacc, List.length_append]; omega
  have hft := fl_take hlt
  generalize l[k] = x at *
  refine runf (an @s0 (an @s3 (an @s4 @ga))) ?_
  refine cp (ftext_c x (by omega)) ?_
  refine runf (an @s0 (an @s3 @s4)) ?_
  refine round_mk (l.length - (k + 1)) (by omega) ⟨rfl, (by first | rfl | (simp only [↓upd_apply, ↓put_some, ↓reduceIte, Nat.reduceEqDiff, ↓argEnv_zero, ↓argEnv_succ, *]; done)), k + 1, acc ++ text x, (by first | rfl | (simp only [↓upd_apply, ↓put_some, ↓reduceIte, Nat.reduceEqDiff, ↓argEnv_zero, ↓argEnv_succ, *]; done)), (by first | rfl | (simp only [↓upd_apply, ↓put_some, ↓reduceIte, Nat.reduceEqDiff, ↓argEnv_zero, ↓argEnv_succ, *]; done)), by rw [hacc, hft, List.append_assoc], by omega, rfl⟩
 ·obtain rfl : k = l.length := by omega
  rw [List.take_length] at hacc
  refine runf (an @s0 (an @s3 @s4)) ?_
  rw [show list l = acc from hacc.symm]
  exact er0
theorem fclaim_c (c : It.Claim) (h1 : c.actor.length ≤ 1000000 ∧ c.prev.length ≤ 1000000) (h2 : ∀ x ∈ [c.base, c.gen, c.home, c.pub, c.time], -9223372036854775808 ≤ x ∧ x ≤ 9223372036854775807) : AC Tryz.prog 141 [claimV c] [] (.st (claimB c)) [] := by
 refine AC.enter [119, 120] [] Tryz.func141 rfl (by decide) (by decide) (Nat.le_of_ble_eq_true rfl) (by kernel_rfl) ?_; simp only [eraseC, eraseO, List.map_cons, List.map_nil, List.map_toArray, List.getElem?_toArray, List.getElem?_cons_zero, List.getElem?_cons_succ, Option.bind_some, Option.bind_none, List.append_eq, List.cons_append, List.nil_append]
 simp only [List.forall_mem_cons] at h2
 have l1 := text_len h1.1
 have l2 := text_len h1.2
 have n1 := numI_le c.base (by omega)
 have n2 := numI_le c.gen (by omega)
 have n3 := numI_le c.home (by omega)
 have n4 := numI_le c.pub (by omega)
 have n5 := numI_le c.time (by omega)
 unfold claimB
 refine run ?_
 refine cp (ftext_c c.actor (by omega)) ?_
 refine run ?_
 refine cp (fnum_c c.base (by omega)) ?_
 refine run ?_
 refine cp (ftext_c c.prev (by omega)) ?_
 refine run ?_
 refine cp (fnum_c c.gen (by omega)) ?_
 refine run ?_
 refine cp (fnum_c c.home (by omega)) ?_
 refine run ?_
 refine cp (fnum_c c.pub (by omega)) ?_
 refine run ?_
 refine cp (fnum_c c.time (by omega)) ?_
 refine run ?_
 exact er0
theorem fballot_c (b : It.Ballot) (h1 : b.actor.length ≤ 1000000 ∧ b.claim.length ≤ 1000000) (h2 : ∀ x ∈ [b.server, b.gen, b.time], -9223372036854775808 ≤ x ∧ x ≤ 9223372036854775807) : AC Tryz.prog 143 [ballotV b] [] (.st (ballotB b)) [] := by
 refine AC.enter [119, 120] [] Tryz.func143 rfl (by decide) (by decide) (Nat.le_of_ble_eq_true rfl) (by kernel_rfl) ?_; simp only [eraseC, eraseO, List.map_cons, List.map_nil, List.map_toArray, List.getElem?_toArray, List.getElem?_cons_zero, List.getElem?_cons_succ, Option.bind_some, Option.bind_none, List.append_eq, List.cons_append, List.nil_append]
 simp only [List.forall_mem_cons] at h2
 have l1 := text_len h1.1
 have l2 := text_len h1.2
 have n1 := numI_le b.server (by omega)
 have n2 := numI_le b.gen (by omega)
 have n3 := numI_le b.time (by omega)
 unfold ballotB
 refine run ?_
 refine cp (fnum_c b.server (by omega)) ?_
 refine run ?_
 refine cp (ftext_c b.actor (by omega)) ?_
 refine run ?_
 refine cp (fnum_c b.gen (by omega)) ?_
 refine run ?_
 refine cp (ftext_c b.claim (by omega)) ?_
 refine run ?_
 refine cp (fnum_c b.time (by omega)) ?_
 refine run ?_
 exact er0
theorem fdecision_c (d : It.Decision) (h1 : d.actor.length ≤ 1000000 ∧ d.object.length ≤ 1000000 ∧ d.text.length ≤ 1000000) (ht : d.to.length ≤ 1000000 ∧ ∀ s ∈ d.to, s.length ≤ 1000000) (h2 : ∀ x ∈ [d.server, d.number, d.kind, d.n, d.frm, d.til], -9223372036854775808 ≤ x ∧ x ≤ 9223372036854775807) : AC Tryz.prog 144 [decisionV d] [] (.st (decisionB d)) [] := by
 refine AC.enter [119, 120, 121] [] Tryz.func144 rfl (by decide) (by decide) (Nat.le_of_ble_eq_true rfl) (by kernel_rfl) ?_; simp only [eraseC, eraseO, List.map_cons, List.map_nil, List.map_toArray, List.getElem?_toArray, List.getElem?_cons_zero, List.getElem?_cons_succ, Option.bind_some, Option.bind_none, List.append_eq, List.cons_append, List.nil_append]
 simp only [List.forall_mem_cons] at h2
 have l1 := text_len h1.1
 have l2 := text_len h1.2.1
 have l3 := text_len h1.2.2
 have n1 := numI_le d.server (by omega)
 have n2 := numI_le d.number (by omega)
 have n3 := numI_le d.kind (by omega)
 have n4 := numI_le d.n (by omega)
 have n5 := numI_le d.frm (by omega)
 have n6 := numI_le d.til (by omega)
 have ll := list_len ht.1 ht.2
 unfold decisionB
 refine run ?_
 refine cp (fnum_c d.server (by omega)) ?_
 refine run ?_
 refine cp (fnum_c d.number (by omega)) ?_
 refine run ?_
 refine cp (fnum_c d.kind (by omega)) ?_
 refine run ?_
 refine cp (ftext_c d.actor (by omega)) ?_
 refine run ?_
 refine cp (ftext_c d.object (by omega)) ?_
 refine run ?_
 refine cp (ftext_c d.text (by omega)) ?_
 refine run ?_
 refine cp (flist_c d.to ht.1 ht.2) ?_
 refine run ?_
 refine cp (fnum_c d.n (by omega)) ?_
 refine run ?_
 refine cp (fnum_c d.frm (by omega)) ?_
 refine run ?_
 refine cp (fnum_c d.til (by omega)) ?_
 refine run ?_
 exact er0
theorem fmclaim_c (c : It.Claim) (h : Sh (ofClaim c)) : AC Tryz.prog 152 [claimV c] [] (.st (message (ofClaim c))) [] := by
 refine AC.enter [119, 141] [] Tryz.func152 rfl (by decide) (by decide) (Nat.le_of_ble_eq_true rfl) (by kernel_rfl) ?_; simp only [eraseC, eraseO, List.map_cons, List.map_nil, List.map_toArray, List.getElem?_toArray, List.getElem?_cons_zero, List.getElem?_cons_succ, Option.bind_some, Option.bind_none, List.append_eq, List.cons_append, List.nil_append]
 have hl := claimB_len h.ez
 have hw : (text wClaim).length = 6 := rfl
 have hm : message (ofClaim c) = text wClaim ++ claimB c := rfl
 rw [hm]
 have hl : (claimB c).length ≤ 10000000 := hl
 have kc := fclaim_c c h.ez.c h.ez.ci
 generalize claimB c = x at *
 refine run ?_
 refine cp (ftext_c wClaim (by simp)) ?_
 refine run ?_
 refine cp kc ?_
 refine run ?_
 exact er0
theorem fmballot_c (c : It.Ballot) (h : Sh (ofBallot c)) : AC Tryz.prog 149 [ballotV c] [] (.st (message (ofBallot c))) [] := by
 refine AC.enter [119, 143] [] Tryz.func149 rfl (by decide) (by decide) (Nat.le_of_ble_eq_true rfl) (by kernel_rfl) ?_; simp only [eraseC, eraseO, List.map_cons, List.map_nil, List.map_toArray, List.getElem?_toArray, List.getElem?_cons_zero, List.getElem?_cons_succ, Option.bind_some, Option.bind_none, List.append_eq, List.cons_append, List.nil_append]
 have hl := ballotB_len h.ez
 have hw : (text wBallot).length = 7 := rfl
 have hm : message (ofBallot c) = text wBallot ++ ballotB c := rfl
 rw [hm]
 have hl : (ballotB c).length ≤ 10000000 := hl
 have kc := fballot_c c h.ez.b h.ez.bi
 generalize ballotB c = x at *
 refine run ?_
 refine cp (ftext_c wBallot (by simp)) ?_
 refine run ?_
 refine cp kc ?_
 refine run ?_
 exact er0
theorem fmdecision_c (c : It.Decision) (h : Sh (ofDecision c)) (ht : c.to.length ≤ 1000000 ∧ ∀ s ∈ c.to, s.length ≤ 1000000) : AC Tryz.prog 150 [decisionV c] [] (.st (message (ofDecision c))) [] := by
 refine AC.enter [119, 144] [] Tryz.func150 rfl (by decide) (by decide) (Nat.le_of_ble_eq_true rfl) (by kernel_rfl) ?_; simp only [eraseC, eraseO, List.map_cons, List.map_nil, List.map_toArray, List.getElem?_toArray, List.getElem?_cons_zero, List.getElem?_cons_succ, Option.bind_some, Option.bind_none, List.append_eq, List.cons_append, List.nil_append]
 have hl := decisionB_len h
 have hw : (text wDecision).length = 9 := rfl
 have hm : message (ofDecision c) = text wDecision ++ decisionB c := rfl
 rw [hm]
 have hl : (decisionB c).length ≤ 60000000 := hl
 have kc := fdecision_c c h.ez.d ht h.ez.di
 generalize decisionB c = x at *
 refine run ?_
 refine cp (ftext_c wDecision (by simp)) ?_
 refine run ?_
 refine cp kc ?_
 refine run ?_
 exact er0
end Go.Proofs.YtaphpbiaoofmkaaGreatDoor.Pe
