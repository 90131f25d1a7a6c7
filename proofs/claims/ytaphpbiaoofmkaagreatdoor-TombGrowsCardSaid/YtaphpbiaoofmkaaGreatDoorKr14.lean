/- Several texts in one, without what this claim does not use (tools/shake.py). -/
import Derived.Test.YtaphpbiaoofmkaaGreatDoorKr1
import Derived.Test.YtaphpbiaoofmkaaGreatDoorKr2
import Derived.Test.YtaphpbiaoofmkaaGreatDoorKr3
import Derived.Test.YtaphpbiaoofmkaaGreatDoorKr4
import Derived.Test.YtaphpbiaoofmkaaGreatDoorKr5
import Derived.Test.YtaphpbiaoofmkaaGreatDoorKr6
import Derived.Test.YtaphpbiaoofmkaaGreatDoorKr7
import Derived.Test.YtaphpbiaoofmkaaGreatDoorKr8
import Derived.Test.YtaphpbiaoofmkaaGreatDoorKr9
import Derived.Test.YtaphpbiaoofmkaaGreatDoorKr10
import Derived.Test.YtaphpbiaoofmkaaGreatDoorKr11
import Derived.Test.YtaphpbiaoofmkaaGreatDoorKr12
import Derived.Test.YtaphpbiaoofmkaaGreatDoorKr13
import Derived.Below
import Derived.ChangeSame
set_option linter.unusedSectionVars false
set_option linter.unusedVariables false
set_option linter.unusedSimpArgs false
section
namespace Go.Proofs.YtaphpbiaoofmkaaGreatDoor.Pe
open Go Go.RowKit Co
set_option maxRecDepth 100000
set_option maxHeartbeats 4000000
theorem fnum_nat : ∀ (f n : Nat), n < f → n < 9223372036854775808 → AC Tryz.prog 120 [.it .i64 n] [] (.st (num n)) []
 | 0, n, h, _ => absurd h (Nat.not_lt_zero _)
 | f + 1, n, hf, hn => by
  by_cases hs : n < 128
  ·refine AC.enter [120] [] Tryz.func120 rfl (by decide) (by decide) (Nat.le_of_ble_eq_true rfl) (by kernel_rfl) ?_; simp only [eraseC, eraseO, List.map_cons, List.map_nil, List.map_toArray, List.getElem?_toArray, List.getElem?_cons_zero, List.getElem?_cons_succ, Option.bind_some, Option.bind_none, List.append_eq, List.cons_append, List.nil_append]
   have h0 : ¬ (n : Int) < 0 := by omega
   have h1 : (n : Int) < 128 := by omega
   have hw : IntKind.u8.wrap (n : Int) = (n : Int) := wrap8 (by omega) (by omega)
   have hb : bytesOf [AV.it .u8 (n : Int)] = some [UInt8.ofNat n] := by
    rw [show (AV.it .u8 (n : Int)) = u8 (UInt8.ofNat n) from by unfold u8; rw [ofNat8 (by omega)]]
    exact bytesOf_map [UInt8.ofNat n]
   rw [num_small hs]
   refine runf (an @h0 (an @h1 (an @hw @hb))) ?_
   exact er0
  ·have ih := fnum_nat f (n / 128) (by omega) (by omega)
   refine AC.enter [120] [] Tryz.func120 rfl (by decide) (by decide) (Nat.le_of_ble_eq_true rfl) (by kernel_rfl) ?_; simp only [eraseC, eraseO, List.map_cons, List.map_nil, List.map_toArray, List.getElem?_toArray, List.getElem?_cons_zero, List.getElem?_cons_succ, Option.bind_some, Option.bind_none, List.append_eq, List.cons_append, List.nil_append]
   have h0 : ¬ (n : Int) < 0 := by omega
   have h1 : ¬ (n : Int) < 128 := by omega
   have hm : (n : Int).tmod 128 = ((n % 128 : Nat) : Int) := by rw [Int.tmod_eq_emod_of_nonneg (by omega)]; omega
   have hd : (n : Int).tdiv 128 = ((n / 128 : Nat) : Int) := by rw [Int.tdiv_eq_ediv_of_nonneg (by omega)]; omega
   have hw : IntKind.u8.wrap (128 + ((n % 128 : Nat) : Int)) = ((128 + n % 128 : Nat) : Int) := by rw [show (128 : Int) + ((n % 128 : Nat) : Int) = ((128 + n % 128 : Nat) : Int) from by omega]; exact wrap8 (by omega) (by omega)
   have hb : bytesOf [AV.it .u8 ((128 + n % 128 : Nat) : Int)] = some [UInt8.ofNat (128 + n % 128)] := by
    rw [show (AV.it .u8 ((128 + n % 128 : Nat) : Int)) = u8 (UInt8.ofNat (128 + n % 128)) from by unfold u8; rw [ofNat8 (by omega)]]
    exact bytesOf_map [UInt8.ofNat (128 + n % 128)]
   have hl := num_len9 (n := n / 128) (by omega)
   rw [num_big hs]
   refine runf (an @h0 (an @h1 (an @hm (an @hd (an @hw @hb))))) ?_
   refine cp ih ?_
   refine run ?_
   exact er0
theorem fnum_c (n : Int) (h : n < 9223372036854775808) : AC Tryz.prog 120 [.it .i64 n] [] (.st (numI n)) [] := by
 by_cases h0 : n < 0
 ·refine AC.enter [120] [] Tryz.func120 rfl (by decide) (by decide) (Nat.le_of_ble_eq_true rfl) (by kernel_rfl) ?_; simp only [eraseC, eraseO, List.map_cons, List.map_nil, List.map_toArray, List.getElem?_toArray, List.getElem?_cons_zero, List.getElem?_cons_succ, Option.bind_some, Option.bind_none, List.append_eq, List.cons_append, List.nil_append]
  rw [show numI n = [] from by unfold numI; rw [if_pos h0]]
  refine run ?_
  exact er0
 ·obtain ⟨m, rfl⟩ : ∃ m : Nat, n = (m : Int) := ⟨n.toNat, by omega⟩
  rw [numI_nat]
  exact fnum_nat (m + 1) m (by omega) (by omega)
theorem ftext_c (s : By) (h : s.length ≤ 1000000000) : AC Tryz.prog 119 [.st s] [] (.st (text s)) [] := by
 refine AC.enter [120] [] Tryz.func119 rfl (by decide) (by decide) (Nat.le_of_ble_eq_true rfl) (by kernel_rfl) ?_; simp only [eraseC, eraseO, List.map_cons, List.map_nil, List.map_toArray, List.getElem?_toArray, List.getElem?_cons_zero, List.getElem?_cons_succ, Option.bind_some, Option.bind_none, List.append_eq, List.cons_append, List.nil_append]
 have k := fnum_c (s.length : Int) (by omega)
 rw [numI_nat] at k
 have hl := num_len9 (n := s.length) (by omega)
 unfold text
 refine run ?_
 refine cp k ?_
 refine run ?_
 exact er0
end Go.Proofs.YtaphpbiaoofmkaaGreatDoor.Pe
namespace Go.Proofs.YtaphpbiaoofmkaaGreatDoor.Pe
open Go Go.RowKit Co Sg
set_option maxRecDepth 100000
set_option maxHeartbeats 4000000
theorem emod_tmod (a m : Int) (hm : 0 < m) : a % m = if a.tmod m < 0 then a.tmod m + m else a.tmod m := by
 rw [Int.emod_eq_tmod]
 have hb := Int.emod_nonneg a (show m ≠ 0 by omega)
 have ht := Int.tmod_lt_of_pos a hm
 by_cases h0 : 0 ≤ a
 ·have := Int.tmod_nonneg m h0
  rw [if_pos (.inl h0), if_neg (by omega)]; omega
 ·by_cases hd : m ∣ a
  ·rw [if_pos (.inr hd), Int.tmod_eq_zero_of_dvd hd]; simp
  ·have hneg : a.tmod m < 0 := by
    have h2 := Int.emod_eq_tmod (a := a) (b := m)
    rw [if_neg (by rintro (h | h); exact h0 h; exact hd h)] at h2
    have h3 := Int.emod_lt_of_pos a hm
    have : (m.natAbs : Int) = m := by omega
    omega
   rw [if_neg (by rintro (h | h); exact h0 h; exact hd h), if_pos hneg]
   omega
theorem and31 (a : Nat) (ha : a < 18446744073709551616) : Go.bits .and .u64 (a : Int) 2147483647 = ((a % 2147483648 : Nat) : Int) := by
 have := bits_nat .and Nat.land (.inl ⟨rfl, rfl⟩) a 2147483647 ha (by omega) .u64 (.inl rfl)
 have e : Nat.land a 2147483647 = a % 2147483648 := Nat.and_two_pow_sub_one_eq_mod a 31
 rw [e] at this
 exact this.trans (wrapn (by omega))
theorem and30 (a : Nat) (ha : a < 18446744073709551616) : Go.bits .and .u64 (a : Int) 1073741823 = ((a % 1073741824 : Nat) : Int) := by
 have := bits_nat .and Nat.land (.inl ⟨rfl, rfl⟩) a 1073741823 ha (by omega) .u64 (.inl rfl)
 have e : Nat.land a 1073741823 = a % 1073741824 := Nat.and_two_pow_sub_one_eq_mod a 30
 rw [e] at this
 exact this.trans (wrapn (by omega))
theorem wrapi {n : Nat} (h : n < 9223372036854775808) : IntKind.i64.wrap (n : Int) = (n : Int) := wrap64 (by omega) (by omega)
theorem mul_parts31 (x0 x1 y0 y1 : Nat) : (x1 * 2147483648 + x0) * (y1 * 2147483648 + y0) = x1 * y1 * 4611686018427387904 + (x1 * y0 + x0 * y1) * 2147483648 + x0 * y0 := by
 grind
theorem rmod_c (a m : Int) (hm : 0 < m) (hm' : m < 4611686018427387904) (ha : -9223372036854775808 ≤ a ∧ a ≤ 9223372036854775807) : AC Tryz.prog 272 [.it .i64 a, .it .i64 m] [] (.it .i64 (a % m)) [] := by
 refine AC.enter [] [] Tryz.func272 rfl (by decide) (by decide) (Nat.le_of_ble_eq_true rfl) (by kernel_rfl) ?_; simp only [eraseC, eraseO, List.map_cons, List.map_nil, List.map_toArray, List.getElem?_toArray, List.getElem?_cons_zero, List.getElem?_cons_succ, Option.bind_some, Option.bind_none, List.append_eq, List.cons_append, List.nil_append]
 have h1 := emod_tmod a m hm
 have h2 : -m ≤ a.tmod m ∧ a.tmod m < m := by
  have hb := Int.emod_nonneg a (show m ≠ 0 by omega)
  have hc := Int.emod_lt_of_pos a hm
  have ht := Int.tmod_lt_of_pos a hm
  split at h1 <;> omega
 have hm0 : m ≠ 0 := by omega
 obtain ⟨t, ht⟩ : ∃ t, a.tmod m = t := ⟨_, rfl⟩
 rw [ht] at h1 h2
 rw [h1]
 by_cases h0 : t < 0
 ·rw [if_pos h0]
  refine runf (an @ht @hm0) ?_
  exact er0
 ·rw [if_neg h0]
  refine runf (an @ht @hm0) ?_
  exact er0
theorem rparts_c (a b : Nat) (ha : a < 2305843009213693952) (hb : b < 2305843009213693952) : AC Tryz.prog 274 [.it .i64 a, .it .i64 b] [] (.tup [.it .u64 ((a / 2147483648 * (b / 2147483648) : Nat) : Int), .it .u64 ((a / 2147483648 * (b % 2147483648) + a % 2147483648 * (b / 2147483648) : Nat) : Int), .it .u64 ((a % 2147483648 * (b % 2147483648) : Nat) : Int)]) [] := by
 refine AC.enter [] [] Tryz.func274 rfl (by decide) (by decide) (Nat.le_of_ble_eq_true rfl) (by kernel_rfl) ?_; simp only [eraseC, eraseO, List.map_cons, List.map_nil, List.map_toArray, List.getElem?_toArray, List.getElem?_cons_zero, List.getElem?_cons_succ, Option.bind_some, Option.bind_none, List.append_eq, List.cons_append, List.nil_append]
 have wa := wrapn (n := a) (by omega)
 have wb := wrapn (n := b) (by omega)
 have hx0 := and31 a (by omega)
 have hy0 := and31 b (by omega)
 have hx1 := shr_lit a 31 31 rfl (by omega)
 have hy1 := shr_lit b 31 31 rfl (by omega)
 rw [show (2 : Nat) ^ 31 = 2147483648 from rfl] at hx1 hy1
 have b0 : a % 2147483648 ≤ 2147483647 := by omega
 have b1 : a / 2147483648 ≤ 1073741823 := by omega
 have b2 : b % 2147483648 ≤ 2147483647 := by omega
 have b3 : b / 2147483648 ≤ 1073741823 := by omega
 generalize a % 2147483648 = x0 at *
 generalize a / 2147483648 = x1 at *
 generalize b % 2147483648 = y0 at *
 generalize b / 2147483648 = y1 at *
 have p00 : x0 * y0 ≤ 2147483647 * 2147483647 := Nat.mul_le_mul b0 b2
 have p10 : x1 * y0 ≤ 1073741823 * 2147483647 := Nat.mul_le_mul b1 b2
 have p01 : x0 * y1 ≤ 2147483647 * 1073741823 := Nat.mul_le_mul b0 b3
 have p11 : x1 * y1 ≤ 1073741823 * 1073741823 := Nat.mul_le_mul b1 b3
 have c00 : ((x0 : Int) * (y0 : Int)) = ((x0 * y0 : Nat) : Int) := by push_cast; rfl
 have c10 : ((x1 : Int) * (y0 : Int)) = ((x1 * y0 : Nat) : Int) := by push_cast; rfl
 have c01 : ((x0 : Int) * (y1 : Int)) = ((x0 * y1 : Nat) : Int) := by push_cast; rfl
 have c11 : ((x1 : Int) * (y1 : Int)) = ((x1 * y1 : Nat) : Int) := by push_cast; rfl
 generalize x0 * y0 = q00 at *
 generalize x1 * y0 = q10 at *
 generalize x0 * y1 = q01 at *
 generalize x1 * y1 = q11 at *
 have w00 : IntKind.u64.wrap (q00 : Int) = (q00 : Int) := wrapn (by omega)
 have w10 : IntKind.u64.wrap (q10 : Int) = (q10 : Int) := wrapn (by omega)
 have w01 : IntKind.u64.wrap (q01 : Int) = (q01 : Int) := wrapn (by omega)
 have w11 : IntKind.u64.wrap (q11 : Int) = (q11 : Int) := wrapn (by omega)
 have ws : IntKind.u64.wrap ((q10 : Int) + (q01 : Int)) = ((q10 + q01 : Nat) : Int) := by rw [wrapu]; omega
 refine runf (an @wa (an @wb (an @hx0 (an @hy0 (an @hx1 (an @hy1 (an @c00 (an @c10 (an @c01 (an @c11 (an @w00 (an @w10 (an @w01 (an @w11 @ws)))))))))))))) ?_
 exact er0
theorem rmul_c (a b : Int) (ha : -9223372036854775808 ≤ a ∧ a ≤ 9223372036854775807) (hb : -9223372036854775808 ≤ b ∧ b ≤ 9223372036854775807) : AC Tryz.prog 273 [.it .i64 a, .it .i64 b] [] (.it .i64 (mulI a b : Nat)) [] := by
 refine AC.enter [272, 274] [] Tryz.func273 rfl (by decide) (by decide) (Nat.le_of_ble_eq_true rfl) (by kernel_rfl) ?_; simp only [eraseC, eraseO, List.map_cons, List.map_nil, List.map_toArray, List.getElem?_toArray, List.getElem?_cons_zero, List.getElem?_cons_succ, Option.bind_some, Option.bind_none, List.append_eq, List.cons_append, List.nil_append]
 unfold mulI
 have a1 := Int.emod_nonneg a (show (2305843009213693951 : Int) ≠ 0 by omega)
 have a2 := Int.emod_lt_of_pos a (show (0 : Int) < 2305843009213693951 by omega)
 have b1 := Int.emod_nonneg b (show (2305843009213693951 : Int) ≠ 0 by omega)
 have b2 := Int.emod_lt_of_pos b (show (0 : Int) < 2305843009213693951 by omega)
 obtain ⟨x, hx⟩ := Int.eq_ofNat_of_zero_le a1
 obtain ⟨y, hy⟩ := Int.eq_ofNat_of_zero_le b1
 have ra := rmod_c a 2305843009213693951 (by omega) (by omega) ha
 have rb := rmod_c b 2305843009213693951 (by omega) (by omega) hb
 rw [hx] at ra a1 a2 ⊢
 rw [hy] at rb b1 b2 ⊢
 rw [Int.toNat_natCast, Int.toNat_natCast]
 have hm := rparts_c x y (by omega) (by omega)
 have hxy : x * y = x / 2147483648 * (y / 2147483648) * 4611686018427387904 + (x / 2147483648 * (y % 2147483648) + x % 2147483648 * (y / 2147483648)) * 2147483648 + x % 2147483648 * (y % 2147483648) := by
  rw [← mul_parts31, Nat.div_add_mod', Nat.div_add_mod']
 have d0 : x % 2147483648 ≤ 2147483647 := by omega
 have d1 : x / 2147483648 ≤ 1073741823 := by omega
 have d2 : y % 2147483648 ≤ 2147483647 := by omega
 have d3 : y / 2147483648 ≤ 1073741823 := by omega
 generalize x % 2147483648 = x0 at *
 generalize x / 2147483648 = x1 at *
 generalize y % 2147483648 = y0 at *
 generalize y / 2147483648 = y1 at *
 have p00 : x0 * y0 ≤ 2147483647 * 2147483647 := Nat.mul_le_mul d0 d2
 have p10 : x1 * y0 ≤ 1073741823 * 2147483647 := Nat.mul_le_mul d1 d2
 have p01 : x0 * y1 ≤ 2147483647 * 1073741823 := Nat.mul_le_mul d0 d3
 have p11 : x1 * y1 ≤ 1073741823 * 1073741823 := Nat.mul_le_mul d1 d3
 have hmid : x1 * y0 + x0 * y1 ≤ 4611686018427387904 := by omega
 generalize x1 * y0 + x0 * y1 = md at *
 generalize x1 * y1 = hi at *
 generalize x0 * y0 = lo at *
 generalize x * y = xy at *
 have k1 := shr_lit md 30 30 rfl (by omega)
 rw [show (2 : Nat) ^ 30 = 1073741824 from rfl] at k1
 have k2 := and30 md (by omega)
 have k3 := shl_lit (md % 1073741824) 31 31 rfl (by omega)
 have e3 : md % 1073741824 * 2 ^ 31 % 18446744073709551616 = md % 1073741824 * 2147483648 := by omega
 rw [e3] at k3
 have k4 : IntKind.u64.wrap (2 * (hi : Int)) = ((2 * hi : Nat) : Int) := by rw [wrapu]; omega
 have k5 : IntKind.u64.wrap (((2 * hi : Nat) : Int) + ((md / 1073741824 : Nat) : Int)) = ((2 * hi + md / 1073741824 : Nat) : Int) := by rw [wrapu]; omega
 have k6 : IntKind.u64.wrap (((2 * hi + md / 1073741824 : Nat) : Int) + ((md % 1073741824 * 2147483648 : Nat) : Int)) = ((2 * hi + md / 1073741824 + md % 1073741824 * 2147483648 : Nat) : Int) := by rw [wrapu]; omega
 have k7 : IntKind.u64.wrap (((2 * hi + md / 1073741824 + md % 1073741824 * 2147483648 : Nat) : Int) + (lo : Int)) = ((2 * hi + md / 1073741824 + md % 1073741824 * 2147483648 + lo : Nat) : Int) := by rw [wrapu]; omega
 have k8 : ((2 * hi + md / 1073741824 + md % 1073741824 * 2147483648 + lo : Nat) : Int).tmod 2305843009213693951 = ((xy % 2305843009213693951 : Nat) : Int) := by
  rw [Int.tmod_eq_emod_of_nonneg (by omega)]; omega
 have k9 : IntKind.i64.wrap ((xy % 2305843009213693951 : Nat) : Int) = ((xy % 2305843009213693951 : Nat) : Int) := wrapi (by omega)
 refine run ?_
 refine cp ra ?_
 refine run ?_
 refine cp rb ?_
 refine run ?_
 refine cp hm ?_
 refine runf (an @k1 (an @k2 (an @k3 (an @k4 (an @k5 (an @k6 (an @k7 (an @k8 @k9)))))))) ?_
 exact er0
theorem rmulN_c (a b : Int) (ha : -9223372036854775808 ≤ a ∧ a ≤ 9223372036854775807) (hb : -9223372036854775808 ≤ b ∧ b ≤ 9223372036854775807) : AC Tryz.prog 202 [.it .i64 a, .it .i64 b] [] (.it .i64 (mulNI a b : Nat)) [] := by
 refine AC.enter [272, 274] [] Tryz.func202 rfl (by decide) (by decide) (Nat.le_of_ble_eq_true rfl) (by kernel_rfl) ?_; simp only [eraseC, eraseO, List.map_cons, List.map_nil, List.map_toArray, List.getElem?_toArray, List.getElem?_cons_zero, List.getElem?_cons_succ, Option.bind_some, Option.bind_none, List.append_eq, List.cons_append, List.nil_append]
 unfold mulNI
 have a1 := Int.emod_nonneg a (show (2305843009213693950 : Int) ≠ 0 by omega)
 have a2 := Int.emod_lt_of_pos a (show (0 : Int) < 2305843009213693950 by omega)
 have b1 := Int.emod_nonneg b (show (2305843009213693950 : Int) ≠ 0 by omega)
 have b2 := Int.emod_lt_of_pos b (show (0 : Int) < 2305843009213693950 by omega)
 obtain ⟨x, hx⟩ := Int.eq_ofNat_of_zero_le a1
 obtain ⟨y, hy⟩ := Int.eq_ofNat_of_zero_le b1
 have ra := rmod_c a 2305843009213693950 (by omega) (by omega) ha
 have rb := rmod_c b 2305843009213693950 (by omega) (by omega) hb
 rw [hx] at ra a1 a2 ⊢
 rw [hy] at rb b1 b2 ⊢
 rw [Int.toNat_natCast, Int.toNat_natCast]
 have hm := rparts_c x y (by omega) (by omega)
 have hxy : x * y = x / 2147483648 * (y / 2147483648) * 4611686018427387904 + (x / 2147483648 * (y % 2147483648) + x % 2147483648 * (y / 2147483648)) * 2147483648 + x % 2147483648 * (y % 2147483648) := by
  rw [← mul_parts31, Nat.div_add_mod', Nat.div_add_mod']
 have d0 : x % 2147483648 ≤ 2147483647 := by omega
 have d1 : x / 2147483648 ≤ 1073741823 := by omega
 have d2 : y % 2147483648 ≤ 2147483647 := by omega
 have d3 : y / 2147483648 ≤ 1073741823 := by omega
 generalize x % 2147483648 = x0 at *
 generalize x / 2147483648 = x1 at *
 generalize y % 2147483648 = y0 at *
 generalize y / 2147483648 = y1 at *
 have p00 : x0 * y0 ≤ 2147483647 * 2147483647 := Nat.mul_le_mul d0 d2
 have p10 : x1 * y0 ≤ 1073741823 * 2147483647 := Nat.mul_le_mul d1 d2
 have p01 : x0 * y1 ≤ 2147483647 * 1073741823 := Nat.mul_le_mul d0 d3
 have p11 : x1 * y1 ≤ 1073741823 * 1073741823 := Nat.mul_le_mul d1 d3
 have hmid : x1 * y0 + x0 * y1 ≤ 4611686018427387904 := by omega
 generalize x1 * y0 + x0 * y1 = md at *
 generalize x1 * y1 = hi at *
 generalize x0 * y0 = lo at *
 generalize x * y = xy at *
 have k1 := shr_lit md 30 30 rfl (by omega)
 rw [show (2 : Nat) ^ 30 = 1073741824 from rfl] at k1
 have k2 := and30 md (by omega)
 have k3 := shl_lit (md % 1073741824) 31 31 rfl (by omega)
 have e3 : md % 1073741824 * 2 ^ 31 % 18446744073709551616 = md % 1073741824 * 2147483648 := by omega
 rw [e3] at k3
 have k4 : IntKind.u64.wrap (4 * (hi : Int)) = ((4 * hi : Nat) : Int) := by rw [wrapu]; omega
 have k4' : IntKind.u64.wrap (2 * ((md / 1073741824 : Nat) : Int)) = ((2 * (md / 1073741824) : Nat) : Int) := by rw [wrapu]; omega
 have k5 : IntKind.u64.wrap (((4 * hi : Nat) : Int) + ((2 * (md / 1073741824) : Nat) : Int)) = ((4 * hi + 2 * (md / 1073741824) : Nat) : Int) := by rw [wrapu]; omega
 have k6 : IntKind.u64.wrap (((4 * hi + 2 * (md / 1073741824) : Nat) : Int) + ((md % 1073741824 * 2147483648 : Nat) : Int)) = ((4 * hi + 2 * (md / 1073741824) + md % 1073741824 * 2147483648 : Nat) : Int) := by rw [wrapu]; omega
 have k7 : IntKind.u64.wrap (((4 * hi + 2 * (md / 1073741824) + md % 1073741824 * 2147483648 : Nat) : Int) + (lo : Int)) = ((4 * hi + 2 * (md / 1073741824) + md % 1073741824 * 2147483648 + lo : Nat) : Int) := by rw [wrapu]; omega
 have k8 : ((4 * hi + 2 * (md / 1073741824) + md % 1073741824 * 2147483648 + lo : Nat) : Int).tmod 2305843009213693950 = ((xy % 2305843009213693950 : Nat) : Int) := by
  rw [Int.tmod_eq_emod_of_nonneg (by omega)]; omega
 have k9 : IntKind.i64.wrap ((xy % 2305843009213693950 : Nat) : Int) = ((xy % 2305843009213693950 : Nat) : Int) := wrapi (by omega)
 refine run ?_
 refine cp ra ?_
 refine run ?_
 refine cp rb ?_
 refine run ?_
 refine cp hm ?_
 refine runf (an @k1 (an @k2 (an @k3 (an @k4 (an @k4' (an @k5 (an @k6 (an @k7 (an @k8 @k9))))))))) ?_
 exact er0
theorem raddN_c (a b : Int) (ha : -9223372036854775808 ≤ a ∧ a ≤ 9223372036854775807) (hb : -9223372036854775808 ≤ b ∧ b ≤ 9223372036854775807) : AC Tryz.prog 201 [.it .i64 a, .it .i64 b] [] (.it .i64 ((a % 2305843009213693950 + b % 2305843009213693950) % 2305843009213693950)) [] := by
 refine AC.enter [272] [] Tryz.func201 rfl (by decide) (by decide) (Nat.le_of_ble_eq_true rfl) (by kernel_rfl) ?_; simp only [eraseC, eraseO, List.map_cons, List.map_nil, List.map_toArray, List.getElem?_toArray, List.getElem?_cons_zero, List.getElem?_cons_succ, Option.bind_some, Option.bind_none, List.append_eq, List.cons_append, List.nil_append]
 have a1 := Int.emod_nonneg a (show (2305843009213693950 : Int) ≠ 0 by omega)
 have a2 := Int.emod_lt_of_pos a (show (0 : Int) < 2305843009213693950 by omega)
 have b1 := Int.emod_nonneg b (show (2305843009213693950 : Int) ≠ 0 by omega)
 have b2 := Int.emod_lt_of_pos b (show (0 : Int) < 2305843009213693950 by omega)
 refine run ?_
 refine cp (rmod_c a 2305843009213693950 (by omega) (by omega) ha) ?_
 refine run ?_
 refine cp (rmod_c b 2305843009213693950 (by omega) (by omega) hb) ?_
 refine run ?_
 refine cp (rmod_c (a % 2305843009213693950 + b % 2305843009213693950) 2305843009213693950 (by omega) (by omega) (by omega)) ?_
 refine run ?_
 exact er0
theorem rexp_c (a e : Int) (ha : -9223372036854775808 ≤ a ∧ a ≤ 9223372036854775807) (he : -9223372036854775808 ≤ e ∧ e ≤ 9223372036854775807) : AC Tryz.prog 200 [.it .i64 a, .it .i64 e] [] (.it .i64 (expI a e : Nat)) [] := by
 refine AC.enter [272, 273] [] Tryz.func200 rfl (by decide) (by decide) (Nat.le_of_ble_eq_true rfl) (by kernel_rfl) ?_; simp only [eraseC, eraseO, List.map_cons, List.map_nil, List.map_toArray, List.getElem?_toArray, List.getElem?_cons_zero, List.getElem?_cons_succ, Option.bind_some, Option.bind_none, List.append_eq, List.cons_append, List.nil_append]
 unfold expI powm
 have a1 := Int.emod_nonneg a (show (2305843009213693951 : Int) ≠ 0 by omega)
 have a2 := Int.emod_lt_of_pos a (show (0 : Int) < 2305843009213693951 by omega)
 have ra := rmod_c a 2305843009213693951 (by omega) (by omega) ha
 obtain ⟨x, hx⟩ := Int.eq_ofNat_of_zero_le a1
 rw [hx] at ra a1 a2 ⊢
 rw [Int.toNat_natCast, Nat.mod_eq_of_lt (show x < 2305843009213693951 by omega)]
 have hE : ∃ n : Nat, n < 9223372036854775808 ∧ ((if e < 0 then (e % 2305843009213693950).toNat else e.toNat) = n) ∧ (if e < 0 then e % 2305843009213693950 else e) = (n : Int) := by
  split
  ·exact ⟨(e % 2305843009213693950).toNat, by omega, rfl, by omega⟩
  ·exact ⟨e.toNat, by omega, rfl, by omega⟩
 obtain ⟨n, hn, en, eI⟩ := hE
 rw [en]
 have hp0 : (n : Nat) < 2 ^ 63 := by omega
 by_cases hneg : e < 0
 focus
  rw [if_pos hneg] at eI
  have re := rmod_c e 2305843009213693950 (by omega) (by omega) he
  rw [eI] at re
  refine run ?_
  refine cp re ?_
  refine run ?_
  refine cp ra ?_
  refine run ?_
 rotate_left
 focus
  rw [if_neg hneg] at eI
  subst eI
  refine run ?_
  refine cp ra ?_
  refine run ?_
 all_goals
  refine loop_mk (fun m e S => S = [] ∧ m ≤ 64 ∧ ∃ q r p : Nat, e 1 = .it .i64 (q : Int) ∧ e 5 = .it .i64 (r : Int) ∧ e 6 = .it .i64 (p : Int) ∧ q < 2 ^ m ∧ q < 9223372036854775808 ∧ r < 2305843009213693951 ∧ p < 2305843009213693951 ∧ powF 64 1 x n = powF m r p q) 64
   ⟨rfl, by omega, n, 1, x, (by first | rfl | (simp only [↓upd_apply, ↓put_some, ↓reduceIte, Nat.reduceEqDiff, ↓argEnv_zero, ↓argEnv_succ, *]; done)), (by first | rfl | (simp only [↓upd_apply, ↓put_some, ↓reduceIte, Nat.reduceEqDiff, ↓argEnv_zero, ↓argEnv_succ, *]; done)), (by first | rfl | (simp only [↓upd_apply, ↓put_some, ↓reduceIte, Nat.reduceEqDiff, ↓argEnv_zero, ↓argEnv_succ, *]; done)), by omega, by omega, by decide, by omega, rfl⟩ ?_
  rintro m e S ⟨rfl, hm, q, r, p, s1, s5, s6, hq, hq2, hr, hp, hpow⟩
  by_cases h0 : q = 0
  ·subst h0
   rw [powF_zero] at hpow
   rw [hpow]
   refine runf (an @s1 (an @s5 @s6)) ?_
   exact er0
  obtain ⟨m', rfl⟩ : ∃ m', m = m' + 1 := ⟨m - 1, by
   cases m with
   | zero => simp at hq; omega
   | succ m => omega⟩
  have hq0 : (0 : Int) < (q : Int) := by omega
  rw [powF_succ m' r p q] at hpow
  have hq' : q / 2 < 2 ^ m' := by rw [Nat.pow_succ] at hq; omega
  have mpp := rmul_c (p : Int) (p : Int) (by omega) (by omega)
  have mrp := rmul_c (r : Int) (p : Int) (by omega) (by omega)
  rw [mulI_nat hp hp] at mpp
  rw [mulI_nat hr hp] at mrp
  have lpp : p * p % 2305843009213693951 < 2305843009213693951 := Nat.mod_lt _ (by decide)
  have lrp : r * p % 2305843009213693951 < 2305843009213693951 := Nat.mod_lt _ (by decide)
  have t1 : (q : Int).tmod 2 = ((q % 2 : Nat) : Int) := by rw [Int.tmod_eq_emod_of_nonneg (by omega)]; omega
  have t2 : (q : Int).tdiv 2 = ((q / 2 : Nat) : Int) := by rw [Int.tdiv_eq_ediv_of_nonneg (by omega)]; omega
  by_cases ho : q % 2 = 1
  ·rw [if_pos ho] at hpow
   have hoI : ((q % 2 : Nat) : Int) = 1 := by omega
   refine runf (an @s1 (an @s5 (an @s6 (an @t1 (an @t2 (an @hoI @hq0)))))) ?_
   refine cp mrp ?_
   refine runf (an @s1 (an @s5 (an @s6 @t2))) ?_
   refine cp mpp ?_
   refine runf (an @s1 (an @s5 (an @s6 @t2))) ?_
   exact round_mk m' (by omega) ⟨rfl, by omega, q / 2, r * p % 2305843009213693951, p * p % 2305843009213693951, (by first | rfl | (simp only [↓upd_apply, ↓put_some, ↓reduceIte, Nat.reduceEqDiff, ↓argEnv_zero, ↓argEnv_succ, *]; done)), (by first | rfl | (simp only [↓upd_apply, ↓put_some, ↓reduceIte, Nat.reduceEqDiff, ↓argEnv_zero, ↓argEnv_succ, *]; done)), (by first | rfl | (simp only [↓upd_apply, ↓put_some, ↓reduceIte, Nat.reduceEqDiff, ↓argEnv_zero, ↓argEnv_succ, *]; done)), hq', by omega, lrp, lpp, hpow⟩
  ·rw [if_neg ho] at hpow
   have hoI : ((q % 2 : Nat) : Int) = 0 := by omega
   refine runf (an @s1 (an @s5 (an @s6 (an @t1 (an @t2 (an @hoI @hq0)))))) ?_
   refine cp mpp ?_
   refine runf (an @s1 (an @s5 (an @s6 @t2))) ?_
   exact round_mk m' (by omega) ⟨rfl, by omega, q / 2, r, p * p % 2305843009213693951, (by first | rfl | (simp only [↓upd_apply, ↓put_some, ↓reduceIte, Nat.reduceEqDiff, ↓argEnv_zero, ↓argEnv_succ, *]; done)), (by first | rfl | (simp only [↓upd_apply, ↓put_some, ↓reduceIte, Nat.reduceEqDiff, ↓argEnv_zero, ↓argEnv_succ, *]; done)), (by first | rfl | (simp only [↓upd_apply, ↓put_some, ↓reduceIte, Nat.reduceEqDiff, ↓argEnv_zero, ↓argEnv_succ, *]; done)), hq', by omega, hr, lpp, hpow⟩
end Go.Proofs.YtaphpbiaoofmkaaGreatDoor.Pe
namespace Go.Proofs.YtaphpbiaoofmkaaGreatDoor.Pe
open Go Go.RowKit Co Sg
set_option maxRecDepth 100000
set_option maxHeartbeats 4000000
theorem rsnum_c (l : By) (h : l.length ≤ 140737488355328) : AC Tryz.prog 297 [.st l] [] (.it .i64 (Sm.num l : Nat)) [] := by
 refine AC.ofBelow (by kernel_rfl) fun w g cargs ht hargs => ?_
 rw [lrel_st hargs]
 refine (rnum_any ⟨l.toArray⟩ w (by simp [ByteArray.size]; omega)).mono ?_
 rintro r w' ⟨rfl, rfl⟩
 exact ⟨_, rfl, fun g' => .it g' _ _, Below.refl _ _⟩
theorem rhash_c (l : By) (h : l.length ≤ 1000000000) : AC Tryz.prog 271 [.st l] [] (.it .i64 (Sg.hash l : Nat)) [] := by
 refine AC.enter [146, 297] [] Tryz.func271 rfl (by decide) (by decide) (Nat.le_of_ble_eq_true rfl) (by kernel_rfl) ?_; simp only [eraseC, eraseO, List.map_cons, List.map_nil, List.map_toArray, List.getElem?_toArray, List.getElem?_cons_zero, List.getElem?_cons_succ, Option.bind_some, Option.bind_none, List.append_eq, List.cons_append, List.nil_append]
 have hs : (Sm.sha l).length ≤ 140737488355328 := by show 32 ≤ _; omega
 refine run ?_
 refine cp (rsha_c l (by omega)) ?_
 refine run ?_
 refine cp (rsnum_c _ hs) ?_
 refine run ?_
 exact er0
theorem rsecret_c (l : By) (h : l.length ≤ 1000000000) : AC Tryz.prog 198 [.st l] [] (.it .i64 (reduce (Sg.hash l) : Nat)) [] := by
 refine AC.enter [271] [] Tryz.func198 rfl (by decide) (by decide) (Nat.le_of_ble_eq_true rfl) (by kernel_rfl) ?_; simp only [eraseC, eraseO, List.map_cons, List.map_nil, List.map_toArray, List.getElem?_toArray, List.getElem?_cons_zero, List.getElem?_cons_succ, Option.bind_some, Option.bind_none, List.append_eq, List.cons_append, List.nil_append]
 have hh := hash_lt l
 have hc := rhash_c l h
 unfold reduce
 generalize Sg.hash l = h at *
 have e : (h : Int).tmod 2305843009213693949 = ((h % 2305843009213693949 : Nat) : Int) := by rw [Int.tmod_eq_emod_of_nonneg (by omega)]; omega
 have e2 : (1 : Int) + ((h % 2305843009213693949 : Nat) : Int) = ((1 + h % 2305843009213693949 : Nat) : Int) := by omega
 refine run ?_
 refine cp hc ?_
 refine runf (an @e @e2) ?_
 exact er0
theorem rof_c (s : Int) (hs : -9223372036854775808 ≤ s ∧ s ≤ 9223372036854775807) : AC Tryz.prog 197 [.it .i64 s] [] (keyV (Sg.keyOf s)) [] := by
 refine AC.enter [200] [] Tryz.func197 rfl (by decide) (by decide) (Nat.le_of_ble_eq_true rfl) (by kernel_rfl) ?_; simp only [eraseC, eraseO, List.map_cons, List.map_nil, List.map_toArray, List.getElem?_toArray, List.getElem?_cons_zero, List.getElem?_cons_succ, Option.bind_some, Option.bind_none, List.append_eq, List.cons_append, List.nil_append]
 unfold Sg.keyOf
 by_cases h1 : s < 1
 ·rw [if_pos (.inl h1)]
  refine run ?_
  exact er0
 by_cases h2 : 2305843009213693949 < s
 ·have h3 : 2305843009213693950 ≤ s := by omega
  rw [if_pos (.inr h2)]
  refine runf @h3 ?_
  exact er0
 ·have h3 : ¬ 2305843009213693950 ≤ s := by omega
  rw [if_neg (by omega)]
  obtain ⟨n, rfl⟩ := Int.eq_ofNat_of_zero_le (show 0 ≤ s by omega)
  have he := rexp_c 37 (n : Int) (by omega) (by omega)
  rw [expI_nat 37 37 n rfl (by decide)] at he
  refine run ?_
  refine cp he ?_
  refine run ?_
  exact er0
theorem rkeyright_c (k : Key) (hs : -9223372036854775808 ≤ k.secret ∧ k.secret ≤ 9223372036854775807) : AC Tryz.prog 104 [keyV k] [] (.bo k.right) [] := by
 refine AC.enter [197] [] Tryz.func104 rfl (by decide) (by decide) (Nat.le_of_ble_eq_true rfl) (by kernel_rfl) ?_; simp only [eraseC, eraseO, List.map_cons, List.map_nil, List.map_toArray, List.getElem?_toArray, List.getElem?_cons_zero, List.getElem?_cons_succ, Option.bind_some, Option.bind_none, List.append_eq, List.cons_append, List.nil_append]
 unfold Key.right
 have ke : decide (k = Sg.keyOf k.secret) = ((k.secret == (Sg.keyOf k.secret).secret) && (k.pub == (Sg.keyOf k.secret).pub)) := by
  generalize Sg.keyOf k.secret = q
  obtain ⟨a, b⟩ := k
  obtain ⟨c, d⟩ := q
  rw [Bool.eq_iff_iff]
  simp
 rw [ke]
 by_cases h1 : 1 ≤ k.secret
 ·have h2 : 0 < k.secret := by omega
  rw [decide_eq_true h1]
  refine runf @h2 ?_
  refine cp (rof_c k.secret hs) ?_
  refine run ?_
  exact er0
 ·have h2 : ¬ 0 < k.secret := by omega
  rw [decide_eq_false h1]
  refine runf @h2 ?_
  exact er0
theorem rchallenge_c (r p : Int) (m : By) (hm : m.length ≤ 100000000) (hr : -9223372036854775808 ≤ r ∧ r ≤ 9223372036854775807) (hp : -9223372036854775808 ≤ p ∧ p ≤ 9223372036854775807) : AC Tryz.prog 199 [.it .i64 r, .it .i64 p, .st m] [] (.it .i64 (challenge r p m : Nat)) [] := by
 refine AC.enter [119, 120, 271] [] Tryz.func199 rfl (by decide) (by decide) (Nat.le_of_ble_eq_true rfl) (by kernel_rfl) ?_; simp only [eraseC, eraseO, List.map_cons, List.map_nil, List.map_toArray, List.getElem?_toArray, List.getElem?_cons_zero, List.getElem?_cons_succ, Option.bind_some, Option.bind_none, List.append_eq, List.cons_append, List.nil_append]
 have tw : (text wSign).length = 5 := by rfl
 have tm := text_le m hm
 have l1 := numI_len r (by omega)
 have l2 := numI_len p (by omega)
 have hlt := hash_lt (text wSign ++ numI r ++ numI p ++ text m)
 unfold challenge
 have hh := rhash_c (text wSign ++ numI r ++ numI p ++ text m) (by simp only [List.length_append]; omega)
 generalize Sg.hash (text wSign ++ numI r ++ numI p ++ text m) = h at *
 have e : (h : Int).tmod 2305843009213693950 = ((h % 2305843009213693950 : Nat) : Int) := by rw [Int.tmod_eq_emod_of_nonneg (by omega)]; omega
 refine run ?_
 refine cp (ftext_c wSign (by simp)) ?_
 refine run ?_
 refine cp (fnum_c r (by omega)) ?_
 refine run ?_
 refine cp (fnum_c p (by omega)) ?_
 refine run ?_
 refine cp (ftext_c m (by omega)) ?_
 refine run ?_
 refine cp hh ?_
 refine runf @e ?_
 exact er0
theorem rsign_c (k : Key) (m : By) (hm : m.length ≤ 100000000) (hs : -9223372036854775808 ≤ k.secret ∧ k.secret ≤ 9223372036854775807) : AC Tryz.prog 105 [keyV k, .st m] [] (sigV (sign k m)) [] := by
 refine AC.enter [104, 119, 120, 198, 200, 199, 202, 201] [] Tryz.func105 rfl (by decide) (by decide) (Nat.le_of_ble_eq_true rfl) (by kernel_rfl) ?_; simp only [eraseC, eraseO, List.map_cons, List.map_nil, List.map_toArray, List.getElem?_toArray, List.getElem?_cons_zero, List.getElem?_cons_succ, Option.bind_some, Option.bind_none, List.append_eq, List.cons_append, List.nil_append]
 unfold sign
 refine run ?_
 refine cp (rkeyright_c k hs) ?_
 cases hr : k.right with
 | false =>
  rw [if_neg (by simp)]
  refine run ?_
  exact er0
 | true =>
  rw [if_pos rfl]
  obtain ⟨p1, p2⟩ := pub_range hr
  obtain ⟨q1, q2, _⟩ := Key.right_iff.1 hr
  have tm := text_le m hm
  have tw : (text wNonce).length = 6 := by rfl
  have l1 := numI_len k.secret (by omega)
  have hred := rsecret_c (text wNonce ++ numI k.secret ++ text m) (by simp only [List.length_append]; omega)
  change AC _ _ _ _ (.it .i64 (nonce k m : Nat)) _ at hred
  obtain ⟨n1, n2⟩ : 1 ≤ nonce k m ∧ nonce k m < 2305843009213693950 := reduce_lt _
  generalize nonce k m = u at *
  have hexp := rexp_c 37 (u : Int) (by omega) (by omega)
  rw [expI_nat 37 37 u rfl (by decide)] at hexp
  have hpl := powm_lt 37 u
  have hch := rchallenge_c (powm 37 u : Nat) k.pub m hm (by omega) (by omega)
  have hel := challenge_lt (powm 37 u : Nat) k.pub m
  generalize challenge (powm 37 u : Nat) k.pub m = e at *
  have hmul := rmulN_c (e : Int) k.secret (by omega) (by omega)
  have hml : mulNI e k.secret < 2305843009213693950 := Nat.mod_lt _ (by decide)
  have hadd := raddN_c (u : Int) (mulNI e k.secret : Nat) (by omega) (by omega)
  have hval : ((u : Int) % 2305843009213693950 + ((mulNI e k.secret : Nat) : Int) % 2305843009213693950) % 2305843009213693950 = (((u + e * k.secret.toNat) % 2305843009213693950 : Nat) : Int) := by
   have h1 : mulNI e k.secret = e * k.secret.toNat % 2305843009213693950 := by
    unfold mulNI
    rw [show ((e : Int) % 2305843009213693950).toNat = e by omega, show (k.secret % 2305843009213693950).toNat = k.secret.toNat by omega]
   rw [h1]
   generalize e * k.secret.toNat = z
   omega
  rw [hval] at hadd
  refine run ?_
  refine cp (ftext_c wNonce (by simp)) ?_
  refine run ?_
  refine cp (fnum_c k.secret (by omega)) ?_
  refine run ?_
  refine cp (ftext_c m (by omega)) ?_
  refine run ?_
  refine cp hred ?_
  refine run ?_
  refine cp hexp ?_
  refine run ?_
  refine cp hch ?_
  refine run ?_
  refine cp hmul ?_
  refine run ?_
  refine cp hadd ?_
  refine run ?_
  exact er0
theorem rcommit_c (p : Int) (s : Sig) (h1 : 1 ≤ p) (h2 : p < 2305843009213693951) (re : 0 ≤ s.e ∧ s.e < 2305843009213693950) (rs : 0 ≤ s.s ∧ s.s < 2305843009213693950) : AC Tryz.prog 206 [.it .i64 p, sigV s] [] (.it .i64 (commit p s : Nat)) [] := by
 refine AC.enter [200, 273] [] Tryz.func206 rfl (by decide) (by decide) (Nat.le_of_ble_eq_true rfl) (by kernel_rfl) ?_; simp only [eraseC, eraseO, List.map_cons, List.map_nil, List.map_toArray, List.getElem?_toArray, List.getElem?_cons_zero, List.getElem?_cons_succ, Option.bind_some, Option.bind_none, List.append_eq, List.cons_append, List.nil_append]
 have x1 := rexp_c 37 s.s (by omega) (by omega)
 have x2 := rexp_c p (2305843009213693950 - s.e) (by omega) (by omega)
 have e1 : expI 37 s.s = powm 37 s.s.toNat := by
  have := expI_nat 37 37 s.s.toNat rfl (by decide)
  rwa [Int.toNat_of_nonneg rs.1] at this
 have e2 : expI p (2305843009213693950 - s.e) = powm p.toNat (2305843009213693950 - s.e).toNat := by
  have := expI_nat p p.toNat (2305843009213693950 - s.e).toNat (by omega) (by omega)
  rwa [Int.toNat_of_nonneg (by omega)] at this
 rw [e1] at x1
 rw [e2] at x2
 have l1 := powm_lt 37 s.s.toNat
 have l2 := powm_lt p.toNat (2305843009213693950 - s.e).toNat
 have hmul := rmul_c (powm 37 s.s.toNat : Nat) (powm p.toNat (2305843009213693950 - s.e).toNat : Nat) (by omega) (by omega)
 rw [mulI_nat l1 l2] at hmul
 change AC _ _ _ _ (.it .i64 ((commit p s : Nat) : Int)) _ at hmul
 generalize commit p s = c at *
 generalize powm 37 s.s.toNat = y1 at *
 generalize powm p.toNat (2305843009213693950 - s.e).toNat = y2 at *
 refine run ?_
 refine cp x1 ?_
 refine run ?_
 refine cp x2 ?_
 refine run ?_
 refine cp hmul ?_
 refine run ?_
 exact er0
theorem rranges_c (p : Int) (s : Sig) : AC Tryz.prog 205 [.it .i64 p, sigV s] [] (.bo (decide (1 ≤ p) && decide (p < 2305843009213693951) && decide (0 ≤ s.e) && decide (s.e < 2305843009213693950) && decide (0 ≤ s.s) && decide (s.s < 2305843009213693950))) [] := by
 refine AC.enter [] [] Tryz.func205 rfl (by decide) (by decide) (Nat.le_of_ble_eq_true rfl) (by kernel_rfl) ?_; simp only [eraseC, eraseO, List.map_cons, List.map_nil, List.map_toArray, List.getElem?_toArray, List.getElem?_cons_zero, List.getElem?_cons_succ, Option.bind_some, Option.bind_none, List.append_eq, List.cons_append, List.nil_append]
 by_cases h1 : 1 ≤ p
 rotate_left
 ·rw [decide_eq_false h1]
  refine run ?_
  exact er0
 by_cases h2 : p < 2305843009213693951
 rotate_left
 ·rw [decide_eq_true h1, decide_eq_false h2]
  refine run ?_
  exact er0
 by_cases h3 : 0 ≤ s.e
 rotate_left
 ·rw [decide_eq_true h1, decide_eq_true h2, decide_eq_false h3]
  refine run ?_
  exact er0
 by_cases h4 : s.e < 2305843009213693950
 rotate_left
 ·rw [decide_eq_true h1, decide_eq_true h2, decide_eq_true h3, decide_eq_false h4]
  refine run ?_
  exact er0
 by_cases h5 : 0 ≤ s.s
 rotate_left
 ·rw [decide_eq_true h1, decide_eq_true h2, decide_eq_true h3, decide_eq_true h4, decide_eq_false h5]
  refine run ?_
  exact er0
 rw [decide_eq_true h1, decide_eq_true h2, decide_eq_true h3, decide_eq_true h4, decide_eq_true h5]
 refine run ?_
 exact er0
theorem rverify_c (p : Int) (m : By) (s : Sig) (hm : m.length ≤ 100000000) : AC Tryz.prog 107 [.it .i64 p, .st m, sigV s] [] (.bo (verify p m s)) [] := by
 refine AC.enter [205, 206, 199] [] Tryz.func107 rfl (by decide) (by decide) (Nat.le_of_ble_eq_true rfl) (by kernel_rfl) ?_; simp only [eraseC, eraseO, List.map_cons, List.map_nil, List.map_toArray, List.getElem?_toArray, List.getElem?_cons_zero, List.getElem?_cons_succ, Option.bind_some, Option.bind_none, List.append_eq, List.cons_append, List.nil_append]
 have hc := rranges_c p s
 unfold verify inOrder
 by_cases h : 1 ≤ p ∧ p < 2305843009213693951 ∧ 0 ≤ s.e ∧ s.e < 2305843009213693950 ∧ 0 ≤ s.s ∧ s.s < 2305843009213693950
 ·obtain ⟨h1, h2, h3, h4, h5, h6⟩ := h
  rw [decide_eq_true h1, decide_eq_true h2, decide_eq_true h3, decide_eq_true h4, decide_eq_true h5, decide_eq_true h6] at hc ⊢
  have hco := rcommit_c p s h1 h2 ⟨h3, h4⟩ ⟨h5, h6⟩
  have hcl : commit p s < 2305843009213693951 := Nat.mod_lt _ (by decide)
  have hch := rchallenge_c (commit p s : Nat) p m hm (by omega) (by omega)
  generalize commit p s = c at *
  generalize challenge (c : Int) p m = h at *
  have hsym : ((h : Int) == s.e) = (s.e == (h : Int)) := by rw [Bool.eq_iff_iff]; simp only [beq_iff_eq]; exact eq_comm
  refine run ?_
  refine cp hc ?_
  refine run ?_
  refine cp hco ?_
  refine run ?_
  refine cp hch ?_
  refine runf @hsym ?_
  exact er0
 ·have e : (decide (1 ≤ p) && decide (p < 2305843009213693951) && decide (0 ≤ s.e) && decide (s.e < 2305843009213693950) && decide (0 ≤ s.s) && decide (s.s < 2305843009213693950)) = false := by
   rw [Bool.eq_false_iff]
   intro hh
   simp only [Bool.and_eq_true, decide_eq_true_eq] at hh
   omega
  have e2 : (decide (1 ≤ p) && decide (p < 2305843009213693951) && (decide (0 ≤ s.e) && decide (s.e < 2305843009213693950)) && (decide (0 ≤ s.s) && decide (s.s < 2305843009213693950)) && decide (s.e = (challenge (commit p s) p m : Nat))) = false := by
   rw [Bool.eq_false_iff]
   intro hh
   simp only [Bool.and_eq_true, decide_eq_true_eq] at hh
   omega
  rw [e] at hc
  rw [e2]
  refine run ?_
  refine cp hc ?_
  refine run ?_
  exact er0
end Go.Proofs.YtaphpbiaoofmkaaGreatDoor.Pe
namespace Go.Proofs.YtaphpbiaoofmkaaGreatDoor.Pe
open Go Go.RowKit Co Sg Ac It
set_option maxRecDepth 100000
set_option maxHeartbeats 4000000
end Go.Proofs.YtaphpbiaoofmkaaGreatDoor.Pe
end
section
namespace Go.Proofs.YtaphpbiaoofmkaaGreatDoor.Pe
open Go Go.RowKit Co
set_option maxRecDepth 100000
set_option maxHeartbeats 4000000
def val : By → Nat
 | [] => 0
 | d :: r => d.toNat % 128 + 128 * val r
end Go.Proofs.YtaphpbiaoofmkaaGreatDoor.Pe
end
section
namespace Go.Proofs.YtaphpbiaoofmkaaGreatDoor.Pe
open Go Go.RowKit Co Sg Ac
set_option maxRecDepth 100000
set_option maxHeartbeats 4000000
theorem core_ne (a : Ac.Act) (hr : Ac.right a = true) : core a ≠ [] := by
 unfold core coreB
 rw [if_pos hr]
 have : (text wAct).length = 4 := rfl
 intro e
 have := congrArg List.length e
 simp only [List.length_append, List.length_nil] at this
 omega
end Go.Proofs.YtaphpbiaoofmkaaGreatDoor.Pe
end
section
namespace Go.Proofs.YtaphpbiaoofmkaaGreatDoor.Pe
open Go Go.RowKit Co Sg Ac
set_option maxRecDepth 100000
set_option maxHeartbeats 4000000
theorem upd_selfT {e : Env} {d : Nat} {v : AV} (h : e d = v) : e = upd e d v := funext fun t => by
 by_cases ht : t = d
 ·subst ht; rw [upd_same]; exact h
 ·rw [upd_ne e ht]
end Go.Proofs.YtaphpbiaoofmkaaGreatDoor.Pe
end
section
namespace Go.Proofs.YtaphpbiaoofmkaaGreatDoor.Pe
open Go Go.RowKit Co Sg Ac It Sl
set_option maxRecDepth 100000
set_option maxHeartbeats 4000000
theorem tprove_c (l : List It.Entry) (i : Int) (r : Receipt) (hl : l.length ≤ 1000000) (hz : ∀ e ∈ l, Iz e.item) : AC Tryz.prog 69 [entriesV l, .it .i64 i, rcptV r] [] (.tup [graveV (proveT l i r).1, .bo (proveT l i r).2]) [] := by
 refine AC.enter4 [162, 163, 164] [] [(10, ([], [], []))] [] Tryz.func69 rfl (by decide) (by decide) (Nat.le_of_ble_eq_true rfl) (by kernel_rfl) ?_; simp only [eraseC, eraseO, List.map_cons, List.map_nil, List.map_toArray, List.getElem?_toArray, List.getElem?_cons_zero, List.getElem?_cons_succ, Option.bind_some, Option.bind_none, List.append_eq, List.cons_append, List.nil_append, eraseC4, eraseC3, hasSp, ordOf, List.isEmpty_nil, List.isEmpty_cons, Bool.and_true, Bool.and_false, Bool.and_self, Bool.false_and, Bool.true_and, List.lookup, Nat.reduceBEq, beq_self_eq_true, Option.isSome_some, Option.isSome_none, Bool.or_true, Bool.true_or, Bool.or_false, Bool.not_true, Bool.not_false, Bool.false_eq_true, if_true, if_false, ↓reduceIte, List.size_toArray, List.length_cons, List.length_nil, List.range_succ_eq_map, List.range_zero, Nat.reduceAdd, List.filterMap_cons, List.filterMap_nil]
 have hsz := entries_sz l
 unfold proveT
 by_cases c1 : i < 0
 ·rw [if_pos (.inl c1)]
  refine runf4 @c1 ?_
  exact er0w
 by_cases c2 : r.head.size ≤ i
 ·rw [if_pos (.inr (.inl c2))]
  refine runf4 (an @c1 @c2) ?_
  exact er0w
 by_cases c3 : (l.length : Int) < r.head.size
 ·rw [if_pos (.inr (.inr (.inl c3)))]
  refine runf4 (an @c1 (an @c2 @c3)) ?_
  exact er0w
 have d1 : 0 ≤ i := by omega
 have hs0 : (r.head.size = 0) = False := by simp; omega
 have d2 : 0 ≤ r.head.size := by omega
 have d2' : (0 < r.head.size) = True := by simp; omega
 have hnl : r.head.size.toNat ≤ l.length := by omega
 have hlt : i.toNat < l.length := by omega
 have kr := sroot_c (l.take r.head.size.toNat) (by rw [List.length_take]; omega) (fun e he => hz e (List.mem_of_mem_take he))
 have hg : l[i.toNat]? = some (l.getD i.toNat ⟨0, item0⟩) := by rw [List.getD_eq_getElem?_getD, List.getElem?_eq_getElem hlt]; rfl
 generalize l.getD i.toNat ⟨0, item0⟩ = x at *
 generalize rootE (l.take r.head.size.toNat) = rt at *
 have hlti : i < (l.length : Int) := by omega
 refine runf4 (an @c1 (an @c2 (an @c3 (an @d2 (an @hnl @hsz))))) ?_
 refine cp kr ?_
 by_cases c4 : rt = r.head.root
 rotate_left
 ·have q4 := nilI _ _ c4
  rw [if_pos (.inr (.inr (.inr c4)))]
  refine runf4 @q4 ?_
  exact er0w
 have q4 : (rt == r.head.root) = true := by rw [c4]; exact beq_self_eq_true _
 rw [if_neg (by rintro (h | h | h | h) <;> first | exact h | exact h c4 | omega)]
 have hfit : fits r.head.size.toNat 16 = true := by simp [fits]; omega
 refine runf4 (an @q4 (an @d2 (an @hnl (an @hsz (an @hs0 (an @d2' (an @hfit @Int.le_refl))))))) ?_
 have hLl : ((l.take r.head.size.toNat).map leafE).length = r.head.size.toNat := by rw [List.length_map, List.length_take]; omega
 have hzn : ∀ e ∈ l.take r.head.size.toNat, Iz e.item := fun e he => hz e (List.mem_of_mem_take he)
 have hszn := entries_sz (l.take r.head.size.toNat)
 have hln : (l.take r.head.size.toNat).length = r.head.size.toNat := by rw [List.length_take]; omega
 have hsize : ((r.head.size.toNat : Nat) : Int) = r.head.size := by omega
 generalize hM : l.take r.head.size.toNat = M at *
 generalize hN : r.head.size.toNat = n at *
 refine loop_mk (fun m e S => e 0 = entriesV l ∧ e 1 = .it .i64 i ∧ e 5 = .ptr 0 0 ∧ e 6 = .ptr 1 0 ∧ e 9 = .ws 2 0 n n ∧ e 45 = entriesV M ∧ e 46 = .it .i64 (M.length : Int) ∧ ∃ (k : Nat) (acc : List By) (T : Store), e 47 = .it .i64 (k : Int) ∧ S = .cells (rcptV r).cells :: .cells [.it .i64 0, .it .i64 0, .it .i64 0, .st [], .it .i64 0, .st [], .it .i64 0, .it .i64 0, .st [], .st [], .it .i64 0, .st [], .sl .full [], .st [], .st [], .st [], .st [], .it .i64 0, .sl .full [], .it .i64 0, .it .i64 0, .it .i64 0, .it .i64 0, .st [], .it .i64 0, .st [], .it .i64 0, .it .i64 0, .it .i64 0, .it .i64 0, .it .i64 0, .it .i64 0, .it .i64 0, .st [], .it .i64 0, .st [], .it .i64 0, .it .i64 0, .it .i64 0, .it .i64 0, .it .i64 0, .it .i64 0, .st [], .st [], .st [], .sl .full [], .it .i64 0, .it .i64 0, .it .i64 0, .it .i64 0, .it .i64 0, .sl .full [], .it .i64 0, .it .i64 0, .it .i64 0, .st [], .it .i64 0, .it .i64 0, .it .i64 0, .it .i64 0, .it .i64 0] :: .cells (acc.map .st) :: T ∧ acc.length = n ∧ acc.take k = (M.map leafE).take k ∧ k ≤ n ∧ m = n - k) n
  ⟨(by first | rfl | (simp only [↓upd_apply, ↓put_some, ↓reduceIte, Nat.reduceEqDiff, ↓argEnv_zero, ↓argEnv_succ, *]; done)), (by first | rfl | (simp only [↓upd_apply, ↓put_some, ↓reduceIte, Nat.reduceEqDiff, ↓argEnv_zero, ↓argEnv_succ, *]; done)), (by first | rfl | (simp only [↓upd_apply, ↓put_some, ↓reduceIte, Nat.reduceEqDiff, ↓argEnv_zero, ↓argEnv_succ, *]; done)), (by first | rfl | (simp only [↓upd_apply, ↓put_some, ↓reduceIte, Nat.reduceEqDiff, ↓argEnv_zero, ↓argEnv_succ, *]; done)), (by first | rfl | (simp only [↓upd_apply, ↓put_some, ↓reduceIte, Nat.reduceEqDiff, ↓argEnv_zero, ↓argEnv_succ, *]; done)), (by first | rfl | (simp only [↓upd_apply, ↓put_some, ↓reduceIte, Nat.reduceEqDiff, ↓argEnv_zero, ↓argEnv_succ, *]; done)), (by first | rfl | (simp only [↓upd_apply, ↓put_some, ↓reduceIte, Nat.reduceEqDiff, ↓argEnv_zero, ↓argEnv_succ, *]; done)), 0, List.replicate n [], [], (by first | rfl | (simp only [↓upd_apply, ↓put_some, ↓reduceIte, Nat.reduceEqDiff, ↓argEnv_zero, ↓argEnv_succ, *]; done)), by rw [List.map_replicate, Nat.mul_one]; rfl, List.length_replicate .., rfl, by omega, rfl⟩ ?_
 rintro m e S ⟨s0, s1, s5, s6, s9, s45, s46, k, acc, T, s47, rfl, hacc, hak, hk, rfl⟩
 by_cases hlk : k < n
 ·have hkM : k < M.length := by omega
  have hgk : M[k]? = some M[k] := List.getElem?_eq_getElem hkM
  have hzk := hzn M[k] (List.getElem_mem hkM)
  have hst : (acc.set k (leafE M[k])).take (k + 1) = (M.map leafE).take (k + 1) := by
   rw [List.take_succ_eq_append_getElem (by rw [List.length_set]; omega), List.take_succ_eq_append_getElem (by rw [List.length_map]; omega), List.getElem_set_self, List.getElem_map, List.take_set_of_le (Nat.le_refl _), hak]
  generalize M[k] = y at *
  have ky := sleaf_c y hzk
  have hset := aSet_map AV.st acc k (leafE y) (by omega)
  have hT1 : ∀ o : SObj, (T ++ [o])[T.length]? = some o := fun o => by simp
  have hT2 : ∀ o o' : SObj, (T ++ [o]).set T.length o' = T ++ [o'] := fun o o' => by simp
  have hlki : (k : Int) < (M.length : Int) := by omega
  have hlkn : (k : Int) < (n : Int) := by omega
  refine runf4 (an @s0 (an @s1 (an @s5 (an @s6 (an @s9 (an @s45 (an @s46 (an @s47 (an @hgk (an @hszn (an @hT1 (an @hT2 @hlki)))))))))))) ?_
  refine cp ky ?_
  refine runf4 (an @s0 (an @s1 (an @s5 (an @s6 (an @s9 (an @s45 (an @s46 (an @s47 (an @hset (an @hlkn @hacc)))))))))) ?_
  exact round_mk (n - (k + 1)) (by omega) ⟨(by first | rfl | (simp only [↓upd_apply, ↓put_some, ↓reduceIte, Nat.reduceEqDiff, ↓argEnv_zero, ↓argEnv_succ, *]; done)), (by first | rfl | (simp only [↓upd_apply, ↓put_some, ↓reduceIte, Nat.reduceEqDiff, ↓argEnv_zero, ↓argEnv_succ, *]; done)), (by first | rfl | (simp only [↓upd_apply, ↓put_some, ↓reduceIte, Nat.reduceEqDiff, ↓argEnv_zero, ↓argEnv_succ, *]; done)), (by first | rfl | (simp only [↓upd_apply, ↓put_some, ↓reduceIte, Nat.reduceEqDiff, ↓argEnv_zero, ↓argEnv_succ, *]; done)), (by first | rfl | (simp only [↓upd_apply, ↓put_some, ↓reduceIte, Nat.reduceEqDiff, ↓argEnv_zero, ↓argEnv_succ, *]; done)), (by first | rfl | (simp only [↓upd_apply, ↓put_some, ↓reduceIte, Nat.reduceEqDiff, ↓argEnv_zero, ↓argEnv_succ, *]; done)), (by first | rfl | (simp only [↓upd_apply, ↓put_some, ↓reduceIte, Nat.reduceEqDiff, ↓argEnv_zero, ↓argEnv_succ, *]; done)), k + 1, acc.set k (leafE y), _, (by first | rfl | (simp only [↓upd_apply, ↓put_some, ↓reduceIte, Nat.reduceEqDiff, ↓argEnv_zero, ↓argEnv_succ, *]; done)), by rw [Nat.mul_one], by rw [List.length_set, hacc], by first | exact hst | (rw [hst, List.map_take]), by omega, rfl⟩
 obtain rfl : k = n := by omega
 have hacM : acc = M.map leafE := by
  rw [List.take_of_length_le (by omega), List.take_of_length_le (by rw [List.length_map]; omega)] at hak
  exact hak
 have hlki : ¬ (k : Int) < (M.length : Int) := by omega
 rw [upd_selfT s6]
 refine runf4 (an @s0 (an @s1 (an @s5 (an @s6 (an @s9 (an @s45 (an @s46 (an @s47 @hlki)))))))) ?_
 have hfl : flat ((M.map leafE).map AV.st) = (M.map leafE).map AV.st := flat_sts _
 have hil : i.toNat < (M.map leafE).length := by rw [hLl]; omega
 have kp := path_c (M.map leafE) i.toNat hil (by omega) (fun x hx => by
  obtain ⟨e, _, rfl⟩ := List.mem_map.1 hx
  rw [leafE_len]; omega)
 have ei : ((i.toNat : Nat) : Int) = i := by omega
 rw [ei] at kp
 subst hacM
 have hszL : allSz 1 ((M.map leafE).map AV.st) = true := allSz_map 1 AV.st (fun _ => rfl) _
 have hokL : (((M.map leafE).map AV.st).all (AV.o1 0)) = true := by
  rw [List.all_eq_true]
  intro v hv
  obtain ⟨b, _, rfl⟩ := List.mem_map.1 hv
  rfl
 generalize M.map leafE = L at *
 generalize Mk.path L i.toNat = pth at *
 refine wkzW 9 2 (n := k) (c := k) (es := L.map AV.st) (tl := []) (sz := 1) (by rw [hfl, List.append_nil]) (by rw [List.length_map, hLl]) hszL (by rw [hfl]; exact hokL) ?_ (hd := (by first | rfl | (simp only [↓upd_apply, ↓put_some, ↓reduceIte, Nat.reduceEqDiff, ↓argEnv_zero, ↓argEnv_succ, *]; done))) (hS := by rfl)
 refine runf4 (an @s0 (an @s1 (an @s5 (an @s6 (an @s9 (an @s45 (an @s46 @s47))))))) ?_
 refine cp kp ?_
 refine runf4 (an @s0 (an @s1 (an @s5 (an @s6 (an @s9 (an @s45 (an @s46 (an @s47 (an @hg (an @hsz (an @hlti @d1))))))))))) ?_
 exact er0w
end Go.Proofs.YtaphpbiaoofmkaaGreatDoor.Pe
end
section
namespace Go.Proofs.YtaphpbiaoofmkaaGreatDoor.Pe
open Go Go.RowKit Co Sg Ac It Sl
set_option maxRecDepth 100000
set_option maxHeartbeats 4000000
abbrev rcptsV (l : List Receipt) : AV := .sl .ro (l.map rcptV)
theorem delc_c (e : It.Entry) (id : By) (h : Iz e.item) : AC Tryz.prog 173 [entryV e, .ptr 0 0] [.cells [.st id]] (.bo (delT e id)) [.cells [.st id]] := by
 refine AC.enter2 [168] [] Tryz.func173 rfl (by decide) (by decide) (Nat.le_of_ble_eq_true rfl) (by kernel_rfl) ?_; simp only [eraseC, eraseO, List.map_cons, List.map_nil, List.map_toArray, List.getElem?_toArray, List.getElem?_cons_zero, List.getElem?_cons_succ, Option.bind_some, Option.bind_none, List.append_eq, List.cons_append, List.nil_append]
 refine run ?_
 refine cp (tdel_c e id h) ?_
 refine run ?_
 exact er1
def FirstDel (l : List It.Entry) (id : By) (n : Int) : Prop :=
 (∃ c : Nat, c < l.length ∧ delT (l.getD c ⟨0, item0⟩) id = true ∧ (∀ j, j < c → delT (l.getD j ⟨0, item0⟩) id = false) ∧ n = (c : Int)) ∨ ((∀ j, j < l.length → delT (l.getD j ⟨0, item0⟩) id = false) ∧ n = -1)
theorem first_del (l : List It.Entry) (id : By) : ∃ n, FirstDel l id n := by
 by_cases h : ∃ c : Nat, c < l.length ∧ delT (l.getD c ⟨0, item0⟩) id = true
 ·have key : ∀ m : Nat, ∀ c, c ≤ m → c < l.length → delT (l.getD c ⟨0, item0⟩) id = true → ∃ n, FirstDel l id n := by
   intro m
   induction m with
   | zero =>
    intro c hc hl hd
    exact ⟨(c : Int), .inl ⟨c, hl, hd, fun j hj => by omega, rfl⟩⟩
   | succ m ih =>
    intro c hc hl hd
    by_cases hf : ∀ j, j < c → delT (l.getD j ⟨0, item0⟩) id = false
    ·exact ⟨(c : Int), .inl ⟨c, hl, hd, hf, rfl⟩⟩
    ·obtain ⟨j, hj⟩ := Classical.not_forall.1 hf
     obtain ⟨hj, hb⟩ := Classical.not_imp.1 hj
     exact ih j (by omega) (by omega) (by simpa using hb)
  obtain ⟨c, hl, hd⟩ := h
  exact key c c (Nat.le_refl _) hl hd
 ·exact ⟨-1, .inr ⟨fun j hj => by
   cases hb : delT (l.getD j ⟨0, item0⟩) id with
   | false => rfl
   | true => exact absurd ⟨j, hj, hb⟩ h, rfl⟩⟩
theorem indexFunc_c (l : List It.Entry) (id : By) (n : Int) (hn : FirstDel l id n) (hl : l.length ≤ 1000000) (hz : ∀ e ∈ l, Iz e.item) :
  AC Tryz.prog 172 [entriesV l, .fn (.func 173) [] [.ptr 0 0]] [.cells [.st id]] (.it .i64 n) [.cells [.st id]] := by
 refine AC.enter [] [] Tryz.func172 rfl (by decide) (by decide) (Nat.le_of_ble_eq_true rfl) (by kernel_rfl) ?_; simp only [eraseC, eraseO, List.map_cons, List.map_nil, List.map_toArray, List.getElem?_toArray, List.getElem?_cons_zero, List.getElem?_cons_succ, Option.bind_some, Option.bind_none, List.append_eq, List.cons_append, List.nil_append]
 have hsz := entries_sz l
 refine run ?_
 refine loop_mk (fun m e S => S = [.cells [.st id]] ∧ e 0 = entriesV l ∧ e 1 = .fn (.func 173) [] [.ptr 0 0] ∧ e 7 = .it .i64 (l.length : Int) ∧ ∃ k : Nat, e 8 = .it .i64 (k : Int) ∧ k ≤ l.length ∧ (∀ j, j < k → delT (l.getD j ⟨0, item0⟩) id = false) ∧ m = l.length - k) l.length
  ⟨rfl, (by first | rfl | (simp only [↓upd_apply, ↓put_some, ↓reduceIte, Nat.reduceEqDiff, ↓argEnv_zero, ↓argEnv_succ, *]; done)), (by first | rfl | (simp only [↓upd_apply, ↓put_some, ↓reduceIte, Nat.reduceEqDiff, ↓argEnv_zero, ↓argEnv_succ, *]; done)), by simp [↓upd_apply], 0, (by first | rfl | (simp only [↓upd_apply, ↓put_some, ↓reduceIte, Nat.reduceEqDiff, ↓argEnv_zero, ↓argEnv_succ, *]; done)), by omega, fun j hj => absurd hj (Nat.not_lt_zero _), rfl⟩ ?_
 rintro m e S ⟨rfl, s0, s1, s7, k, s8, hk, hf, rfl⟩
 by_cases hlt : k < l.length
 ·have hg : l[k]? = some (l.getD k ⟨0, item0⟩) := by rw [List.getD_eq_getElem?_getD, List.getElem?_eq_getElem hlt]; rfl
  have hzk : Iz (l.getD k ⟨0, item0⟩).item := by
   rw [List.getD_eq_getElem?_getD, List.getElem?_eq_getElem hlt]
   exact hz _ (List.getElem_mem hlt)
  have hd0 : ∀ b, delT (l.getD k ⟨0, item0⟩) id = b → delT (l.getD k ⟨0, item0⟩) id = b := fun b h => h
  generalize hx : l.getD k ⟨0, item0⟩ = x at *
  have kc := delc_c x id hzk
  have hlti : (k : Int) < (l.length : Int) := by omega
  refine runf (an @s0 (an @s1 (an @s7 (an @s8 (an @hg (an @hsz @hlti)))))) ?_
  refine call_mk kc ?_
  cases hd : delT x id with
  | true =>
   have e1 : n = (k : Int) := by
    rcases hn with ⟨c, hc, hd', hf', rfl⟩ | ⟨hf', rfl⟩
    ·have h1 : ¬ c < k := fun h => by rw [hf c h] at hd'; cases hd'
     have h2 : ¬ k < c := fun h => by have := hf' k h; rw [hx, hd] at this; cases this
     omega
    ·have := hf' k hlt
     rw [hx, hd] at this
     cases this
   subst e1
   refine runf (an @s0 (an @s1 (an @s7 @s8))) ?_
   exact er1
  | false =>
   refine runf (an @s0 (an @s1 (an @s7 @s8))) ?_
   refine round_mk (l.length - (k + 1)) (by omega) ⟨rfl, (by first | rfl | (simp only [↓upd_apply, ↓put_some, ↓reduceIte, Nat.reduceEqDiff, ↓argEnv_zero, ↓argEnv_succ, *]; done)), (by first | rfl | (simp only [↓upd_apply, ↓put_some, ↓reduceIte, Nat.reduceEqDiff, ↓argEnv_zero, ↓argEnv_succ, *]; done)), (by first | rfl | (simp only [↓upd_apply, ↓put_some, ↓reduceIte, Nat.reduceEqDiff, ↓argEnv_zero, ↓argEnv_succ, *]; done)), k + 1, (by first | rfl | (simp only [↓upd_apply, ↓put_some, ↓reduceIte, Nat.reduceEqDiff, ↓argEnv_zero, ↓argEnv_succ, *]; done)), by omega, fun j hj => ?_, rfl⟩
   by_cases hjk : j = k
   ·subst hjk; rw [hx]; exact hd
   ·exact hf j (by omega)
 ·have e1 : n = -1 := by
   rcases hn with ⟨c, hc, hd', hf', rfl⟩ | ⟨hf', rfl⟩
   ·have := hf c (by omega)
    rw [hd'] at this
    cases this
   ·rfl
  subst e1
  have hlti : ¬ (k : Int) < (l.length : Int) := by omega
  refine runf (an @s0 (an @s1 (an @s7 (an @s8 @hlti)))) ?_
  exact er1
theorem kfind_no (s : Int) : ∀ (acc : List Int) (i : Nat), s ∉ acc → kfind (.it .i64 s) (acc.map fun s => (.it .i64 s, .bo true)) i = some none
 | [], _, _ => rfl
 | x :: l, i, h => by
  rw [List.mem_cons, not_or] at h
  rw [List.map_cons]
  unfold kfind
  simp only [keq, if_true]
  rw [show (s == x) = false by simpa using h.1]
  exact kfind_no s l (i + 1) h.2
theorem kfind_yes (s : Int) : ∀ (acc : List Int) (i : Nat), s ∈ acc → ∃ j, kfind (.it .i64 s) (acc.map fun s => (.it .i64 s, .bo true)) i = some (some (j, .bo true))
 | x :: l, i, h => by
  rw [List.map_cons]
  unfold kfind
  simp only [keq, if_true]
  by_cases hx : s = x
  ·rw [show (s == x) = true by simpa using hx]
   exact ⟨i, rfl⟩
  ·rw [show (s == x) = false by simpa using hx]
   exact kfind_yes s l (i + 1) ((List.mem_cons.1 h).resolve_left hx)
theorem mem_no {ps : List Int} {l : List It.Entry} {log : Int} {i : Nat} {rs : List Receipt} {acc : List Int} {k : Nat} {r : Receipt} (hm : ∀ s, s ∈ acc ↔ ∃ r ∈ rs.take k, r.frm = s ∧ goodT ps l log i r = true) (hr : rs[k]? = some r) (hn : goodT ps l log i r = true → r.frm ∈ acc) :
  ∀ s, s ∈ acc ↔ ∃ r ∈ rs.take (k + 1), r.frm = s ∧ goodT ps l log i r = true := by
 intro s
 have hk := (List.getElem?_eq_some_iff.1 hr)
 obtain ⟨hk, hrk⟩ := hk
 rw [List.take_succ_eq_append_getElem hk, hrk]
 constructor
 ·intro h
  obtain ⟨q, hq, h1, h2⟩ := (hm s).1 h
  exact ⟨q, List.mem_append_left _ hq, h1, h2⟩
 ·rintro ⟨q, hq, rfl, h2⟩
  rcases List.mem_append.1 hq with hq | hq
  ·exact (hm _).2 ⟨q, hq, rfl, h2⟩
  ·rw [List.mem_singleton] at hq
   subst hq
   exact hn h2
theorem mem_yes {ps : List Int} {l : List It.Entry} {log : Int} {i : Nat} {rs : List Receipt} {acc : List Int} {k : Nat} {r : Receipt} (hm : ∀ s, s ∈ acc ↔ ∃ r ∈ rs.take k, r.frm = s ∧ goodT ps l log i r = true) (hr : rs[k]? = some r) (hy : goodT ps l log i r = true) :
  ∀ s, s ∈ acc ++ [r.frm] ↔ ∃ r ∈ rs.take (k + 1), r.frm = s ∧ goodT ps l log i r = true := by
 intro s
 obtain ⟨hk, hrk⟩ := (List.getElem?_eq_some_iff.1 hr)
 rw [List.take_succ_eq_append_getElem hk, hrk, List.mem_append, List.mem_singleton]
 constructor
 ·rintro (h | rfl)
  ·obtain ⟨q, hq, h1, h2⟩ := (hm s).1 h
   exact ⟨q, List.mem_append_left _ hq, h1, h2⟩
  ·exact ⟨r, List.mem_append_right _ (List.mem_singleton.2 rfl), rfl, hy⟩
 ·rintro ⟨q, hq, rfl, h2⟩
  rcases List.mem_append.1 hq with hq | hq
  ·exact .inl ((hm _).2 ⟨q, hq, rfl, h2⟩)
  ·rw [List.mem_singleton] at hq
   exact .inr (by rw [hq])
theorem tanswered_c (ps : List Int) (id : By) (l : List It.Entry) (log : Int) (rs : List Receipt) (hp : InL ps) (hpl : ps.length ≤ 1000000) (hl : l.length ≤ 1000000) (hz : ∀ e ∈ l, Iz e.item) (hrl : rs.length ≤ 1000000) (hrs : ∀ r ∈ rs, InR r) :
  AC Tryz.prog 74 [intsV ps, .st id, entriesV l, .it .i64 log, rcptsV rs] [] (intsV (answeredT ps id l log rs)) [] := by
 refine AC.enter2 [66, 69] [] Tryz.func74 rfl (by decide) (by decide) (Nat.le_of_ble_eq_true rfl) (by kernel_rfl) ?_; simp only [eraseC, eraseO, List.map_cons, List.map_nil, List.map_toArray, List.getElem?_toArray, List.getElem?_cons_zero, List.getElem?_cons_succ, Option.bind_some, Option.bind_none, List.append_eq, List.cons_append, List.nil_append]
 obtain ⟨n, hn⟩ := first_del l id
 have kx := indexFunc_c l id n hn hl hz
 have hszr : allSz 9 (rs.map rcptV) = true := allSz_map 9 _ (fun _ => rfl) _
 refine run ?_
 refine call_mk kx ?_
 rcases hn with ⟨i, hi, hd, hf, rfl⟩ | ⟨hf, rfl⟩
 rotate_left
 ·rw [answered_none hf]
  refine run ?_
  exact er0w
 have hi0 : ¬ (i : Int) < 0 := by omega
 refine runf @hi0 ?_
 refine loop_mk (fun m e S => e 0 = intsV ps ∧ e 2 = entriesV l ∧ e 3 = .it .i64 log ∧ e 11 = .it .i64 (i : Int) ∧ e 12 = .mp 1 ∧ e 23 = rcptsV rs ∧ e 24 = .it .i64 (rs.length : Int) ∧ ∃ (k : Nat) (acc : List Int) (T : Store), e 25 = .it .i64 (k : Int) ∧ S = .cells [.st id] :: keyM acc :: T ∧
   k ≤ rs.length ∧ acc.Nodup ∧ (∀ s, s ∈ acc ↔ ∃ r ∈ rs.take k, r.frm = s ∧ goodT ps l log i r = true) ∧ m = rs.length - k) rs.length
  ⟨(by first | rfl | (simp only [↓upd_apply, ↓put_some, ↓reduceIte, Nat.reduceEqDiff, ↓argEnv_zero, ↓argEnv_succ, *]; done)), (by first | rfl | (simp only [↓upd_apply, ↓put_some, ↓reduceIte, Nat.reduceEqDiff, ↓argEnv_zero, ↓argEnv_succ, *]; done)), (by first | rfl | (simp only [↓upd_apply, ↓put_some, ↓reduceIte, Nat.reduceEqDiff, ↓argEnv_zero, ↓argEnv_succ, *]; done)), (by first | rfl | (simp only [↓upd_apply, ↓put_some, ↓reduceIte, Nat.reduceEqDiff, ↓argEnv_zero, ↓argEnv_succ, *]; done)), (by first | rfl | (simp only [↓upd_apply, ↓put_some, ↓reduceIte, Nat.reduceEqDiff, ↓argEnv_zero, ↓argEnv_succ, *]; done)), (by first | rfl | (simp only [↓upd_apply, ↓put_some, ↓reduceIte, Nat.reduceEqDiff, ↓argEnv_zero, ↓argEnv_succ, *]; done)), by simp [↓upd_apply], 0, [], [], (by first | rfl | (simp only [↓upd_apply, ↓put_some, ↓reduceIte, Nat.reduceEqDiff, ↓argEnv_zero, ↓argEnv_succ, *]; done)), rfl, by omega, List.nodup_nil, fun s => by simp, rfl⟩ ?_
 rintro m e S ⟨s0, s2, s3, s11, s12, s23, s24, k, acc, T, s25, rfl, hk, hnd, hm, rfl⟩
 by_cases hlt : k < rs.length
 ·have hg : rs[k]? = some rs[k] := List.getElem?_eq_getElem hlt
  have hr := hrs rs[k] (List.getElem_mem hlt)
  generalize rs[k] = r at *
  have hlti : (k : Int) < (rs.length : Int) := by omega
  have hT1 : ∀ o : SObj, (T ++ [o])[T.length]? = some o := fun o => by simp
  have hT2 : ∀ o o' : SObj, (T ++ [o]).set T.length o' = T ++ [o'] := fun o o' => by simp
  have hT3 : ∀ o o' : SObj, (T ++ [o] ++ [o'])[T.length + 1]? = some o' := fun o o' => by simp
  have hT4 : ∀ o o' o'' : SObj, (T ++ [o] ++ [o']).set (T.length + 1) o'' = T ++ [o] ++ [o''] := fun o o' o'' => by simp
  have hT5 : ∀ o o' : SObj, (T ++ [o] ++ [o'])[T.length]? = some o := fun o o' => by simp
  have kv := tverify_c ps r hp hr
  have kp := tprove_c l (i : Int) r hl hz
  by_cases c1 : r.head.server = log
  rotate_left
  ·have q1 : (r.head.server != log) = true := bneT c1
   have hno : goodT ps l log i r = true → r.frm ∈ acc := fun h => by
    unfold goodT at h
    rw [decide_eq_false c1] at h
    cases h
   refine runf (an @s0 (an @s2 (an @s3 (an @s11 (an @s12 (an @s23 (an @s24 (an @s25 (an @hlti (an @hg (an @hszr (an @hT1 (an @hT2 @q1))))))))))))) ?_
   exact round_mk (rs.length - (k + 1)) (by omega) ⟨(by first | rfl | (simp only [↓upd_apply, ↓put_some, ↓reduceIte, Nat.reduceEqDiff, ↓argEnv_zero, ↓argEnv_succ, *]; done)), (by first | rfl | (simp only [↓upd_apply, ↓put_some, ↓reduceIte, Nat.reduceEqDiff, ↓argEnv_zero, ↓argEnv_succ, *]; done)), (by first | rfl | (simp only [↓upd_apply, ↓put_some, ↓reduceIte, Nat.reduceEqDiff, ↓argEnv_zero, ↓argEnv_succ, *]; done)), (by first | rfl | (simp only [↓upd_apply, ↓put_some, ↓reduceIte, Nat.reduceEqDiff, ↓argEnv_zero, ↓argEnv_succ, *]; done)), (by first | rfl | (simp only [↓upd_apply, ↓put_some, ↓reduceIte, Nat.reduceEqDiff, ↓argEnv_zero, ↓argEnv_succ, *]; done)), (by first | rfl | (simp only [↓upd_apply, ↓put_some, ↓reduceIte, Nat.reduceEqDiff, ↓argEnv_zero, ↓argEnv_succ, *]; done)), (by first | rfl | (simp only [↓upd_apply, ↓put_some, ↓reduceIte, Nat.reduceEqDiff, ↓argEnv_zero, ↓argEnv_succ, *]; done)), k + 1, acc, _, (by first | rfl | (simp only [↓upd_apply, ↓put_some, ↓reduceIte, Nat.reduceEqDiff, ↓argEnv_zero, ↓argEnv_succ, *]; done)), rfl, by omega, hnd, mem_no hm hg hno, rfl⟩
  have q1 : (r.head.server != log) = false := bneF c1
  by_cases c2 : r.frm ∈ acc
  ·obtain ⟨j, hj⟩ := kfind_yes r.frm acc 0 c2
   refine runf (an @s0 (an @s2 (an @s3 (an @s11 (an @s12 (an @s23 (an @s24 (an @s25 (an @hlti (an @hg (an @hszr (an @hT1 (an @hT2 (an @q1 @hj)))))))))))))) ?_
   exact round_mk (rs.length - (k + 1)) (by omega) ⟨(by first | rfl | (simp only [↓upd_apply, ↓put_some, ↓reduceIte, Nat.reduceEqDiff, ↓argEnv_zero, ↓argEnv_succ, *]; done)), (by first | rfl | (simp only [↓upd_apply, ↓put_some, ↓reduceIte, Nat.reduceEqDiff, ↓argEnv_zero, ↓argEnv_succ, *]; done)), (by first | rfl | (simp only [↓upd_apply, ↓put_some, ↓reduceIte, Nat.reduceEqDiff, ↓argEnv_zero, ↓argEnv_succ, *]; done)), (by first | rfl | (simp only [↓upd_apply, ↓put_some, ↓reduceIte, Nat.reduceEqDiff, ↓argEnv_zero, ↓argEnv_succ, *]; done)), (by first | rfl | (simp only [↓upd_apply, ↓put_some, ↓reduceIte, Nat.reduceEqDiff, ↓argEnv_zero, ↓argEnv_succ, *]; done)), (by first | rfl | (simp only [↓upd_apply, ↓put_some, ↓reduceIte, Nat.reduceEqDiff, ↓argEnv_zero, ↓argEnv_succ, *]; done)), (by first | rfl | (simp only [↓upd_apply, ↓put_some, ↓reduceIte, Nat.reduceEqDiff, ↓argEnv_zero, ↓argEnv_succ, *]; done)), k + 1, acc, _, (by first | rfl | (simp only [↓upd_apply, ↓put_some, ↓reduceIte, Nat.reduceEqDiff, ↓argEnv_zero, ↓argEnv_succ, *]; done)), rfl, by omega, hnd, mem_no hm hg (fun _ => c2), rfl⟩
  have hj := kfind_no r.frm acc 0 c2
  cases hv : verifyT ps r with
  | false =>
   have hno : goodT ps l log i r = true → r.frm ∈ acc := fun h => by
    unfold goodT at h
    rw [hv, Bool.and_false] at h
    cases h
   rw [hv] at kv
   refine runf (an @s0 (an @s2 (an @s3 (an @s11 (an @s12 (an @s23 (an @s24 (an @s25 (an @hlti (an @hg (an @hszr (an @hT1 (an @hT2 (an @q1 @hj)))))))))))))) ?_
   refine cp kv ?_
   refine runf (an @s0 (an @s2 (an @s3 (an @s11 (an @s12 (an @s23 (an @s24 @s25))))))) ?_
   exact round_mk (rs.length - (k + 1)) (by omega) ⟨(by first | rfl | (simp only [↓upd_apply, ↓put_some, ↓reduceIte, Nat.reduceEqDiff, ↓argEnv_zero, ↓argEnv_succ, *]; done)), (by first | rfl | (simp only [↓upd_apply, ↓put_some, ↓reduceIte, Nat.reduceEqDiff, ↓argEnv_zero, ↓argEnv_succ, *]; done)), (by first | rfl | (simp only [↓upd_apply, ↓put_some, ↓reduceIte, Nat.reduceEqDiff, ↓argEnv_zero, ↓argEnv_succ, *]; done)), (by first | rfl | (simp only [↓upd_apply, ↓put_some, ↓reduceIte, Nat.reduceEqDiff, ↓argEnv_zero, ↓argEnv_succ, *]; done)), (by first | rfl | (simp only [↓upd_apply, ↓put_some, ↓reduceIte, Nat.reduceEqDiff, ↓argEnv_zero, ↓argEnv_succ, *]; done)), (by first | rfl | (simp only [↓upd_apply, ↓put_some, ↓reduceIte, Nat.reduceEqDiff, ↓argEnv_zero, ↓argEnv_succ, *]; done)), (by first | rfl | (simp only [↓upd_apply, ↓put_some, ↓reduceIte, Nat.reduceEqDiff, ↓argEnv_zero, ↓argEnv_succ, *]; done)), k + 1, acc, _, (by first | rfl | (simp only [↓upd_apply, ↓put_some, ↓reduceIte, Nat.reduceEqDiff, ↓argEnv_zero, ↓argEnv_succ, *]; done)), rfl, by omega, hnd, mem_no hm hg hno, rfl⟩
  | true =>
  rw [hv] at kv
  cases hpr : (proveT l (i : Int) r).2 with
  | false =>
   have hno : goodT ps l log i r = true → r.frm ∈ acc := fun h => by
    unfold goodT at h
    rw [hpr, Bool.and_false] at h
    cases h
   rw [hpr] at kp
   generalize (proveT l (i : Int) r).1 = gr at *
   refine runf (an @s0 (an @s2 (an @s3 (an @s11 (an @s12 (an @s23 (an @s24 (an @s25 (an @hlti (an @hg (an @hszr (an @hT1 (an @hT2 (an @q1 @hj)))))))))))))) ?_
   refine cp kv ?_
   refine runf (an @s0 (an @s2 (an @s3 (an @s11 (an @s12 (an @s23 (an @s24 (an @s25 @hT1)))))))) ?_
   refine cp kp ?_
   refine runf (an @s0 (an @s2 (an @s3 (an @s11 (an @s12 (an @s23 (an @s24 (an @s25 (an @hT1 (an @hT2 (an @hT3 (an @hT4 @hT5)))))))))))) ?_
   exact round_mk (rs.length - (k + 1)) (by omega) ⟨(by first | rfl | (simp only [↓upd_apply, ↓put_some, ↓reduceIte, Nat.reduceEqDiff, ↓argEnv_zero, ↓argEnv_succ, *]; done)), (by first | rfl | (simp only [↓upd_apply, ↓put_some, ↓reduceIte, Nat.reduceEqDiff, ↓argEnv_zero, ↓argEnv_succ, *]; done)), (by first | rfl | (simp only [↓upd_apply, ↓put_some, ↓reduceIte, Nat.reduceEqDiff, ↓argEnv_zero, ↓argEnv_succ, *]; done)), (by first | rfl | (simp only [↓upd_apply, ↓put_some, ↓reduceIte, Nat.reduceEqDiff, ↓argEnv_zero, ↓argEnv_succ, *]; done)), (by first | rfl | (simp only [↓upd_apply, ↓put_some, ↓reduceIte, Nat.reduceEqDiff, ↓argEnv_zero, ↓argEnv_succ, *]; done)), (by first | rfl | (simp only [↓upd_apply, ↓put_some, ↓reduceIte, Nat.reduceEqDiff, ↓argEnv_zero, ↓argEnv_succ, *]; done)), (by first | rfl | (simp only [↓upd_apply, ↓put_some, ↓reduceIte, Nat.reduceEqDiff, ↓argEnv_zero, ↓argEnv_succ, *]; done)), k + 1, acc, _, (by first | rfl | (simp only [↓upd_apply, ↓put_some, ↓reduceIte, Nat.reduceEqDiff, ↓argEnv_zero, ↓argEnv_succ, *]; done)), rfl, by omega, hnd, mem_no hm hg hno, rfl⟩
  | true =>
   have hy : goodT ps l log i r = true := by
    unfold goodT
    rw [hpr, hv, decide_eq_true c1]
    rfl
   rw [hpr] at kp
   generalize (proveT l (i : Int) r).1 = gr at *
   refine runf (an @s0 (an @s2 (an @s3 (an @s11 (an @s12 (an @s23 (an @s24 (an @s25 (an @hlti (an @hg (an @hszr (an @hT1 (an @hT2 (an @q1 @hj)))))))))))))) ?_
   refine cp kv ?_
   refine runf (an @s0 (an @s2 (an @s3 (an @s11 (an @s12 (an @s23 (an @s24 (an @s25 @hT1)))))))) ?_
   refine cp kp ?_
   refine runf (an @s0 (an @s2 (an @s3 (an @s11 (an @s12 (an @s23 (an @s24 (an @s25 (an @hT1 (an @hT2 (an @hT3 (an @hT4 (an @hT5 @hj))))))))))))) ?_
   exact round_mk (rs.length - (k + 1)) (by omega) ⟨(by first | rfl | (simp only [↓upd_apply, ↓put_some, ↓reduceIte, Nat.reduceEqDiff, ↓argEnv_zero, ↓argEnv_succ, *]; done)), (by first | rfl | (simp only [↓upd_apply, ↓put_some, ↓reduceIte, Nat.reduceEqDiff, ↓argEnv_zero, ↓argEnv_succ, *]; done)), (by first | rfl | (simp only [↓upd_apply, ↓put_some, ↓reduceIte, Nat.reduceEqDiff, ↓argEnv_zero, ↓argEnv_succ, *]; done)), (by first | rfl | (simp only [↓upd_apply, ↓put_some, ↓reduceIte, Nat.reduceEqDiff, ↓argEnv_zero, ↓argEnv_succ, *]; done)), (by first | rfl | (simp only [↓upd_apply, ↓put_some, ↓reduceIte, Nat.reduceEqDiff, ↓argEnv_zero, ↓argEnv_succ, *]; done)), (by first | rfl | (simp only [↓upd_apply, ↓put_some, ↓reduceIte, Nat.reduceEqDiff, ↓argEnv_zero, ↓argEnv_succ, *]; done)), (by first | rfl | (simp only [↓upd_apply, ↓put_some, ↓reduceIte, Nat.reduceEqDiff, ↓argEnv_zero, ↓argEnv_succ, *]; done)), k + 1, acc ++ [r.frm], _, (by first | rfl | (simp only [↓upd_apply, ↓put_some, ↓reduceIte, Nat.reduceEqDiff, ↓argEnv_zero, ↓argEnv_succ, *]; done)), by rw [keyM, List.map_append]; rfl, by omega, by rw [List.nodup_append]; exact ⟨hnd, by simp, fun a ha b hb e => c2 (by rw [List.mem_singleton] at hb; rw [← hb, ← e]; exact ha)⟩, mem_yes hm hg hy, rfl⟩
 ·have hlti : ¬ (k : Int) < (rs.length : Int) := by omega
  have hkl : rs.take k = rs := List.take_of_length_le (by omega)
  rw [hkl] at hm
  have hrng : ∀ s ∈ acc, 0 ≤ s ∧ s < (ps.length : Int) := fun s hs => by
   obtain ⟨r, _, rfl, hg⟩ := (hm s).1 hs
   unfold goodT at hg
   simp only [Bool.and_eq_true] at hg
   exact verify_frm hg.1.2
  have hap := answered_perm hi hd hf hnd hm
  have hal : acc.length ≤ 1000000 := by
   have h1 := hap.1.length_eq
   have h2 := answered_le ps id l log rs
   omega
  rw [← answered_sorted hap]
  refine runf (an @s0 (an @s2 (an @s3 (an @s11 (an @s12 (an @s23 (an @s24 (an @s25 @hlti)))))))) ?_
  refine call_mk (keys_at (l := 1) (acc := acc) rfl) ?_
  refine run ?_
  refine call_mk (sorted_at 1 (T.length + 1 + 1) (by omega) hnd hal (fun s hs => by have := hrng s hs; omega) rfl (by simp)) ?_
  refine run ?_
  exact er0w
end Go.Proofs.YtaphpbiaoofmkaaGreatDoor.Pe
end
section
namespace Go.Proofs.YtaphpbiaoofmkaaGreatDoor.Pe
open Go Go.RowKit Co Sg Ac It Sl
set_option maxRecDepth 100000
set_option maxHeartbeats 4000000
theorem key_range (s : By) : -9223372036854775808 ≤ (keySeed s).secret ∧ (keySeed s).secret ≤ 9223372036854775807 := by
 have := Key.right_iff.1 (keySeed_right s)
 omega
theorem pub_in {k : Key} (h : k.right = true) : -9223372036854775808 ≤ k.pub ∧ k.pub ≤ 9223372036854775807 := by
 have := pub_range h
 omega
theorem signA_lens2 (k : Key) (a : Ac.Act) : (signA k a).to.length ≤ a.to.length ∧ (signA k a).wraps.length ≤ a.wraps.length := by
 unfold signA
 simp only
 split
 ·exact ⟨Nat.le_refl _, Nat.le_refl _⟩
 ·exact ⟨Nat.zero_le _, Nat.zero_le _⟩
theorem szdel (id : By) : Sz (delA id) := ⟨by show (16 : Nat) ≤ _; decide, Nat.zero_le _, Nat.zero_le _, Nat.zero_le _, fun s hs => (by cases hs), Nat.zero_le _, Nat.zero_le _⟩
theorem deletion29_c (id : By) : AC Tryz.prog 155 [.st id] [] (entryV (delE id)) [] := by
 refine AC.enter2 [145, 154, 14, 57] [] Tryz.func155 rfl (by decide) (by decide) (Nat.le_of_ble_eq_true rfl) (by kernel_rfl) ?_; simp only [eraseC, eraseO, List.map_cons, List.map_nil, List.map_toArray, List.getElem?_toArray, List.getElem?_cons_zero, List.getElem?_cons_succ, Option.bind_some, Option.bind_none, List.append_eq, List.cons_append, List.nil_append]
 have k1 := sha_c [] (by decide)
 have k2 := keySeed_c [97] (by decide)
 have k3 := signA_c (keySeed [97]) (delA id) (szdel id) (key_range [97])
 have hl := signA_lens2 (keySeed [97]) (delA id)
 have k4' := ofAct_c (signA (keySeed [97]) (delA id)) (Nat.le_trans hl.1 (Nat.zero_le _)) (Nat.le_trans hl.2 (Nat.zero_le _))
 unfold delE
 generalize signA (keySeed [97]) (delA id) = a at *
 generalize keySeed [97] = k at *
 unfold delA at k3
 generalize Sm.sha [] = z at *
 refine run ?_
 refine cp k1 ?_
 refine run ?_
 refine cp k2 ?_
 refine run ?_
 refine cp k3 ?_
 refine run ?_
 refine cp k4' ?_
 refine run ?_
 exact er0w
end Go.Proofs.YtaphpbiaoofmkaaGreatDoor.Pe
end
section
namespace Go.Proofs.YtaphpbiaoofmkaaGreatDoor.Pe
open Go Go.RowKit Co Sg Ac It Sl
set_option maxRecDepth 100000
set_option maxHeartbeats 4000000
def sPost : By := Sm.sha [112, 111, 115, 116]
def sOther : By := Sm.sha [111, 116, 104, 101, 114]
theorem sNe : sOther ≠ sPost := by decide +kernel
def kA : Key := keySeed [97]
def kB : Key := keySeed [98]
def sL : List It.Entry := [delE sOther, delE sPost]
def sR : Receipt := mkRcpt kB 1 (mkHead kA 0 sL 5)
def sS29 : Receipt := mkRcpt kB 1 (mkHead kA 0 [delE sOther] 5)
theorem sPost_len : sPost.length = 32 := Mk.sha_len' _
theorem sOther_len : sOther.length = 32 := Mk.sha_len' _
theorem sR_hon : HonR kA kB 1 sL sR := honR (keySeed_right _) (keySeed_right _) ⟨by decide, by decide⟩ (by decide) ⟨by decide, by decide⟩
theorem sS_hon : HonR kA kB 1 (sL.take 1) sS29 := honR (keySeed_right _) (keySeed_right _) ⟨by decide, by decide⟩ (by decide) ⟨by decide, by decide⟩
theorem sR_hon2 : HonR kA kB 1 (sL.take 2) sR := sR_hon
def sPs : List Int := [kA.pub, kB.pub]
theorem sR_ver : verifyT sPs sR = true := sR_hon.ver sPs (by decide) (by decide) rfl rfl
theorem sS_ver : verifyT sPs sS29 = true := sS_hon.ver sPs (by decide) (by decide) rfl rfl
theorem sR_prove : (proveT sL 1 sR).2 = true := prove_honest sR_hon2 (by decide) 1
theorem sS_prove : (proveT sL 1 sS29).2 = false := prove_honest sS_hon (by decide) 1
theorem del_sL (id : By) : delL sL id = (decide (sOther = id) || decide (sPost = id)) := by
 unfold delL sL
 simp only [List.any_cons, List.any_nil, Bool.or_false]
 rw [delE_del sOther_len, delE_del sPost_len]
theorem sR_check : checkT sPs sPost (proveT sL 1 sR).1 = true := by
 rw [check_prove sR_prove, sR_ver, show sL.getD (1 : Int).toNat ⟨0, item0⟩ = delE sPost from rfl, delE_del sPost_len]
 simp
theorem sR_check2 : checkT sPs sOther (proveT sL 1 sR).1 = false := by
 rw [check_prove sR_prove, sR_ver, show sL.getD (1 : Int).toNat ⟨0, item0⟩ = delE sPost from rfl, delE_del sPost_len, decide_eq_false (Ne.symm sNe)]
 rfl
theorem ans_one {ps : List Int} {id : By} {l : List It.Entry} {log : Int} {r : Receipt} (hp : ps.length = 2) (hf : r.frm = 1) : answeredT ps id l log [r] = if holdsT ps id l log r then [1] else [] := by
 unfold answeredT
 rw [hp]
 have e : List.range 2 = [0, 1] := rfl
 rw [e]
 simp only [List.filter_cons, List.any_cons, List.any_nil, Bool.or_false, hf]
 cases holdsT ps id l log r <;> simp
theorem sR_ans : answeredT sPs sPost sL 0 [sR] = [1] := by
 rw [ans_one rfl sR_hon.frm, holds_honest sR_hon2 (by decide) sR_ver, show sL.take 2 = sL from rfl, del_sL]
 simp
theorem sS_ans : answeredT sPs sPost sL 0 [sS29] = [] := by
 rw [ans_one rfl sS_hon.frm, holds_honest sS_hon (by decide) sS_ver]
 have : delL (sL.take 1) sPost = false := by
  unfold delL sL
  simp only [List.take_succ_cons, List.take_zero, List.any_cons, List.any_nil, Bool.or_false]
  rw [delE_del sOther_len, decide_eq_false sNe]
 rw [this]
 rfl
theorem zero_rcpt (h : Head) : mkRcpt ⟨0, 0⟩ 1 h = rcpt0 := by
 unfold mkRcpt
 rw [Key.right_zero]
 rfl
theorem inR_mk (k : Key) (frm : Int) (h : Head) (hf : -9223372036854775808 ≤ frm ∧ frm ≤ 9223372036854775807) : InR (mkRcpt k frm h) := by
 unfold mkRcpt
 split
 ·refine ⟨hf, ?_⟩
  obtain ⟨h1, h2, h3, h4⟩ := sign_range k (msgT ⟨frm, h, sig0⟩)
  show -9223372036854775808 ≤ (sign k (msgT ⟨frm, h, sig0⟩)).e ∧ (sign k (msgT ⟨frm, h, sig0⟩)).e ≤ 9223372036854775807
  omega
 ·exact ⟨⟨by decide, by decide⟩, ⟨by decide, by decide⟩⟩
theorem iz_sL : ∀ e ∈ sL, Iz e.item := by
 intro e he
 unfold sL at he
 simp only [List.mem_cons, List.not_mem_nil, or_false] at he
 rcases he with rfl | rfl
 ·exact iz_right (delE_right sOther_len)
 ·exact iz_right (delE_right sPost_len)
theorem inL_sPs : InL sPs := ⟨by decide, fun i hi => by
 unfold sPs at hi
 simp only [List.mem_cons, List.not_mem_nil, or_false] at hi
 rcases hi with rfl | rfl
 ·exact pub_in (keySeed_right _)
 ·exact pub_in (keySeed_right _)⟩
theorem prove_eq {l : List It.Entry} {i : Int} {r : Receipt} (h : (proveT l i r).2 = true) : (proveT l i r).1 = ⟨i, l.getD i.toNat ⟨0, item0⟩, Mk.path ((l.take r.head.size.toNat).map leafE) i.toNat, r⟩ := by
 unfold proveT at h ⊢
 split at h
 ·cases h
 ·rename_i hc; rw [if_neg hc]
theorem checkg_c {ps : List Int} {id : By} {l : List It.Entry} {i : Int} {r : Receipt} (h : (proveT l i r).2 = true) (hp : InL ps) (hr : InR r) (hz : ∀ e ∈ l, Iz e.item) (hl : l.length ≤ 1000000) : AC Tryz.prog 72 [intsV ps, .st id, graveV (proveT l i r).1] [] (.bo (checkT ps id (proveT l i r).1)) [] := by
 obtain ⟨h1, h2, h3, h4⟩ := (proveT_ok l i r).1 h
 have e := prove_eq h
 have hpl := path_len ((l.take r.head.size.toNat).map leafE).length ((l.take r.head.size.toNat).map leafE) i.toNat (Nat.le_refl _)
 have hL : ((l.take r.head.size.toNat).map leafE).length ≤ l.length := by rw [List.length_map, List.length_take]; omega
 have hz' : Iz (l.getD i.toNat ⟨0, item0⟩).item := by
  rw [List.getD_eq_getElem?_getD, List.getElem?_eq_getElem (show i.toNat < l.length by omega)]
  exact hz _ (List.getElem_mem _)
 rw [e]
 exact tcheck_c ps id ⟨i, l.getD i.toNat ⟨0, item0⟩, Mk.path ((l.take r.head.size.toNat).map leafE) i.toNat, r⟩ hp hr hz' (by simp only; omega) (by simp only; omega) (by simp only; omega)
theorem small29_c : AC Tryz.prog 63 [] [] (.bo true) [] := by
 refine AC.enter [154, 145, 155, 78, 64, 69, 74, 72] [] Tryz.func63 rfl (by decide) (by decide) (Nat.le_of_ble_eq_true rfl) (by kernel_rfl) ?_; simp only [eraseC, eraseO, List.map_cons, List.map_nil, List.map_toArray, List.getElem?_toArray, List.getElem?_cons_zero, List.getElem?_cons_succ, Option.bind_some, Option.bind_none, List.append_eq, List.cons_append, List.nil_append]
 have ra := key_range [97]
 have rb := key_range [98]
 have iR : InR sR := inR_mk _ _ _ ⟨by decide, by decide⟩
 have iS : InR sS29 := inR_mk _ _ _ ⟨by decide, by decide⟩
 have kk1 : AC Tryz.prog 154 [.st [97]] [] (keyV kA) [] := keySeed_c [97] (by decide)
 have kk2 : AC Tryz.prog 154 [.st [98]] [] (keyV kB) [] := keySeed_c [98] (by decide)
 have ks1 : AC Tryz.prog 145 [.st [112, 111, 115, 116]] [] (.st sPost) [] := sha_c [112, 111, 115, 116] (by decide)
 have ks2 : AC Tryz.prog 145 [.st [111, 116, 104, 101, 114]] [] (.st sOther) [] := sha_c [111, 116, 104, 101, 114] (by decide)
 have kd1 := deletion29_c sOther
 have kd2 := deletion29_c sPost
 have kh1 : AC Tryz.prog 78 [keyV kA, .it .i64 0, entriesV [delE sOther, delE sPost], .it .i64 5] [] (headV (mkHead kA 0 sL 5)) [] := shead_c kA 0 sL 5 ra (by decide) iz_sL
 have kh2 : AC Tryz.prog 78 [keyV kA, .it .i64 0, entriesV [delE sOther], .it .i64 5] [] (headV (mkHead kA 0 [delE sOther] 5)) [] := shead_c kA 0 [delE sOther] 5 ra (by decide) (fun e he => iz_sL e (List.mem_of_mem_take (i := 1) he))
 have kr1 : AC Tryz.prog 64 [keyV kB, .it .i64 1, headV (mkHead kA 0 sL 5)] [] (rcptV sR) [] := treceipt_c kB 1 _ rb
 have kr2 : AC Tryz.prog 64 [keyV kB, .it .i64 1, headV (mkHead kA 0 [delE sOther] 5)] [] (rcptV sS29) [] := treceipt_c kB 1 _ rb
 have kp1 := tprove_c sL 1 sR (by decide) iz_sL
 have kp2 := tprove_c sL 1 sS29 (by decide) iz_sL
 rw [sR_prove] at kp1
 rw [sS_prove] at kp2
 have ka1 := tanswered_c sPs sPost sL 0 [sR] inL_sPs (by decide) (by decide) iz_sL (by decide) (fun r hr => by rw [List.mem_singleton] at hr; rw [hr]; exact iR)
 have ka2 := tanswered_c sPs sPost sL 0 [sS29] inL_sPs (by decide) (by decide) iz_sL (by decide) (fun r hr => by rw [List.mem_singleton] at hr; rw [hr]; exact iS)
 rw [sR_ans] at ka1
 rw [sS_ans] at ka2
 have kc1 := checkg_c (ps := sPs) (id := sPost) sR_prove inL_sPs iR iz_sL (by decide)
 have kc2 := checkg_c (ps := sPs) (id := sOther) sR_prove inL_sPs iR iz_sL (by decide)
 rw [sR_check] at kc1
 rw [sR_check2] at kc2
 have kz : AC Tryz.prog 64 [keyV ⟨0, 0⟩, .it .i64 1, headV sR.head] [] (rcptV rcpt0) [] := by
  have := treceipt_c ⟨0, 0⟩ 1 sR.head ⟨by decide, by decide⟩
  rwa [zero_rcpt] at this
 unfold sL at kp1 kp2 ka1 ka2 kc1 kc2
 unfold sPs at ka1 ka2 kc1 kc2
 generalize mkHead kA 0 sL 5 = h1 at *
 generalize mkHead kA 0 [delE sOther] 5 = h2 at *
 generalize (proveT [delE sOther, delE sPost] 1 sR).1 = g1 at *
 generalize (proveT [delE sOther, delE sPost] 1 sS29).1 = g2 at *
 generalize delE sOther = d1 at *
 generalize delE sPost = d2 at *
 generalize sR = r1 at *
 generalize sS29 = r2 at *
 generalize sPost = p at *
 generalize sOther = o at *
 generalize kA = a at *
 generalize kB = b at *
 clear iR iS ra rb
 refine run ?_
 refine cp kk1 ?_
 refine run ?_
 refine cp kk2 ?_
 refine run ?_
 refine cp ks1 ?_
 refine run ?_
 refine cp ks2 ?_
 refine run ?_
 refine cp kd1 ?_
 refine run ?_
 refine cp kd2 ?_
 refine run ?_
 refine cp kh1 ?_
 refine run ?_
 refine cp kr1 ?_
 refine run ?_
 refine cp kh2 ?_
 refine run ?_
 refine cp kr2 ?_
 refine run ?_
 refine cp kp1 ?_
 refine run ?_
 refine cp kp2 ?_
 refine run ?_
 refine cp ka1 ?_
 refine run ?_
 refine cp kc1 ?_
 refine run ?_
 refine cp ks2 ?_
 refine run ?_
 refine cp kc2 ?_
 refine run ?_
 refine cp ka2 ?_
 refine run ?_
 refine cp kz ?_
 refine run ?_
 exact er0
end Go.Proofs.YtaphpbiaoofmkaaGreatDoor.Pe
end
section
namespace Go.Proofs.YtaphpbiaoofmkaaGreatDoor.Pe
open Go Go.RowKit Co Sg Ac It Sl
set_option maxRecDepth 100000
set_option maxHeartbeats 4000000
theorem fright15_c (h : Head) : AC Tryz.prog 158 [headV h] [] (.bo (rightH h)) [] := by
 refine AC.enter [] [] Tryz.func158 rfl (by decide) (by decide) (Nat.le_of_ble_eq_true rfl) (by kernel_rfl) ?_; simp only [eraseC, eraseO, List.map_cons, List.map_nil, List.map_toArray, List.getElem?_toArray, List.getElem?_cons_zero, List.getElem?_cons_succ, Option.bind_some, Option.bind_none, List.append_eq, List.cons_append, List.nil_append]
 have hf : ¬ ((0 ≤ h.server ∧ h.server ≤ 19) ∧ (0 ≤ h.size ∧ h.size ≤ 1073741824) ∧ (0 ≤ h.time ∧ h.time ≤ 1099511627776) ∧ h.root.length = 32 ∧ (0 ≤ h.sig.e ∧ h.sig.e ≤ 2305843009213693949) ∧ (0 ≤ h.sig.s ∧ h.sig.s ≤ 2305843009213693949)) → rightH h = false := fun hn => Bool.eq_false_iff.2 fun r => hn (rightH_lin.1 r)
 by_cases h1 : 0 ≤ h.server
 rotate_left
 ·rw [hf (by omega)]
  refine run ?_
  exact er0
 by_cases h2 : h.server < 20
 rotate_left
 ·rw [hf (by omega)]
  refine run ?_
  exact er0
 by_cases h3 : 0 ≤ h.size
 rotate_left
 ·rw [hf (by omega)]
  refine run ?_
  exact er0
 by_cases h4 : h.size ≤ 1073741824
 rotate_left
 ·rw [hf (by omega)]
  refine run ?_
  exact er0
 by_cases h5 : 0 ≤ h.time
 rotate_left
 ·rw [hf (by omega)]
  refine run ?_
  exact er0
 by_cases h6 : h.time ≤ 1099511627776
 rotate_left
 ·rw [hf (by omega)]
  refine run ?_
  exact er0
 by_cases h7 : h.root.length = 32
 rotate_left
 ·have h7' : ¬ (h.root.length : Int) = 32 := by omega
  rw [hf (by omega)]
  refine runf @h7' ?_
  exact er0
 have h7' : (h.root.length : Int) = 32 := by omega
 by_cases h8 : 0 ≤ h.sig.e
 rotate_left
 ·rw [hf (by omega)]
  refine runf @h7' ?_
  exact er0
 by_cases h9 : h.sig.e ≤ 2305843009213693949
 rotate_left
 ·rw [hf (by omega)]
  refine runf @h7' ?_
  exact er0
 by_cases h10 : 0 ≤ h.sig.s
 rotate_left
 ·rw [hf (by omega)]
  refine runf @h7' ?_
  exact er0
 by_cases h11 : h.sig.s ≤ 2305843009213693949
 rotate_left
 ·rw [hf (by omega)]
  refine runf @h7' ?_
  exact er0
 rw [rightH_lin.2 (by omega)]
 refine runf @h7' ?_
 exact er0
theorem fcore15_c (h : Head) (hr : rightH h = true) : AC Tryz.prog 253 [headV h] [] (.st (coreH h)) [] := by
 refine AC.enter [119, 120] [] Tryz.func253 rfl (by decide) (by decide) (Nat.le_of_ble_eq_true rfl) (by kernel_rfl) ?_; simp only [eraseC, eraseO, List.map_cons, List.map_nil, List.map_toArray, List.getElem?_toArray, List.getElem?_cons_zero, List.getElem?_cons_succ, Option.bind_some, Option.bind_none, List.append_eq, List.cons_append, List.nil_append]
 have hh := rightH_lin.1 hr
 have n1 := numI_le h.server (by omega)
 have n2 := numI_le h.size (by omega)
 have n3 := numI_le h.time (by omega)
 have t1 := text_len (s := h.root) (by omega)
 have tw : (text wHead).length = 5 := rfl
 unfold coreH
 refine run ?_
 refine cp (ftext_c wHead (by simp)) ?_
 refine run ?_
 refine cp (fnum_c h.server (by omega)) ?_
 refine run ?_
 refine cp (fnum_c h.size (by omega)) ?_
 refine run ?_
 refine cp (ftext_c h.root (by omega)) ?_
 refine run ?_
 refine cp (fnum_c h.time (by omega)) ?_
 refine run ?_
 exact er0
theorem fheadBytes_c (h : Head) : AC Tryz.prog 252 [headV h] [] (.st (headB h)) [] := by
 refine AC.enter [158, 253, 120] [] Tryz.func252 rfl (by decide) (by decide) (Nat.le_of_ble_eq_true rfl) (by kernel_rfl) ?_; simp only [eraseC, eraseO, List.map_cons, List.map_nil, List.map_toArray, List.getElem?_toArray, List.getElem?_cons_zero, List.getElem?_cons_succ, Option.bind_some, Option.bind_none, List.append_eq, List.cons_append, List.nil_append]
 have kr := fright15_c h
 unfold headB
 cases hr : rightH h with
 | false =>
  rw [hr] at kr
  rw [if_neg (by simp)]
  refine run ?_
  refine cp kr ?_
  refine run ?_
  exact er0
 | true =>
  rw [hr] at kr
  rw [if_pos rfl]
  have hh := rightH_lin.1 hr
  have hc := coreR_lenH hr
  have kc := fcore15_c h hr
  have n1 := numI_le h.sig.e (by omega)
  have n2 := numI_le h.sig.s (by omega)
  generalize coreH h = c at *
  refine run ?_
  refine cp kr ?_
  refine run ?_
  refine cp kc ?_
  refine run ?_
  refine cp (fnum_c h.sig.e (by omega)) ?_
  refine run ?_
  refine cp (fnum_c h.sig.s (by omega)) ?_
  refine run ?_
  exact er0
theorem fverify15_c (p : Int) (h : Head) : AC Tryz.prog 161 [.it .i64 p, headV h] [] (.bo (verifyH p h)) [] := by
 refine AC.enter2 [158, 253, 107] [] Tryz.func161 rfl (by decide) (by decide) (Nat.le_of_ble_eq_true rfl) (by kernel_rfl) ?_; simp only [eraseC, eraseO, List.map_cons, List.map_nil, List.map_toArray, List.getElem?_toArray, List.getElem?_cons_zero, List.getElem?_cons_succ, Option.bind_some, Option.bind_none, List.append_eq, List.cons_append, List.nil_append]
 have k1 := fright15_c h
 unfold verifyH
 cases hr : rightH h with
 | false =>
  rw [hr] at k1
  refine run ?_
  refine cp k1 ?_
  refine run ?_
  exact er0
 | true =>
  rw [hr] at k1
  have k2 := fcore15_c h hr
  have k3 := rverify_c p (coreH h) h.sig (by have := coreR_lenH hr; omega)
  refine run ?_
  refine cp k1 ?_
  refine run ?_
  refine cp k2 ?_
  refine run ?_
  refine cp k3 ?_
  refine run ?_
  exact er0
end Go.Proofs.YtaphpbiaoofmkaaGreatDoor.Pe
end
section
namespace Go.Proofs.YtaphpbiaoofmkaaGreatDoor.Pe
open Go Go.RowKit Co Sg Ac It Sl
set_option maxRecDepth 100000
set_option maxHeartbeats 4000000
theorem fmsg29_c (r : Receipt) (h : -9223372036854775808 ≤ r.frm ∧ r.frm ≤ 9223372036854775807) : AC Tryz.prog 159 [rcptV r] [] (.st (msgT r)) [] := by
 refine AC.enter2 [119, 120, 252] [] Tryz.func159 rfl (by decide) (by decide) (Nat.le_of_ble_eq_true rfl) (by kernel_rfl) ?_; simp only [eraseC, eraseO, List.map_cons, List.map_nil, List.map_toArray, List.getElem?_toArray, List.getElem?_cons_zero, List.getElem?_cons_succ, Option.bind_some, Option.bind_none, List.append_eq, List.cons_append, List.nil_append]
 have h1 := headB_len r.head
 have n1 := numI_le r.frm (by omega)
 have tw : (text wRcpt).length = 8 := rfl
 have t1 : (text (headB r.head)).length ≤ 1000209 := by
  have := num_len9 (n := (headB r.head).length) (by omega)
  unfold text; rw [List.length_append]; omega
 unfold msgT
 refine run ?_
 refine cp (ftext_c wRcpt (by simp [wRcpt])) ?_
 refine run ?_
 refine cp (fnum_c r.frm (by omega)) ?_
 refine run ?_
 refine cp (fheadBytes_c r.head) ?_
 refine run ?_
 refine cp (ftext_c (headB r.head) (by omega)) ?_
 refine run ?_
 exact er0
theorem freceipt29_c (k : Key) (frm : Int) (h : Head) (hk : -9223372036854775808 ≤ k.secret ∧ k.secret ≤ 9223372036854775807) : AC Tryz.prog 65 [keyV k, .it .i64 frm, headV h] [] (rcptV (mkRcpt k frm h)) [] := by
 refine AC.enter2 [104, 158, 159, 105] [] Tryz.func65 rfl (by decide) (by decide) (Nat.le_of_ble_eq_true rfl) (by kernel_rfl) ?_; simp only [eraseC, eraseO, List.map_cons, List.map_nil, List.map_toArray, List.getElem?_toArray, List.getElem?_cons_zero, List.getElem?_cons_succ, Option.bind_some, Option.bind_none, List.append_eq, List.cons_append, List.nil_append]
 have k1 := rkeyright_c k hk
 have k2 := fright15_c h
 unfold mkRcpt wi
 cases hr : k.right with
 | false =>
  rw [hr] at k1
  rw [if_neg (by simp)]
  refine run ?_
  refine cp k1 ?_
  refine run ?_
  exact er0
 | true =>
 rw [hr] at k1
 by_cases c1 : frm < 0
 ·rw [if_neg (by simp; omega)]
  refine run ?_
  refine cp k1 ?_
  refine runf @c1 ?_
  exact er0
 by_cases c2 : (20 : Int) ≤ frm
 ·rw [if_neg (by simp; omega)]
  refine run ?_
  refine cp k1 ?_
  refine runf (an @c1 @c2) ?_
  exact er0
 cases hh : rightH h with
 | false =>
  rw [hh] at k2
  rw [if_neg (by simp)]
  refine run ?_
  refine cp k1 ?_
  refine runf (an @c1 @c2) ?_
  refine cp k2 ?_
  refine run ?_
  exact er0
 | true =>
 rw [hh] at k2
 rw [if_pos (by simp; omega)]
 have k3 := fmsg29_c ⟨frm, h, sig0⟩ ⟨by show _ ≤ frm; omega, by show frm ≤ _; omega⟩
 have hl := msgT_len ⟨frm, h, sig0⟩ (by show frm < _; omega)
 have k5 := rsign_c k (msgT ⟨frm, h, sig0⟩) (by omega) hk
 generalize msgT ⟨frm, h, sig0⟩ = c at *
 generalize sign k c = sg at *
 refine run ?_
 refine cp k1 ?_
 refine runf (an @c1 @c2) ?_
 refine cp k2 ?_
 refine run ?_
 refine cp k3 ?_
 refine run ?_
 refine cp k5 ?_
 refine run ?_
 exact er0
theorem fverify29_c (ps : List Int) (r : Receipt) (hp : InL ps) (hr : InR r) : AC Tryz.prog 67 [intsV ps, rcptV r] [] (.bo (verifyT ps r)) [] := by
 refine AC.enter2 [161, 159, 107] [] Tryz.func67 rfl (by decide) (by decide) (Nat.le_of_ble_eq_true rfl) (by kernel_rfl) ?_; simp only [eraseC, eraseO, List.map_cons, List.map_nil, List.map_toArray, List.getElem?_toArray, List.getElem?_cons_zero, List.getElem?_cons_succ, Option.bind_some, Option.bind_none, List.append_eq, List.cons_append, List.nil_append]
 have hpl := hp.len
 have hszp : allSz 1 (ps.map (AV.it .i64)) = true := allSz_map 1 _ (fun _ => rfl) _
 have k3 := fmsg29_c r hr.frm
 have hl := msgT_len r (by have := hr.frm; omega)
 unfold verifyT
 by_cases c1 : r.frm < 0
 ·rw [decide_eq_false (show ¬ 0 ≤ r.frm by omega)]
  refine runf @c1 ?_
  exact er0
 by_cases c2 : (ps.length : Int) ≤ r.frm
 ·rw [decide_eq_true (show 0 ≤ r.frm by omega), decide_eq_false (show ¬ r.frm < (ps.length : Int) by omega)]
  refine runf (an @c1 @c2) ?_
  exact er0
 by_cases c3 : r.head.server < 0
 ·rw [decide_eq_true (show 0 ≤ r.frm by omega), decide_eq_true (show r.frm < (ps.length : Int) by omega), decide_eq_false (show ¬ 0 ≤ r.head.server by omega)]
  refine runf (an @c1 (an @c2 @c3)) ?_
  exact er0
 by_cases c4 : (ps.length : Int) ≤ r.head.server
 ·rw [decide_eq_true (show 0 ≤ r.frm by omega), decide_eq_true (show r.frm < (ps.length : Int) by omega), decide_eq_true (show 0 ≤ r.head.server by omega), decide_eq_false (show ¬ r.head.server < (ps.length : Int) by omega)]
  refine runf (an @c1 (an @c2 (an @c3 @c4))) ?_
  exact er0
 have d1 : 0 ≤ r.frm := by omega
 have d2 : r.frm < (ps.length : Int) := by omega
 have d3 : 0 ≤ r.head.server := by omega
 have d4 : r.head.server < (ps.length : Int) := by omega
 rw [decide_eq_true d1, decide_eq_true d2, decide_eq_true d3, decide_eq_true d4]
 obtain ⟨g1, w1⟩ := getD_of hp d1 d2
 obtain ⟨g2, w2⟩ := getD_of hp d3 d4
 generalize ps.getD r.frm.toNat 0 = p at *
 generalize ps.getD r.head.server.toNat 0 = q at *
 have k1 := fverify15_c q r.head
 have k2 := rverify_c p (msgT r) r.sig (by omega)
 generalize msgT r = c at *
 cases hv : verifyH q r.head with
 | false =>
  rw [hv] at k1
  refine runf (an @c1 (an @c2 (an @c3 (an @c4 (an @d3 (an @d4 (an @g2 @hszp))))))) ?_
  refine cp k1 ?_
  refine run ?_
  exact er0
 | true =>
 rw [hv] at k1
 refine runf (an @c1 (an @c2 (an @c3 (an @c4 (an @d3 (an @d4 (an @g2 @hszp))))))) ?_
 refine cp k1 ?_
 refine runf (an @d1 (an @d2 (an @g1 @hszp))) ?_
 refine cp k3 ?_
 refine run ?_
 refine cp k2 ?_
 refine run ?_
 exact er0
end Go.Proofs.YtaphpbiaoofmkaaGreatDoor.Pe
end
section
namespace Go.Proofs.YtaphpbiaoofmkaaGreatDoor.Pe
open Go Go.RowKit Co Sg Ac It Sl
set_option maxRecDepth 100000
set_option maxHeartbeats 4000000
theorem shp_head {n us} (h : shp Tryz.prog 140737488351232 (n + 3) 73 us) : ∃ e : Head, us = (headV e).cells ∧ ((-9223372036854775808 ≤ e.server ∧ e.server ≤ 9223372036854775807) ∧ (-9223372036854775808 ≤ e.size ∧ e.size ≤ 9223372036854775807) ∧ (-9223372036854775808 ≤ e.time ∧ e.time ≤ 9223372036854775807) ∧ e.root.length ≤ 140737488351232 ∧ (-9223372036854775808 ≤ e.sig.e ∧ e.sig.e ≤ 9223372036854775807) ∧ (-9223372036854775808 ≤ e.sig.s ∧ e.sig.s ≤ 9223372036854775807)) := by
 have h := shp_struct Tryz.underlying73 h
 obtain ⟨a0, b0, rfl, h0, h⟩ := h
 obtain ⟨a1, b1, rfl, h1, h⟩ := h
 obtain ⟨a2, b2, rfl, h2, h⟩ := h
 obtain ⟨a3, b3, rfl, h3, h⟩ := h
 obtain ⟨a4, b4, rfl, h4, rfl⟩ := h
 obtain ⟨server, rfl, w0⟩ := shp_i64 Tryz.underlying3 h0
 obtain ⟨size, rfl, w1⟩ := shp_i64 Tryz.underlying3 h1
 obtain ⟨root, rfl, w2⟩ := shp_str Tryz.underlying9 h2
 obtain ⟨time, rfl, w3⟩ := shp_i64 Tryz.underlying3 h3
 obtain ⟨sg, rfl, w4, w5⟩ := shp_sigI h4
 exact ⟨⟨server, size, root, time, sg⟩, rfl, w0, w1, w3, w2, w4, w5⟩
end Go.Proofs.YtaphpbiaoofmkaaGreatDoor.Pe
end
section
namespace Go.Proofs.YtaphpbiaoofmkaaGreatDoor.Pe
open Go Go.RowKit Co Sg Ac It Sl
set_option maxRecDepth 100000
set_option maxHeartbeats 4000000
structure InRc (r : Receipt) : Prop where
 inr : InR r
 size : -9223372036854775808 ≤ r.head.size ∧ r.head.size ≤ 9223372036854775807
 root : r.head.root.length ≤ 140737488351232
theorem shp_rcpt {n us} (h : shp Tryz.prog 140737488351232 (n + 4) 75 us) : ∃ e : Receipt, us = (rcptV e).cells ∧ InRc e := by
 have h := shp_struct Tryz.underlying75 h
 obtain ⟨a0, b0, rfl, h0, h⟩ := h
 obtain ⟨a1, b1, rfl, h1, h⟩ := h
 obtain ⟨a2, b2, rfl, h2, rfl⟩ := h
 obtain ⟨frm, rfl, w0⟩ := shp_i64 Tryz.underlying3 h0
 obtain ⟨head, rfl, w1⟩ := shp_head h1
 obtain ⟨sg, rfl, w2, w3⟩ := shp_sigI h2
 exact ⟨⟨frm, head, sg⟩, rfl, ⟨w0, w2⟩, w1.2.1, w1.2.2.2.1⟩
structure InG (g : Grave) : Prop where
 at' : -9223372036854775808 ≤ g.at' ∧ g.at' ≤ 9223372036854775807
 entry : InE g.entry
 path : g.path.length ≤ 140737488351232
 rcpt : InRc g.rcpt
end Go.Proofs.YtaphpbiaoofmkaaGreatDoor.Pe
end
section
namespace Go.Proofs.YtaphpbiaoofmkaaGreatDoor.Pe
open Go Go.RowKit Co Sg Ac It Sl
set_option maxRecDepth 100000
set_option maxHeartbeats 4000000
theorem tombReceipts_c (k : Key) (frm : Int) (h : Head) (ps : List Int) (r : Receipt) (hk : -9223372036854775808 ≤ k.secret ∧ k.secret ≤ 9223372036854775807) (hf : -9223372036854775808 ≤ frm ∧ frm ≤ 9223372036854775807) (hp : InL ps) (hr : InR r) :
  AC Tryz.prog 5 [keyV k, .it .i64 frm, headV h, intsV ps, rcptV r] [] (.bo true) [] := by
 refine AC.enter [63, 64, 65, 66, 67] [] Tryz.func5 rfl (by decide) (by decide) (Nat.le_of_ble_eq_true rfl) (by kernel_rfl) ?_; simp only [eraseC, eraseO, List.map_cons, List.map_nil, List.map_toArray, List.getElem?_toArray, List.getElem?_cons_zero, List.getElem?_cons_succ, Option.bind_some, Option.bind_none, List.append_eq, List.cons_append, List.nil_append]
 have k1 := treceipt_c k frm h hk
 have k2 := freceipt29_c k frm h hk
 have hx := inR_mk k frm h hf
 have k3 := tverify_c ps r hp hr
 have k4' := fverify29_c ps r hp hr
 have k5 := tverify_c ps (mkRcpt k frm h) hp hx
 have k6 := fverify29_c ps (mkRcpt k frm h) hp hx
 generalize mkRcpt k frm h = x at *
 generalize verifyT ps r = v at *
 generalize verifyT ps x = u at *
 have e4 : ∀ b : Bool, (b == b) = true := fun b => by cases b <;> rfl
 have e5 : ∀ l : By, (l == l) = true := fun l => beq_self_eq_true _
 have e6 : ∀ l : Int, (l == l) = true := fun l => beq_self_eq_true _
 refine run ?_
 refine cp small29_c ?_
 by_cases c1 : (30 : Int) < (ps.length : Int)
 ·refine runf @c1 ?_
  exact er0
 by_cases c2 : (1000 : Int) < (h.root.length : Int)
 ·refine runf (an @c1 @c2) ?_
  exact er0
 by_cases c3 : (1000 : Int) < (r.head.root.length : Int)
 ·refine runf (an @c1 (an @c2 @c3)) ?_
  exact er0
 refine runf (an @c1 (an @c2 @c3)) ?_
 refine cp k1 ?_
 refine run ?_
 refine cp k2 ?_
 refine runf (an @e4 (an @e5 @e6)) ?_
 refine cp k3 ?_
 refine runf (an @e4 (an @e5 @e6)) ?_
 refine cp k4' ?_
 refine runf (an @e4 (an @e5 @e6)) ?_
 refine cp k5 ?_
 refine runf (an @e4 (an @e5 @e6)) ?_
 refine cp k6 ?_
 refine runf (an @e4 (an @e5 @e6)) ?_
 exact er0
end Go.Proofs.YtaphpbiaoofmkaaGreatDoor.Pe
end
section
namespace Go.Proofs.YtaphpbiaoofmkaaGreatDoor
open Go Go.RowKit Go.WideShapes Go.ChangeShapes
section
variable {H : Type} {enc : TypeId × Value → H} {P : Program}
theorem post_of_below {f : Func} {s : ChangeSpec} {apart fresh handsOn again : Bool} {W W' : World} {args : Array Value} {v : Value} {ds gs : List (DataW H)} {before pa pv : List MemPlace}
  (hW : DataW.Whole enc P f.params.toList s.vars apart W args.toList ds gs before)
  (hres : ∀ (b : Nat) (sp : Nat → Bool) (hd : Bool), DataW.TrodAll enc P W' b sp hd f.resultTypes.toList (v.resultList f.resultTypes.size) (s.fn H (ds ++ gs)).results [])
  (hargs : ∀ sp : Nat → Bool, (∀ p ∈ before, sp p.block = true) → DataW.TrodAll enc P W' 0 sp true f.params.toList args.toList (s.fn H (ds ++ gs)).args pa)
  (hvars : ∀ sp : Nat → Bool, (∀ p ∈ before, sp p.block = true) → DataW.TrodVars enc P W' sp s.vars (s.fn H (ds ++ gs)).vars pv)
  (hps : before = pa ++ pv) (hb : Below W.heap.size W W')
  (hok : ∀ (j : Nat) (t : TypeId) (r : Value), f.resultTypes[j]? = some t → (v.resultList f.resultTypes.size)[j]? = some r → Value.okWide P W' .any 0 t r) :
  s.post enc P f apart fresh handsOn again W args v W' := by
 have hlt : ∀ p ∈ before, p.block < W.heap.size := fun p hp => hW.lt p hp
 have hold : ∀ p ∈ before, (fun b => decide (b < W.heap.size)) p.block = true := fun p hp => by simpa using hlt p hp
 refine ⟨ds, gs, before, [], pa, pv, hW, hres _ _ _, hargs _ hold, hvars _ hold, World.keptBut_mono (fun p hp => ⟨hp, ?_⟩) (hb.frame (· ∈ before)), fun _ => ?_⟩
 ·rw [hps, List.mem_append] at hp
  exact Or.inr hp
 ·obtain ⟨_, _, _, _, _, hz, hn⟩ := hW
  refine ⟨hok, _, _, ([] ++ pa) ++ pv, ⟨[] ++ pa, pv, trodAll_append (hargs _ (fun _ _ => rfl)) (hres _ _ _), hvars _ (fun _ _ => rfl), rfl, ?_, ?_⟩, ?_⟩
  ·intro b off hp
   have hin : MemPlace.cell b off ∈ before := by rw [hps]; simpa using hp
   rw [hb.frozen (hlt _ hin)]
   exact hz b off hin
  ·intro ha
   have := hn ha
   rw [hps] at this
   simpa using this
  ·intro p hp _
   rw [hps]
   simpa using hp
end
end Go.Proofs.YtaphpbiaoofmkaaGreatDoor
end
