/- Several texts in one, without what this claim does not use (tools/shake.py). -/
import Derived.Test.YtaphpbiaoofmkaaGreatDoorKj11
set_option linter.unusedSectionVars false
set_option linter.unusedVariables false
set_option linter.unusedSimpArgs false
section
namespace Go.Proofs.YtaphpbiaoofmkaaGreatDoor.Pe
open Go Go.RowKit Co
set_option maxRecDepth 100000
set_option maxHeartbeats 4000000
theorem fnum_nat : ∀ (f n : Nat), n < f → n < 9223372036854775808 → AC Tryz.prog 120 [.it .i64 n] [] (.st (num n)) []
 | 0, n, h, _ => absurd h (Nat.not_lt_zero _)
 | f + 1, n, hf, hn => by
  by_cases hs : n < 128
  ·refine AC.enter [120] [] Tryz.func120 rfl (by decide) (by decide) (Nat.le_of_ble_eq_true rfl) (by kernel_rfl) ?_; simp only [eraseC, eraseO, List.map_cons, List.map_nil, List.map_toArray, List.getElem?_toArray, List.getElem?_cons_zero, List.getElem?_cons_succ, Option.bind_some, Option.bind_none, List.append_eq, List.cons_append, List.nil_append]
   have h0 : ¬ (n : Int) < 0 := by omega
   have h1 : (n : Int) < 128 := by omega
   have hw : IntKind.u8.wrap (n : Int) = (n : Int) := wrap8 (by omega) (by omega)
   have hb : bytesOf [AV.it .u8 (n : Int)] = some [UInt8.ofNat n] := by
    rw [show (AV.it .u8 (n : Int)) = u8 (UInt8.ofNat n) from by unfold u8; rw [ofNat8 (by omega)]]
    exact bytesOf_map [UInt8.ofNat n]
   rw [num_small hs]
   refine runf (an @h0 (an @h1 (an @hw @hb))) ?_
   exact er0
  ·have ih := fnum_nat f (n / 128) (by omega) (by omega)
   refine AC.enter [120] [] Tryz.func120 rfl (by decide) (by decide) (Nat.le_of_ble_eq_true rfl) (by kernel_rfl) ?_; simp only [eraseC, eraseO, List.map_cons, List.map_nil, List.map_toArray, List.getElem?_toArray, List.getElem?_cons_zero, List.getElem?_cons_succ, Option.bind_some, Option.bind_none, List.append_eq, List.cons_append, List.nil_append]
   have h0 : ¬ (n : Int) < 0 := by omega
   have h1 : ¬ (n : Int) < 128 := by omega
   have hm : (n : Int).tmod 128 = ((n % 128 : Nat) : Int) := by rw [Int.tmod_eq_emod_of_nonneg (by omega)]; omega
   have hd : (n : Int).tdiv 128 = ((n / 128 : Nat) : Int) := by rw [Int.tdiv_eq_ediv_of_nonneg (by omega)]; omega
   have hw : IntKind.u8.wrap (128 + ((n % 128 : Nat) : Int)) = ((128 + n % 128 : Nat) : Int) := by rw [show (128 : Int) + ((n % 128 : Nat) : Int) = ((128 + n % 128 : Nat) : Int) from by omega]; exact wrap8 (by omega) (by omega)
   have hb : bytesOf [AV.it .u8 ((128 + n % 128 : Nat) : Int)] = some [UInt8.ofNat (128 + n % 128)] := by
    rw [show (AV.it .u8 ((128 + n % 128 : Nat) : Int)) = u8 (UInt8.ofNat (128 + n % 128)) from by unfold u8; rw [ofNat8 (by omega)]]
    exact bytesOf_map [UInt8.ofNat (128 + n % 128)]
   have hl := num_len9 (n := n / 128) (by omega)
   rw [num_big hs]
   refine runf (an @h0 (an @h1 (an @hm (an @hd (an @hw @hb))))) ?_
   refine cp ih ?_
   refine run ?_
   exact er0
theorem fnum_c (n : Int) (h : n < 9223372036854775808) : AC Tryz.prog 120 [.it .i64 n] [] (.st (numI n)) [] := by
 by_cases h0 : n < 0
 ·refine AC.enter [120] [] Tryz.func120 rfl (by decide) (by decide) (Nat.le_of_ble_eq_true rfl) (by kernel_rfl) ?_; simp only [eraseC, eraseO, List.map_cons, List.map_nil, List.map_toArray, List.getElem?_toArray, List.getElem?_cons_zero, List.getElem?_cons_succ, Option.bind_some, Option.bind_none, List.append_eq, List.cons_append, List.nil_append]
  rw [show numI n = [] from by unfold numI; rw [if_pos h0]]
  refine run ?_
  exact er0
 ·obtain ⟨m, rfl⟩ : ∃ m : Nat, n = (m : Int) := ⟨n.toNat, by omega⟩
  rw [numI_nat]
  exact fnum_nat (m + 1) m (by omega) (by omega)
theorem ftext_c (s : By) (h : s.length ≤ 1000000000) : AC Tryz.prog 119 [.st s] [] (.st (text s)) [] := by
 refine AC.enter [120] [] Tryz.func119 rfl (by decide) (by decide) (Nat.le_of_ble_eq_true rfl) (by kernel_rfl) ?_; simp only [eraseC, eraseO, List.map_cons, List.map_nil, List.map_toArray, List.getElem?_toArray, List.getElem?_cons_zero, List.getElem?_cons_succ, Option.bind_some, Option.bind_none, List.append_eq, List.cons_append, List.nil_append]
 have k := fnum_c (s.length : Int) (by omega)
 rw [numI_nat] at k
 have hl := num_len9 (n := s.length) (by omega)
 unfold text
 refine run ?_
 refine cp k ?_
 refine run ?_
 exact er0
end Go.Proofs.YtaphpbiaoofmkaaGreatDoor.Pe
namespace Go.Proofs.YtaphpbiaoofmkaaGreatDoor.Pe
open Go Go.RowKit Co Sg
set_option maxRecDepth 100000
set_option maxHeartbeats 4000000
theorem emod_tmod (a m : Int) (hm : 0 < m) : a % m = if a.tmod m < 0 then a.tmod m + m else a.tmod m := by
 rw [Int.emod_eq_tmod]
 have hb := Int.emod_nonneg a (show m ≠ 0 by omega)
 have ht := Int.tmod_lt_of_pos a hm
 by_cases h0 : 0 ≤ a
 ·have := Int.tmod_nonneg m h0
  rw [if_pos (.inl h0), if_neg (by omega)]; omega
 ·by_cases hd : m ∣ a
  ·rw [if_pos (.inr hd), Int.tmod_eq_zero_of_dvd hd]; simp
  ·have hneg : a.tmod m < 0 := by
    have h2 := Int.emod_eq_tmod (a := a) (b := m)
    rw [if_neg (by rintro (h | h); exact h0 h; exact hd h)] at h2
    have h3 := Int.emod_lt_of_pos a hm
    have : (m.natAbs : Int) = m := by omega
    omega
   rw [if_neg (by rintro (h | h); exact h0 h; exact hd h), if_pos hneg]
   omega
theorem and31 (a : Nat) (ha : a < 18446744073709551616) : Go.bits .and .u64 (a : Int) 2147483647 = ((a % 2147483648 : Nat) : Int) := by
 have := bits_nat .and Nat.land (.inl ⟨rfl, rfl⟩) a 2147483647 ha (by omega) .u64 (.inl rfl)
 have e : Nat.land a 2147483647 = a % 2147483648 := Nat.and_two_pow_sub_one_eq_mod a 31
 rw [e] at this
 exact this.trans (wrapn (by omega))
theorem and30 (a : Nat) (ha : a < 18446744073709551616) : Go.bits .and .u64 (a : Int) 1073741823 = ((a % 1073741824 : Nat) : Int) := by
 have := bits_nat .and Nat.land (.inl ⟨rfl, rfl⟩) a 1073741823 ha (by omega) .u64 (.inl rfl)
 have e : Nat.land a 1073741823 = a % 1073741824 := Nat.and_two_pow_sub_one_eq_mod a 30
 rw [e] at this
 exact this.trans (wrapn (by omega))
theorem wrapi {n : Nat} (h : n < 9223372036854775808) : IntKind.i64.wrap (n : Int) = (n : Int) := wrap64 (by omega) (by omega)
theorem mul_parts31 (x0 x1 y0 y1 : Nat) : (x1 * 2147483648 + x0) * (y1 * 2147483648 + y0) = x1 * y1 * 4611686018427387904 + (x1 * y0 + x0 * y1) * 2147483648 + x0 * y0 := by
 grind
theorem rmod_c (a m : Int) (hm : 0 < m) (hm' : m < 4611686018427387904) (ha : -9223372036854775808 ≤ a ∧ a ≤ 9223372036854775807) : AC Tryz.prog 272 [.it .i64 a, .it .i64 m] [] (.it .i64 (a % m)) [] := by
 refine AC.enter [] [] Tryz.func272 rfl (by decide) (by decide) (Nat.le_of_ble_eq_true rfl) (by kernel_rfl) ?_; simp only [eraseC, eraseO, List.map_cons, List.map_nil, List.map_toArray, List.getElem?_toArray, List.getElem?_cons_zero, List.getElem?_cons_succ, Option.bind_some, Option.bind_none, List.append_eq, List.cons_append, List.nil_append]
 have h1 := emod_tmod a m hm
 have h2 : -m ≤ a.tmod m ∧ a.tmod m < m := by
  have hb := Int.emod_nonneg a (show m ≠ 0 by omega)
  have hc := Int.emod_lt_of_pos a hm
  have ht := Int.tmod_lt_of_pos a hm
  split at h1 <;> omega
 have hm0 : m ≠ 0 := by omega
 obtain ⟨t, ht⟩ : ∃ t, a.tmod m = t := ⟨_, rfl⟩
 rw [ht] at h1 h2
 rw [h1]
 by_cases h0 : t < 0
 ·rw [if_pos h0]
  refine runf (an @ht @hm0) ?_
  exact er0
 ·rw [if_neg h0]
  refine runf (an @ht @hm0) ?_
  exact er0
theorem rparts_c (a b : Nat) (ha : a < 2305843009213693952) (hb : b < 2305843009213693952) : AC Tryz.prog 274 [.it .i64 a, .it .i64 b] [] (.tup [.it .u64 ((a / 2147483648 * (b / 2147483648) : Nat) : Int), .it .u64 ((a / 2147483648 * (b % 2147483648) + a % 2147483648 * (b / 2147483648) : Nat) : Int), .it .u64 ((a % 2147483648 * (b % 2147483648) : Nat) : Int)]) [] := by
 refine AC.enter [] [] Tryz.func274 rfl (by decide) (by decide) (Nat.le_of_ble_eq_true rfl) (by kernel_rfl) ?_; simp only [eraseC, eraseO, List.map_cons, List.map_nil, List.map_toArray, List.getElem?_toArray, List.getElem?_cons_zero, List.getElem?_cons_succ, Option.bind_some, Option.bind_none, List.append_eq, List.cons_append, List.nil_append]
 have wa := wrapn (n := a) (by omega)
 have wb := wrapn (n := b) (by omega)
 have hx0 := and31 a (by omega)
 have hy0 := and31 b (by omega)
 have hx1 := shr_lit a 31 31 rfl (by omega)
 have hy1 := shr_lit b 31 31 rfl (by omega)
 rw [show (2 : Nat) ^ 31 = 2147483648 from rfl] at hx1 hy1
 have b0 : a % 2147483648 ≤ 2147483647 := by omega
 have b1 : a / 2147483648 ≤ 1073741823 := by omega
 have b2 : b % 2147483648 ≤ 2147483647 := by omega
 have b3 : b / 2147483648 ≤ 1073741823 := by omega
 generalize a % 2147483648 = x0 at *
 generalize a / 2147483648 = x1 at *
 generalize b % 2147483648 = y0 at *
 generalize b / 2147483648 = y1 at *
 have p00 : x0 * y0 ≤ 2147483647 * 2147483647 := Nat.mul_le_mul b0 b2
 have p10 : x1 * y0 ≤ 1073741823 * 2147483647 := Nat.mul_le_mul b1 b2
 have p01 : x0 * y1 ≤ 2147483647 * 1073741823 := Nat.mul_le_mul b0 b3
 have p11 : x1 * y1 ≤ 1073741823 * 1073741823 := Nat.mul_le_mul b1 b3
 have c00 : ((x0 : Int) * (y0 : Int)) = ((x0 * y0 : Nat) : Int) := by push_cast; rfl
 have c10 : ((x1 : Int) * (y0 : Int)) = ((x1 * y0 : Nat) : Int) := by push_cast; rfl
 have c01 : ((x0 : Int) * (y1 : Int)) = ((x0 * y1 : Nat) : Int) := by push_cast; rfl
 have c11 : ((x1 : Int) * (y1 : Int)) = ((x1 * y1 : Nat) : Int) := by push_cast; rfl
 generalize x0 * y0 = q00 at *
 generalize x1 * y0 = q10 at *
 generalize x0 * y1 = q01 at *
 generalize x1 * y1 = q11 at *
 have w00 : IntKind.u64.wrap (q00 : Int) = (q00 : Int) := wrapn (by omega)
 have w10 : IntKind.u64.wrap (q10 : Int) = (q10 : Int) := wrapn (by omega)
 have w01 : IntKind.u64.wrap (q01 : Int) = (q01 : Int) := wrapn (by omega)
 have w11 : IntKind.u64.wrap (q11 : Int) = (q11 : Int) := wrapn (by omega)
 have ws : IntKind.u64.wrap ((q10 : Int) + (q01 : Int)) = ((q10 + q01 : Nat) : Int) := by rw [wrapu]; omega
 refine runf (an @wa (an @wb (an @hx0 (an @hy0 (an @hx1 (an @hy1 (an @c00 (an @c10 (an @c01 (an @c11 (an @w00 (an @w10 (an @w01 (an @w11 @ws)))))))))))))) ?_
 exact er0
theorem rmul_c (a b : Int) (ha : -9223372036854775808 ≤ a ∧ a ≤ 9223372036854775807) (hb : -9223372036854775808 ≤ b ∧ b ≤ 9223372036854775807) : AC Tryz.prog 273 [.it .i64 a, .it .i64 b] [] (.it .i64 (mulI a b : Nat)) [] := by
 refine AC.enter [272, 274] [] Tryz.func273 rfl (by decide) (by decide) (Nat.le_of_ble_eq_true rfl) (by kernel_rfl) ?_; simp only [eraseC, eraseO, List.map_cons, List.map_nil, List.map_toArray, List.getElem?_toArray, List.getElem?_cons_zero, List.getElem?_cons_succ, Option.bind_some, Option.bind_none, List.append_eq, List.cons_append, List.nil_append]
 unfold mulI
 have a1 := Int.emod_nonneg a (show (2305843009213693951 : Int) ≠ 0 by omega)
 have a2 := Int.emod_lt_of_pos a (show (0 : Int) < 2305843009213693951 by omega)
 have b1 := Int.emod_nonneg b (show (2305843009213693951 : Int) ≠ 0 by omega)
 have b2 := Int.emod_lt_of_pos b (show (0 : Int) < 2305843009213693951 by omega)
 obtain ⟨x, hx⟩ := Int.eq_ofNat_of_zero_le a1
 obtain ⟨y, hy⟩ := Int.eq_ofNat_of_zero_le b1
 have ra := rmod_c a 2305843009213693951 (by omega) (by omega) ha
 have rb := rmod_c b 2305843009213693951 (by omega) (by omega) hb
 rw [hx] at ra a1 a2 ⊢
 rw [hy] at rb b1 b2 ⊢
 rw [Int.toNat_natCast, Int.toNat_natCast]
 have hm := rparts_c x y (by omega) (by omega)
 have hxy : x * y = x / 2147483648 * (y / 2147483648) * 4611686018427387904 + (x / 2147483648 * (y % 2147483648) + x % 2147483648 * (y / 2147483648)) * 2147483648 + x % 2147483648 * (y % 2147483648) := by
  rw [← mul_parts31, Nat.div_add_mod', Nat.div_add_mod']
 have d0 : x % 2147483648 ≤ 2147483647 := by omega
 have d1 : x / 2147483648 ≤ 1073741823 := by omega
 have d2 : y % 2147483648 ≤ 2147483647 := by omega
 have d3 : y / 2147483648 ≤ 1073741823 := by omega
 generalize x % 2147483648 = x0 at *
 generalize x / 2147483648 = x1 at *
 generalize y % 2147483648 = y0 at *
 generalize y / 2147483648 = y1 at *
 have p00 : x0 * y0 ≤ 2147483647 * 2147483647 := Nat.mul_le_mul d0 d2
 have p10 : x1 * y0 ≤ 1073741823 * 2147483647 := Nat.mul_le_mul d1 d2
 have p01 : x0 * y1 ≤ 2147483647 * 1073741823 := Nat.mul_le_mul d0 d3
 have p11 : x1 * y1 ≤ 1073741823 * 1073741823 := Nat.mul_le_mul d1 d3
 have hmid : x1 * y0 + x0 * y1 ≤ 4611686018427387904 := by omega
 generalize x1 * y0 + x0 * y1 = md at *
 generalize x1 * y1 = hi at *
 generalize x0 * y0 = lo at *
 generalize x * y = xy at *
 have k1 := shr_lit md 30 30 rfl (by omega)
 rw [show (2 : Nat) ^ 30 = 1073741824 from rfl] at k1
 have k2 := and30 md (by omega)
 have k3 := shl_lit (md % 1073741824) 31 31 rfl (by omega)
 have e3 : md % 1073741824 * 2 ^ 31 % 18446744073709551616 = md % 1073741824 * 2147483648 := by omega
 rw [e3] at k3
 have k4 : IntKind.u64.wrap (2 * (hi : Int)) = ((2 * hi : Nat) : Int) := by rw [wrapu]; omega
 have k5 : IntKind.u64.wrap (((2 * hi : Nat) : Int) + ((md / 1073741824 : Nat) : Int)) = ((2 * hi + md / 1073741824 : Nat) : Int) := by rw [wrapu]; omega
 have k6 : IntKind.u64.wrap (((2 * hi + md / 1073741824 : Nat) : Int) + ((md % 1073741824 * 2147483648 : Nat) : Int)) = ((2 * hi + md / 1073741824 + md % 1073741824 * 2147483648 : Nat) : Int) := by rw [wrapu]; omega
 have k7 : IntKind.u64.wrap (((2 * hi + md / 1073741824 + md % 1073741824 * 2147483648 : Nat) : Int) + (lo : Int)) = ((2 * hi + md / 1073741824 + md % 1073741824 * 2147483648 + lo : Nat) : Int) := by rw [wrapu]; omega
 have k8 : ((2 * hi + md / 1073741824 + md % 1073741824 * 2147483648 + lo : Nat) : Int).tmod 2305843009213693951 = ((xy % 2305843009213693951 : Nat) : Int) := by
  rw [Int.tmod_eq_emod_of_nonneg (by omega)]; omega
 have k9 : IntKind.i64.wrap ((xy % 2305843009213693951 : Nat) : Int) = ((xy % 2305843009213693951 : Nat) : Int) := wrapi (by omega)
 refine run ?_
 refine cp ra ?_
 refine run ?_
 refine cp rb ?_
 refine run ?_
 refine cp hm ?_
 refine runf (an @k1 (an @k2 (an @k3 (an @k4 (an @k5 (an @k6 (an @k7 (an @k8 @k9)))))))) ?_
 exact er0
theorem rexp_c (a e : Int) (ha : -9223372036854775808 ≤ a ∧ a ≤ 9223372036854775807) (he : -9223372036854775808 ≤ e ∧ e ≤ 9223372036854775807) : AC Tryz.prog 200 [.it .i64 a, .it .i64 e] [] (.it .i64 (expI a e : Nat)) [] := by
 refine AC.enter [272, 273] [] Tryz.func200 rfl (by decide) (by decide) (Nat.le_of_ble_eq_true rfl) (by kernel_rfl) ?_; simp only [eraseC, eraseO, List.map_cons, List.map_nil, List.map_toArray, List.getElem?_toArray, List.getElem?_cons_zero, List.getElem?_cons_succ, Option.bind_some, Option.bind_none, List.append_eq, List.cons_append, List.nil_append]
 unfold expI powm
 have a1 := Int.emod_nonneg a (show (2305843009213693951 : Int) ≠ 0 by omega)
 have a2 := Int.emod_lt_of_pos a (show (0 : Int) < 2305843009213693951 by omega)
 have ra := rmod_c a 2305843009213693951 (by omega) (by omega) ha
 obtain ⟨x, hx⟩ := Int.eq_ofNat_of_zero_le a1
 rw [hx] at ra a1 a2 ⊢
 rw [Int.toNat_natCast, Nat.mod_eq_of_lt (show x < 2305843009213693951 by omega)]
 have hE : ∃ n : Nat, n < 9223372036854775808 ∧ ((if e < 0 then (e % 2305843009213693950).toNat else e.toNat) = n) ∧ (if e < 0 then e % 2305843009213693950 else e) = (n : Int) := by
  split
  ·exact ⟨(e % 2305843009213693950).toNat, by omega, rfl, by omega⟩
  ·exact ⟨e.toNat, by omega, rfl, by omega⟩
 obtain ⟨n, hn, en, eI⟩ := hE
 rw [en]
 have hp0 : (n : Nat) < 2 ^ 63 := by omega
 by_cases hneg : e < 0
 focus
  rw [if_pos hneg] at eI
  have re := rmod_c e 2305843009213693950 (by omega) (by omega) he
  rw [eI] at re
  refine run ?_
  refine cp re ?_
  refine run ?_
  refine cp ra ?_
  refine run ?_
 rotate_left
 focus
  rw [if_neg hneg] at eI
  subst eI
  refine run ?_
  refine cp ra ?_
  refine run ?_
 all_goals
  refine loop_mk (fun m e S => S = [] ∧ m ≤ 64 ∧ ∃ q r p : Nat, e 1 = .it .i64 (q : Int) ∧ e 5 = .it .i64 (r : Int) ∧ e 6 = .it .i64 (p : Int) ∧ q < 2 ^ m ∧ q < 9223372036854775808 ∧ r < 2305843009213693951 ∧ p < 2305843009213693951 ∧ powF 64 1 x n = powF m r p q) 64
   ⟨rfl, by omega, n, 1, x, (by first | rfl | (simp only [↓upd_apply, ↓put_some, ↓reduceIte, Nat.reduceEqDiff, ↓argEnv_zero, ↓argEnv_succ, *]; done)), (by first | rfl | (simp only [↓upd_apply, ↓put_some, ↓reduceIte, Nat.reduceEqDiff, ↓argEnv_zero, ↓argEnv_succ, *]; done)), (by first | rfl | (simp only [↓upd_apply, ↓put_some, ↓reduceIte, Nat.reduceEqDiff, ↓argEnv_zero, ↓argEnv_succ, *]; done)), by omega, by omega, by decide, by omega, rfl⟩ ?_
  rintro m e S ⟨rfl, hm, q, r, p, s1, s5, s6, hq, hq2, hr, hp, hpow⟩
  by_cases h0 : q = 0
  ·subst h0
   rw [powF_zero] at hpow
   rw [hpow]
   refine runf (an @s1 (an @s5 @s6)) ?_
   exact er0
  obtain ⟨m', rfl⟩ : ∃ m', m = m' + 1 := ⟨m - 1, by
   cases m with
   | zero => simp at hq; omega
   | succ m => omega⟩
  have hq0 : (0 : Int) < (q : Int) := by omega
  rw [powF_succ m' r p q] at hpow
  have hq' : q / 2 < 2 ^ m' := by rw [Nat.pow_succ] at hq; omega
  have mpp := rmul_c (p : Int) (p : Int) (by omega) (by omega)
  have mrp := rmul_c (r : Int) (p : Int) (by omega) (by omega)
  rw [mulI_nat hp hp] at mpp
  rw [mulI_nat hr hp] at mrp
  have lpp : p * p % 2305843009213693951 < 2305843009213693951 := Nat.mod_lt _ (by decide)
  have lrp : r * p % 2305843009213693951 < 2305843009213693951 := Nat.mod_lt _ (by decide)
  have t1 : (q : Int).tmod 2 = ((q % 2 : Nat) : Int) := by rw [Int.tmod_eq_emod_of_nonneg (by omega)]; omega
  have t2 : (q : Int).tdiv 2 = ((q / 2 : Nat) : Int) := by rw [Int.tdiv_eq_ediv_of_nonneg (by omega)]; omega
  by_cases ho : q % 2 = 1
  ·rw [if_pos ho] at hpow
   have hoI : ((q % 2 : Nat) : Int) = 1 := by omega
   refine runf (an @s1 (an @s5 (an @s6 (an @t1 (an @t2 (an @hoI @hq0)))))) ?_
   refine cp mrp ?_
   refine runf (an @s1 (an @s5 (an @s6 @t2))) ?_
   refine cp mpp ?_
   refine runf (an @s1 (an @s5 (an @s6 @t2))) ?_
   exact round_mk m' (by omega) ⟨rfl, by omega, q / 2, r * p % 2305843009213693951, p * p % 2305843009213693951, (by first | rfl | (simp only [↓upd_apply, ↓put_some, ↓reduceIte, Nat.reduceEqDiff, ↓argEnv_zero, ↓argEnv_succ, *]; done)), (by first | rfl | (simp only [↓upd_apply, ↓put_some, ↓reduceIte, Nat.reduceEqDiff, ↓argEnv_zero, ↓argEnv_succ, *]; done)), (by first | rfl | (simp only [↓upd_apply, ↓put_some, ↓reduceIte, Nat.reduceEqDiff, ↓argEnv_zero, ↓argEnv_succ, *]; done)), hq', by omega, lrp, lpp, hpow⟩
  ·rw [if_neg ho] at hpow
   have hoI : ((q % 2 : Nat) : Int) = 0 := by omega
   refine runf (an @s1 (an @s5 (an @s6 (an @t1 (an @t2 (an @hoI @hq0)))))) ?_
   refine cp mpp ?_
   refine runf (an @s1 (an @s5 (an @s6 @t2))) ?_
   exact round_mk m' (by omega) ⟨rfl, by omega, q / 2, r, p * p % 2305843009213693951, (by first | rfl | (simp only [↓upd_apply, ↓put_some, ↓reduceIte, Nat.reduceEqDiff, ↓argEnv_zero, ↓argEnv_succ, *]; done)), (by first | rfl | (simp only [↓upd_apply, ↓put_some, ↓reduceIte, Nat.reduceEqDiff, ↓argEnv_zero, ↓argEnv_succ, *]; done)), (by first | rfl | (simp only [↓upd_apply, ↓put_some, ↓reduceIte, Nat.reduceEqDiff, ↓argEnv_zero, ↓argEnv_succ, *]; done)), hq', by omega, hr, lpp, hpow⟩
theorem rsnum_c (l : By) (h : l.length ≤ 140737488355328) : AC Tryz.prog 297 [.st l] [] (.it .i64 (Sm.num l : Nat)) [] := by
 refine AC.ofBelow (by kernel_rfl) fun w g cargs ht hargs => ?_
 rw [lrel_st hargs]
 refine (rnum_any ⟨l.toArray⟩ w (by simp [ByteArray.size]; omega)).mono ?_
 rintro r w' ⟨rfl, rfl⟩
 exact ⟨_, rfl, fun g' => .it g' _ _, Below.refl _ _⟩
theorem rhash_c (l : By) (h : l.length ≤ 1000000000) : AC Tryz.prog 271 [.st l] [] (.it .i64 (Sg.hash l : Nat)) [] := by
 refine AC.enter [146, 297] [] Tryz.func271 rfl (by decide) (by decide) (Nat.le_of_ble_eq_true rfl) (by kernel_rfl) ?_; simp only [eraseC, eraseO, List.map_cons, List.map_nil, List.map_toArray, List.getElem?_toArray, List.getElem?_cons_zero, List.getElem?_cons_succ, Option.bind_some, Option.bind_none, List.append_eq, List.cons_append, List.nil_append]
 have hs : (Sm.sha l).length ≤ 140737488355328 := by show 32 ≤ _; omega
 refine run ?_
 refine cp (rsha_c l (by omega)) ?_
 refine run ?_
 refine cp (rsnum_c _ hs) ?_
 refine run ?_
 exact er0
theorem rchallenge_c (r p : Int) (m : By) (hm : m.length ≤ 100000000) (hr : -9223372036854775808 ≤ r ∧ r ≤ 9223372036854775807) (hp : -9223372036854775808 ≤ p ∧ p ≤ 9223372036854775807) : AC Tryz.prog 199 [.it .i64 r, .it .i64 p, .st m] [] (.it .i64 (challenge r p m : Nat)) [] := by
 refine AC.enter [119, 120, 271] [] Tryz.func199 rfl (by decide) (by decide) (Nat.le_of_ble_eq_true rfl) (by kernel_rfl) ?_; simp only [eraseC, eraseO, List.map_cons, List.map_nil, List.map_toArray, List.getElem?_toArray, List.getElem?_cons_zero, List.getElem?_cons_succ, Option.bind_some, Option.bind_none, List.append_eq, List.cons_append, List.nil_append]
 have tw : (text wSign).length = 5 := by rfl
 have tm := text_le m hm
 have l1 := numI_len r (by omega)
 have l2 := numI_len p (by omega)
 have hlt := hash_lt (text wSign ++ numI r ++ numI p ++ text m)
 unfold challenge
 have hh := rhash_c (text wSign ++ numI r ++ numI p ++ text m) (by simp only [List.length_append]; omega)
 generalize Sg.hash (text wSign ++ numI r ++ numI p ++ text m) = h at *
 have e : (h : Int).tmod 2305843009213693950 = ((h % 2305843009213693950 : Nat) : Int) := by rw [Int.tmod_eq_emod_of_nonneg (by omega)]; omega
 refine run ?_
 refine cp (ftext_c wSign (by simp)) ?_
 refine run ?_
 refine cp (fnum_c r (by omega)) ?_
 refine run ?_
 refine cp (fnum_c p (by omega)) ?_
 refine run ?_
 refine cp (ftext_c m (by omega)) ?_
 refine run ?_
 refine cp hh ?_
 refine runf @e ?_
 exact er0
theorem rcommit_c (p : Int) (s : Sig) (h1 : 1 ≤ p) (h2 : p < 2305843009213693951) (re : 0 ≤ s.e ∧ s.e < 2305843009213693950) (rs : 0 ≤ s.s ∧ s.s < 2305843009213693950) : AC Tryz.prog 206 [.it .i64 p, sigV s] [] (.it .i64 (commit p s : Nat)) [] := by
 refine AC.enter [200, 273] [] Tryz.func206 rfl (by decide) (by decide) (Nat.le_of_ble_eq_true rfl) (by kernel_rfl) ?_; simp only [eraseC, eraseO, List.map_cons, List.map_nil, List.map_toArray, List.getElem?_toArray, List.getElem?_cons_zero, List.getElem?_cons_succ, Option.bind_some, Option.bind_none, List.append_eq, List.cons_append, List.nil_append]
 have x1 := rexp_c 37 s.s (by omega) (by omega)
 have x2 := rexp_c p (2305843009213693950 - s.e) (by omega) (by omega)
 have e1 : expI 37 s.s = powm 37 s.s.toNat := by
  have := expI_nat 37 37 s.s.toNat rfl (by decide)
  rwa [Int.toNat_of_nonneg rs.1] at this
 have e2 : expI p (2305843009213693950 - s.e) = powm p.toNat (2305843009213693950 - s.e).toNat := by
  have := expI_nat p p.toNat (2305843009213693950 - s.e).toNat (by omega) (by omega)
  rwa [Int.toNat_of_nonneg (by omega)] at this
 rw [e1] at x1
 rw [e2] at x2
 have l1 := powm_lt 37 s.s.toNat
 have l2 := powm_lt p.toNat (2305843009213693950 - s.e).toNat
 have hmul := rmul_c (powm 37 s.s.toNat : Nat) (powm p.toNat (2305843009213693950 - s.e).toNat : Nat) (by omega) (by omega)
 rw [mulI_nat l1 l2] at hmul
 change AC _ _ _ _ (.it .i64 ((commit p s : Nat) : Int)) _ at hmul
 generalize commit p s = c at *
 generalize powm 37 s.s.toNat = y1 at *
 generalize powm p.toNat (2305843009213693950 - s.e).toNat = y2 at *
 refine run ?_
 refine cp x1 ?_
 refine run ?_
 refine cp x2 ?_
 refine run ?_
 refine cp hmul ?_
 refine run ?_
 exact er0
theorem rranges_c (p : Int) (s : Sig) : AC Tryz.prog 205 [.it .i64 p, sigV s] [] (.bo (decide (1 ≤ p) && decide (p < 2305843009213693951) && decide (0 ≤ s.e) && decide (s.e < 2305843009213693950) && decide (0 ≤ s.s) && decide (s.s < 2305843009213693950))) [] := by
 refine AC.enter [] [] Tryz.func205 rfl (by decide) (by decide) (Nat.le_of_ble_eq_true rfl) (by kernel_rfl) ?_; simp only [eraseC, eraseO, List.map_cons, List.map_nil, List.map_toArray, List.getElem?_toArray, List.getElem?_cons_zero, List.getElem?_cons_succ, Option.bind_some, Option.bind_none, List.append_eq, List.cons_append, List.nil_append]
 by_cases h1 : 1 ≤ p
 rotate_left
 ·rw [decide_eq_false h1]
  refine run ?_
  exact er0
 by_cases h2 : p < 2305843009213693951
 rotate_left
 ·rw [decide_eq_true h1, decide_eq_false h2]
  refine run ?_
  exact er0
 by_cases h3 : 0 ≤ s.e
 rotate_left
 ·rw [decide_eq_true h1, decide_eq_true h2, decide_eq_false h3]
  refine run ?_
  exact er0
 by_cases h4 : s.e < 2305843009213693950
 rotate_left
 ·rw [decide_eq_true h1, decide_eq_true h2, decide_eq_true h3, decide_eq_false h4]
  refine run ?_
  exact er0
 by_cases h5 : 0 ≤ s.s
 rotate_left
 ·rw [decide_eq_true h1, decide_eq_true h2, decide_eq_true h3, decide_eq_true h4, decide_eq_false h5]
  refine run ?_
  exact er0
 rw [decide_eq_true h1, decide_eq_true h2, decide_eq_true h3, decide_eq_true h4, decide_eq_true h5]
 refine run ?_
 exact er0
theorem rverify_c (p : Int) (m : By) (s : Sig) (hm : m.length ≤ 100000000) : AC Tryz.prog 107 [.it .i64 p, .st m, sigV s] [] (.bo (verify p m s)) [] := by
 refine AC.enter [205, 206, 199] [] Tryz.func107 rfl (by decide) (by decide) (Nat.le_of_ble_eq_true rfl) (by kernel_rfl) ?_; simp only [eraseC, eraseO, List.map_cons, List.map_nil, List.map_toArray, List.getElem?_toArray, List.getElem?_cons_zero, List.getElem?_cons_succ, Option.bind_some, Option.bind_none, List.append_eq, List.cons_append, List.nil_append]
 have hc := rranges_c p s
 unfold verify inOrder
 by_cases h : 1 ≤ p ∧ p < 2305843009213693951 ∧ 0 ≤ s.e ∧ s.e < 2305843009213693950 ∧ 0 ≤ s.s ∧ s.s < 2305843009213693950
 ·obtain ⟨h1, h2, h3, h4, h5, h6⟩ := h
  rw [decide_eq_true h1, decide_eq_true h2, decide_eq_true h3, decide_eq_true h4, decide_eq_true h5, decide_eq_true h6] at hc ⊢
  have hco := rcommit_c p s h1 h2 ⟨h3, h4⟩ ⟨h5, h6⟩
  have hcl : commit p s < 2305843009213693951 := Nat.mod_lt _ (by decide)
  have hch := rchallenge_c (commit p s : Nat) p m hm (by omega) (by omega)
  generalize commit p s = c at *
  generalize challenge (c : Int) p m = h at *
  have hsym : ((h : Int) == s.e) = (s.e == (h : Int)) := by rw [Bool.eq_iff_iff]; simp only [beq_iff_eq]; exact eq_comm
  refine run ?_
  refine cp hc ?_
  refine run ?_
  refine cp hco ?_
  refine run ?_
  refine cp hch ?_
  refine runf @hsym ?_
  exact er0
 ·have e : (decide (1 ≤ p) && decide (p < 2305843009213693951) && decide (0 ≤ s.e) && decide (s.e < 2305843009213693950) && decide (0 ≤ s.s) && decide (s.s < 2305843009213693950)) = false := by
   rw [Bool.eq_false_iff]
   intro hh
   simp only [Bool.and_eq_true, decide_eq_true_eq] at hh
   omega
  have e2 : (decide (1 ≤ p) && decide (p < 2305843009213693951) && (decide (0 ≤ s.e) && decide (s.e < 2305843009213693950)) && (decide (0 ≤ s.s) && decide (s.s < 2305843009213693950)) && decide (s.e = (challenge (commit p s) p m : Nat))) = false := by
   rw [Bool.eq_false_iff]
   intro hh
   simp only [Bool.and_eq_true, decide_eq_true_eq] at hh
   omega
  rw [e] at hc
  rw [e2]
  refine run ?_
  refine cp hc ?_
  refine run ?_
  exact er0
end Go.Proofs.YtaphpbiaoofmkaaGreatDoor.Pe
namespace Go.Proofs.YtaphpbiaoofmkaaGreatDoor.Pe
open Go Go.RowKit Co Sg Ac It
set_option maxRecDepth 100000
set_option maxHeartbeats 4000000
theorem flist_c (l : List By) (hl : l.length ≤ 1000000) (hx : ∀ x ∈ l, x.length ≤ 1000000) : AC Tryz.prog 121 [sls l] [] (.st (list l)) [] := by
 refine AC.enter [120, 119] [] Tryz.func121 rfl (by decide) (by decide) (Nat.le_of_ble_eq_true rfl) (by kernel_rfl) ?_; simp only [eraseC, eraseO, List.map_cons, List.map_nil, List.map_toArray, List.getElem?_toArray, List.getElem?_cons_zero, List.getElem?_cons_succ, Option.bind_some, Option.bind_none, List.append_eq, List.cons_append, List.nil_append]
 have hn9 := num_len9 (n := l.length) (by omega)
 have kn := fnum_c (l.length : Int) (by omega)
 rw [numI_nat] at kn
 refine run ?_
 refine cp kn ?_
 refine run ?_
 refine loop_mk (fun m e S => S = [] ∧ e 0 = sls l ∧ ∃ (k : Nat) (acc : By), e 3 = .st acc ∧ e 4 = .it .i64 (k : Int) ∧ acc = num l.length ++ ((l.take k).map text).flatten ∧ k ≤ l.length ∧ m = l.length - k) l.length
  ⟨rfl, (by first | rfl | (simp only [↓upd_apply, ↓put_some, ↓reduceIte, Nat.reduceEqDiff, ↓argEnv_zero, ↓argEnv_succ, *]; done)), 0, num l.length, (by first | rfl | (simp only [↓upd_apply, ↓put_some, ↓reduceIte, Nat.reduceEqDiff, ↓argEnv_zero, ↓argEnv_succ, *]; done)), (by first | rfl | (simp only [↓upd_apply, ↓put_some, ↓reduceIte, Nat.reduceEqDiff, ↓argEnv_zero, ↓argEnv_succ, *]; done)), by simp, by omega, rfl⟩ ?_
 rintro m e S ⟨rfl, s0, k, acc, s3, s4, hacc, hk, rfl⟩
 by_cases hlt : k < l.length
 ·have ga : l[k]? = some l[k] := List.getElem?_eq_getElem hlt
  have hxk := hx l[k] (List.getElem_mem hlt)
  have htl := text_len hxk
  have hal : acc.length ≤ 1000009000009 := by
   have h1 := fl_len (l := l.take k) fun x h => hx x (List.mem_of_mem_take h)
   have h2 : (l.take k).length * 1000009 ≤ 1000000 * 1000009 := Nat.mul_le_mul_right _ (by rw [List.length_take]; omega)
   rw [hacc, List.length_append]; omega
  have hft := fl_take hlt
  generalize l[k] = x at *
  refine runf (an @s0 (an @s3 (an @s4 @ga))) ?_
  refine cp (ftext_c x (by omega)) ?_
  refine runf (an @s0 (an @s3 @s4)) ?_
  refine round_mk (l.length - (k + 1)) (by omega) ⟨rfl, (by first | rfl | (simp only [↓upd_apply, ↓put_some, ↓reduceIte, Nat.reduceEqDiff, ↓argEnv_zero, ↓argEnv_succ, *]; done)), k + 1, acc ++ text x, (by first | rfl | (simp only [↓upd_apply, ↓put_some, ↓reduceIte, Nat.reduceEqDiff, ↓argEnv_zero, ↓argEnv_succ, *]; done)), (by first | rfl | (simp only [↓upd_apply, ↓put_some, ↓reduceIte, Nat.reduceEqDiff, ↓argEnv_zero, ↓argEnv_succ, *]; done)), by rw [hacc, hft, List.append_assoc], by omega, rfl⟩
 ·obtain rfl : k = l.length := by omega
  rw [List.take_length] at hacc
  refine runf (an @s0 (an @s3 @s4)) ?_
  rw [show list l = acc from hacc.symm]
  exact er0
theorem fclaim_c (c : It.Claim) (h1 : c.actor.length ≤ 1000000 ∧ c.prev.length ≤ 1000000) (h2 : ∀ x ∈ [c.base, c.gen, c.home, c.pub, c.time], -9223372036854775808 ≤ x ∧ x ≤ 9223372036854775807) : AC Tryz.prog 141 [claimV c] [] (.st (claimB c)) [] := by
 refine AC.enter [119, 120] [] Tryz.func141 rfl (by decide) (by decide) (Nat.le_of_ble_eq_true rfl) (by kernel_rfl) ?_; simp only [eraseC, eraseO, List.map_cons, List.map_nil, List.map_toArray, List.getElem?_toArray, List.getElem?_cons_zero, List.getElem?_cons_succ, Option.bind_some, Option.bind_none, List.append_eq, List.cons_append, List.nil_append]
 simp only [List.forall_mem_cons] at h2
 have l1 := text_len h1.1
 have l2 := text_len h1.2
 have n1 := numI_le c.base (by omega)
 have n2 := numI_le c.gen (by omega)
 have n3 := numI_le c.home (by omega)
 have n4 := numI_le c.pub (by omega)
 have n5 := numI_le c.time (by omega)
 unfold claimB
 refine run ?_
 refine cp (ftext_c c.actor (by omega)) ?_
 refine run ?_
 refine cp (fnum_c c.base (by omega)) ?_
 refine run ?_
 refine cp (ftext_c c.prev (by omega)) ?_
 refine run ?_
 refine cp (fnum_c c.gen (by omega)) ?_
 refine run ?_
 refine cp (fnum_c c.home (by omega)) ?_
 refine run ?_
 refine cp (fnum_c c.pub (by omega)) ?_
 refine run ?_
 refine cp (fnum_c c.time (by omega)) ?_
 refine run ?_
 exact er0
theorem fballot_c (b : It.Ballot) (h1 : b.actor.length ≤ 1000000 ∧ b.claim.length ≤ 1000000) (h2 : ∀ x ∈ [b.server, b.gen, b.time], -9223372036854775808 ≤ x ∧ x ≤ 9223372036854775807) : AC Tryz.prog 143 [ballotV b] [] (.st (ballotB b)) [] := by
 refine AC.enter [119, 120] [] Tryz.func143 rfl (by decide) (by decide) (Nat.le_of_ble_eq_true rfl) (by kernel_rfl) ?_; simp only [eraseC, eraseO, List.map_cons, List.map_nil, List.map_toArray, List.getElem?_toArray, List.getElem?_cons_zero, List.getElem?_cons_succ, Option.bind_some, Option.bind_none, List.append_eq, List.cons_append, List.nil_append]
 simp only [List.forall_mem_cons] at h2
 have l1 := text_len h1.1
 have l2 := text_len h1.2
 have n1 := numI_le b.server (by omega)
 have n2 := numI_le b.gen (by omega)
 have n3 := numI_le b.time (by omega)
 unfold ballotB
 refine run ?_
 refine cp (fnum_c b.server (by omega)) ?_
 refine run ?_
 refine cp (ftext_c b.actor (by omega)) ?_
 refine run ?_
 refine cp (fnum_c b.gen (by omega)) ?_
 refine run ?_
 refine cp (ftext_c b.claim (by omega)) ?_
 refine run ?_
 refine cp (fnum_c b.time (by omega)) ?_
 refine run ?_
 exact er0
theorem fdecision_c (d : It.Decision) (h1 : d.actor.length ≤ 1000000 ∧ d.object.length ≤ 1000000 ∧ d.text.length ≤ 1000000) (ht : d.to.length ≤ 1000000 ∧ ∀ s ∈ d.to, s.length ≤ 1000000) (h2 : ∀ x ∈ [d.server, d.number, d.kind, d.n, d.frm, d.til], -9223372036854775808 ≤ x ∧ x ≤ 9223372036854775807) : AC Tryz.prog 144 [decisionV d] [] (.st (decisionB d)) [] := by
 refine AC.enter [119, 120, 121] [] Tryz.func144 rfl (by decide) (by decide) (Nat.le_of_ble_eq_true rfl) (by kernel_rfl) ?_; simp only [eraseC, eraseO, List.map_cons, List.map_nil, List.map_toArray, List.getElem?_toArray, List.getElem?_cons_zero, List.getElem?_cons_succ, Option.bind_some, Option.bind_none, List.append_eq, List.cons_append, List.nil_append]
 simp only [List.forall_mem_cons] at h2
 have l1 := text_len h1.1
 have l2 := text_len h1.2.1
 have l3 := text_len h1.2.2
 have n1 := numI_le d.server (by omega)
 have n2 := numI_le d.number (by omega)
 have n3 := numI_le d.kind (by omega)
 have n4 := numI_le d.n (by omega)
 have n5 := numI_le d.frm (by omega)
 have n6 := numI_le d.til (by omega)
 have ll := list_len ht.1 ht.2
 unfold decisionB
 refine run ?_
 refine cp (fnum_c d.server (by omega)) ?_
 refine run ?_
 refine cp (fnum_c d.number (by omega)) ?_
 refine run ?_
 refine cp (fnum_c d.kind (by omega)) ?_
 refine run ?_
 refine cp (ftext_c d.actor (by omega)) ?_
 refine run ?_
 refine cp (ftext_c d.object (by omega)) ?_
 refine run ?_
 refine cp (ftext_c d.text (by omega)) ?_
 refine run ?_
 refine cp (flist_c d.to ht.1 ht.2) ?_
 refine run ?_
 refine cp (fnum_c d.n (by omega)) ?_
 refine run ?_
 refine cp (fnum_c d.frm (by omega)) ?_
 refine run ?_
 refine cp (fnum_c d.til (by omega)) ?_
 refine run ?_
 exact er0
end Go.Proofs.YtaphpbiaoofmkaaGreatDoor.Pe
end
section
namespace Go.Proofs.YtaphpbiaoofmkaaGreatDoor.Pe
open Go Go.RowKit Co
set_option maxRecDepth 100000
set_option maxHeartbeats 4000000
def val : By → Nat
 | [] => 0
 | d :: r => d.toNat % 128 + 128 * val r
end Go.Proofs.YtaphpbiaoofmkaaGreatDoor.Pe
end
section
namespace Go.Proofs.YtaphpbiaoofmkaaGreatDoor.Pe
open Go Go.RowKit Co Sg Ac
set_option maxRecDepth 100000
set_option maxHeartbeats 4000000
theorem less_tri : ∀ (x y : By), (!Op.bytesLess x y) = (Op.bytesLess y x || y == x)
 | [], [] => rfl
 | _ :: _, [] => rfl
 | [], _ :: _ => rfl
 | a :: x, b :: y => by
  have ih := less_tri x y
  rw [Op.bytesLess, Op.bytesLess]
  by_cases h : a = b
  ·subst h
   have h0 : ¬ a < a := by rw [UInt8.lt_iff_toNat_lt]; omega
   have hb : (a == a) = true := beq_self_eq_true a
   rw [decide_eq_false h0, hb, show ((a :: y == a :: x) : Bool) = (y == x) from by simp]
   simpa using ih
  ·have h1 : (a == b) = false := by simpa using h
   have h2 : (b == a) = false := by simpa using fun e : b = a => h e.symm
   have h3 : ((b :: y == a :: x) : Bool) = false := by simpa using fun e : b = a => absurd e.symm h
   rw [h1, h2, h3]
   by_cases h4 : a < b
   ·have h5 : ¬ b < a := by rw [UInt8.lt_iff_toNat_lt] at *; omega
    simp [h4, h5]
   ·have h5 : b < a := by
     rw [UInt8.lt_iff_toNat_lt] at *
     have : a.toNat ≠ b.toNat := fun e => h (UInt8.toNat_inj.1 e)
     omega
    simp [h4, h5]
theorem fin_c (b l h : Nat) : AC Tryz.prog 226 [.it .u8 b, .it .u8 l, .it .u8 h] [] (.bo (decide (l ≤ b) && decide (b ≤ h))) [] := by
 refine AC.enter [] [] Tryz.func226 rfl (by decide) (by decide) (Nat.le_of_ble_eq_true rfl) (by kernel_rfl) ?_; simp only [eraseC, eraseO, List.map_cons, List.map_nil, List.map_toArray, List.getElem?_toArray, List.getElem?_cons_zero, List.getElem?_cons_succ, Option.bind_some, Option.bind_none, List.append_eq, List.cons_append, List.nil_append]
 by_cases h1 : l ≤ b
 rotate_left
 ·have h1' : ¬ (l : Int) ≤ (b : Int) := by omega
  rw [decide_eq_false h1]
  refine runf @h1' ?_
  exact er0
 by_cases h2 : b ≤ h
 ·have h1' : (l : Int) ≤ (b : Int) := by omega
  have h2' : (b : Int) ≤ (h : Int) := by omega
  rw [decide_eq_true h1, decide_eq_true h2]
  refine runf (an @h1' @h2') ?_
  exact er0
 ·have h1' : (l : Int) ≤ (b : Int) := by omega
  have h2' : ¬ (b : Int) ≤ (h : Int) := by omega
  rw [decide_eq_true h1, decide_eq_false h2]
  refine runf (an @h1' @h2') ?_
  exact er0
theorem fidright_c (s : By) (hs : s.length ≤ 140737488355328) : AC Tryz.prog 113 [.st s] [] (.bo (idR s)) [] := by
 refine AC.enter [226] [] Tryz.func113 rfl (by decide) (by decide) (Nat.le_of_ble_eq_true rfl) (by kernel_rfl) ?_; simp only [eraseC, eraseO, List.map_cons, List.map_nil, List.map_toArray, List.getElem?_toArray, List.getElem?_cons_zero, List.getElem?_cons_succ, Option.bind_some, Option.bind_none, List.append_eq, List.cons_append, List.nil_append]
 unfold idR
 refine run ?_
 refine loop_mk (fun m e S => S = [] ∧ e 0 = .st s ∧ ∃ k : Nat, e 3 = .it .i64 (k : Int) ∧ k ≤ s.length ∧ (s.take k).all hexc = true ∧ m = s.length - k) s.length ⟨rfl, (by first | rfl | (simp only [↓upd_apply, ↓put_some, ↓reduceIte, Nat.reduceEqDiff, ↓argEnv_zero, ↓argEnv_succ, *]; done)), 0, (by first | rfl | (simp only [↓upd_apply, ↓put_some, ↓reduceIte, Nat.reduceEqDiff, ↓argEnv_zero, ↓argEnv_succ, *]; done)), by omega, rfl, rfl⟩ ?_
 rintro m e S ⟨rfl, s0, k, s3, hk, hall, rfl⟩
 by_cases hlt : k < s.length
 rotate_left
 ·obtain rfl : k = s.length := by omega
  rw [List.take_length] at hall
  rw [hall]
  by_cases h16 : s.length = 16
  ·have h16' : (s.length : Int) = 16 := by omega
   rw [decide_eq_true h16]
   refine runf (an @s0 (an @s3 @h16')) ?_
   exact er0
  ·have h16' : ¬ (s.length : Int) = 16 := by omega
   rw [decide_eq_false h16]
   refine runf (an @s0 (an @s3 @h16')) ?_
   exact er0
 have hg : s[k]? = some s[k] := List.getElem?_eq_getElem hlt
 have hstep : s.take (k + 1) = s.take k ++ [s[k]] := List.take_succ_eq_append_getElem hlt
 have hbad : hexc s[k] = false → s.all hexc = false := fun h => List.all_eq_false.2 ⟨s[k], List.getElem_mem hlt, by simp [h]⟩
 generalize s[k] = b at *
 have hu : u8 b = .it .u8 (b.toNat : Int) := rfl
 have k1 := fin_c b.toNat 48 57
 have k2 := fin_c b.toNat 97 102
 have hx : hexc b = ((decide (48 ≤ b.toNat) && decide (b.toNat ≤ 57)) || (decide (97 ≤ b.toNat) && decide (b.toNat ≤ 102))) := rfl
 generalize (decide (48 ≤ b.toNat) && decide (b.toNat ≤ 57)) = c1 at *
 generalize (decide (97 ≤ b.toNat) && decide (b.toNat ≤ 102)) = c2 at *
 refine runf (an @s0 (an @s3 (an @hg @hu))) ?_
 refine cp k1 ?_
 cases c1 with
 | true =>
  refine runf (an @s0 (an @s3 (an @hg @hu))) ?_
  exact round_mk (s.length - (k + 1)) (by omega) ⟨rfl, (by first | rfl | (simp only [↓upd_apply, ↓put_some, ↓reduceIte, Nat.reduceEqDiff, ↓argEnv_zero, ↓argEnv_succ, *]; done)), k + 1, (by first | rfl | (simp only [↓upd_apply, ↓put_some, ↓reduceIte, Nat.reduceEqDiff, ↓argEnv_zero, ↓argEnv_succ, *]; done)), by omega, by rw [hstep, List.all_append, hall]; simp [hx], rfl⟩
 | false =>
  refine runf (an @s0 (an @s3 (an @hg @hu))) ?_
  refine cp k2 ?_
  cases c2 with
  | true =>
   refine runf (an @s0 (an @s3 (an @hg @hu))) ?_
   exact round_mk (s.length - (k + 1)) (by omega) ⟨rfl, (by first | rfl | (simp only [↓upd_apply, ↓put_some, ↓reduceIte, Nat.reduceEqDiff, ↓argEnv_zero, ↓argEnv_succ, *]; done)), k + 1, (by first | rfl | (simp only [↓upd_apply, ↓put_some, ↓reduceIte, Nat.reduceEqDiff, ↓argEnv_zero, ↓argEnv_succ, *]; done)), by omega, by rw [hstep, List.all_append, hall]; simp [hx], rfl⟩
  | false =>
   rw [hbad (by rw [hx]; rfl), Bool.and_false]
   refine runf (an @s0 (an @s3 (an @hg @hu))) ?_
   exact er0
theorem fname_c (s : By) (hs : s.length ≤ 140737488355328) : AC Tryz.prog 228 [.st s] [] (.bo (nameR s)) [] := by
 refine AC.enter [226] [] Tryz.func228 rfl (by decide) (by decide) (Nat.le_of_ble_eq_true rfl) (by kernel_rfl) ?_; simp only [eraseC, eraseO, List.map_cons, List.map_nil, List.map_toArray, List.getElem?_toArray, List.getElem?_cons_zero, List.getElem?_cons_succ, Option.bind_some, Option.bind_none, List.append_eq, List.cons_append, List.nil_append]
 refine run ?_
 refine loop_mk (fun m e S => S = [] ∧ e 0 = .st s ∧ ∃ k : Nat, e 3 = .it .i64 (k : Int) ∧ k ≤ s.length ∧ (∀ j (hj : j < s.length), j < k → (if j = 0 then letter s[j] else namec s[j]) = true) ∧ m = s.length - k) s.length ⟨rfl, (by first | rfl | (simp only [↓upd_apply, ↓put_some, ↓reduceIte, Nat.reduceEqDiff, ↓argEnv_zero, ↓argEnv_succ, *]; done)), 0, (by first | rfl | (simp only [↓upd_apply, ↓put_some, ↓reduceIte, Nat.reduceEqDiff, ↓argEnv_zero, ↓argEnv_succ, *]; done)), by omega, fun j _ h => absurd h (Nat.not_lt_zero _), rfl⟩ ?_
 rintro m e S ⟨rfl, s0, k, s3, hk, hall, rfl⟩
 by_cases hlt : k < s.length
 rotate_left
 ·obtain rfl : k = s.length := by omega
  by_cases h1 : 1 ≤ s.length
  rotate_left
  ·have h1' : ¬ (1 : Int) ≤ (s.length : Int) := by omega
   obtain rfl : s = [] := List.eq_nil_of_length_eq_zero (by omega)
   refine runf (an @s0 (an @s3 @h1')) ?_
   exact er0
  have h1' : (1 : Int) ≤ (s.length : Int) := by omega
  by_cases h2 : s.length ≤ 24
  ·have h2' : (s.length : Int) ≤ 24 := by omega
   rw [nameR_true (by omega) h2 fun j hj => hall j hj hj]
   refine runf (an @s0 (an @s3 (an @h1' @h2'))) ?_
   exact er0
  ·have h2' : ¬ (s.length : Int) ≤ 24 := by omega
   rw [nameR_long (by omega)]
   refine runf (an @s0 (an @s3 (an @h1' @h2'))) ?_
   exact er0
 have hg : s[k]? = some s[k] := List.getElem?_eq_getElem hlt
 have hbad : (if k = 0 then letter s[k] else namec s[k]) = false → nameR s = false := nameR_false hlt
 have hgood : (if k = 0 then letter s[k] else namec s[k]) = true → ∀ j (hj : j < s.length), j < k + 1 → (if j = 0 then letter s[j] else namec s[j]) = true := fun h j hj hjk => by
  by_cases e : j = k
  ·subst e; exact h
  ·exact hall j hj (by omega)
 generalize s[k] = b at *
 have hu : u8 b = .it .u8 (b.toNat : Int) := rfl
 have k1 := fin_c b.toNat 97 122
 have k2 := fin_c b.toNat 48 57
 have hx : letter b = (decide (97 ≤ b.toNat) && decide (b.toNat ≤ 122)) := rfl
 have hy : namec b = (letter b || (decide (48 ≤ b.toNat) && decide (b.toNat ≤ 57)) || decide (b.toNat = 95)) := rfl
 rw [← hx] at k1
 clear hx
 generalize (decide (48 ≤ b.toNat) && decide (b.toNat ≤ 57)) = c2 at *
 refine runf (an @s0 (an @s3 (an @hg @hu))) ?_
 refine cp k1 ?_
 cases hl : letter b with
 | true =>
  rw [hl] at hy hgood
  refine runf (an @s0 (an @s3 (an @hg @hu))) ?_
  exact round_mk (s.length - (k + 1)) (by omega) ⟨rfl, (by first | rfl | (simp only [↓upd_apply, ↓put_some, ↓reduceIte, Nat.reduceEqDiff, ↓argEnv_zero, ↓argEnv_succ, *]; done)), k + 1, (by first | rfl | (simp only [↓upd_apply, ↓put_some, ↓reduceIte, Nat.reduceEqDiff, ↓argEnv_zero, ↓argEnv_succ, *]; done)), by omega, hgood (by rw [hy]; simp), rfl⟩
 | false =>
  rw [hl] at hy hbad hgood
  by_cases h0 : k = 0
  ·subst h0
   rw [hbad (by simp)]
   refine runf (an @s0 (an @s3 (an @hg @hu))) ?_
   exact er0
  have h0' : ¬ (k : Int) = 0 := by omega
  rw [if_neg h0] at hbad hgood
  cases c2 with
  | true =>
   refine runf (an @s0 (an @s3 (an @hg (an @hu @h0')))) ?_
   refine cp k2 ?_
   refine runf (an @s0 (an @s3 (an @hg @hu))) ?_
   exact round_mk (s.length - (k + 1)) (by omega) ⟨rfl, (by first | rfl | (simp only [↓upd_apply, ↓put_some, ↓reduceIte, Nat.reduceEqDiff, ↓argEnv_zero, ↓argEnv_succ, *]; done)), k + 1, (by first | rfl | (simp only [↓upd_apply, ↓put_some, ↓reduceIte, Nat.reduceEqDiff, ↓argEnv_zero, ↓argEnv_succ, *]; done)), by omega, hgood (by rw [hy]; simp), rfl⟩
  | false =>
   by_cases h95 : b.toNat = 95
   ·have e95 : ((b.toNat : Int) != 95) = false := by rw [h95]; rfl
    refine runf (an @s0 (an @s3 (an @hg (an @hu @h0')))) ?_
    refine cp k2 ?_
    refine runf (an @s0 (an @s3 (an @hg (an @hu @e95)))) ?_
    exact round_mk (s.length - (k + 1)) (by omega) ⟨rfl, (by first | rfl | (simp only [↓upd_apply, ↓put_some, ↓reduceIte, Nat.reduceEqDiff, ↓argEnv_zero, ↓argEnv_succ, *]; done)), k + 1, (by first | rfl | (simp only [↓upd_apply, ↓put_some, ↓reduceIte, Nat.reduceEqDiff, ↓argEnv_zero, ↓argEnv_succ, *]; done)), by omega, hgood (by rw [hy, h95]; rfl), rfl⟩
   ·have e95 : ((b.toNat : Int) != 95) = true := bneT (by omega)
    rw [hbad (by rw [hy, decide_eq_false h95]; rfl)]
    refine runf (an @s0 (an @s3 (an @hg (an @hu @h0')))) ?_
    refine cp k2 ?_
    refine runf (an @s0 (an @s3 (an @hg (an @hu @e95)))) ?_
    exact er0
theorem fids_c (l : List By) (hs : ∀ s ∈ l, s.length ≤ 140737488355328) (hl : l.length ≤ 140737488355328) : AC Tryz.prog 231 [sls l] [] (.bo (idsR l)) [] := by
 refine AC.enter2 [113] [] Tryz.func231 rfl (by decide) (by decide) (Nat.le_of_ble_eq_true rfl) (by kernel_rfl) ?_; simp only [eraseC, eraseO, List.map_cons, List.map_nil, List.map_toArray, List.getElem?_toArray, List.getElem?_cons_zero, List.getElem?_cons_succ, Option.bind_some, Option.bind_none, List.append_eq, List.cons_append, List.nil_append]
 unfold idsR
 refine run ?_
 refine loop_mk (fun m e S => S = [] ∧ e 0 = sls l ∧ ∃ k : Nat, e 3 = .it .i64 (k : Int) ∧ k ≤ l.length ∧ (∀ j (h : j < l.length), j < k → idR l[j] = true) ∧
  (∀ j (h : j + 1 < l.length), j + 1 < k → (Op.bytesLess l[j + 1] l[j] || l[j + 1] == l[j]) = false) ∧ m = l.length - k) l.length ⟨rfl, (by first | rfl | (simp only [↓upd_apply, ↓put_some, ↓reduceIte, Nat.reduceEqDiff, ↓argEnv_zero, ↓argEnv_succ, *]; done)), 0, (by first | rfl | (simp only [↓upd_apply, ↓put_some, ↓reduceIte, Nat.reduceEqDiff, ↓argEnv_zero, ↓argEnv_succ, *]; done)), by omega, fun j _ h => absurd h (Nat.not_lt_zero _), fun j _ h => absurd h (Nat.not_lt_zero _), rfl⟩ ?_
 rintro m e S ⟨rfl, s0, k, s3, hk, hid, hasc, rfl⟩
 by_cases hlt : k < l.length
 rotate_left
 ·obtain rfl : k = l.length := by omega
  have h1 : l.all idR = true := List.all_eq_true.2 fun x hx => by
   obtain ⟨j, hj, rfl⟩ := List.getElem_of_mem hx
   exact hid j hj hj
  rw [h1, asc_true fun j h => hasc j h h]
  by_cases h64 : l.length ≤ 64
  ·have h64' : (l.length : Int) ≤ 64 := by omega
   rw [decide_eq_true h64]
   refine runf (an @s0 (an @s3 @h64')) ?_
   exact er0
  ·have h64' : ¬ (l.length : Int) ≤ 64 := by omega
   rw [decide_eq_false h64]
   refine runf (an @s0 (an @s3 @h64')) ?_
   exact er0
 have hg : l[k]? = some l[k] := List.getElem?_eq_getElem hlt
 have hsk := hs l[k] (List.getElem_mem hlt)
 have ki := fidright_c l[k] hsk
 cases hb : idR l[k] with
 | false =>
  have : l.all idR = false := List.all_eq_false.2 ⟨l[k], List.getElem_mem hlt, by simp [hb]⟩
  rw [this, Bool.and_false, Bool.false_and]
  rw [hb] at ki
  refine runf (an @s0 (an @s3 @hg)) ?_
  refine cp ki ?_
  refine runf (an @s0 (an @s3 @hg)) ?_
  exact er0
 | true =>
  rw [hb] at ki
  have hid' : ∀ j (h : j < l.length), j < k + 1 → idR l[j] = true := fun j h hj => by
   by_cases e : j = k
   ·subst e; exact hb
   ·exact hid j h (by omega)
  cases k with
  | zero =>
   refine runf (an @s0 (an @s3 @hg)) ?_
   refine cp ki ?_
   refine runf (an @s0 (an @s3 @hg)) ?_
   exact round_mk (l.length - 1) (by omega) ⟨rfl, (by first | rfl | (simp only [↓upd_apply, ↓put_some, ↓reduceIte, Nat.reduceEqDiff, ↓argEnv_zero, ↓argEnv_succ, *]; done)), 1, (by first | rfl | (simp only [↓upd_apply, ↓put_some, ↓reduceIte, Nat.reduceEqDiff, ↓argEnv_zero, ↓argEnv_succ, *]; done)), by omega, hid', fun j _ h => by omega, rfl⟩
  | succ k =>
   have hg' : l[k]? = some l[k] := List.getElem?_eq_getElem (by omega)
   have hc : ((k + 1 : Nat) : Int) - 1 = (k : Int) := by omega
   have hpos : (0 : Int) < ((k + 1 : Nat) : Int) := by omega
   cases hcmp : (Op.bytesLess l[k + 1] l[k] || l[k + 1] == l[k]) with
   | true =>
    have hcm : Op.bytesLess l[k] l[k + 1] = false := by
     have := less_tri l[k] l[k + 1]
     rw [hcmp] at this
     simpa using this
    rw [asc_false (j := k) hlt hcmp, Bool.and_false]
    refine runf (an @s0 (an @s3 @hg)) ?_
    refine cp ki ?_
    refine runf (an @s0 (an @s3 (an @hg (an @hg' (an @hc (an @hcm @hpos)))))) ?_
    exact er0
   | false =>
    have hcm : Op.bytesLess l[k] l[k + 1] = true := by
     have := less_tri l[k] l[k + 1]
     rw [hcmp] at this
     simpa using this
    refine runf (an @s0 (an @s3 @hg)) ?_
    refine cp ki ?_
    refine runf (an @s0 (an @s3 (an @hg (an @hg' (an @hc (an @hcm @hpos)))))) ?_
    exact round_mk (l.length - (k + 1 + 1)) (by omega) ⟨rfl, (by first | rfl | (simp only [↓upd_apply, ↓put_some, ↓reduceIte, Nat.reduceEqDiff, ↓argEnv_zero, ↓argEnv_succ, *]; done)), k + 1 + 1, (by first | rfl | (simp only [↓upd_apply, ↓put_some, ↓reduceIte, Nat.reduceEqDiff, ↓argEnv_zero, ↓argEnv_succ, *]; done)), by omega, hid', fun j h hj => by
     by_cases e : j = k
     ·subst e; exact hcmp
     ·exact hasc j h (by omega), rfl⟩
end Go.Proofs.YtaphpbiaoofmkaaGreatDoor.Pe
end
section
namespace Go.Proofs.YtaphpbiaoofmkaaGreatDoor.Pe
open Go Go.RowKit Co Sg Ac
set_option maxRecDepth 100000
set_option maxHeartbeats 4000000
theorem pubF (n : Int) : pub n = (decide (1 ≤ n) && decide (n < 2305843009213693951)) := by
 unfold pub wi
 rw [show decide (n ≤ 2305843009213693950) = decide (n < 2305843009213693951) by rw [Bool.eq_iff_iff]; simp only [decide_eq_true_eq]; omega]
theorem fpub_c (n : Int) : AC Tryz.prog 227 [.it .i64 n] [] (.bo (pub n)) [] := by
 refine AC.enter2 [] [] Tryz.func227 rfl (by decide) (by decide) (Nat.le_of_ble_eq_true rfl) (by kernel_rfl) ?_; simp only [eraseC, eraseO, List.map_cons, List.map_nil, List.map_toArray, List.getElem?_toArray, List.getElem?_cons_zero, List.getElem?_cons_succ, Option.bind_some, Option.bind_none, List.append_eq, List.cons_append, List.nil_append]
 rw [pubF]
 by_cases h : 1 ≤ n
 ·rw [decide_eq_true h]
  refine run ?_
  exact er0
 ·rw [decide_eq_false h]
  refine run ?_
  exact er0
theorem fboxed_c (b : Box) : AC Tryz.prog 280 [boxV b] [] (.bo (sealedB b)) [] := by
 refine AC.enter2 [] [] Tryz.func280 rfl (by decide) (by decide) (Nat.le_of_ble_eq_true rfl) (by kernel_rfl) ?_; simp only [eraseC, eraseO, List.map_cons, List.map_nil, List.map_toArray, List.getElem?_toArray, List.getElem?_cons_zero, List.getElem?_cons_succ, Option.bind_some, Option.bind_none, List.append_eq, List.cons_append, List.nil_append]
 unfold sealedB
 rw [short_eq]
 by_cases h1 : b.nonce.length = 32
 ·rw [decide_eq_true h1]
  by_cases h2 : b.tag.length = 16
  ·rw [decide_eq_true h2]
   refine run ?_
   exact er0
  ·rw [decide_eq_false h2]
   refine run ?_
   exact er0
 ·rw [decide_eq_false h1]
  refine run ?_
  exact er0
theorem fempty_c (b : Box) : AC Tryz.prog 279 [boxV b] [] (.bo (decide (b = box0))) [] := by
 refine AC.enter2 [] [] Tryz.func279 rfl (by decide) (by decide) (Nat.le_of_ble_eq_true rfl) (by kernel_rfl) ?_; simp only [eraseC, eraseO, List.map_cons, List.map_nil, List.map_toArray, List.getElem?_toArray, List.getElem?_cons_zero, List.getElem?_cons_succ, Option.bind_some, Option.bind_none, List.append_eq, List.cons_append, List.nil_append]
 rw [box0_eq]
 cases h1 : (b.nonce == []) with
 | false =>
  refine runf @h1 ?_
  exact er0
 | true =>
  cases h2 : (b.data == []) with
  | false =>
   refine runf (an @h1 @h2) ?_
   exact er0
  | true =>
   refine runf (an @h1 @h2) ?_
   exact er0
theorem fwrapped_c (a : Ac.Act) (hw : a.wraps.length ≤ 140737488355328) : AC Tryz.prog 233 [actV a] [] (.bo (wrapped a)) [] := by
 refine AC.enter2 [227, 280] [] Tryz.func233 rfl (by decide) (by decide) (Nat.le_of_ble_eq_true rfl) (by kernel_rfl) ?_; simp only [eraseC, eraseO, List.map_cons, List.map_nil, List.map_toArray, List.getElem?_toArray, List.getElem?_cons_zero, List.getElem?_cons_succ, Option.bind_some, Option.bind_none, List.append_eq, List.cons_append, List.nil_append]
 unfold wrapped
 have hsz : allSz 5 (a.wraps.map wrapV) = true := allSz_map 5 wrapV (fun _ => rfl) _
 refine run ?_
 refine loop_mk (fun m e S => e 1 = .ptr 0 0 ∧ ∃ (k : Nat) (T : Store), e 3 = .it .i64 (k : Int) ∧ S = .cells (actL a) :: T ∧ k ≤ a.wraps.length ∧ (∀ j (h : j < a.wraps.length), j < k → wrapR a.wraps[j] = true) ∧ m = a.wraps.length - k) (a.wraps.length)
  ⟨(by first | rfl | (simp only [↓upd_apply, ↓put_some, ↓reduceIte, Nat.reduceEqDiff, ↓argEnv_zero, ↓argEnv_succ, *]; done)), 0, [], (by first | rfl | (simp only [↓upd_apply, ↓put_some, ↓reduceIte, Nat.reduceEqDiff, ↓argEnv_zero, ↓argEnv_succ, *]; done)), rfl, by omega, fun j _ h => absurd h (Nat.not_lt_zero _), rfl⟩ ?_
 rintro m e S ⟨s1, k, T, s3, rfl, hk, hall, rfl⟩
 by_cases hlt : k < a.wraps.length
 rotate_left
 ·obtain rfl : k = a.wraps.length := by omega
  have h1 : a.wraps.all wrapR = true := List.all_eq_true.2 fun x hx => by
   obtain ⟨j, hj, rfl⟩ := List.getElem_of_mem hx
   exact hall j hj hj
  have h2 : decide (a.wraps.length = a.to.length) = ((a.wraps.length : Int) == (a.to.length : Int)) := by
   rw [Bool.eq_iff_iff]
   simp only [decide_eq_true_eq, beq_iff_eq]
   omega
  rw [h1, h2]
  have hx : ¬ ((a.wraps.length : Nat) : Int) < (a.wraps.length : Int) := by omega
  refine runf (an @s1 (an @s3 @hx)) ?_
  exact er0
 have hg : a.wraps[k]? = some a.wraps[k] := List.getElem?_eq_getElem hlt
 have hbad : wrapR a.wraps[k] = false → a.wraps.all wrapR = false := fun h => List.all_eq_false.2 ⟨_, List.getElem_mem hlt, by simp [h]⟩
 have hnext : wrapR a.wraps[k] = true → ∀ j (h : j < a.wraps.length), j < k + 1 → wrapR a.wraps[j] = true := fun hb j h hj => by
  by_cases e : j = k
  ·subst e; exact hb
  ·exact hall j h (by omega)
 generalize a.wraps[k] = x at *
 have hT1 : ∀ y : SObj, (T ++ [y])[T.length]? = some y := fun y => by simp
 have hT2 : ∀ y z : SObj, (T ++ [y]).set T.length z = T ++ [z] := fun y z => by simp
 have hwx : wrapR x = (pub x.to && pub x.eph && sealedB x.box) := rfl
 rw [hwx] at hbad hnext
 refine runf (an @s1 (an @s3 (an @hg (an @hsz (an @hT1 @hT2))))) ?_
 refine cp (fpub_c x.to) ?_
 cases h1 : pub x.to with
 | false =>
  rw [h1] at hbad
  rw [hbad rfl]
  refine runf (an @s1 (an @s3 (an @hT1 @hT2))) ?_
  exact er0
 | true =>
  refine runf (an @s1 (an @s3 (an @hT1 @hT2))) ?_
  refine cp (fpub_c x.eph) ?_
  cases h2 : pub x.eph with
  | false =>
   rw [h1, h2] at hbad
   rw [hbad rfl]
   refine runf (an @s1 (an @s3 (an @hT1 @hT2))) ?_
   exact er0
  | true =>
   refine runf (an @s1 (an @s3 (an @hT1 @hT2))) ?_
   refine cp (fboxed_c x.box) ?_
   cases h3 : sealedB x.box with
   | false =>
    rw [h1, h2, h3] at hbad
    rw [hbad rfl]
    refine runf (an @s1 (an @s3 (an @hT1 @hT2))) ?_
    exact er0
   | true =>
    refine runf (an @s1 (an @s3 (an @hT1 @hT2))) ?_
    exact round_mk (a.wraps.length - (k + 1)) (by omega) ⟨(by first | rfl | (simp only [↓upd_apply, ↓put_some, ↓reduceIte, Nat.reduceEqDiff, ↓argEnv_zero, ↓argEnv_succ, *]; done)), k + 1, T ++ [.cells (wrapV x).cells], (by first | rfl | (simp only [↓upd_apply, ↓put_some, ↓reduceIte, Nat.reduceEqDiff, ↓argEnv_zero, ↓argEnv_succ, *]; done)), rfl, by omega, hnext (by rw [h1, h2, h3]; rfl), rfl⟩
def groupF (a : Ac.Act) : Bool := if a.scope = 2 then nameR a.group else decide (a.group = [])
theorem fgroup_c (a : Ac.Act) (h : a.group.length ≤ 140737488355328) : AC Tryz.prog 232 [actV a] [] (.bo (groupF a)) [] := by
 refine AC.enter2 [228] [] Tryz.func232 rfl (by decide) (by decide) (Nat.le_of_ble_eq_true rfl) (by kernel_rfl) ?_; simp only [eraseC, eraseO, List.map_cons, List.map_nil, List.map_toArray, List.getElem?_toArray, List.getElem?_cons_zero, List.getElem?_cons_succ, Option.bind_some, Option.bind_none, List.append_eq, List.cons_append, List.nil_append]
 unfold groupF
 have hn := nilD
 by_cases h2 : a.scope = 2
 ·rw [if_pos h2]
  refine run ?_
  refine cp (fname_c a.group h) ?_
  refine run ?_
  exact er0
 ·rw [if_neg h2]
  refine runf @hn ?_
  exact er0
def audF (a : Ac.Act) : Bool := idsR a.to && groupF a && (if a.scope = 0 then decide (a.epoch = 0) && short a.text && decide (a.body = box0)
 else if a.scope = 3 then wi a.epoch 0 1073741824 && decide (a.text = []) && sealedB a.body
 else if a.scope = 1 ∨ a.scope = 2 then wi a.epoch 0 1073741824 && decide (a.text = []) && sealedB a.body && decide (a.to = []) else false)
theorem audF_eq (a : Ac.Act) : audF a = audience a := by
 unfold audF audience groupF sealedSc
 by_cases h0 : a.scope = 0
 ·simp only [h0, if_true, show ¬ (0 : Int) = 2 by decide, if_false]
  rw [Bool.eq_iff_iff]; simp only [Bool.and_eq_true]; constructor <;> (intro h; simp only [h, and_self])
 by_cases h3 : a.scope = 3
 ·simp only [h3, show ¬ (3 : Int) = 0 by decide, show ¬ (3 : Int) = 2 by decide, if_false, if_true, or_true, decide_true, Bool.or_true, Bool.true_and]
  rw [Bool.eq_iff_iff]; simp only [Bool.and_eq_true]; constructor <;> (intro h; simp only [h, and_self])
 by_cases h1 : a.scope = 1
 ·simp only [h1, show ¬ (1 : Int) = 0 by decide, show ¬ (1 : Int) = 2 by decide, show ¬ (1 : Int) = 3 by decide, if_false, if_true, true_or, decide_false, Bool.or_false]
  rw [Bool.eq_iff_iff]; simp only [Bool.and_eq_true]; constructor <;> (intro h; simp only [h, and_self])
 by_cases h2 : a.scope = 2
 ·simp only [h2, show ¬ (2 : Int) = 0 by decide, show ¬ (2 : Int) = 3 by decide, if_false, if_true, or_true, decide_false, Bool.or_false]
  rw [Bool.eq_iff_iff]; simp only [Bool.and_eq_true]; constructor <;> (intro h; simp only [h, and_self])
 ·simp only [if_neg h0, if_neg h2, if_neg h3, if_neg (show ¬ (a.scope = 1 ∨ a.scope = 2) from fun h => h.elim h1 h2), if_neg (show ¬ (a.scope = 1 ∨ a.scope = 3) from fun h => h.elim h1 h3), Bool.and_false, Bool.false_and]
theorem faudience_c (a : Ac.Act) (h : Sz a) : AC Tryz.prog 229 [actV a] [] (.bo (audience a)) [] := by
 rw [← audF_eq]
 refine AC.enter2 [231, 232, 279, 280] [] Tryz.func229 rfl (by decide) (by decide) (Nat.le_of_ble_eq_true rfl) (by kernel_rfl) ?_; simp only [eraseC, eraseO, List.map_cons, List.map_nil, List.map_toArray, List.getElem?_toArray, List.getElem?_cons_zero, List.getElem?_cons_succ, Option.bind_some, Option.bind_none, List.append_eq, List.cons_append, List.nil_append]
 unfold audF
 have hn := nilD
 have hl := lenD a.to
 have hs := short_eq a.text
 refine run ?_
 refine cp (fids_c a.to h.tos h.to) ?_
 cases c1 : idsR a.to with
 | false =>
  refine run ?_
  exact er0
 | true =>
 refine run ?_
 refine cp (fgroup_c a h.group) ?_
 cases c2 : groupF a with
 | false =>
  refine run ?_
  exact er0
 | true =>
 by_cases h0 : a.scope = 0
 ·rw [if_pos h0]
  by_cases e1 : a.epoch = 0
  rotate_left
  ·rw [decide_eq_false e1]
   refine run ?_
   exact er0
  rw [decide_eq_true e1, hs]
  cases e2 : decide ((a.text.length : Int) ≤ 500) with
  | false =>
   refine runf @e2 ?_
   exact er0
  | true =>
  refine runf @e2 ?_
  refine cp (fempty_c a.body) ?_
  refine run ?_
  exact er0
 rw [if_neg h0]
 by_cases h3 : a.scope = 3
 ·rw [if_pos h3]
  by_cases e1 : 0 ≤ a.epoch
  rotate_left
  ·rw [show wi a.epoch 0 1073741824 = false by unfold wi; rw [decide_eq_false e1]; rfl]
   refine run ?_
   exact er0
  by_cases e2 : a.epoch ≤ 1073741824
  rotate_left
  ·rw [show wi a.epoch 0 1073741824 = false by unfold wi; rw [decide_eq_false e2, Bool.and_false]]
   refine run ?_
   exact er0
  rw [show wi a.epoch 0 1073741824 = true from wi_iff.2 ⟨e1, e2⟩]
  cases e3 : decide (a.text = []) with
  | false =>
   refine runf (an @hn @e3) ?_
   exact er0
  | true =>
  refine runf (an @hn @e3) ?_
  refine cp (fboxed_c a.body) ?_
  refine run ?_
  exact er0
 rw [if_neg h3]
 by_cases h12 : a.scope = 1 ∨ a.scope = 2
 rotate_left
 ·rw [if_neg h12]
  have n1 : ¬ a.scope = 1 := fun h => h12 (.inl h)
  have n2 : ¬ a.scope = 2 := fun h => h12 (.inr h)
  refine run ?_
  exact er0
 rw [if_pos h12]
 rcases h12 with h12 | h12
 ·skip
  by_cases e1 : 0 ≤ a.epoch
  rotate_left
  ·rw [show wi a.epoch 0 1073741824 = false by unfold wi; rw [decide_eq_false e1]; rfl]
   refine run ?_
   exact er0
  by_cases e2 : a.epoch ≤ 1073741824
  rotate_left
  ·rw [show wi a.epoch 0 1073741824 = false by unfold wi; rw [decide_eq_false e2, Bool.and_false]]
   refine run ?_
   exact er0
  rw [show wi a.epoch 0 1073741824 = true from wi_iff.2 ⟨e1, e2⟩]
  cases e3 : decide (a.text = []) with
  | false =>
   refine runf (an @hn @e3) ?_
   exact er0
  | true =>
  refine runf (an @hn @e3) ?_
  refine cp (fboxed_c a.body) ?_
  cases e4 : sealedB a.body with
  | false =>
   refine run ?_
   exact er0
  | true =>
  refine runf @hl ?_
  exact er0
 ·skip
  by_cases e1 : 0 ≤ a.epoch
  rotate_left
  ·rw [show wi a.epoch 0 1073741824 = false by unfold wi; rw [decide_eq_false e1]; rfl]
   refine run ?_
   exact er0
  by_cases e2 : a.epoch ≤ 1073741824
  rotate_left
  ·rw [show wi a.epoch 0 1073741824 = false by unfold wi; rw [decide_eq_false e2, Bool.and_false]]
   refine run ?_
   exact er0
  rw [show wi a.epoch 0 1073741824 = true from wi_iff.2 ⟨e1, e2⟩]
  cases e3 : decide (a.text = []) with
  | false =>
   refine runf (an @hn @e3) ?_
   exact er0
  | true =>
  refine runf (an @hn @e3) ?_
  refine cp (fboxed_c a.body) ?_
  cases e4 : sealedB a.body with
  | false =>
   refine run ?_
   exact er0
  | true =>
  refine runf @hl ?_
  exact er0
def bareA (a : Ac.Act) : Ac.Act := { a with scope := 0, group := [], to := [], text := [], body := box0, epoch := 0 }
theorem fbare_c (a : Ac.Act) : AC Tryz.prog 230 [actV a] [] (actV (bareA a)) [] := by
 refine AC.enter2 [] [] Tryz.func230 rfl (by decide) (by decide) (Nat.le_of_ble_eq_true rfl) (by kernel_rfl) ?_; simp only [eraseC, eraseO, List.map_cons, List.map_nil, List.map_toArray, List.getElem?_toArray, List.getElem?_cons_zero, List.getElem?_cons_succ, Option.bind_some, Option.bind_none, List.append_eq, List.cons_append, List.nil_append]
 refine run ?_
 exact er0w
def zeroF (a : Ac.Act) : Bool := decide (a.object = []) && decide (a.target = []) && decide (a.scope = 0) && decide (a.group = []) && decide (a.to = []) && decide (a.text = []) && decide (a.body = box0) && decide (a.epoch = 0) && decide (a.wraps = []) && decide (a.n = 0) && decide (a.m = 0)
theorem fzero_c (a : Ac.Act) : AC Tryz.prog 234 [actV a] [] (.bo (zeroF a)) [] := by
 refine AC.enter2 [279] [] Tryz.func234 rfl (by decide) (by decide) (Nat.le_of_ble_eq_true rfl) (by kernel_rfl) ?_; simp only [eraseC, eraseO, List.map_cons, List.map_nil, List.map_toArray, List.getElem?_toArray, List.getElem?_cons_zero, List.getElem?_cons_succ, Option.bind_some, Option.bind_none, List.append_eq, List.cons_append, List.nil_append]
 unfold zeroF
 have hn := nilD
 have hl1 := lenD a.to
 have hl2 := lenD a.wraps
 cases c0 : decide (a.object = []) with
 | false =>
  refine runf (an @hn (an @hl1 (an @hl2 @c0))) ?_
  exact er0
 | true =>
 cases c1 : decide (a.target = []) with
 | false =>
  refine runf (an @hn (an @hl1 (an @hl2 (an @c0 @c1)))) ?_
  exact er0
 | true =>
 by_cases p2 : a.scope = 0
 rotate_left
 ·rw [decide_eq_false p2]
  refine runf (an @hn (an @hl1 (an @hl2 (an @c0 @c1)))) ?_
  exact er0
 rw [decide_eq_true p2]
 cases c3 : decide (a.group = []) with
 | false =>
  refine runf (an @hn (an @hl1 (an @hl2 (an @c0 (an @c1 @c3))))) ?_
  exact er0
 | true =>
 cases c4 : decide (a.to = []) with
 | false =>
  refine runf (an @hn (an @hl1 (an @hl2 (an @c0 (an @c1 (an @c3 @c4)))))) ?_
  exact er0
 | true =>
 cases c5 : decide (a.text = []) with
 | false =>
  refine runf (an @hn (an @hl1 (an @hl2 (an @c0 (an @c1 (an @c3 (an @c4 @c5))))))) ?_
  exact er0
 | true =>
 refine runf (an @hn (an @hl1 (an @hl2 (an @c0 (an @c1 (an @c3 (an @c4 @c5))))))) ?_
 refine cp (fempty_c a.body) ?_
 cases c6 : decide (a.body = box0) with
 | false =>
  refine run ?_
  exact er0
 | true =>
 by_cases p7 : a.epoch = 0
 rotate_left
 ·rw [decide_eq_false p7]
  refine runf (an @hn (an @hl1 (an @hl2 (an @c0 (an @c1 (an @c3 (an @c4 @c5))))))) ?_
  exact er0
 rw [decide_eq_true p7]
 cases c8 : decide (a.wraps = []) with
 | false =>
  refine runf (an @hn (an @hl1 (an @hl2 (an @c0 (an @c1 (an @c3 (an @c4 (an @c5 @c8)))))))) ?_
  exact er0
 | true =>
 by_cases p9 : a.n = 0
 rotate_left
 ·rw [decide_eq_false p9]
  refine runf (an @hn (an @hl1 (an @hl2 (an @c0 (an @c1 (an @c3 (an @c4 (an @c5 @c8)))))))) ?_
  exact er0
 rw [decide_eq_true p9]
 by_cases p10 : a.m = 0
 rotate_left
 ·rw [decide_eq_false p10]
  refine runf (an @hn (an @hl1 (an @hl2 (an @c0 (an @c1 (an @c3 (an @c4 (an @c5 @c8)))))))) ?_
  exact er0
 rw [decide_eq_true p10]
 refine runf (an @hn (an @hl1 (an @hl2 (an @c0 (an @c1 (an @c3 (an @c4 (an @c5 @c8)))))))) ?_
 exact er0
def fitsF (a : Ac.Act) : Bool := match rule a.kind with
 | none => false
 | some r => out a r && r.ok a
theorem right_fits (a : Ac.Act) : Ac.right a = (idR a.author && placed a && wi a.time 0 1099511627776 && sigR a.sig && fitsF a) := by
 unfold Ac.right fitsF
 cases h : rule a.kind with
 | none => rfl
 | some r =>
  have e : decide (Go.bits .andNot .i64 (used a) r.mask = 0) = out a r := mask_eq r _ _ _ _ _ _ _ _ _ _ _
  simp only [e]
theorem wi19 (m : Int) : wi m 0 19 = (decide (0 ≤ m) && decide (m < 20)) := by
 unfold wi
 rw [show decide (m ≤ 19) = decide (m < 20) by rw [Bool.eq_iff_iff]; simp only [decide_eq_true_eq]; omega]
theorem scopeF (a : Ac.Act) : (decide (1 ≤ a.scope) && decide (a.scope ≤ 3) && groupF a) = sealedSc a.scope a.group := by
 unfold groupF sealedSc
 by_cases h2 : a.scope = 2
 ·rw [if_pos h2, if_pos h2, h2]; rfl
 rw [if_neg h2, if_neg h2]
 by_cases h13 : a.scope = 1 ∨ a.scope = 3
 ·rw [if_pos h13, decide_eq_true (show 1 ≤ a.scope by omega), decide_eq_true (show a.scope ≤ 3 by omega)]; rfl
 ·rw [if_neg h13]
  by_cases h1 : 1 ≤ a.scope
  ·rw [decide_eq_false (show ¬ a.scope ≤ 3 by omega), Bool.and_false]; rfl
  ·rw [decide_eq_false h1]; rfl
theorem ffits_c (a : Ac.Act) (h : Sz a) : AC Tryz.prog 114 [actV a] [] (.bo (fitsF a)) [] := by
 refine AC.enter2 [227, 228, 229, 230, 113, 231, 232, 233, 234] [] Tryz.func114 rfl (by decide) (by decide) (Nat.le_of_ble_eq_true rfl) (by kernel_rfl) ?_; simp only [eraseC, eraseO, List.map_cons, List.map_nil, List.map_toArray, List.getElem?_toArray, List.getElem?_cons_zero, List.getElem?_cons_succ, Option.bind_some, Option.bind_none, List.append_eq, List.cons_append, List.nil_append]
 have hn := nilD
 by_cases hr : 0 ≤ a.kind ∧ a.kind ≤ 23
 rotate_left
 ·have hv : fitsF a = false := by
   unfold fitsF
   rw [rule_none (by omega)]
  rw [hv]
  refine run ?_
  exact er0
 have hks : a.kind = 0 ∨ a.kind = 1 ∨ a.kind = 2 ∨ a.kind = 3 ∨ a.kind = 4 ∨ a.kind = 5 ∨ a.kind = 6 ∨ a.kind = 7 ∨ a.kind = 8 ∨ a.kind = 9 ∨ a.kind = 10 ∨ a.kind = 11 ∨ a.kind = 12 ∨ a.kind = 13 ∨ a.kind = 14 ∨ a.kind = 15 ∨ a.kind = 16 ∨ a.kind = 17 ∨ a.kind = 18 ∨ a.kind = 19 ∨ a.kind = 20 ∨ a.kind = 21 ∨ a.kind = 22 ∨ a.kind = 23 := by omega
 rcases hks with hk | hk | hk | hk | hk | hk | hk | hk | hk | hk | hk | hk | hk | hk | hk | hk | hk | hk | hk | hk | hk | hk | hk | hk
 ·have hv : fitsF a = (pub a.n && decide (0 ≤ a.m) && decide (a.m < 20) && nameR a.text && zeroF { a with text := [], n := 0, m := 0 }) := by
   unfold fitsF
   rw [hk]
   show (out a .begin && Ru.ok a .begin) = _
   simp only [out, outB, Ru.ok, home, Ac.grant, Ac.setup, ← scopeF, wi19, zeroF, bareA, decide_true, Bool.and_true, Bool.true_and]
   ac_rfl
  rw [hv]
  refine runf @hn ?_
  refine cp (fpub_c a.n) ?_
  cases c0 : pub a.n with
  | false =>
   refine runf @hn ?_
   refine cp (fname_c a.text h.text) ?_
   refine runf @hn ?_
   exact er0
  | true =>
  by_cases p1 : 0 ≤ a.m
  rotate_left
  ·rw [decide_eq_false p1]
   refine runf @hn ?_
   refine cp (fname_c a.text h.text) ?_
   refine runf @hn ?_
   exact er0
  rw [decide_eq_true p1]
  by_cases p2 : a.m < 20
  rotate_left
  ·rw [decide_eq_false p2]
   refine runf @hn ?_
   refine cp (fname_c a.text h.text) ?_
   refine runf @hn ?_
   exact er0
  rw [decide_eq_true p2]
  refine runf @hn ?_
  refine cp (fname_c a.text h.text) ?_
  cases c3 : nameR a.text with
  | false =>
   refine runf @hn ?_
   exact er0
  | true =>
  refine runf @hn ?_
  refine cp (fzero_c { a with text := [], n := 0, m := 0 }) ?_
  refine runf @hn ?_
  exact er0
 ·have hv : fitsF a = (audience a && zeroF (bareA a)) := by
   unfold fitsF
   rw [hk]
   show (out a .post && Ru.ok a .post) = _
   simp only [out, outB, Ru.ok, home, Ac.grant, Ac.setup, ← scopeF, wi19, wi, zeroF, bareA, decide_true, Bool.and_true, Bool.true_and]
   ac_rfl
  rw [hv]
  refine runf @hn ?_
  refine cp (faudience_c a h) ?_
  cases c0 : audience a with
  | false =>
   refine runf @hn ?_
   refine cp (fbare_c a) ?_
   refine runf @hn ?_
   exact er0
  | true =>
  refine runf @hn ?_
  refine cp (fbare_c a) ?_
  refine runf @hn ?_
  refine cp (fzero_c (bareA a)) ?_
  refine runf @hn ?_
  exact er0
 ·have hv : fitsF a = (audience a && dig a.object && zeroF { bareA a with object := [] }) := by
   unfold fitsF
   rw [hk]
   show (out a .reply && Ru.ok a .reply) = _
   simp only [out, outB, Ru.ok, home, Ac.grant, Ac.setup, ← scopeF, wi19, wi, zeroF, bareA, decide_true, Bool.and_true, Bool.true_and]
   ac_rfl
  rw [hv]
  refine runf @hn ?_
  refine cp (faudience_c a h) ?_
  cases c0 : audience a with
  | false =>
   refine runf @hn ?_
   refine cp (fbare_c a) ?_
   refine runf @hn ?_
   exact er0
  | true =>
  rw [dig_eq]
  cases c1 : ((a.object.length : Int) == 32) with
  | false =>
   refine runf (an @hn @c1) ?_
   refine cp (fbare_c a) ?_
   refine runf (an @hn @c1) ?_
   exact er0
  | true =>
  refine runf (an @hn @c1) ?_
  refine cp (fbare_c a) ?_
  refine runf (an @hn @c1) ?_
  refine cp (fzero_c { bareA a with object := [] }) ?_
  refine runf (an @hn @c1) ?_
  exact er0
 ·have hv : fitsF a = (audience a && dig a.object && zeroF { bareA a with object := [] }) := by
   unfold fitsF
   rw [hk]
   show (out a .reply && Ru.ok a .reply) = _
   simp only [out, outB, Ru.ok, home, Ac.grant, Ac.setup, ← scopeF, wi19, wi, zeroF, bareA, decide_true, Bool.and_true, Bool.true_and]
   ac_rfl
  rw [hv]
  refine runf @hn ?_
  refine cp (faudience_c a h) ?_
  cases c0 : audience a with
  | false =>
   refine runf @hn ?_
   refine cp (fbare_c a) ?_
   refine runf @hn ?_
   exact er0
  | true =>
  rw [dig_eq]
  cases c1 : ((a.object.length : Int) == 32) with
  | false =>
   refine runf (an @hn @c1) ?_
   refine cp (fbare_c a) ?_
   refine runf (an @hn @c1) ?_
   exact er0
  | true =>
  refine runf (an @hn @c1) ?_
  refine cp (fbare_c a) ?_
  refine runf (an @hn @c1) ?_
  refine cp (fzero_c { bareA a with object := [] }) ?_
  refine runf (an @hn @c1) ?_
  exact er0
 ·have hv : fitsF a = (dig a.object && zeroF { a with object := [] }) := by
   unfold fitsF
   rw [hk]
   show (out a .about && Ru.ok a .about) = _
   simp only [out, outB, Ru.ok, home, Ac.grant, Ac.setup, ← scopeF, wi19, wi, zeroF, bareA, decide_true, Bool.and_true, Bool.true_and]
   ac_rfl
  rw [hv]
  rw [dig_eq]
  cases c0 : ((a.object.length : Int) == 32) with
  | false =>
   refine runf (an @hn @c0) ?_
   exact er0
  | true =>
  refine runf (an @hn @c0) ?_
  refine cp (fzero_c { a with object := [] }) ?_
  refine runf (an @hn @c0) ?_
  exact er0
 ·have hv : fitsF a = (dig a.object && zeroF { a with object := [] }) := by
   unfold fitsF
   rw [hk]
   show (out a .about && Ru.ok a .about) = _
   simp only [out, outB, Ru.ok, home, Ac.grant, Ac.setup, ← scopeF, wi19, wi, zeroF, bareA, decide_true, Bool.and_true, Bool.true_and]
   ac_rfl
  rw [hv]
  rw [dig_eq]
  cases c0 : ((a.object.length : Int) == 32) with
  | false =>
   refine runf (an @hn @c0) ?_
   exact er0
  | true =>
  refine runf (an @hn @c0) ?_
  refine cp (fzero_c { a with object := [] }) ?_
  refine runf (an @hn @c0) ?_
  exact er0
 ·have hv : fitsF a = (dig a.object && zeroF { a with object := [] }) := by
   unfold fitsF
   rw [hk]
   show (out a .about && Ru.ok a .about) = _
   simp only [out, outB, Ru.ok, home, Ac.grant, Ac.setup, ← scopeF, wi19, wi, zeroF, bareA, decide_true, Bool.and_true, Bool.true_and]
   ac_rfl
  rw [hv]
  rw [dig_eq]
  cases c0 : ((a.object.length : Int) == 32) with
  | false =>
   refine runf (an @hn @c0) ?_
   exact er0
  | true =>
  refine runf (an @hn @c0) ?_
  refine cp (fzero_c { a with object := [] }) ?_
  refine runf (an @hn @c0) ?_
  exact er0
 ·have hv : fitsF a = (idR a.target && zeroF { a with target := [] }) := by
   unfold fitsF
   rw [hk]
   show (out a .tie && Ru.ok a .tie) = _
   simp only [out, outB, Ru.ok, home, Ac.grant, Ac.setup, ← scopeF, wi19, wi, zeroF, bareA, decide_true, Bool.and_true, Bool.true_and]
   ac_rfl
  rw [hv]
  refine runf @hn ?_
  refine cp (fidright_c a.target h.target) ?_
  cases c0 : idR a.target with
  | false =>
   refine runf @hn ?_
   exact er0
  | true =>
  refine runf @hn ?_
  refine cp (fzero_c { a with target := [] }) ?_
  refine runf @hn ?_
  exact er0
 ·have hv : fitsF a = (idR a.target && zeroF { a with target := [] }) := by
   unfold fitsF
   rw [hk]
   show (out a .tie && Ru.ok a .tie) = _
   simp only [out, outB, Ru.ok, home, Ac.grant, Ac.setup, ← scopeF, wi19, wi, zeroF, bareA, decide_true, Bool.and_true, Bool.true_and]
   ac_rfl
  rw [hv]
  refine runf @hn ?_
  refine cp (fidright_c a.target h.target) ?_
  cases c0 : idR a.target with
  | false =>
   refine runf @hn ?_
   exact er0
  | true =>
  refine runf @hn ?_
  refine cp (fzero_c { a with target := [] }) ?_
  refine runf @hn ?_
  exact er0
 ·have hv : fitsF a = (idR a.target && zeroF { a with target := [] }) := by
   unfold fitsF
   rw [hk]
   show (out a .tie && Ru.ok a .tie) = _
   simp only [out, outB, Ru.ok, home, Ac.grant, Ac.setup, ← scopeF, wi19, wi, zeroF, bareA, decide_true, Bool.and_true, Bool.true_and]
   ac_rfl
  rw [hv]
  refine runf @hn ?_
  refine cp (fidright_c a.target h.target) ?_
  cases c0 : idR a.target with
  | false =>
   refine runf @hn ?_
   exact er0
  | true =>
  refine runf @hn ?_
  refine cp (fzero_c { a with target := [] }) ?_
  refine runf @hn ?_
  exact er0
 ·have hv : fitsF a = (idR a.target && zeroF { a with target := [] }) := by
   unfold fitsF
   rw [hk]
   show (out a .tie && Ru.ok a .tie) = _
   simp only [out, outB, Ru.ok, home, Ac.grant, Ac.setup, ← scopeF, wi19, wi, zeroF, bareA, decide_true, Bool.and_true, Bool.true_and]
   ac_rfl
  rw [hv]
  refine runf @hn ?_
  refine cp (fidright_c a.target h.target) ?_
  cases c0 : idR a.target with
  | false =>
   refine runf @hn ?_
   exact er0
  | true =>
  refine runf @hn ?_
  refine cp (fzero_c { a with target := [] }) ?_
  refine runf @hn ?_
  exact er0
 ·have hv : fitsF a = (idR a.target && zeroF { a with target := [] }) := by
   unfold fitsF
   rw [hk]
   show (out a .tie && Ru.ok a .tie) = _
   simp only [out, outB, Ru.ok, home, Ac.grant, Ac.setup, ← scopeF, wi19, wi, zeroF, bareA, decide_true, Bool.and_true, Bool.true_and]
   ac_rfl
  rw [hv]
  refine runf @hn ?_
  refine cp (fidright_c a.target h.target) ?_
  cases c0 : idR a.target with
  | false =>
   refine runf @hn ?_
   exact er0
  | true =>
  refine runf @hn ?_
  refine cp (fzero_c { a with target := [] }) ?_
  refine runf @hn ?_
  exact er0
 ·have hv : fitsF a = (dig a.object && short a.text && zeroF { a with object := [], text := [] }) := by
   unfold fitsF
   rw [hk]
   show (out a .reason && Ru.ok a .reason) = _
   simp only [out, outB, Ru.ok, home, Ac.grant, Ac.setup, ← scopeF, wi19, wi, zeroF, bareA, decide_true, Bool.and_true, Bool.true_and]
   ac_rfl
  rw [hv]
  rw [dig_eq]
  cases c0 : ((a.object.length : Int) == 32) with
  | false =>
   refine runf (an @hn @c0) ?_
   exact er0
  | true =>
  rw [short_eq]
  cases c1 : decide ((a.text.length : Int) ≤ 500) with
  | false =>
   refine runf (an @hn (an @c0 @c1)) ?_
   exact er0
  | true =>
  refine runf (an @hn (an @c0 @c1)) ?_
  refine cp (fzero_c { a with object := [], text := [] }) ?_
  refine runf (an @hn (an @c0 @c1)) ?_
  exact er0
 ·have hv : fitsF a = (dig a.object && zeroF { a with object := [] }) := by
   unfold fitsF
   rw [hk]
   show (out a .about && Ru.ok a .about) = _
   simp only [out, outB, Ru.ok, home, Ac.grant, Ac.setup, ← scopeF, wi19, wi, zeroF, bareA, decide_true, Bool.and_true, Bool.true_and]
   ac_rfl
  rw [hv]
  rw [dig_eq]
  cases c0 : ((a.object.length : Int) == 32) with
  | false =>
   refine runf (an @hn @c0) ?_
   exact er0
  | true =>
  refine runf (an @hn @c0) ?_
  refine cp (fzero_c { a with object := [] }) ?_
  refine runf (an @hn @c0) ?_
  exact er0
 ·have hv : fitsF a = (audience a && dig a.object && zeroF { bareA a with object := [] }) := by
   unfold fitsF
   rw [hk]
   show (out a .reply && Ru.ok a .reply) = _
   simp only [out, outB, Ru.ok, home, Ac.grant, Ac.setup, ← scopeF, wi19, wi, zeroF, bareA, decide_true, Bool.and_true, Bool.true_and]
   ac_rfl
  rw [hv]
  refine runf @hn ?_
  refine cp (faudience_c a h) ?_
  cases c0 : audience a with
  | false =>
   refine runf @hn ?_
   refine cp (fbare_c a) ?_
   refine runf @hn ?_
   exact er0
  | true =>
  rw [dig_eq]
  cases c1 : ((a.object.length : Int) == 32) with
  | false =>
   refine runf (an @hn @c1) ?_
   refine cp (fbare_c a) ?_
   refine runf (an @hn @c1) ?_
   exact er0
  | true =>
  refine runf (an @hn @c1) ?_
  refine cp (fbare_c a) ?_
  refine runf (an @hn @c1) ?_
  refine cp (fzero_c { bareA a with object := [] }) ?_
  refine runf (an @hn @c1) ?_
  exact er0
 ·have hv : fitsF a = (idsR a.to && nameR a.group && zeroF { a with group := [], to := [] }) := by
   unfold fitsF
   rw [hk]
   show (out a .circle && Ru.ok a .circle) = _
   simp only [out, outB, Ru.ok, home, Ac.grant, Ac.setup, ← scopeF, wi19, wi, zeroF, bareA, decide_true, Bool.and_true, Bool.true_and]
   ac_rfl
  rw [hv]
  refine runf @hn ?_
  refine cp (fids_c a.to h.tos h.to) ?_
  cases c0 : idsR a.to with
  | false =>
   refine runf @hn ?_
   exact er0
  | true =>
  refine runf @hn ?_
  refine cp (fname_c a.group h.group) ?_
  cases c1 : nameR a.group with
  | false =>
   refine runf @hn ?_
   exact er0
  | true =>
  refine runf @hn ?_
  refine cp (fzero_c { a with group := [], to := [] }) ?_
  refine runf @hn ?_
  exact er0
 ·have hv : fitsF a = (idsR a.to && decide (1 ≤ a.scope) && decide (a.scope ≤ 3) && groupF a && decide (0 ≤ a.epoch) && decide (a.epoch ≤ 1073741824) && wrapped a && zeroF { a with scope := 0, group := [], to := [], epoch := 0, wraps := [] }) := by
   unfold fitsF
   rw [hk]
   show (out a .grant && Ru.ok a .grant) = _
   simp only [out, outB, Ru.ok, home, Ac.grant, Ac.setup, ← scopeF, wi19, wi, zeroF, bareA, decide_true, Bool.and_true, Bool.true_and]
   ac_rfl
  rw [hv]
  refine runf @hn ?_
  refine cp (fids_c a.to h.tos h.to) ?_
  cases c0 : idsR a.to with
  | false =>
   refine runf @hn ?_
   exact er0
  | true =>
  by_cases p1 : 1 ≤ a.scope
  rotate_left
  ·rw [decide_eq_false p1]
   refine runf @hn ?_
   exact er0
  rw [decide_eq_true p1]
  by_cases p2 : a.scope ≤ 3
  rotate_left
  ·rw [decide_eq_false p2]
   refine runf @hn ?_
   exact er0
  rw [decide_eq_true p2]
  refine runf @hn ?_
  refine cp (fgroup_c a h.group) ?_
  cases c3 : groupF a with
  | false =>
   refine runf @hn ?_
   exact er0
  | true =>
  by_cases p4 : 0 ≤ a.epoch
  rotate_left
  ·rw [decide_eq_false p4]
   refine runf @hn ?_
   exact er0
  rw [decide_eq_true p4]
  by_cases p5 : a.epoch ≤ 1073741824
  rotate_left
  ·rw [decide_eq_false p5]
   refine runf @hn ?_
   exact er0
  rw [decide_eq_true p5]
  refine runf @hn ?_
  refine cp (fwrapped_c a h.wraps) ?_
  cases c6 : wrapped a with
  | false =>
   refine runf @hn ?_
   exact er0
  | true =>
  refine runf @hn ?_
  refine cp (fzero_c { a with scope := 0, group := [], to := [], epoch := 0, wraps := [] }) ?_
  refine runf @hn ?_
  exact er0
 ·by_cases ho : a.object = []
  ·have hv : fitsF a = (nameR a.text && idR a.target && zeroF { a with text := [], object := [], target := [] }) := by
    unfold fitsF
    rw [hk]
    show (out a .label && Ru.ok a .label) = _
    have hd : dig a.object = false := by unfold dig; rw [ho]; rfl
    simp only [out, outB, Ru.ok, Ac.label, hd, ho, Bool.false_and, Bool.false_or, zeroF, bareA, decide_true, Bool.and_true, Bool.true_and]
    ac_rfl
   rw [hv]
   have hob : (a.object == []) = true := by rw [ho]; rfl
   refine runf (an @hn @hob) ?_
   refine cp (fname_c a.text h.text) ?_
   cases c0 : nameR a.text with
   | false =>
    refine runf (an @hn @hob) ?_
    refine cp (fidright_c a.target h.target) ?_
    refine runf (an @hn @hob) ?_
    exact er0
   | true =>
   refine runf (an @hn @hob) ?_
   refine cp (fidright_c a.target h.target) ?_
   cases c1 : idR a.target with
   | false =>
    refine runf (an @hn @hob) ?_
    exact er0
   | true =>
   refine runf (an @hn @hob) ?_
   refine cp (fzero_c { a with text := [], object := [], target := [] }) ?_
   refine runf (an @hn @hob) ?_
   exact er0
  ·have hv : fitsF a = (nameR a.text && dig a.object && decide (a.target = []) && zeroF { a with text := [], object := [], target := [] }) := by
    unfold fitsF
    rw [hk]
    show (out a .label && Ru.ok a .label) = _
    simp only [out, outB, Ru.ok, Ac.label, decide_eq_false ho, Bool.and_false, Bool.or_false, zeroF, bareA, decide_true, Bool.and_true, Bool.true_and]
    ac_rfl
   rw [hv]
   have hob : (a.object == []) = false := by simpa using ho
   refine runf (an @hn @hob) ?_
   refine cp (fname_c a.text h.text) ?_
   cases c0 : nameR a.text with
   | false =>
    refine runf (an @hn @hob) ?_
    exact er0
   | true =>
   rw [dig_eq]
   cases c1 : ((a.object.length : Int) == 32) with
   | false =>
    refine runf (an @hn (an @hob @c1)) ?_
    exact er0
   | true =>
   cases c2 : decide (a.target = []) with
   | false =>
    refine runf (an @hn (an @hob (an @c1 @c2))) ?_
    exact er0
   | true =>
   refine runf (an @hn (an @hob (an @c1 @c2))) ?_
   refine cp (fzero_c { a with text := [], object := [], target := [] }) ?_
   refine runf (an @hn (an @hob (an @c1 @c2))) ?_
   exact er0
 ·have hv : fitsF a = (pub a.n && decide (0 ≤ a.m) && decide (a.m < 20) && zeroF { a with n := 0, m := 0 }) := by
   unfold fitsF
   rw [hk]
   show (out a .move && Ru.ok a .move) = _
   simp only [out, outB, Ru.ok, home, Ac.grant, Ac.setup, ← scopeF, wi19, zeroF, bareA, decide_true, Bool.and_true, Bool.true_and]
   ac_rfl
  rw [hv]
  refine runf @hn ?_
  refine cp (fpub_c a.n) ?_
  cases c0 : pub a.n with
  | false =>
   refine runf @hn ?_
   exact er0
  | true =>
  by_cases p1 : 0 ≤ a.m
  rotate_left
  ·rw [decide_eq_false p1]
   refine runf @hn ?_
   exact er0
  rw [decide_eq_true p1]
  by_cases p2 : a.m < 20
  rotate_left
  ·rw [decide_eq_false p2]
   refine runf @hn ?_
   exact er0
  rw [decide_eq_true p2]
  refine runf @hn ?_
  refine cp (fzero_c { a with n := 0, m := 0 }) ?_
  refine runf @hn ?_
  exact er0
 ·have hv : fitsF a = (idsR a.to && decide (0 < a.to.length) && wrapped a && decide (1 ≤ a.n) && decide (a.n ≤ (a.to.length : Int)) && pub a.m && zeroF { a with to := [], wraps := [], n := 0, m := 0 }) := by
   unfold fitsF
   rw [hk]
   show (out a .setup && Ru.ok a .setup) = _
   simp only [out, outB, Ru.ok, home, Ac.grant, Ac.setup, ← scopeF, wi19, wi, zeroF, bareA, decide_true, Bool.and_true, Bool.true_and]
   ac_rfl
  rw [hv]
  refine runf @hn ?_
  refine cp (fids_c a.to h.tos h.to) ?_
  cases c0 : idsR a.to with
  | false =>
   refine runf @hn ?_
   exact er0
  | true =>
  by_cases p1 : 0 < a.to.length
  rotate_left
  ·rw [decide_eq_false p1]
   refine runf @hn ?_
   exact er0
  rw [decide_eq_true p1]
  refine runf @hn ?_
  refine cp (fwrapped_c a h.wraps) ?_
  cases c2 : wrapped a with
  | false =>
   refine runf @hn ?_
   exact er0
  | true =>
  by_cases p3 : 1 ≤ a.n
  rotate_left
  ·rw [decide_eq_false p3]
   refine runf @hn ?_
   exact er0
  rw [decide_eq_true p3]
  by_cases p4 : a.n ≤ (a.to.length : Int)
  rotate_left
  ·rw [decide_eq_false p4]
   refine runf @hn ?_
   exact er0
  rw [decide_eq_true p4]
  refine runf @hn ?_
  refine cp (fpub_c a.m) ?_
  cases c5 : pub a.m with
  | false =>
   refine runf @hn ?_
   exact er0
  | true =>
  refine runf @hn ?_
  refine cp (fzero_c { a with to := [], wraps := [], n := 0, m := 0 }) ?_
  refine runf @hn ?_
  exact er0
 ·have hv : fitsF a = (dig a.object && zeroF { a with object := [] }) := by
   unfold fitsF
   rw [hk]
   show (out a .about && Ru.ok a .about) = _
   simp only [out, outB, Ru.ok, home, Ac.grant, Ac.setup, ← scopeF, wi19, wi, zeroF, bareA, decide_true, Bool.and_true, Bool.true_and]
   ac_rfl
  rw [hv]
  rw [dig_eq]
  cases c0 : ((a.object.length : Int) == 32) with
  | false =>
   refine runf (an @hn @c0) ?_
   exact er0
  | true =>
  refine runf (an @hn @c0) ?_
  refine cp (fzero_c { a with object := [] }) ?_
  refine runf (an @hn @c0) ?_
  exact er0
 ·have hv : fitsF a = (dig a.object && short a.text && zeroF { a with object := [], text := [] }) := by
   unfold fitsF
   rw [hk]
   show (out a .reason && Ru.ok a .reason) = _
   simp only [out, outB, Ru.ok, home, Ac.grant, Ac.setup, ← scopeF, wi19, wi, zeroF, bareA, decide_true, Bool.and_true, Bool.true_and]
   ac_rfl
  rw [hv]
  rw [dig_eq]
  cases c0 : ((a.object.length : Int) == 32) with
  | false =>
   refine runf (an @hn @c0) ?_
   exact er0
  | true =>
  rw [short_eq]
  cases c1 : decide ((a.text.length : Int) ≤ 500) with
  | false =>
   refine runf (an @hn (an @c0 @c1)) ?_
   exact er0
  | true =>
  refine runf (an @hn (an @c0 @c1)) ?_
  refine cp (fzero_c { a with object := [], text := [] }) ?_
  refine runf (an @hn (an @c0 @c1)) ?_
  exact er0
 ·have hv : fitsF a = (dig a.object && decide (0 ≤ a.n) && decide (a.n ≤ 1) && zeroF { a with object := [], n := 0 }) := by
   unfold fitsF
   rw [hk]
   show (out a .judge && Ru.ok a .judge) = _
   simp only [out, outB, Ru.ok, home, Ac.grant, Ac.setup, ← scopeF, wi19, wi, zeroF, bareA, decide_true, Bool.and_true, Bool.true_and]
   ac_rfl
  rw [hv]
  rw [dig_eq]
  cases c0 : ((a.object.length : Int) == 32) with
  | false =>
   refine runf (an @hn @c0) ?_
   exact er0
  | true =>
  by_cases p1 : 0 ≤ a.n
  rotate_left
  ·rw [decide_eq_false p1]
   refine runf (an @hn @c0) ?_
   exact er0
  rw [decide_eq_true p1]
  by_cases p2 : a.n ≤ 1
  rotate_left
  ·rw [decide_eq_false p2]
   refine runf (an @hn @c0) ?_
   exact er0
  rw [decide_eq_true p2]
  refine runf (an @hn @c0) ?_
  refine cp (fzero_c { a with object := [], n := 0 }) ?_
  refine runf (an @hn @c0) ?_
  exact er0
 ·have hv : fitsF a = (idR a.target && short a.text && decide (0 ≤ a.n) && decide (a.n ≤ 1099511627776) && zeroF { a with target := [], text := [], n := 0 }) := by
   unfold fitsF
   rw [hk]
   show (out a .list && Ru.ok a .list) = _
   simp only [out, outB, Ru.ok, home, Ac.grant, Ac.setup, ← scopeF, wi19, wi, zeroF, bareA, decide_true, Bool.and_true, Bool.true_and]
   ac_rfl
  rw [hv]
  refine runf @hn ?_
  refine cp (fidright_c a.target h.target) ?_
  cases c0 : idR a.target with
  | false =>
   refine runf @hn ?_
   exact er0
  | true =>
  rw [short_eq]
  cases c1 : decide ((a.text.length : Int) ≤ 500) with
  | false =>
   refine runf (an @hn @c1) ?_
   exact er0
  | true =>
  by_cases p2 : 0 ≤ a.n
  rotate_left
  ·rw [decide_eq_false p2]
   refine runf (an @hn @c1) ?_
   exact er0
  rw [decide_eq_true p2]
  by_cases p3 : a.n ≤ 1099511627776
  rotate_left
  ·rw [decide_eq_false p3]
   refine runf (an @hn @c1) ?_
   exact er0
  rw [decide_eq_true p3]
  refine runf (an @hn @c1) ?_
  refine cp (fzero_c { a with target := [], text := [], n := 0 }) ?_
  refine runf (an @hn @c1) ?_
  exact er0
end Go.Proofs.YtaphpbiaoofmkaaGreatDoor.Pe
end
