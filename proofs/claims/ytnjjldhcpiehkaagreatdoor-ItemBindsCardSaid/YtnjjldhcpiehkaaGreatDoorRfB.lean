/- The reference of layer 4 on plain values: residues, products, powers. -/
import Derived.Test.YtnjjldhcpiehkaaGreatDoorSgW
namespace Go.Proofs.YtnjjldhcpiehkaaGreatDoor.Pe
set_option linter.unusedSectionVars false
set_option linter.unusedVariables false
set_option linter.unusedSimpArgs false
open Go Go.RowKit Co Sg
set_option maxRecDepth 100000
set_option maxHeartbeats 4000000
theorem emod_tmod (a m : Int) (hm : 0 < m) : a % m = if a.tmod m < 0 then a.tmod m + m else a.tmod m := by
  rw [Int.emod_eq_tmod]
  have hb := Int.emod_nonneg a (show m ≠ 0 by omega)
  have ht := Int.tmod_lt_of_pos a hm
  by_cases h0 : 0 ≤ a
  · have := Int.tmod_nonneg m h0
    rw [if_pos (.inl h0), if_neg (by omega)]; omega
  · by_cases hd : m ∣ a
    · rw [if_pos (.inr hd), Int.tmod_eq_zero_of_dvd hd]; simp
    · have hneg : a.tmod m < 0 := by
        have h2 := Int.emod_eq_tmod (a := a) (b := m)
        rw [if_neg (by rintro (h | h); exact h0 h; exact hd h)] at h2
        have h3 := Int.emod_lt_of_pos a hm
        have : (m.natAbs : Int) = m := by omega
        omega
      rw [if_neg (by rintro (h | h); exact h0 h; exact hd h), if_pos hneg]
      omega
theorem and31 (a : Nat) (ha : a < 18446744073709551616) : Go.bits .and .u64 (a : Int) 2147483647 = ((a % 2147483648 : Nat) : Int) := by
  have := bits_nat .and Nat.land (.inl ⟨rfl, rfl⟩) a 2147483647 ha (by omega) .u64 (.inl rfl)
  have e : Nat.land a 2147483647 = a % 2147483648 := Nat.and_two_pow_sub_one_eq_mod a 31
  rw [e] at this
  exact this.trans (wrapn (by omega))
theorem and30 (a : Nat) (ha : a < 18446744073709551616) : Go.bits .and .u64 (a : Int) 1073741823 = ((a % 1073741824 : Nat) : Int) := by
  have := bits_nat .and Nat.land (.inl ⟨rfl, rfl⟩) a 1073741823 ha (by omega) .u64 (.inl rfl)
  have e : Nat.land a 1073741823 = a % 1073741824 := Nat.and_two_pow_sub_one_eq_mod a 30
  rw [e] at this
  exact this.trans (wrapn (by omega))
theorem wrapi {n : Nat} (h : n < 9223372036854775808) : IntKind.i64.wrap (n : Int) = (n : Int) := wrap64 (by omega) (by omega)
theorem mul_parts31 (x0 x1 y0 y1 : Nat) : (x1 * 2147483648 + x0) * (y1 * 2147483648 + y0) = x1 * y1 * 4611686018427387904 + (x1 * y0 + x0 * y1) * 2147483648 + x0 * y0 := by
  grind
theorem rmod_c (a m : Int) (hm : 0 < m) (hm' : m < 4611686018427387904) (ha : -9223372036854775808 ≤ a ∧ a ≤ 9223372036854775807) : AC Tryz.prog 125 [.it .i64 a, .it .i64 m] [] (.it .i64 (a % m)) [] := by
  refine AC.enter [] [] Tryz.func125 rfl (by decide) (by decide) (Nat.le_of_ble_eq_true rfl) (by kernel_rfl) ?_; simp only [eraseC, eraseO, List.map_cons, List.map_nil, List.map_toArray, List.getElem?_toArray, List.getElem?_cons_zero, List.getElem?_cons_succ, Option.bind_some, Option.bind_none, List.append_eq, List.cons_append, List.nil_append]
  have h1 := emod_tmod a m hm
  have h2 : -m ≤ a.tmod m ∧ a.tmod m < m := by
    have hb := Int.emod_nonneg a (show m ≠ 0 by omega)
    have hc := Int.emod_lt_of_pos a hm
    have ht := Int.tmod_lt_of_pos a hm
    split at h1 <;> omega
  have hm0 : m ≠ 0 := by omega
  obtain ⟨t, ht⟩ : ∃ t, a.tmod m = t := ⟨_, rfl⟩
  rw [ht] at h1 h2
  rw [h1]
  by_cases h0 : t < 0
  · rw [if_pos h0]
    refine runf (And.intro @ht @hm0) ?_
    exact er0
  · rw [if_neg h0]
    refine runf (And.intro @ht @hm0) ?_
    exact er0
theorem rparts_c (a b : Nat) (ha : a < 2305843009213693952) (hb : b < 2305843009213693952) : AC Tryz.prog 124 [.it .i64 a, .it .i64 b] [] (.tup [.it .u64 ((a / 2147483648 * (b / 2147483648) : Nat) : Int), .it .u64 ((a / 2147483648 * (b % 2147483648) + a % 2147483648 * (b / 2147483648) : Nat) : Int), .it .u64 ((a % 2147483648 * (b % 2147483648) : Nat) : Int)]) [] := by
  refine AC.enter [] [] Tryz.func124 rfl (by decide) (by decide) (Nat.le_of_ble_eq_true rfl) (by kernel_rfl) ?_; simp only [eraseC, eraseO, List.map_cons, List.map_nil, List.map_toArray, List.getElem?_toArray, List.getElem?_cons_zero, List.getElem?_cons_succ, Option.bind_some, Option.bind_none, List.append_eq, List.cons_append, List.nil_append]
  have wa := wrapn (n := a) (by omega)
  have wb := wrapn (n := b) (by omega)
  have hx0 := and31 a (by omega)
  have hy0 := and31 b (by omega)
  have hx1 := shr_lit a 31 31 rfl (by omega)
  have hy1 := shr_lit b 31 31 rfl (by omega)
  rw [show (2 : Nat) ^ 31 = 2147483648 from rfl] at hx1 hy1
  have b0 : a % 2147483648 ≤ 2147483647 := by omega
  have b1 : a / 2147483648 ≤ 1073741823 := by omega
  have b2 : b % 2147483648 ≤ 2147483647 := by omega
  have b3 : b / 2147483648 ≤ 1073741823 := by omega
  generalize a % 2147483648 = x0 at *
  generalize a / 2147483648 = x1 at *
  generalize b % 2147483648 = y0 at *
  generalize b / 2147483648 = y1 at *
  have p00 : x0 * y0 ≤ 2147483647 * 2147483647 := Nat.mul_le_mul b0 b2
  have p10 : x1 * y0 ≤ 1073741823 * 2147483647 := Nat.mul_le_mul b1 b2
  have p01 : x0 * y1 ≤ 2147483647 * 1073741823 := Nat.mul_le_mul b0 b3
  have p11 : x1 * y1 ≤ 1073741823 * 1073741823 := Nat.mul_le_mul b1 b3
  have c00 : ((x0 : Int) * (y0 : Int)) = ((x0 * y0 : Nat) : Int) := by push_cast; rfl
  have c10 : ((x1 : Int) * (y0 : Int)) = ((x1 * y0 : Nat) : Int) := by push_cast; rfl
  have c01 : ((x0 : Int) * (y1 : Int)) = ((x0 * y1 : Nat) : Int) := by push_cast; rfl
  have c11 : ((x1 : Int) * (y1 : Int)) = ((x1 * y1 : Nat) : Int) := by push_cast; rfl
  generalize x0 * y0 = q00 at *
  generalize x1 * y0 = q10 at *
  generalize x0 * y1 = q01 at *
  generalize x1 * y1 = q11 at *
  have w00 : IntKind.u64.wrap (q00 : Int) = (q00 : Int) := wrapn (by omega)
  have w10 : IntKind.u64.wrap (q10 : Int) = (q10 : Int) := wrapn (by omega)
  have w01 : IntKind.u64.wrap (q01 : Int) = (q01 : Int) := wrapn (by omega)
  have w11 : IntKind.u64.wrap (q11 : Int) = (q11 : Int) := wrapn (by omega)
  have ws : IntKind.u64.wrap ((q10 : Int) + (q01 : Int)) = ((q10 + q01 : Nat) : Int) := by rw [wrapu]; omega
  refine runf (And.intro @wa (And.intro @wb (And.intro @hx0 (And.intro @hy0 (And.intro @hx1 (And.intro @hy1 (And.intro @c00 (And.intro @c10 (And.intro @c01 (And.intro @c11 (And.intro @w00 (And.intro @w10 (And.intro @w01 (And.intro @w11 @ws)))))))))))))) ?_
  exact er0
theorem rmul_c (a b : Int) (ha : -9223372036854775808 ≤ a ∧ a ≤ 9223372036854775807) (hb : -9223372036854775808 ≤ b ∧ b ≤ 9223372036854775807) : AC Tryz.prog 71 [.it .i64 a, .it .i64 b] [] (.it .i64 (mulI a b : Nat)) [] := by
  refine AC.enter [125, 124] [] Tryz.func71 rfl (by decide) (by decide) (Nat.le_of_ble_eq_true rfl) (by kernel_rfl) ?_; simp only [eraseC, eraseO, List.map_cons, List.map_nil, List.map_toArray, List.getElem?_toArray, List.getElem?_cons_zero, List.getElem?_cons_succ, Option.bind_some, Option.bind_none, List.append_eq, List.cons_append, List.nil_append]
  unfold mulI
  have a1 := Int.emod_nonneg a (show (2305843009213693951 : Int) ≠ 0 by omega)
  have a2 := Int.emod_lt_of_pos a (show (0 : Int) < 2305843009213693951 by omega)
  have b1 := Int.emod_nonneg b (show (2305843009213693951 : Int) ≠ 0 by omega)
  have b2 := Int.emod_lt_of_pos b (show (0 : Int) < 2305843009213693951 by omega)
  obtain ⟨x, hx⟩ := Int.eq_ofNat_of_zero_le a1
  obtain ⟨y, hy⟩ := Int.eq_ofNat_of_zero_le b1
  have ra := rmod_c a 2305843009213693951 (by omega) (by omega) ha
  have rb := rmod_c b 2305843009213693951 (by omega) (by omega) hb
  rw [hx] at ra a1 a2 ⊢
  rw [hy] at rb b1 b2 ⊢
  rw [Int.toNat_natCast, Int.toNat_natCast]
  have hm := rparts_c x y (by omega) (by omega)
  have hxy : x * y = x / 2147483648 * (y / 2147483648) * 4611686018427387904 + (x / 2147483648 * (y % 2147483648) + x % 2147483648 * (y / 2147483648)) * 2147483648 + x % 2147483648 * (y % 2147483648) := by
    rw [← mul_parts31, Nat.div_add_mod', Nat.div_add_mod']
  have d0 : x % 2147483648 ≤ 2147483647 := by omega
  have d1 : x / 2147483648 ≤ 1073741823 := by omega
  have d2 : y % 2147483648 ≤ 2147483647 := by omega
  have d3 : y / 2147483648 ≤ 1073741823 := by omega
  generalize x % 2147483648 = x0 at *
  generalize x / 2147483648 = x1 at *
  generalize y % 2147483648 = y0 at *
  generalize y / 2147483648 = y1 at *
  have p00 : x0 * y0 ≤ 2147483647 * 2147483647 := Nat.mul_le_mul d0 d2
  have p10 : x1 * y0 ≤ 1073741823 * 2147483647 := Nat.mul_le_mul d1 d2
  have p01 : x0 * y1 ≤ 2147483647 * 1073741823 := Nat.mul_le_mul d0 d3
  have p11 : x1 * y1 ≤ 1073741823 * 1073741823 := Nat.mul_le_mul d1 d3
  have hmid : x1 * y0 + x0 * y1 ≤ 4611686018427387904 := by omega
  generalize x1 * y0 + x0 * y1 = md at *
  generalize x1 * y1 = hi at *
  generalize x0 * y0 = lo at *
  generalize x * y = xy at *
  have k1 := shr_lit md 30 30 rfl (by omega)
  rw [show (2 : Nat) ^ 30 = 1073741824 from rfl] at k1
  have k2 := and30 md (by omega)
  have k3 := shl_lit (md % 1073741824) 31 31 rfl (by omega)
  have e3 : md % 1073741824 * 2 ^ 31 % 18446744073709551616 = md % 1073741824 * 2147483648 := by omega
  rw [e3] at k3
  have k4 : IntKind.u64.wrap (2 * (hi : Int)) = ((2 * hi : Nat) : Int) := by rw [wrapu]; omega
  have k5 : IntKind.u64.wrap (((2 * hi : Nat) : Int) + ((md / 1073741824 : Nat) : Int)) = ((2 * hi + md / 1073741824 : Nat) : Int) := by rw [wrapu]; omega
  have k6 : IntKind.u64.wrap (((2 * hi + md / 1073741824 : Nat) : Int) + ((md % 1073741824 * 2147483648 : Nat) : Int)) = ((2 * hi + md / 1073741824 + md % 1073741824 * 2147483648 : Nat) : Int) := by rw [wrapu]; omega
  have k7 : IntKind.u64.wrap (((2 * hi + md / 1073741824 + md % 1073741824 * 2147483648 : Nat) : Int) + (lo : Int)) = ((2 * hi + md / 1073741824 + md % 1073741824 * 2147483648 + lo : Nat) : Int) := by rw [wrapu]; omega
  have k8 : ((2 * hi + md / 1073741824 + md % 1073741824 * 2147483648 + lo : Nat) : Int).tmod 2305843009213693951 = ((xy % 2305843009213693951 : Nat) : Int) := by
    rw [Int.tmod_eq_emod_of_nonneg (by omega)]; omega
  have k9 : IntKind.i64.wrap ((xy % 2305843009213693951 : Nat) : Int) = ((xy % 2305843009213693951 : Nat) : Int) := wrapi (by omega)
  refine run ?_
  refine cp ra ?_
  refine run ?_
  refine cp rb ?_
  refine run ?_
  refine cp hm ?_
  refine runf (And.intro @k1 (And.intro @k2 (And.intro @k3 (And.intro @k4 (And.intro @k5 (And.intro @k6 (And.intro @k7 (And.intro @k8 @k9)))))))) ?_
  exact er0
theorem rmulN_c (a b : Int) (ha : -9223372036854775808 ≤ a ∧ a ≤ 9223372036854775807) (hb : -9223372036854775808 ≤ b ∧ b ≤ 9223372036854775807) : AC Tryz.prog 172 [.it .i64 a, .it .i64 b] [] (.it .i64 (mulNI a b : Nat)) [] := by
  refine AC.enter [125, 124] [] Tryz.func172 rfl (by decide) (by decide) (Nat.le_of_ble_eq_true rfl) (by kernel_rfl) ?_; simp only [eraseC, eraseO, List.map_cons, List.map_nil, List.map_toArray, List.getElem?_toArray, List.getElem?_cons_zero, List.getElem?_cons_succ, Option.bind_some, Option.bind_none, List.append_eq, List.cons_append, List.nil_append]
  unfold mulNI
  have a1 := Int.emod_nonneg a (show (2305843009213693950 : Int) ≠ 0 by omega)
  have a2 := Int.emod_lt_of_pos a (show (0 : Int) < 2305843009213693950 by omega)
  have b1 := Int.emod_nonneg b (show (2305843009213693950 : Int) ≠ 0 by omega)
  have b2 := Int.emod_lt_of_pos b (show (0 : Int) < 2305843009213693950 by omega)
  obtain ⟨x, hx⟩ := Int.eq_ofNat_of_zero_le a1
  obtain ⟨y, hy⟩ := Int.eq_ofNat_of_zero_le b1
  have ra := rmod_c a 2305843009213693950 (by omega) (by omega) ha
  have rb := rmod_c b 2305843009213693950 (by omega) (by omega) hb
  rw [hx] at ra a1 a2 ⊢
  rw [hy] at rb b1 b2 ⊢
  rw [Int.toNat_natCast, Int.toNat_natCast]
  have hm := rparts_c x y (by omega) (by omega)
  have hxy : x * y = x / 2147483648 * (y / 2147483648) * 4611686018427387904 + (x / 2147483648 * (y % 2147483648) + x % 2147483648 * (y / 2147483648)) * 2147483648 + x % 2147483648 * (y % 2147483648) := by
    rw [← mul_parts31, Nat.div_add_mod', Nat.div_add_mod']
  have d0 : x % 2147483648 ≤ 2147483647 := by omega
  have d1 : x / 2147483648 ≤ 1073741823 := by omega
  have d2 : y % 2147483648 ≤ 2147483647 := by omega
  have d3 : y / 2147483648 ≤ 1073741823 := by omega
  generalize x % 2147483648 = x0 at *
  generalize x / 2147483648 = x1 at *
  generalize y % 2147483648 = y0 at *
  generalize y / 2147483648 = y1 at *
  have p00 : x0 * y0 ≤ 2147483647 * 2147483647 := Nat.mul_le_mul d0 d2
  have p10 : x1 * y0 ≤ 1073741823 * 2147483647 := Nat.mul_le_mul d1 d2
  have p01 : x0 * y1 ≤ 2147483647 * 1073741823 := Nat.mul_le_mul d0 d3
  have p11 : x1 * y1 ≤ 1073741823 * 1073741823 := Nat.mul_le_mul d1 d3
  have hmid : x1 * y0 + x0 * y1 ≤ 4611686018427387904 := by omega
  generalize x1 * y0 + x0 * y1 = md at *
  generalize x1 * y1 = hi at *
  generalize x0 * y0 = lo at *
  generalize x * y = xy at *
  have k1 := shr_lit md 30 30 rfl (by omega)
  rw [show (2 : Nat) ^ 30 = 1073741824 from rfl] at k1
  have k2 := and30 md (by omega)
  have k3 := shl_lit (md % 1073741824) 31 31 rfl (by omega)
  have e3 : md % 1073741824 * 2 ^ 31 % 18446744073709551616 = md % 1073741824 * 2147483648 := by omega
  rw [e3] at k3
  have k4 : IntKind.u64.wrap (4 * (hi : Int)) = ((4 * hi : Nat) : Int) := by rw [wrapu]; omega
  have k4' : IntKind.u64.wrap (2 * ((md / 1073741824 : Nat) : Int)) = ((2 * (md / 1073741824) : Nat) : Int) := by rw [wrapu]; omega
  have k5 : IntKind.u64.wrap (((4 * hi : Nat) : Int) + ((2 * (md / 1073741824) : Nat) : Int)) = ((4 * hi + 2 * (md / 1073741824) : Nat) : Int) := by rw [wrapu]; omega
  have k6 : IntKind.u64.wrap (((4 * hi + 2 * (md / 1073741824) : Nat) : Int) + ((md % 1073741824 * 2147483648 : Nat) : Int)) = ((4 * hi + 2 * (md / 1073741824) + md % 1073741824 * 2147483648 : Nat) : Int) := by rw [wrapu]; omega
  have k7 : IntKind.u64.wrap (((4 * hi + 2 * (md / 1073741824) + md % 1073741824 * 2147483648 : Nat) : Int) + (lo : Int)) = ((4 * hi + 2 * (md / 1073741824) + md % 1073741824 * 2147483648 + lo : Nat) : Int) := by rw [wrapu]; omega
  have k8 : ((4 * hi + 2 * (md / 1073741824) + md % 1073741824 * 2147483648 + lo : Nat) : Int).tmod 2305843009213693950 = ((xy % 2305843009213693950 : Nat) : Int) := by
    rw [Int.tmod_eq_emod_of_nonneg (by omega)]; omega
  have k9 : IntKind.i64.wrap ((xy % 2305843009213693950 : Nat) : Int) = ((xy % 2305843009213693950 : Nat) : Int) := wrapi (by omega)
  refine run ?_
  refine cp ra ?_
  refine run ?_
  refine cp rb ?_
  refine run ?_
  refine cp hm ?_
  refine runf (And.intro @k1 (And.intro @k2 (And.intro @k3 (And.intro @k4 (And.intro @k4' (And.intro @k5 (And.intro @k6 (And.intro @k7 (And.intro @k8 @k9))))))))) ?_
  exact er0
theorem raddN_c (a b : Int) (ha : -9223372036854775808 ≤ a ∧ a ≤ 9223372036854775807) (hb : -9223372036854775808 ≤ b ∧ b ≤ 9223372036854775807) : AC Tryz.prog 171 [.it .i64 a, .it .i64 b] [] (.it .i64 ((a % 2305843009213693950 + b % 2305843009213693950) % 2305843009213693950)) [] := by
  refine AC.enter [125] [] Tryz.func171 rfl (by decide) (by decide) (Nat.le_of_ble_eq_true rfl) (by kernel_rfl) ?_; simp only [eraseC, eraseO, List.map_cons, List.map_nil, List.map_toArray, List.getElem?_toArray, List.getElem?_cons_zero, List.getElem?_cons_succ, Option.bind_some, Option.bind_none, List.append_eq, List.cons_append, List.nil_append]
  have a1 := Int.emod_nonneg a (show (2305843009213693950 : Int) ≠ 0 by omega)
  have a2 := Int.emod_lt_of_pos a (show (0 : Int) < 2305843009213693950 by omega)
  have b1 := Int.emod_nonneg b (show (2305843009213693950 : Int) ≠ 0 by omega)
  have b2 := Int.emod_lt_of_pos b (show (0 : Int) < 2305843009213693950 by omega)
  refine run ?_
  refine cp (rmod_c a 2305843009213693950 (by omega) (by omega) ha) ?_
  refine run ?_
  refine cp (rmod_c b 2305843009213693950 (by omega) (by omega) hb) ?_
  refine run ?_
  refine cp (rmod_c (a % 2305843009213693950 + b % 2305843009213693950) 2305843009213693950 (by omega) (by omega) (by omega)) ?_
  refine run ?_
  exact er0
theorem rexp_c (a e : Int) (ha : -9223372036854775808 ≤ a ∧ a ≤ 9223372036854775807) (he : -9223372036854775808 ≤ e ∧ e ≤ 9223372036854775807) : AC Tryz.prog 72 [.it .i64 a, .it .i64 e] [] (.it .i64 (expI a e : Nat)) [] := by
  refine AC.enter [125, 71] [] Tryz.func72 rfl (by decide) (by decide) (Nat.le_of_ble_eq_true rfl) (by kernel_rfl) ?_; simp only [eraseC, eraseO, List.map_cons, List.map_nil, List.map_toArray, List.getElem?_toArray, List.getElem?_cons_zero, List.getElem?_cons_succ, Option.bind_some, Option.bind_none, List.append_eq, List.cons_append, List.nil_append]
  unfold expI powm
  have a1 := Int.emod_nonneg a (show (2305843009213693951 : Int) ≠ 0 by omega)
  have a2 := Int.emod_lt_of_pos a (show (0 : Int) < 2305843009213693951 by omega)
  have ra := rmod_c a 2305843009213693951 (by omega) (by omega) ha
  obtain ⟨x, hx⟩ := Int.eq_ofNat_of_zero_le a1
  rw [hx] at ra a1 a2 ⊢
  rw [Int.toNat_natCast, Nat.mod_eq_of_lt (show x < 2305843009213693951 by omega)]
  have hE : ∃ n : Nat, n < 9223372036854775808 ∧ ((if e < 0 then (e % 2305843009213693950).toNat else e.toNat) = n) ∧ (if e < 0 then e % 2305843009213693950 else e) = (n : Int) := by
    split
    · exact ⟨(e % 2305843009213693950).toNat, by omega, rfl, by omega⟩
    · exact ⟨e.toNat, by omega, rfl, by omega⟩
  obtain ⟨n, hn, en, eI⟩ := hE
  rw [en]
  have hp0 : (n : Nat) < 2 ^ 63 := by omega
  by_cases hneg : e < 0
  focus
    rw [if_pos hneg] at eI
    have re := rmod_c e 2305843009213693950 (by omega) (by omega) he
    rw [eI] at re
    refine run ?_
    refine cp re ?_
    refine run ?_
    refine cp ra ?_
    refine run ?_
  rotate_left
  focus
    rw [if_neg hneg] at eI
    subst eI
    refine run ?_
    refine cp ra ?_
    refine run ?_
  all_goals
    refine loop_mk (fun m e S => S = [] ∧ m ≤ 64 ∧ ∃ q r p : Nat, e 1 = .it .i64 (q : Int) ∧ e 5 = .it .i64 (r : Int) ∧ e 6 = .it .i64 (p : Int) ∧ q < 2 ^ m ∧ q < 9223372036854775808 ∧ r < 2305843009213693951 ∧ p < 2305843009213693951 ∧ powF 64 1 x n = powF m r p q) 64
      ⟨rfl, by omega, n, 1, x, (by first | rfl | (simp only [↓upd_apply, ↓put_some, ↓reduceIte, Nat.reduceEqDiff, ↓argEnv_zero, ↓argEnv_succ, *]; done)), (by first | rfl | (simp only [↓upd_apply, ↓put_some, ↓reduceIte, Nat.reduceEqDiff, ↓argEnv_zero, ↓argEnv_succ, *]; done)), (by first | rfl | (simp only [↓upd_apply, ↓put_some, ↓reduceIte, Nat.reduceEqDiff, ↓argEnv_zero, ↓argEnv_succ, *]; done)), by omega, by omega, by decide, by omega, rfl⟩ ?_
    rintro m e S ⟨rfl, hm, q, r, p, s1, s5, s6, hq, hq2, hr, hp, hpow⟩
    by_cases h0 : q = 0
    · subst h0
      rw [powF_zero] at hpow
      rw [hpow]
      refine runf (And.intro @s1 (And.intro @s5 @s6)) ?_
      exact er0
    obtain ⟨m', rfl⟩ : ∃ m', m = m' + 1 := ⟨m - 1, by
      cases m with
      | zero => simp at hq; omega
      | succ m => omega⟩
    have hq0 : (0 : Int) < (q : Int) := by omega
    rw [powF_succ m' r p q] at hpow
    have hq' : q / 2 < 2 ^ m' := by rw [Nat.pow_succ] at hq; omega
    have mpp := rmul_c (p : Int) (p : Int) (by omega) (by omega)
    have mrp := rmul_c (r : Int) (p : Int) (by omega) (by omega)
    rw [mulI_nat hp hp] at mpp
    rw [mulI_nat hr hp] at mrp
    have lpp : p * p % 2305843009213693951 < 2305843009213693951 := Nat.mod_lt _ (by decide)
    have lrp : r * p % 2305843009213693951 < 2305843009213693951 := Nat.mod_lt _ (by decide)
    have t1 : (q : Int).tmod 2 = ((q % 2 : Nat) : Int) := by rw [Int.tmod_eq_emod_of_nonneg (by omega)]; omega
    have t2 : (q : Int).tdiv 2 = ((q / 2 : Nat) : Int) := by rw [Int.tdiv_eq_ediv_of_nonneg (by omega)]; omega
    by_cases ho : q % 2 = 1
    · rw [if_pos ho] at hpow
      have hoI : ((q % 2 : Nat) : Int) = 1 := by omega
      refine runf (And.intro @s1 (And.intro @s5 (And.intro @s6 (And.intro @t1 (And.intro @t2 (And.intro @hoI @hq0)))))) ?_
      refine cp mrp ?_
      refine runf (And.intro @s1 (And.intro @s5 (And.intro @s6 @t2))) ?_
      refine cp mpp ?_
      refine runf (And.intro @s1 (And.intro @s5 (And.intro @s6 @t2))) ?_
      exact round_mk m' (by omega) ⟨rfl, by omega, q / 2, r * p % 2305843009213693951, p * p % 2305843009213693951, (by first | rfl | (simp only [↓upd_apply, ↓put_some, ↓reduceIte, Nat.reduceEqDiff, ↓argEnv_zero, ↓argEnv_succ, *]; done)), (by first | rfl | (simp only [↓upd_apply, ↓put_some, ↓reduceIte, Nat.reduceEqDiff, ↓argEnv_zero, ↓argEnv_succ, *]; done)), (by first | rfl | (simp only [↓upd_apply, ↓put_some, ↓reduceIte, Nat.reduceEqDiff, ↓argEnv_zero, ↓argEnv_succ, *]; done)), hq', by omega, lrp, lpp, hpow⟩
    · rw [if_neg ho] at hpow
      have hoI : ((q % 2 : Nat) : Int) = 0 := by omega
      refine runf (And.intro @s1 (And.intro @s5 (And.intro @s6 (And.intro @t1 (And.intro @t2 (And.intro @hoI @hq0)))))) ?_
      refine cp mpp ?_
      refine runf (And.intro @s1 (And.intro @s5 (And.intro @s6 @t2))) ?_
      exact round_mk m' (by omega) ⟨rfl, by omega, q / 2, r, p * p % 2305843009213693951, (by first | rfl | (simp only [↓upd_apply, ↓put_some, ↓reduceIte, Nat.reduceEqDiff, ↓argEnv_zero, ↓argEnv_succ, *]; done)), (by first | rfl | (simp only [↓upd_apply, ↓put_some, ↓reduceIte, Nat.reduceEqDiff, ↓argEnv_zero, ↓argEnv_succ, *]; done)), (by first | rfl | (simp only [↓upd_apply, ↓put_some, ↓reduceIte, Nat.reduceEqDiff, ↓argEnv_zero, ↓argEnv_succ, *]; done)), hq', by omega, hr, lpp, hpow⟩
end Go.Proofs.YtnjjldhcpiehkaaGreatDoor.Pe
