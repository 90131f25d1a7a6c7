/- Several texts in one, without what this claim does not use (tools/shake.py). -/
import Derived.Test.YtleljbiejeofgaaGreatDoorKa8
import Derived.Laws.Entries
set_option linter.unusedSectionVars false
set_option linter.unusedVariables false
set_option linter.unusedSimpArgs false
section
namespace Go.Proofs.YtleljbiejeofgaaGreatDoor.Pe
open Go
variable [Tab]
set_option maxRecDepth 100000
theorem wrapu {n : Int} : IntKind.u64.wrap n = n % 18446744073709551616 := rfl
theorem wrapn {n : Nat} (h : n < 18446744073709551616) : IntKind.u64.wrap (n : Int) = (n : Int) := by rw [wrapu]; omega
theorem bits_nat (op : BinOp) (f : Nat → Nat → Nat) (hop : (op = .and ∧ f = Nat.land) ∨ (op = .or ∧ f = Nat.lor)) (a b : Nat) (ha : a < 18446744073709551616) (hb : b < 18446744073709551616) (k : IntKind) (hk : k = .u64 ∨ k = .i64) :
  Go.bits op k (a : Int) (b : Int) = k.wrap ((f a b : Nat) : Int) := by
 have h1 : (BitVec.ofInt 64 (a : Int)).toNat = a := by rw [BitVec.ofInt_natCast, BitVec.toNat_ofNat]; exact Nat.mod_eq_of_lt ha
 have h2 : (BitVec.ofInt 64 (b : Int)).toNat = b := by rw [BitVec.ofInt_natCast, BitVec.toNat_ofNat]; exact Nat.mod_eq_of_lt hb
 rcases hop with ⟨rfl, rfl⟩ | ⟨rfl, rfl⟩ <;> rcases hk with rfl | rfl
 ·show IntKind.u64.wrap ((BitVec.ofInt 64 (a : Int) &&& BitVec.ofInt 64 (b : Int)).toNat : Int) = _
  rw [BitVec.toNat_and, h1, h2]; rfl
 ·show IntKind.i64.wrap ((BitVec.ofInt 64 (a : Int) &&& BitVec.ofInt 64 (b : Int)).toNat : Int) = _
  rw [BitVec.toNat_and, h1, h2]; rfl
 ·show IntKind.u64.wrap ((BitVec.ofInt 64 (a : Int) ||| BitVec.ofInt 64 (b : Int)).toNat : Int) = _
  rw [BitVec.toNat_or, h1, h2]; rfl
 ·show IntKind.i64.wrap ((BitVec.ofInt 64 (a : Int) ||| BitVec.ofInt 64 (b : Int)).toNat : Int) = _
  rw [BitVec.toNat_or, h1, h2]; rfl
theorem and_mask (a : Nat) (ha : a < 18446744073709551616) : Go.bits .and .u64 (a : Int) 4294967295 = ((a % 4294967296 : Nat) : Int) := by
 have := bits_nat .and Nat.land (.inl ⟨rfl, rfl⟩) a 4294967295 ha (by omega) .u64 (.inl rfl)
 have e : Nat.land a 4294967295 = a % 4294967296 := Nat.and_two_pow_sub_one_eq_mod a 32
 rw [e] at this
 exact this.trans (wrapn (by omega))
theorem and_one (a : Nat) (ha : a < 9223372036854775808) : Go.bits .and .i64 (a : Int) 1 = ((a % 2 : Nat) : Int) := by
 have := bits_nat .and Nat.land (.inl ⟨rfl, rfl⟩) a 1 (by omega) (by omega) .i64 (.inr rfl)
 have e : Nat.land a 1 = a % 2 := Nat.and_two_pow_sub_one_eq_mod a 1
 rw [e] at this
 exact this.trans (wrap64 (by omega) (by omega))
theorem or_low (c a j : Nat) (ha : a < 2 ^ j) (h : c * 2 ^ j + a < 18446744073709551616) : Go.bits .or .u64 ((c * 2 ^ j : Nat) : Int) (a : Int) = ((c * 2 ^ j + a : Nat) : Int) := by
 have := bits_nat .or Nat.lor (.inr ⟨rfl, rfl⟩) (c * 2 ^ j) a (by omega) (by omega) .u64 (.inl rfl)
 have e : Nat.lor (c * 2 ^ j) a = c * 2 ^ j + a := by
  show c * 2 ^ j ||| a = _
  rw [Nat.mul_comm, ← Nat.two_pow_add_eq_or_of_lt ha]
 rw [e] at this
 exact this.trans (wrapn h)
theorem shl_lit (n : Nat) (b : Int) (s : Nat) (h : b = (s : Int)) (h' : s ≤ 64) : aShl .u64 (n : Int) b = some (.it .u64 ((n * 2 ^ s % 18446744073709551616 : Nat) : Int)) := by
 subst h
 unfold aShl
 rw [if_pos (by omega)]
 congr 2
 rw [Int.toNat_natCast, show min s IntKind.u64.bits = s from Nat.min_eq_left h']
 rw [show ((n : Int) * 2 ^ s) = ((n * 2 ^ s : Nat) : Int) from by push_cast; rfl, wrapu]
 omega
theorem mul_parts (x0 x1 y0 y1 : Nat) : (x1 * 4294967296 + x0) * (y1 * 4294967296 + y0) = x1 * y1 * 18446744073709551616 + (x1 * y0 + x0 * y1) * 4294967296 + x0 * y0 := by
 grind
theorem mul64_c (a b : Nat) (ha : a < 2305843009213693952) (hb : b < 2305843009213693952) : AC Tryz.prog 168 [.it .u64 a, .it .u64 b] [] (.tup [.it .u64 ((a * b / 18446744073709551616 : Nat) : Int), .it .u64 ((a * b % 18446744073709551616 : Nat) : Int)]) [] := by
 refine AC.enter [] [] Tryz.func168 rfl (by decide) (by decide) (Nat.le_of_ble_eq_true rfl) (by kernel_rfl) ?_; refine zev ?_
 have hx0 := and_mask a (by omega)
 have hy0 := and_mask b (by omega)
 have hx1 := shr_lit a 32 32 rfl (by omega)
 have hy1 := shr_lit b 32 32 rfl (by omega)
 rw [show (2 : Nat) ^ 32 = 4294967296 from rfl] at hx1 hy1
 have hab : a * b = a / 4294967296 * (b / 4294967296) * 18446744073709551616 + (a / 4294967296 * (b % 4294967296) + a % 4294967296 * (b / 4294967296)) * 4294967296 + a % 4294967296 * (b % 4294967296) := by
  rw [← mul_parts, Nat.div_add_mod', Nat.div_add_mod']
 have b0 : a % 4294967296 ≤ 4294967295 := by omega
 have b1 : a / 4294967296 ≤ 536870911 := by omega
 have b2 : b % 4294967296 ≤ 4294967295 := by omega
 have b3 : b / 4294967296 ≤ 536870911 := by omega
 have habI : IntKind.u64.wrap ((a : Int) * (b : Int)) = ((a * b % 18446744073709551616 : Nat) : Int) := by
  rw [show (a : Int) * (b : Int) = ((a * b : Nat) : Int) from by push_cast; rfl, wrapu]; omega
 generalize a % 4294967296 = x0 at *
 generalize a / 4294967296 = x1 at *
 generalize b % 4294967296 = y0 at *
 generalize b / 4294967296 = y1 at *
 have p00 : x0 * y0 ≤ 4294967295 * 4294967295 := Nat.mul_le_mul b0 b2
 have p10 : x1 * y0 ≤ 536870911 * 4294967295 := Nat.mul_le_mul b1 b2
 have p01 : x0 * y1 ≤ 4294967295 * 536870911 := Nat.mul_le_mul b0 b3
 have p11 : x1 * y1 ≤ 536870911 * 536870911 := Nat.mul_le_mul b1 b3
 have c00 : ((x0 : Int) * (y0 : Int)) = ((x0 * y0 : Nat) : Int) := by push_cast; rfl
 have c10 : ((x1 : Int) * (y0 : Int)) = ((x1 * y0 : Nat) : Int) := by push_cast; rfl
 have c01 : ((x0 : Int) * (y1 : Int)) = ((x0 * y1 : Nat) : Int) := by push_cast; rfl
 have c11 : ((x1 : Int) * (y1 : Int)) = ((x1 * y1 : Nat) : Int) := by push_cast; rfl
 generalize a * b = ab at *
 generalize x0 * y0 = q00 at *
 generalize x1 * y0 = q10 at *
 generalize x0 * y1 = q01 at *
 generalize x1 * y1 = q11 at *
 have w00 : IntKind.u64.wrap (q00 : Int) = (q00 : Int) := wrapn (by omega)
 have w10 : IntKind.u64.wrap (q10 : Int) = (q10 : Int) := wrapn (by omega)
 have w01 : IntKind.u64.wrap (q01 : Int) = (q01 : Int) := wrapn (by omega)
 have w11 : IntKind.u64.wrap (q11 : Int) = (q11 : Int) := wrapn (by omega)
 have s00 := shr_lit q00 32 32 rfl (by omega)
 rw [show (2 : Nat) ^ 32 = 4294967296 from rfl] at s00
 obtain ⟨t, et⟩ : ∃ t, t = q10 + q00 / 4294967296 := ⟨_, rfl⟩
 have wt : IntKind.u64.wrap ((q10 : Int) + ((q00 / 4294967296 : Nat) : Int)) = (t : Int) := by rw [wrapu]; omega
 have st := shr_lit t 32 32 rfl (by omega)
 rw [show (2 : Nat) ^ 32 = 4294967296 from rfl] at st
 have mt := and_mask t (by omega)
 obtain ⟨u, eu⟩ : ∃ u, u = t % 4294967296 + q01 := ⟨_, rfl⟩
 have wu : IntKind.u64.wrap (((t % 4294967296 : Nat) : Int) + (q01 : Int)) = (u : Int) := by rw [wrapu]; omega
 have su := shr_lit u 32 32 rfl (by omega)
 rw [show (2 : Nat) ^ 32 = 4294967296 from rfl] at su
 have wv : IntKind.u64.wrap ((q11 : Int) + ((t / 4294967296 : Nat) : Int)) = (q11 : Int) + ((t / 4294967296 : Nat) : Int) := by rw [wrapu]; omega
 have wz : IntKind.u64.wrap ((q11 : Int) + ((t / 4294967296 : Nat) : Int) + ((u / 4294967296 : Nat) : Int)) = ((ab / 18446744073709551616 : Nat) : Int) := by rw [wrapu]; omega
 refine runf (an @hx0 (an @hy0 (an @hx1 (an @hy1 (an @c00 (an @c10 (an @c01 (an @c11 (an @w00 (an @w10 (an @w01 (an @w11 (an @s00 (an @wt (an @st (an @mt (an @wu (an @su (an @wv (an @wz @habI)))))))))))))))))))) ?_
 exact er0
structure Hv (p : Prop) : Prop where
 out : p
theorem dve (u q1 r1 : Nat) (hub : u < 2305843009213693952) (eq1 : u = q1 * 4294967295 + r1) : q1 ≤ 536870913 := by omega
theorem dvi (q2 q : Nat) (h : q2 ≤ 536870913) (h' : q ≤ 4294967296) : IntKind.u64.wrap (IntKind.u64.wrap ((q2 : Int) * 4294967296) + (q : Int)) = ((q2 * 4294967296 + q : Nat) : Int) := by rw [wrapu, wrapu]; omega
theorem dv1 (u q1 r1 : Nat) (hub : u < 2305843009213693952) (eq1 : u = q1 * 4294967295 + r1) (hr1 : r1 < 4294967295) : IntKind.u64.wrap ((u : Int).tdiv 4294967295) = (q1 : Int) := by rw [Int.tdiv_eq_ediv_of_nonneg (by omega), wrapu]; omega
theorem dv2 (u q1 r1 : Nat) (hub : u < 18446744073709551616) (eq1 : u = q1 * 4294967295 + r1) (hr1 : r1 < 4294967295) : IntKind.u64.wrap ((u : Int) - IntKind.u64.wrap ((q1 : Int) * 4294967295)) = (r1 : Int) := by rw [wrapu, wrapu]; omega
theorem dv3 (u q1 r1 : Nat) (hub : u < 18446744073709551616) (eq1 : u = q1 * 4294967295 + r1) (hr1 : r1 < 4294967295) : IntKind.u64.wrap ((u : Int).tdiv 4294967295) = (q1 : Int) := by rw [Int.tdiv_eq_ediv_of_nonneg (by omega), wrapu]; omega
theorem lead_c (n : Nat) (h : n < 18446744073709551616) (hb : blen n ≤ 64) : AC Tryz.prog 230 [.it .u64 n] [] (.it .i64 (64 - (blen n : Int))) [] := by
 refine AC.enter [126] [] Tryz.func230 rfl (by decide) (by decide) (Nat.le_of_ble_eq_true rfl) (by kernel_rfl) ?_; refine zev ?_
 refine run ?_
 refine cp (len64_c n h) ?_
 refine run ?_
 exact er0
theorem dv4P (u q1 r1 a1 : Nat) (eq1 : u = q1 * 4294967295 + r1) (hr1 : r1 < 4294967295) (ha : a1 < 4294967296) : u * 4294967296 + a1 < (q1 + 1) * 18446744073709551608 := by omega
theorem dv6P (u q r a1 : Nat) (e0 : u = q * 4294967295 + r) (hc : 4294967296 * r + a1 < q * 4294967288) : u * 4294967296 + a1 < (q - 1 + 1) * 18446744073709551608 ∧ u = (q - 1) * 4294967295 + (r + 4294967295) := by omega
theorem dv7P (u q r a1 : Nat) (e0 : u = q * 4294967295 + r) (hc : ¬ 4294967296 * r + a1 < q * 4294967288) : q * 18446744073709551608 ≤ u * 4294967296 + a1 := by omega
theorem dv8P (u q r a1 : Nat) (e0 : u = q * 4294967295 + r) (hq : q < 4294967297) (hbr : ¬ r + 4294967295 < 4294967296) : (q - 1) * 18446744073709551608 ≤ u * 4294967296 + a1 := by omega
theorem dv9P (u v D q2 a1 a0 t w q : Nat) (hu : u * 18446744073709551616 + t = 8 * D) (ht : t = a1 * 4294967296 + a0) (ev : v = u * 4294967296 + a1 - q2 * 18446744073709551608) (hq : q2 * 18446744073709551608 ≤ u * 4294967296 + a1) (ew : w = v * 4294967296 + a0 - q * 18446744073709551608) (hq' : q * 18446744073709551608 ≤ v * 4294967296 + a0) : D = (q2 * 4294967296 + q) * 2305843009213693951 + w / 8 ∧ 8 * (w / 8) = w := by omega
theorem dvaP (D Q w : Nat) (h : D = Q * 2305843009213693951 + w) (hw : w < 2305843009213693951) : D / 2305843009213693951 = Q ∧ D % 2305843009213693951 = w := by omega
theorem dvbP (u a1 q2 v : Nat) (ev : v = u * 4294967296 + a1 - q2 * 18446744073709551608) (h : q2 * 18446744073709551608 ≤ u * 4294967296 + a1) (h' : u * 4294967296 + a1 < (q2 + 1) * 18446744073709551608) : v < 18446744073709551608 := by omega
theorem dvcP (u a1 q2 v : Nat) (ev : v = u * 4294967296 + a1 - q2 * 18446744073709551608) (hv : v < 18446744073709551608) (h : q2 * 18446744073709551608 ≤ u * 4294967296 + a1) : IntKind.u64.wrap (IntKind.u64.wrap (IntKind.u64.wrap ((u : Int) * 4294967296) + (a1 : Int)) - IntKind.u64.wrap ((q2 : Int) * 18446744073709551608)) = (v : Int) := by rw [wrapu, wrapu, wrapu, wrapu]; omega
theorem dvfP (v q r : Nat) (hv : v < 18446744073709551608) (e0 : v = q * 4294967295 + r) : q ≤ 4294967296 := by omega
theorem dvgP (v q r a0 : Nat) (hv : v < 18446744073709551608) (ha : a0 < 4294967296) (e0 : v = q * 4294967295 + r) (hge : 4294967296 ≤ q) : 4294967296 * r + a0 < q * 4294967288 := by omega
theorem dvwP (w : Nat) (h : w < 18446744073709551608) : w / 8 < 2305843009213693951 := by omega
theorem dvuP (v : Nat) (h : v < 18446744073709551608) : v < 18446744073709551616 := by omega
theorem blenP : blen 2305843009213693951 = 61 := by decide +kernel
set_option maxHeartbeats 6400000 in
theorem divP_c (hi lo D : Nat) (hD : D = hi * 18446744073709551616 + lo) (hh : hi < 288230376151711744) (hl : lo < 18446744073709551616) :
  AC Tryz.prog 205 [.it .u64 hi, .it .u64 lo, .it .u64 2305843009213693951] [] (.tup [.it .u64 ((D / 2305843009213693951 : Nat) : Int), .it .u64 ((D % 2305843009213693951 : Nat) : Int)]) [] := by
 refine AC.enter [230] [] Tryz.func205 rfl (by decide) (by decide) (Nat.le_of_ble_eq_true rfl) (by kernel_rfl) ?_; refine zev ?_
 by_cases h0 : hi = 0
 ·subst h0
  have hD : D = lo := by omega
  subst hD
  have e1 : IntKind.u64.wrap ((D : Int).tdiv 2305843009213693951) = ((D / 2305843009213693951 : Nat) : Int) := by rw [Int.tdiv_eq_ediv_of_nonneg (by omega), wrapu]; omega
  have e2 : (D : Int).tmod 2305843009213693951 = ((D % 2305843009213693951 : Nat) : Int) := by rw [Int.tmod_eq_emod_of_nonneg (by omega)]; omega
  refine runf (an @e1 @e2) ?_
  exact er0
 have hlead := lead_c 2305843009213693951 (by omega) (by rw [blenP]; omega)
 rw [blenP] at hlead
 have k1 : IntKind.u64.wrap (64 - ((61 : Nat) : Int)) = 3 := by decide +kernel
 have k2 : IntKind.u64.wrap 61 = 61 := by decide +kernel
 have k3 : aShl .u64 2305843009213693951 3 = some (.it .u64 18446744073709551608) := shl_lit 2305843009213693951 3 3 rfl (by omega)
 have k4 : aShr .u64 18446744073709551608 32 = some (.it .u64 4294967295) := shr_lit 18446744073709551608 32 32 rfl (by omega)
 have k5 : Go.bits .and .u64 18446744073709551608 4294967295 = 4294967288 := and_mask 18446744073709551608 (by omega)
 have k6 := shl_lit hi 3 3 rfl (by omega)
 have k7 := shr_lit lo 61 61 rfl (by omega)
 have k8 := shl_lit lo 3 3 rfl (by omega)
 rw [show (2 : Nat) ^ 3 = 8 from rfl, Nat.mod_eq_of_lt (by omega)] at k6
 rw [show (2 : Nat) ^ 61 = 2305843009213693952 from rfl] at k7
 rw [show (2 : Nat) ^ 3 = 8 from rfl] at k8
 have k9 := or_low hi (lo / 2305843009213693952) 3 (by omega) (by omega)
 rw [show (2 : Nat) ^ 3 = 8 from rfl] at k9
 have hu : (hi * 8 + lo / 2305843009213693952) * 18446744073709551616 + lo * 8 % 18446744073709551616 = 8 * D := by omega
 have hub : hi * 8 + lo / 2305843009213693952 < 2305843009213693952 := by omega
 have hut : lo * 8 % 18446744073709551616 < 18446744073709551616 := by omega
 generalize hi * 8 + lo / 2305843009213693952 = u at *
 generalize lo * 8 % 18446744073709551616 = t at *
 have hu := Hv.mk hu
 clear hD
 have k10 := shr_lit t 32 32 rfl (by omega)
 rw [show (2 : Nat) ^ 32 = 4294967296 from rfl] at k10
 have k11 := and_mask t hut
 have ht : t = t / 4294967296 * 4294967296 + t % 4294967296 := by omega
 have ha1 : t / 4294967296 < 4294967296 := by omega
 have ha0 : t % 4294967296 < 4294967296 := by omega
 generalize t / 4294967296 = a1 at *
 generalize t % 4294967296 = a0 at *
 obtain ⟨q1, r1, eq1, hr1⟩ : ∃ q r, u = q * 4294967295 + r ∧ r < 4294967295 := ⟨u / 4294967295, u % 4294967295, (Nat.div_add_mod' u 4294967295).symm, Nat.mod_lt _ (by decide)⟩
 have k12 := dv1 u q1 r1 hub eq1 hr1
 have k13 := dv2 u q1 r1 (by omega) eq1 hr1
 refine run ?_
 refine cp hlead ?_
 refine runf (an @k1 (an @k2 (an @k3 (an @k4 (an @k5 (an @k6 (an @k7 (an @k8 (an @k9 (an @k10 (an @k11 (an @k12 @k13)))))))))))) ?_
 refine loop_mk (fun m e S => S = [] ∧ e 2 = .it .u64 18446744073709551608 ∧ e 8 = .it .u64 3 ∧ e 9 = .it .u64 4294967295 ∧ e 10 = .it .u64 4294967288 ∧ e 11 = .it .u64 (u : Int) ∧ e 13 = .it .u64 (a1 : Int) ∧ e 14 = .it .u64 (a0 : Int) ∧
  ∃ q r : Nat, e 15 = .it .u64 (q : Int) ∧ e 16 = .it .u64 (r : Int) ∧ u = q * 4294967295 + r ∧ q ≤ q1 ∧ r < 4294967296 ∧ u * 4294967296 + a1 < (q + 1) * 18446744073709551608 ∧ q = m) q1
  ⟨rfl, zsl, zsl, zsl, zsl, zsl, zsl, zsl, q1, r1, zsl, zsl, eq1, Nat.le_refl _, Nat.lt_succ_of_lt hr1, dv4P u q1 r1 a1 eq1 hr1 ha1, rfl⟩ ?_
 clear k1 k2 k3 k4 k5 k6 k7 k8 k9 k10 k11 k12 k13 hlead
 rintro m e S ⟨rfl, s2, s8, s9, s10, s11, s13, s14, q, r, s15, s16, e0, hqq, hr, hup, rfl⟩
 have c1 : IntKind.u64.wrap ((q : Int) * 4294967288) = (q : Int) * 4294967288 := by rw [wrapu]; omega
 have c2 : IntKind.u64.wrap (4294967296 * (r : Int)) = 4294967296 * (r : Int) := by rw [wrapu]; omega
 have c3 : IntKind.u64.wrap (4294967296 * (r : Int) + (a1 : Int)) = 4294967296 * (r : Int) + (a1 : Int) := by rw [wrapu]; omega
 have hq32 : q < 4294967296 := by omega
 by_cases hc : 4294967296 * r + a1 < q * 4294967288
 focus
  have d1 : IntKind.u64.wrap ((q : Int) - 1) = ((q - 1 : Nat) : Int) := by rw [wrapu]; omega
  have d2 : IntKind.u64.wrap ((r : Int) + 4294967295) = ((r + 4294967295 : Nat) : Int) := by rw [wrapu]; omega
  by_cases hbr : r + 4294967295 < 4294967296
  focus
   refine runf (an @s2 (an @s8 (an @s9 (an @s10 (an @s11 (an @s13 (an @s14 (an @s15 (an @s16 (an @c1 (an @c2 (an @c3 (an @d1 @d2))))))))))))) ?_
   exact round_mk (q - 1) (by omega) ⟨rfl, zsl, zsl, zsl, zsl, zsl, zsl, zsl, q - 1, r + 4294967295, zsl, zsl, (dv6P _ q r _ e0 hc).2, by omega, hbr, (dv6P _ q r _ e0 hc).1, rfl⟩
  refine runf (an @s2 (an @s8 (an @s9 (an @s10 (an @s11 (an @s13 (an @s14 (an @s15 (an @s16 (an @c1 (an @c2 (an @c3 (an @d1 @d2))))))))))))) ?_
  have hz : q - 1 ≤ q1 ∧ (q - 1) * 18446744073709551608 ≤ u * 4294967296 + a1 ∧ u * 4294967296 + a1 < (q - 1 + 1) * 18446744073709551608 := ⟨by omega, dv8P u q r a1 e0 (by omega) hbr, (dv6P u q r a1 e0 hc).1⟩
  clear hc hbr d1 d2 c1 c2 c3 hup e0 hr
  generalize q - 1 = q2 at *
 rotate_left
 focus
  refine runf (an @s2 (an @s8 (an @s9 (an @s10 (an @s11 (an @s13 (an @s14 (an @s15 (an @s16 (an @c1 (an @c2 @c3))))))))))) ?_
  have hz : q ≤ q1 ∧ q * 18446744073709551608 ≤ u * 4294967296 + a1 ∧ u * 4294967296 + a1 < (q + 1) * 18446744073709551608 := ⟨hqq, dv7P u q r a1 e0 hc, hup⟩
  clear hc c1 c2 c3 hup e0 hr
  generalize q = q2 at *
 all_goals
  obtain ⟨z2, z3, z4⟩ := hz
  have hq1 : q2 ≤ 536870913 := Nat.le_trans z2 (dve u q1 r1 hub eq1)
  have ht0 := Hv.mk ht
  obtain ⟨v, ev⟩ : ∃ v, v = u * 4294967296 + a1 - q2 * 18446744073709551608 := ⟨_, rfl⟩
  have hv : v < 18446744073709551608 := dvbP u a1 q2 v ev z3 z4
  have k1 := dvcP u a1 q2 v ev hv z3
  obtain ⟨p1, s1, ep1, hs1⟩ : ∃ q r, v = q * 4294967295 + r ∧ r < 4294967295 := ⟨v / 4294967295, v % 4294967295, (Nat.div_add_mod' v 4294967295).symm, Nat.mod_lt _ (by decide)⟩
  have k12 := dv3 v p1 s1 (dvuP v hv) ep1 hs1
  have k13 := dv2 v p1 s1 (dvuP v hv) ep1 hs1
  have ev := Hv.mk ev
  have z3 := Hv.mk z3
  clear z4 ht hub eq1 hr1 hut
  have ht := ht0
  refine runf (an @s2 (an @s8 (an @s9 (an @s10 (an @s11 (an @s13 (an @s14 (an @s15 (an @s16 (an @k1 (an @k12 @k13))))))))))) ?_
  refine loop_mk (fun m e S => S = [] ∧ e 2 = .it .u64 18446744073709551608 ∧ e 8 = .it .u64 3 ∧ e 9 = .it .u64 4294967295 ∧ e 10 = .it .u64 4294967288 ∧ e 14 = .it .u64 (a0 : Int) ∧ e 15 = .it .u64 (q2 : Int) ∧ e 17 = .it .u64 (v : Int) ∧
   ∃ q r : Nat, e 18 = .it .u64 (q : Int) ∧ e 16 = .it .u64 (r : Int) ∧ v = q * 4294967295 + r ∧ q ≤ p1 ∧ r < 4294967296 ∧ v * 4294967296 + a0 < (q + 1) * 18446744073709551608 ∧ q = m) p1
   ⟨rfl, zsl, zsl, zsl, zsl, zsl, zsl, zsl, p1, s1, zsl, zsl, ep1, Nat.le_refl _, Nat.lt_succ_of_lt hs1, dv4P v p1 s1 a0 ep1 hs1 ha0, rfl⟩ ?_
  clear k1 k12 k13 s2 s8 s9 s10 s11 s13 s14 s15 s16
  rintro m e S ⟨rfl, s2, s8, s9, s10, s14, s15, s17, q, r, s18, s16, e0, hqq, hr, hup, rfl⟩
  have c1 : IntKind.u64.wrap ((q : Int) * 4294967288) = (q : Int) * 4294967288 := by rw [wrapu]; omega
  have c2 : IntKind.u64.wrap (4294967296 * (r : Int)) = 4294967296 * (r : Int) := by rw [wrapu]; omega
  have c3 : IntKind.u64.wrap (4294967296 * (r : Int) + (a0 : Int)) = 4294967296 * (r : Int) + (a0 : Int) := by rw [wrapu]; omega
  have hq32 : q ≤ 4294967296 := dvfP v q r hv e0
  have hgc : 4294967296 ≤ q → 4294967296 * r + a0 < q * 4294967288 := dvgP v q r a0 hv ha0 e0
  by_cases hc : 4294967296 * r + a0 < q * 4294967288
  focus
   have hup1 := (dv6P v q r a0 e0 hc).1
   have e01 := (dv6P v q r a0 e0 hc).2
   have hle := dv8P v q r a0 e0 (by omega)
   clear hgc hup e0
   have d1 : IntKind.u64.wrap ((q : Int) - 1) = ((q - 1 : Nat) : Int) := by rw [wrapu]; omega
   have d2 : IntKind.u64.wrap ((r : Int) + 4294967295) = ((r + 4294967295 : Nat) : Int) := by rw [wrapu]; omega
   by_cases hbr : r + 4294967295 < 4294967296
   focus
    by_cases hge : 4294967296 ≤ q
    ·refine runf (an @s2 (an @s8 (an @s9 (an @s10 (an @s14 (an @s15 (an @s16 (an @s17 (an @s18 (an @c1 (an @c2 (an @c3 (an @d1 @d2))))))))))))) ?_
     exact round_mk (q - 1) (by omega) ⟨rfl, zsl, zsl, zsl, zsl, zsl, zsl, zsl, q - 1, r + 4294967295, zsl, zsl, e01, by omega, hbr, hup1, rfl⟩
    ·refine runf (an @s2 (an @s8 (an @s9 (an @s10 (an @s14 (an @s15 (an @s16 (an @s17 (an @s18 (an @c1 (an @c2 (an @c3 (an @d1 @d2))))))))))))) ?_
     exact round_mk (q - 1) (by omega) ⟨rfl, zsl, zsl, zsl, zsl, zsl, zsl, zsl, q - 1, r + 4294967295, zsl, zsl, e01, by omega, hbr, hup1, rfl⟩
   have hle := hle hbr
   have hp : q - 1 ≤ 4294967296 := Nat.le_trans (Nat.sub_le _ _) hq32
   by_cases hge : 4294967296 ≤ q
   all_goals
    generalize hpq : q - 1 = p at *
    obtain ⟨w, ew⟩ : ∃ w, w = v * 4294967296 + a0 - p * 18446744073709551608 := ⟨_, rfl⟩
    obtain ⟨g1, g2⟩ := dv9P u v D q2 a1 a0 t w p hu.out ht.out ev.out z3.out ew hle
    have hw := dvbP v a0 p w ew hle hup1
    obtain ⟨g3, g4⟩ := dvaP D _ (w / 8) g1 (dvwP w hw)
    have f1 := dvi q2 p hq1 hp
    have f2 := dvcP v a0 p w ew hw hle
    have f3 := shr_lit w 3 3 rfl (by decide)
    rw [show (2 : Nat) ^ 3 = 8 from rfl] at f3
    rw [g3, g4]
    clear g1 g2 g3 g4 ew hw hle hup1 e01 hpq
    refine runf (an @s2 (an @s8 (an @s9 (an @s10 (an @s14 (an @s15 (an @s16 (an @s17 (an @s18 (an @c1 (an @c2 (an @c3 (an @d1 (an @d2 (an @f1 (an @f2 @f3)))))))))))))))) ?_
    exact er0
  have hge : ¬ 4294967296 ≤ q := fun h => hc (hgc h)
  have hle := dv7P v q r a0 e0 hc
  obtain ⟨w, ew⟩ : ∃ w, w = v * 4294967296 + a0 - q * 18446744073709551608 := ⟨_, rfl⟩
  obtain ⟨g1, g2⟩ := dv9P u v D q2 a1 a0 t w q hu.out ht.out ev.out z3.out ew hle
  have hw := dvbP v a0 q w ew hle hup
  obtain ⟨g3, g4⟩ := dvaP D _ (w / 8) g1 (dvwP w hw)
  have f1 := dvi q2 q hq1 hq32
  have f2 := dvcP v a0 q w ew hw hle
  have f3 := shr_lit w 3 3 rfl (by decide)
  rw [show (2 : Nat) ^ 3 = 8 from rfl] at f3
  rw [g3, g4]
  clear g1 g2 g3 g4 ew hw hle hup e0 hgc
  refine runf (an @s2 (an @s8 (an @s9 (an @s10 (an @s14 (an @s15 (an @s16 (an @s17 (an @s18 (an @c1 (an @c2 (an @c3 (an @f1 (an @f2 @f3)))))))))))))) ?_
  exact er0
theorem remP_c (hi lo D : Nat) (hD : D = hi * 18446744073709551616 + lo) (hh : hi < 288230376151711744) (hl : lo < 18446744073709551616) :
  AC Tryz.prog 169 [.it .u64 hi, .it .u64 lo, .it .u64 2305843009213693951] [] (.it .u64 ((D % 2305843009213693951 : Nat) : Int)) [] := by
 refine AC.enter [205] [] Tryz.func169 rfl (by decide) (by decide) (Nat.le_of_ble_eq_true rfl) (by kernel_rfl) ?_; refine zev ?_
 have e1 : (hi : Int).tmod 2305843009213693951 = (hi : Int) := by rw [Int.tmod_eq_emod_of_nonneg (by omega)]; omega
 refine runf @e1 ?_
 refine cp (divP_c hi lo D hD hh hl) ?_
 refine run ?_
 exact er0
theorem dv4N (u q1 r1 a1 : Nat) (eq1 : u = q1 * 4294967295 + r1) (hr1 : r1 < 4294967295) (ha : a1 < 4294967296) : u * 4294967296 + a1 < (q1 + 1) * 18446744073709551600 := by omega
theorem dv6N (u q r a1 : Nat) (e0 : u = q * 4294967295 + r) (hc : 4294967296 * r + a1 < q * 4294967280) : u * 4294967296 + a1 < (q - 1 + 1) * 18446744073709551600 ∧ u = (q - 1) * 4294967295 + (r + 4294967295) := by omega
theorem dv7N (u q r a1 : Nat) (e0 : u = q * 4294967295 + r) (hc : ¬ 4294967296 * r + a1 < q * 4294967280) : q * 18446744073709551600 ≤ u * 4294967296 + a1 := by omega
theorem dv8N (u q r a1 : Nat) (e0 : u = q * 4294967295 + r) (hq : q < 4294967297) (hbr : ¬ r + 4294967295 < 4294967296) : (q - 1) * 18446744073709551600 ≤ u * 4294967296 + a1 := by omega
theorem dv9N (u v D q2 a1 a0 t w q : Nat) (hu : u * 18446744073709551616 + t = 8 * D) (ht : t = a1 * 4294967296 + a0) (ev : v = u * 4294967296 + a1 - q2 * 18446744073709551600) (hq : q2 * 18446744073709551600 ≤ u * 4294967296 + a1) (ew : w = v * 4294967296 + a0 - q * 18446744073709551600) (hq' : q * 18446744073709551600 ≤ v * 4294967296 + a0) : D = (q2 * 4294967296 + q) * 2305843009213693950 + w / 8 ∧ 8 * (w / 8) = w := by omega
theorem dvaN (D Q w : Nat) (h : D = Q * 2305843009213693950 + w) (hw : w < 2305843009213693950) : D / 2305843009213693950 = Q ∧ D % 2305843009213693950 = w := by omega
theorem dvbN (u a1 q2 v : Nat) (ev : v = u * 4294967296 + a1 - q2 * 18446744073709551600) (h : q2 * 18446744073709551600 ≤ u * 4294967296 + a1) (h' : u * 4294967296 + a1 < (q2 + 1) * 18446744073709551600) : v < 18446744073709551600 := by omega
theorem dvcN (u a1 q2 v : Nat) (ev : v = u * 4294967296 + a1 - q2 * 18446744073709551600) (hv : v < 18446744073709551600) (h : q2 * 18446744073709551600 ≤ u * 4294967296 + a1) : IntKind.u64.wrap (IntKind.u64.wrap (IntKind.u64.wrap ((u : Int) * 4294967296) + (a1 : Int)) - IntKind.u64.wrap ((q2 : Int) * 18446744073709551600)) = (v : Int) := by rw [wrapu, wrapu, wrapu, wrapu]; omega
theorem dvfN (v q r : Nat) (hv : v < 18446744073709551600) (e0 : v = q * 4294967295 + r) : q ≤ 4294967296 := by omega
theorem dvgN (v q r a0 : Nat) (hv : v < 18446744073709551600) (ha : a0 < 4294967296) (e0 : v = q * 4294967295 + r) (hge : 4294967296 ≤ q) : 4294967296 * r + a0 < q * 4294967280 := by omega
theorem dvwN (w : Nat) (h : w < 18446744073709551600) : w / 8 < 2305843009213693950 := by omega
theorem dvuN (v : Nat) (h : v < 18446744073709551600) : v < 18446744073709551616 := by omega
theorem blenN : blen 2305843009213693950 = 61 := by decide +kernel
set_option maxHeartbeats 6400000 in
theorem divN_c (hi lo D : Nat) (hD : D = hi * 18446744073709551616 + lo) (hh : hi < 288230376151711744) (hl : lo < 18446744073709551616) :
  AC Tryz.prog 205 [.it .u64 hi, .it .u64 lo, .it .u64 2305843009213693950] [] (.tup [.it .u64 ((D / 2305843009213693950 : Nat) : Int), .it .u64 ((D % 2305843009213693950 : Nat) : Int)]) [] := by
 refine AC.enter [230] [] Tryz.func205 rfl (by decide) (by decide) (Nat.le_of_ble_eq_true rfl) (by kernel_rfl) ?_; refine zev ?_
 by_cases h0 : hi = 0
 ·subst h0
  have hD : D = lo := by omega
  subst hD
  have e1 : IntKind.u64.wrap ((D : Int).tdiv 2305843009213693950) = ((D / 2305843009213693950 : Nat) : Int) := by rw [Int.tdiv_eq_ediv_of_nonneg (by omega), wrapu]; omega
  have e2 : (D : Int).tmod 2305843009213693950 = ((D % 2305843009213693950 : Nat) : Int) := by rw [Int.tmod_eq_emod_of_nonneg (by omega)]; omega
  refine runf (an @e1 @e2) ?_
  exact er0
 have hlead := lead_c 2305843009213693950 (by omega) (by rw [blenN]; omega)
 rw [blenN] at hlead
 have k1 : IntKind.u64.wrap (64 - ((61 : Nat) : Int)) = 3 := by decide +kernel
 have k2 : IntKind.u64.wrap 61 = 61 := by decide +kernel
 have k3 : aShl .u64 2305843009213693950 3 = some (.it .u64 18446744073709551600) := shl_lit 2305843009213693950 3 3 rfl (by omega)
 have k4 : aShr .u64 18446744073709551600 32 = some (.it .u64 4294967295) := shr_lit 18446744073709551600 32 32 rfl (by omega)
 have k5 : Go.bits .and .u64 18446744073709551600 4294967295 = 4294967280 := and_mask 18446744073709551600 (by omega)
 have k6 := shl_lit hi 3 3 rfl (by omega)
 have k7 := shr_lit lo 61 61 rfl (by omega)
 have k8 := shl_lit lo 3 3 rfl (by omega)
 rw [show (2 : Nat) ^ 3 = 8 from rfl, Nat.mod_eq_of_lt (by omega)] at k6
 rw [show (2 : Nat) ^ 61 = 2305843009213693952 from rfl] at k7
 rw [show (2 : Nat) ^ 3 = 8 from rfl] at k8
 have k9 := or_low hi (lo / 2305843009213693952) 3 (by omega) (by omega)
 rw [show (2 : Nat) ^ 3 = 8 from rfl] at k9
 have hu : (hi * 8 + lo / 2305843009213693952) * 18446744073709551616 + lo * 8 % 18446744073709551616 = 8 * D := by omega
 have hub : hi * 8 + lo / 2305843009213693952 < 2305843009213693952 := by omega
 have hut : lo * 8 % 18446744073709551616 < 18446744073709551616 := by omega
 generalize hi * 8 + lo / 2305843009213693952 = u at *
 generalize lo * 8 % 18446744073709551616 = t at *
 have hu := Hv.mk hu
 clear hD
 have k10 := shr_lit t 32 32 rfl (by omega)
 rw [show (2 : Nat) ^ 32 = 4294967296 from rfl] at k10
 have k11 := and_mask t hut
 have ht : t = t / 4294967296 * 4294967296 + t % 4294967296 := by omega
 have ha1 : t / 4294967296 < 4294967296 := by omega
 have ha0 : t % 4294967296 < 4294967296 := by omega
 generalize t / 4294967296 = a1 at *
 generalize t % 4294967296 = a0 at *
 obtain ⟨q1, r1, eq1, hr1⟩ : ∃ q r, u = q * 4294967295 + r ∧ r < 4294967295 := ⟨u / 4294967295, u % 4294967295, (Nat.div_add_mod' u 4294967295).symm, Nat.mod_lt _ (by decide)⟩
 have k12 := dv1 u q1 r1 hub eq1 hr1
 have k13 := dv2 u q1 r1 (by omega) eq1 hr1
 refine run ?_
 refine cp hlead ?_
 refine runf (an @k1 (an @k2 (an @k3 (an @k4 (an @k5 (an @k6 (an @k7 (an @k8 (an @k9 (an @k10 (an @k11 (an @k12 @k13)))))))))))) ?_
 refine loop_mk (fun m e S => S = [] ∧ e 2 = .it .u64 18446744073709551600 ∧ e 8 = .it .u64 3 ∧ e 9 = .it .u64 4294967295 ∧ e 10 = .it .u64 4294967280 ∧ e 11 = .it .u64 (u : Int) ∧ e 13 = .it .u64 (a1 : Int) ∧ e 14 = .it .u64 (a0 : Int) ∧
  ∃ q r : Nat, e 15 = .it .u64 (q : Int) ∧ e 16 = .it .u64 (r : Int) ∧ u = q * 4294967295 + r ∧ q ≤ q1 ∧ r < 4294967296 ∧ u * 4294967296 + a1 < (q + 1) * 18446744073709551600 ∧ q = m) q1
  ⟨rfl, zsl, zsl, zsl, zsl, zsl, zsl, zsl, q1, r1, zsl, zsl, eq1, Nat.le_refl _, Nat.lt_succ_of_lt hr1, dv4N u q1 r1 a1 eq1 hr1 ha1, rfl⟩ ?_
 clear k1 k2 k3 k4 k5 k6 k7 k8 k9 k10 k11 k12 k13 hlead
 rintro m e S ⟨rfl, s2, s8, s9, s10, s11, s13, s14, q, r, s15, s16, e0, hqq, hr, hup, rfl⟩
 have c1 : IntKind.u64.wrap ((q : Int) * 4294967280) = (q : Int) * 4294967280 := by rw [wrapu]; omega
 have c2 : IntKind.u64.wrap (4294967296 * (r : Int)) = 4294967296 * (r : Int) := by rw [wrapu]; omega
 have c3 : IntKind.u64.wrap (4294967296 * (r : Int) + (a1 : Int)) = 4294967296 * (r : Int) + (a1 : Int) := by rw [wrapu]; omega
 have hq32 : q < 4294967296 := by omega
 by_cases hc : 4294967296 * r + a1 < q * 4294967280
 focus
  have d1 : IntKind.u64.wrap ((q : Int) - 1) = ((q - 1 : Nat) : Int) := by rw [wrapu]; omega
  have d2 : IntKind.u64.wrap ((r : Int) + 4294967295) = ((r + 4294967295 : Nat) : Int) := by rw [wrapu]; omega
  by_cases hbr : r + 4294967295 < 4294967296
  focus
   refine runf (an @s2 (an @s8 (an @s9 (an @s10 (an @s11 (an @s13 (an @s14 (an @s15 (an @s16 (an @c1 (an @c2 (an @c3 (an @d1 @d2))))))))))))) ?_
   exact round_mk (q - 1) (by omega) ⟨rfl, zsl, zsl, zsl, zsl, zsl, zsl, zsl, q - 1, r + 4294967295, zsl, zsl, (dv6N _ q r _ e0 hc).2, by omega, hbr, (dv6N _ q r _ e0 hc).1, rfl⟩
  refine runf (an @s2 (an @s8 (an @s9 (an @s10 (an @s11 (an @s13 (an @s14 (an @s15 (an @s16 (an @c1 (an @c2 (an @c3 (an @d1 @d2))))))))))))) ?_
  have hz : q - 1 ≤ q1 ∧ (q - 1) * 18446744073709551600 ≤ u * 4294967296 + a1 ∧ u * 4294967296 + a1 < (q - 1 + 1) * 18446744073709551600 := ⟨by omega, dv8N u q r a1 e0 (by omega) hbr, (dv6N u q r a1 e0 hc).1⟩
  clear hc hbr d1 d2 c1 c2 c3 hup e0 hr
  generalize q - 1 = q2 at *
 rotate_left
 focus
  refine runf (an @s2 (an @s8 (an @s9 (an @s10 (an @s11 (an @s13 (an @s14 (an @s15 (an @s16 (an @c1 (an @c2 @c3))))))))))) ?_
  have hz : q ≤ q1 ∧ q * 18446744073709551600 ≤ u * 4294967296 + a1 ∧ u * 4294967296 + a1 < (q + 1) * 18446744073709551600 := ⟨hqq, dv7N u q r a1 e0 hc, hup⟩
  clear hc c1 c2 c3 hup e0 hr
  generalize q = q2 at *
 all_goals
  obtain ⟨z2, z3, z4⟩ := hz
  have hq1 : q2 ≤ 536870913 := Nat.le_trans z2 (dve u q1 r1 hub eq1)
  have ht0 := Hv.mk ht
  obtain ⟨v, ev⟩ : ∃ v, v = u * 4294967296 + a1 - q2 * 18446744073709551600 := ⟨_, rfl⟩
  have hv : v < 18446744073709551600 := dvbN u a1 q2 v ev z3 z4
  have k1 := dvcN u a1 q2 v ev hv z3
  obtain ⟨p1, s1, ep1, hs1⟩ : ∃ q r, v = q * 4294967295 + r ∧ r < 4294967295 := ⟨v / 4294967295, v % 4294967295, (Nat.div_add_mod' v 4294967295).symm, Nat.mod_lt _ (by decide)⟩
  have k12 := dv3 v p1 s1 (dvuN v hv) ep1 hs1
  have k13 := dv2 v p1 s1 (dvuN v hv) ep1 hs1
  have ev := Hv.mk ev
  have z3 := Hv.mk z3
  clear z4 ht hub eq1 hr1 hut
  have ht := ht0
  refine runf (an @s2 (an @s8 (an @s9 (an @s10 (an @s11 (an @s13 (an @s14 (an @s15 (an @s16 (an @k1 (an @k12 @k13))))))))))) ?_
  refine loop_mk (fun m e S => S = [] ∧ e 2 = .it .u64 18446744073709551600 ∧ e 8 = .it .u64 3 ∧ e 9 = .it .u64 4294967295 ∧ e 10 = .it .u64 4294967280 ∧ e 14 = .it .u64 (a0 : Int) ∧ e 15 = .it .u64 (q2 : Int) ∧ e 17 = .it .u64 (v : Int) ∧
   ∃ q r : Nat, e 18 = .it .u64 (q : Int) ∧ e 16 = .it .u64 (r : Int) ∧ v = q * 4294967295 + r ∧ q ≤ p1 ∧ r < 4294967296 ∧ v * 4294967296 + a0 < (q + 1) * 18446744073709551600 ∧ q = m) p1
   ⟨rfl, zsl, zsl, zsl, zsl, zsl, zsl, zsl, p1, s1, zsl, zsl, ep1, Nat.le_refl _, Nat.lt_succ_of_lt hs1, dv4N v p1 s1 a0 ep1 hs1 ha0, rfl⟩ ?_
  clear k1 k12 k13 s2 s8 s9 s10 s11 s13 s14 s15 s16
  rintro m e S ⟨rfl, s2, s8, s9, s10, s14, s15, s17, q, r, s18, s16, e0, hqq, hr, hup, rfl⟩
  have c1 : IntKind.u64.wrap ((q : Int) * 4294967280) = (q : Int) * 4294967280 := by rw [wrapu]; omega
  have c2 : IntKind.u64.wrap (4294967296 * (r : Int)) = 4294967296 * (r : Int) := by rw [wrapu]; omega
  have c3 : IntKind.u64.wrap (4294967296 * (r : Int) + (a0 : Int)) = 4294967296 * (r : Int) + (a0 : Int) := by rw [wrapu]; omega
  have hq32 : q ≤ 4294967296 := dvfN v q r hv e0
  have hgc : 4294967296 ≤ q → 4294967296 * r + a0 < q * 4294967280 := dvgN v q r a0 hv ha0 e0
  by_cases hc : 4294967296 * r + a0 < q * 4294967280
  focus
   have hup1 := (dv6N v q r a0 e0 hc).1
   have e01 := (dv6N v q r a0 e0 hc).2
   have hle := dv8N v q r a0 e0 (by omega)
   clear hgc hup e0
   have d1 : IntKind.u64.wrap ((q : Int) - 1) = ((q - 1 : Nat) : Int) := by rw [wrapu]; omega
   have d2 : IntKind.u64.wrap ((r : Int) + 4294967295) = ((r + 4294967295 : Nat) : Int) := by rw [wrapu]; omega
   by_cases hbr : r + 4294967295 < 4294967296
   focus
    by_cases hge : 4294967296 ≤ q
    ·refine runf (an @s2 (an @s8 (an @s9 (an @s10 (an @s14 (an @s15 (an @s16 (an @s17 (an @s18 (an @c1 (an @c2 (an @c3 (an @d1 @d2))))))))))))) ?_
     exact round_mk (q - 1) (by omega) ⟨rfl, zsl, zsl, zsl, zsl, zsl, zsl, zsl, q - 1, r + 4294967295, zsl, zsl, e01, by omega, hbr, hup1, rfl⟩
    ·refine runf (an @s2 (an @s8 (an @s9 (an @s10 (an @s14 (an @s15 (an @s16 (an @s17 (an @s18 (an @c1 (an @c2 (an @c3 (an @d1 @d2))))))))))))) ?_
     exact round_mk (q - 1) (by omega) ⟨rfl, zsl, zsl, zsl, zsl, zsl, zsl, zsl, q - 1, r + 4294967295, zsl, zsl, e01, by omega, hbr, hup1, rfl⟩
   have hle := hle hbr
   have hp : q - 1 ≤ 4294967296 := Nat.le_trans (Nat.sub_le _ _) hq32
   by_cases hge : 4294967296 ≤ q
   all_goals
    generalize hpq : q - 1 = p at *
    obtain ⟨w, ew⟩ : ∃ w, w = v * 4294967296 + a0 - p * 18446744073709551600 := ⟨_, rfl⟩
    obtain ⟨g1, g2⟩ := dv9N u v D q2 a1 a0 t w p hu.out ht.out ev.out z3.out ew hle
    have hw := dvbN v a0 p w ew hle hup1
    obtain ⟨g3, g4⟩ := dvaN D _ (w / 8) g1 (dvwN w hw)
    have f1 := dvi q2 p hq1 hp
    have f2 := dvcN v a0 p w ew hw hle
    have f3 := shr_lit w 3 3 rfl (by decide)
    rw [show (2 : Nat) ^ 3 = 8 from rfl] at f3
    rw [g3, g4]
    clear g1 g2 g3 g4 ew hw hle hup1 e01 hpq
    refine runf (an @s2 (an @s8 (an @s9 (an @s10 (an @s14 (an @s15 (an @s16 (an @s17 (an @s18 (an @c1 (an @c2 (an @c3 (an @d1 (an @d2 (an @f1 (an @f2 @f3)))))))))))))))) ?_
    exact er0
  have hge : ¬ 4294967296 ≤ q := fun h => hc (hgc h)
  have hle := dv7N v q r a0 e0 hc
  obtain ⟨w, ew⟩ : ∃ w, w = v * 4294967296 + a0 - q * 18446744073709551600 := ⟨_, rfl⟩
  obtain ⟨g1, g2⟩ := dv9N u v D q2 a1 a0 t w q hu.out ht.out ev.out z3.out ew hle
  have hw := dvbN v a0 q w ew hle hup
  obtain ⟨g3, g4⟩ := dvaN D _ (w / 8) g1 (dvwN w hw)
  have f1 := dvi q2 q hq1 hq32
  have f2 := dvcN v a0 q w ew hw hle
  have f3 := shr_lit w 3 3 rfl (by decide)
  rw [show (2 : Nat) ^ 3 = 8 from rfl] at f3
  rw [g3, g4]
  clear g1 g2 g3 g4 ew hw hle hup e0 hgc
  refine runf (an @s2 (an @s8 (an @s9 (an @s10 (an @s14 (an @s15 (an @s16 (an @s17 (an @s18 (an @c1 (an @c2 (an @c3 (an @f1 (an @f2 @f3)))))))))))))) ?_
  exact er0
theorem remN_c (hi lo D : Nat) (hD : D = hi * 18446744073709551616 + lo) (hh : hi < 288230376151711744) (hl : lo < 18446744073709551616) :
  AC Tryz.prog 169 [.it .u64 hi, .it .u64 lo, .it .u64 2305843009213693950] [] (.it .u64 ((D % 2305843009213693950 : Nat) : Int)) [] := by
 refine AC.enter [205] [] Tryz.func169 rfl (by decide) (by decide) (Nat.le_of_ble_eq_true rfl) (by kernel_rfl) ?_; refine zev ?_
 have e1 : (hi : Int).tmod 2305843009213693950 = (hi : Int) := by rw [Int.tmod_eq_emod_of_nonneg (by omega)]; omega
 refine runf @e1 ?_
 refine cp (divN_c hi lo D hD hh hl) ?_
 refine run ?_
 exact er0
end Go.Proofs.YtleljbiejeofgaaGreatDoor.Pe
namespace Go.Proofs.YtleljbiejeofgaaGreatDoor.Pe
open Go Sg
variable [Tab]
set_option maxRecDepth 100000
theorem wrapPu : IntKind.u64.wrap 2305843009213693951 = 2305843009213693951 := by decide +kernel
theorem wrapNu : IntKind.u64.wrap 2305843009213693950 = 2305843009213693950 := by decide +kernel
theorem residue_c (a m : Int) (hm : 0 < m) (hm' : m < 4611686018427387904) (ha : -9223372036854775808 ≤ a ∧ a ≤ 9223372036854775807) : AC Tryz.prog 125 [.it .i64 a, .it .i64 m] [] (.it .i64 (a % m)) [] := by
 refine AC.enter [] [] Tryz.func125 rfl (by decide) (by decide) (Nat.le_of_ble_eq_true rfl) (by kernel_rfl) ?_; refine zev ?_
 have h1 : a % m = if a.tmod m < 0 then a.tmod m + m else a.tmod m := by
  rw [Int.emod_eq_tmod]
  have hb := Int.emod_nonneg a (show m ≠ 0 by omega)
  have ht := Int.tmod_lt_of_pos a hm
  by_cases h0 : 0 ≤ a
  ·have := Int.tmod_nonneg m h0
   rw [if_pos (.inl h0), if_neg (by omega)]; omega
  ·by_cases hd : m ∣ a
   ·rw [if_pos (.inr hd), Int.tmod_eq_zero_of_dvd hd]; simp
   ·have hneg : a.tmod m < 0 := by
     have h2 := Int.emod_eq_tmod (a := a) (b := m)
     rw [if_neg (by rintro (h | h); exact h0 h; exact hd h)] at h2
     have h3 := Int.emod_lt_of_pos a hm
     have : (m.natAbs : Int) = m := by omega
     omega
    rw [if_neg (by rintro (h | h); exact h0 h; exact hd h), if_pos hneg]
    omega
 have h2 : -m ≤ a.tmod m ∧ a.tmod m < m := by
  have hb := Int.emod_nonneg a (show m ≠ 0 by omega)
  have hc := Int.emod_lt_of_pos a hm
  have ht := Int.tmod_lt_of_pos a hm
  split at h1 <;> omega
 have hm0 : m ≠ 0 := by omega
 obtain ⟨t, ht⟩ : ∃ t, a.tmod m = t := ⟨_, rfl⟩
 rw [ht] at h1 h2
 rw [h1]
 by_cases h0 : t < 0
 ·rw [if_pos h0]
  refine runf (an @ht @hm0) ?_
  exact er0
 ·rw [if_neg h0]
  refine runf (an @ht @hm0) ?_
  exact er0
theorem add_c (a b m : Int) (hm : 0 < m) (hm' : m < 4611686018427387904) (ha : -9223372036854775808 ≤ a ∧ a ≤ 9223372036854775807) (hb : -9223372036854775808 ≤ b ∧ b ≤ 9223372036854775807) : AC Tryz.prog 128 [.it .i64 a, .it .i64 b, .it .i64 m] [] (.it .i64 ((a % m + b % m) % m)) [] := by
 refine AC.enter [125] [] Tryz.func128 rfl (by decide) (by decide) (Nat.le_of_ble_eq_true rfl) (by kernel_rfl) ?_; refine zev ?_
 have a1 := Int.emod_nonneg a (show m ≠ 0 by omega)
 have a2 := Int.emod_lt_of_pos a hm
 have b1 := Int.emod_nonneg b (show m ≠ 0 by omega)
 have b2 := Int.emod_lt_of_pos b hm
 refine run ?_
 refine cp (residue_c a m hm hm' ha) ?_
 refine run ?_
 refine cp (residue_c b m hm hm' hb) ?_
 refine run ?_
 refine cp (residue_c (a % m + b % m) m hm hm' (by omega)) ?_
 refine run ?_
 exact er0
theorem mulP_c (a b : Int) (ha : -9223372036854775808 ≤ a ∧ a ≤ 9223372036854775807) (hb : -9223372036854775808 ≤ b ∧ b ≤ 9223372036854775807) : AC Tryz.prog 129 [.it .i64 a, .it .i64 b, .it .i64 2305843009213693951] [] (.it .i64 (mulI a b : Nat)) [] := by
 refine AC.enter [125, 168, 169] [] Tryz.func129 rfl (by decide) (by decide) (Nat.le_of_ble_eq_true rfl) (by kernel_rfl) ?_; refine zev ?_
 unfold mulI
 have a1 := Int.emod_nonneg a (show (2305843009213693951 : Int) ≠ 0 by omega)
 have a2 := Int.emod_lt_of_pos a (show (0 : Int) < 2305843009213693951 by omega)
 have b1 := Int.emod_nonneg b (show (2305843009213693951 : Int) ≠ 0 by omega)
 have b2 := Int.emod_lt_of_pos b (show (0 : Int) < 2305843009213693951 by omega)
 obtain ⟨x, hx⟩ := Int.eq_ofNat_of_zero_le a1
 obtain ⟨y, hy⟩ := Int.eq_ofNat_of_zero_le b1
 have ra := residue_c a 2305843009213693951 (by omega) (by omega) ha
 have rb := residue_c b 2305843009213693951 (by omega) (by omega) hb
 rw [hx] at ra a1 a2 ⊢
 rw [hy] at rb b1 b2 ⊢
 rw [Int.toNat_natCast, Int.toNat_natCast]
 have wx := wrapn (n := x) (by omega)
 have wy := wrapn (n := y) (by omega)
 have wP := wrapPu
 have hxy : x * y < 2305843009213693951 * 2305843009213693951 := Nat.mul_lt_mul'' (by omega) (by omega)
 have hm := mul64_c x y (by omega) (by omega)
 have hr := remP_c (x * y / 18446744073709551616) (x * y % 18446744073709551616) (x * y) (by omega) (by omega) (by omega)
 have hz : x * y % 2305843009213693951 < 2305843009213693951 := Nat.mod_lt _ (by omega)
 refine run ?_
 refine cp ra ?_
 refine run ?_
 refine cp rb ?_
 refine runf (an @wx (an @wy @wP)) ?_
 refine cp hm ?_
 refine runf (an @wx (an @wy @wP)) ?_
 refine cp hr ?_
 refine run ?_
 exact er0
theorem mulN_c (a b : Int) (ha : -9223372036854775808 ≤ a ∧ a ≤ 9223372036854775807) (hb : -9223372036854775808 ≤ b ∧ b ≤ 9223372036854775807) : AC Tryz.prog 129 [.it .i64 a, .it .i64 b, .it .i64 2305843009213693950] [] (.it .i64 (mulNI a b : Nat)) [] := by
 refine AC.enter [125, 168, 169] [] Tryz.func129 rfl (by decide) (by decide) (Nat.le_of_ble_eq_true rfl) (by kernel_rfl) ?_; refine zev ?_
 unfold mulNI
 have a1 := Int.emod_nonneg a (show (2305843009213693950 : Int) ≠ 0 by omega)
 have a2 := Int.emod_lt_of_pos a (show (0 : Int) < 2305843009213693950 by omega)
 have b1 := Int.emod_nonneg b (show (2305843009213693950 : Int) ≠ 0 by omega)
 have b2 := Int.emod_lt_of_pos b (show (0 : Int) < 2305843009213693950 by omega)
 obtain ⟨x, hx⟩ := Int.eq_ofNat_of_zero_le a1
 obtain ⟨y, hy⟩ := Int.eq_ofNat_of_zero_le b1
 have ra := residue_c a 2305843009213693950 (by omega) (by omega) ha
 have rb := residue_c b 2305843009213693950 (by omega) (by omega) hb
 rw [hx] at ra a1 a2 ⊢
 rw [hy] at rb b1 b2 ⊢
 rw [Int.toNat_natCast, Int.toNat_natCast]
 have wx := wrapn (n := x) (by omega)
 have wy := wrapn (n := y) (by omega)
 have wP := wrapNu
 have hxy : x * y < 2305843009213693951 * 2305843009213693951 := Nat.mul_lt_mul'' (by omega) (by omega)
 have hm := mul64_c x y (by omega) (by omega)
 have hr := remN_c (x * y / 18446744073709551616) (x * y % 18446744073709551616) (x * y) (by omega) (by omega) (by omega)
 have hz : x * y % 2305843009213693950 < 2305843009213693950 := Nat.mod_lt _ (by omega)
 refine run ?_
 refine cp ra ?_
 refine run ?_
 refine cp rb ?_
 refine runf (an @wx (an @wy @wP)) ?_
 refine cp hm ?_
 refine runf (an @wx (an @wy @wP)) ?_
 refine cp hr ?_
 refine run ?_
 exact er0
theorem gmul_c (a b : Int) (ha : -9223372036854775808 ≤ a ∧ a ≤ 9223372036854775807) (hb : -9223372036854775808 ≤ b ∧ b ≤ 9223372036854775807) : AC Tryz.prog 127 [.it .i64 a, .it .i64 b] [] (.it .i64 (mulI a b : Nat)) [] := by
 refine AC.enter [129] [] Tryz.func127 rfl (by decide) (by decide) (Nat.le_of_ble_eq_true rfl) (by kernel_rfl) ?_; refine zev ?_
 refine run ?_
 refine cp (mulP_c a b ha hb) ?_
 refine run ?_
 exact er0
theorem gmulN_c (a b : Int) (ha : -9223372036854775808 ≤ a ∧ a ≤ 9223372036854775807) (hb : -9223372036854775808 ≤ b ∧ b ≤ 9223372036854775807) : AC Tryz.prog 79 [.it .i64 a, .it .i64 b] [] (.it .i64 (mulNI a b : Nat)) [] := by
 refine AC.enter [129] [] Tryz.func79 rfl (by decide) (by decide) (Nat.le_of_ble_eq_true rfl) (by kernel_rfl) ?_; refine zev ?_
 refine run ?_
 refine cp (mulN_c a b ha hb) ?_
 refine run ?_
 exact er0
theorem gaddN_c (a b : Int) (ha : -9223372036854775808 ≤ a ∧ a ≤ 9223372036854775807) (hb : -9223372036854775808 ≤ b ∧ b ≤ 9223372036854775807) : AC Tryz.prog 78 [.it .i64 a, .it .i64 b] [] (.it .i64 ((a % 2305843009213693950 + b % 2305843009213693950) % 2305843009213693950)) [] := by
 refine AC.enter [128] [] Tryz.func78 rfl (by decide) (by decide) (Nat.le_of_ble_eq_true rfl) (by kernel_rfl) ?_; refine zev ?_
 refine run ?_
 refine cp (add_c a b 2305843009213693950 (by omega) (by omega) ha hb) ?_
 refine run ?_
 exact er0
end Go.Proofs.YtleljbiejeofgaaGreatDoor.Pe
namespace Go.Proofs.YtleljbiejeofgaaGreatDoor.Pe
open Go Go.RowKit Co Sg
set_option maxRecDepth 100000
theorem shr_i (n i : Nat) (h : n < 9223372036854775808) (h' : i ≤ 64) : aShr .i64 (n : Int) (i : Int) = some (.it .i64 ((n / 2 ^ i : Nat) : Int)) := by
 unfold aShr
 rw [if_pos (by omega), Int.toNat_natCast, show min i IntKind.i64.bits = i from Nat.min_eq_left h']
 congr 2
 rw [Int.fdiv_eq_ediv_of_nonneg _ (by exact Int.le_of_lt (Int.pow_pos (by omega)))]
 norm_cast
theorem blen_lt (n : Nat) : n < 2 ^ blen n := by
 unfold blen
 split
 ·subst_vars; decide
 ·exact Nat.lt_log2_self
theorem blen_63 {n : Nat} (h : n < 9223372036854775808) : blen n ≤ 63 := by
 unfold blen
 split
 ·omega
 ·have := (Nat.log2_lt (n := n) (k := 63) (by assumption)).2 (by omega)
  omega
theorem powF_stop {f r p e : Nat} (h : e = 0) : powF f r p e = r := by subst h; exact powF_zero f r p
set_option maxHeartbeats 1600000 in
theorem gexp_c (a e : Int) (ha : -9223372036854775808 ≤ a ∧ a ≤ 9223372036854775807) (he : -9223372036854775808 ≤ e ∧ e ≤ 9223372036854775807) : AC Tryz.prog 77 [.it .i64 a, .it .i64 e] [] (.it .i64 (expI a e : Nat)) [] := by
 refine AC.enter [125, 126, 127] [] Tryz.func77 rfl (by decide) (by decide) (Nat.le_of_ble_eq_true rfl) (by kernel_rfl) ?_; refine zev ?_
 unfold expI powm
 have a1 := Int.emod_nonneg a (show (2305843009213693951 : Int) ≠ 0 by omega)
 have a2 := Int.emod_lt_of_pos a (show (0 : Int) < 2305843009213693951 by omega)
 have ra := residue_c a 2305843009213693951 (by omega) (by omega) ha
 obtain ⟨x, hx⟩ := Int.eq_ofNat_of_zero_le a1
 rw [hx] at ra a1 a2 ⊢
 rw [Int.toNat_natCast, Nat.mod_eq_of_lt (show x < 2305843009213693951 by omega)]
 have hE : ∃ n : Nat, n < 9223372036854775808 ∧ ((if e < 0 then (e % 2305843009213693950).toNat else e.toNat) = n) ∧ (if e < 0 then e % 2305843009213693950 else e) = (n : Int) := by
  split
  ·exact ⟨(e % 2305843009213693950).toNat, by omega, rfl, by omega⟩
  ·exact ⟨e.toNat, by omega, rfl, by omega⟩
 obtain ⟨n, hn, en, eI⟩ := hE
 rw [en]
 have wn := wrapn (n := n) (by omega)
 have hlen := len64_c n (by omega)
 have hb1 := blen_lt n
 have hb2 : blen n ≤ 63 := blen_63 (by omega)
 by_cases hneg : e < 0
 focus
  rw [if_pos hneg] at eI
  have re := residue_c e 2305843009213693950 (by omega) (by omega) he
  rw [eI] at re
  refine run ?_
  refine cp re ?_
  refine run ?_
  refine cp ra ?_
  refine runf @wn ?_
  refine cp hlen ?_
 rotate_left
 focus
  rw [if_neg hneg] at eI
  subst eI
  refine run ?_
  refine cp ra ?_
  refine runf @wn ?_
  refine cp hlen ?_
 all_goals
  refine run ?_
  refine loop_mk (fun m e S => S = [] ∧ e 1 = .it .i64 (n : Int) ∧ e 16 = .it .i64 (blen n : Int) ∧ ∃ i r p : Nat, e 17 = .it .i64 (i : Int) ∧ e 5 = .it .i64 (r : Int) ∧ e 6 = .it .i64 (p : Int) ∧ i ≤ blen n ∧ r < 2305843009213693951 ∧ p < 2305843009213693951 ∧ powF 64 1 x n = powF (64 - i) r p (n / 2 ^ i) ∧ m = blen n - i) (blen n)
   ⟨rfl, zsl, zsl, 0, 1, x, zsl, zsl, zsl, by omega, by decide, by omega, by simp, rfl⟩ ?_
  rintro m e S ⟨rfl, s1, s16, i, r, p, s17, s5, s6, hi, hr, hp, hpow, rfl⟩
  by_cases hlt : i < blen n
  rotate_left
  ·obtain rfl : i = blen n := by omega
   rw [powF_stop (f := 64 - blen n) (e := n / 2 ^ blen n) (Nat.div_eq_of_lt hb1)] at hpow
   rw [hpow]
   refine runf (an @s1 (an @s16 (an @s17 (an @s5 @s6)))) ?_
   exact er0
  have hsh := shr_i n i hn (by omega)
  have hq : n / 2 ^ i < 9223372036854775808 := Nat.lt_of_le_of_lt (Nat.div_le_self _ _) hn
  have hand := and_one (n / 2 ^ i) hq
  have h64 : 64 - i = (64 - (i + 1)) + 1 := by omega
  have hd : n / 2 ^ i / 2 = n / 2 ^ (i + 1) := by rw [Nat.div_div_eq_div_mul, Nat.pow_succ]
  rw [h64, powF_succ (64 - (i + 1)) r p, hd] at hpow
  have mpp := gmul_c (p : Int) (p : Int) (by omega) (by omega)
  have mrp := gmul_c (r : Int) (p : Int) (by omega) (by omega)
  rw [mulI_nat hp hp] at mpp
  rw [mulI_nat hr hp] at mrp
  have lpp : p * p % 2305843009213693951 < 2305843009213693951 := Nat.mod_lt _ (by decide)
  have lrp : r * p % 2305843009213693951 < 2305843009213693951 := Nat.mod_lt _ (by decide)
  generalize n / 2 ^ i = q at *
  by_cases ho : q % 2 = 1
  ·rw [if_pos ho] at hpow
   have hoI : ((q % 2 : Nat) : Int) = 1 := by omega
   refine runf (an @s1 (an @s16 (an @s17 (an @s5 (an @s6 (an @hsh (an @hand @hoI))))))) ?_
   refine cp mrp ?_
   refine runf (an @s1 (an @s16 (an @s17 (an @s5 @s6)))) ?_
   refine cp mpp ?_
   refine runf (an @s1 (an @s16 (an @s17 (an @s5 @s6)))) ?_
   exact round_mk (blen n - (i + 1)) (by omega) ⟨rfl, zsl, zsl, i + 1, r * p % 2305843009213693951, p * p % 2305843009213693951, zsl, zsl, zsl, by omega, lrp, lpp, hpow, rfl⟩
  ·rw [if_neg ho] at hpow
   have hoI : ((q % 2 : Nat) : Int) = 0 := by omega
   refine runf (an @s1 (an @s16 (an @s17 (an @s5 (an @s6 (an @hsh (an @hand @hoI))))))) ?_
   refine cp mpp ?_
   refine runf (an @s1 (an @s16 (an @s17 (an @s5 @s6)))) ?_
   exact round_mk (blen n - (i + 1)) (by omega) ⟨rfl, zsl, zsl, i + 1, r, p * p % 2305843009213693951, zsl, zsl, zsl, by omega, hr, lpp, hpow, rfl⟩
theorem expI_nat (a : Int) (b e : Nat) (h : a = (b : Int)) (hb : b < 2305843009213693951) : expI a (e : Int) = powm b e := by
 subst h
 unfold expI
 rw [if_neg (by omega), Int.toNat_natCast, show ((b : Int) % (2305843009213693951 : Int)).toNat = b by omega]
theorem snum_c (l : By) (h : l.length ≤ 140737488355328) : AC Tryz.prog 123 [.st l] [] (.it .i64 (Sm.num l : Nat)) [] := by
 refine AC.ofBelow (by kernel_rfl) fun w g cargs ht hargs => ?_
 rw [lrel_st hargs]
 refine (num_any ⟨l.toArray⟩ w (by simp [ByteArray.size]; omega)).mono ?_
 rintro r w' ⟨rfl, rfl⟩
 exact ⟨_, rfl, fun g' => .it g' _ _, Below.refl _ _⟩
theorem inter_nil : ∀ (l : List By), List.intercalate [] l = l.flatten
 | [] => rfl
 | [a] => by simp [List.intercalate]
 | a :: b :: l => by
  have := inter_nil (b :: l)
  unfold List.intercalate at this ⊢
  simp only [List.intersperse, List.flatten_cons, List.nil_append] at this ⊢
  rw [this]
theorem flat_sts (l : List By) : flat (l.map AV.st) = l.map AV.st := by
 induction l with
 | nil => rfl
 | cons b l ih => simp only [List.map_cons, flat, List.flatMap_cons, AV.cells] at *; rw [ih]; rfl
theorem join_c (l : List By) (h : l.flatten.length ≤ 140737488355328) (hl : 0 < l.length) (hl2 : l.length ≤ 1000000) : AC Tryz.prog 124 [sls l, .st []] [] (.st l.flatten) [] := by
 refine AC.ofBelow (by kernel_rfl) fun w g cargs ht hargs => ?_
 obtain ⟨h1, h2⟩ := hargs
 obtain ⟨c0, c1, rfl⟩ : ∃ c0 c1, cargs = #[c0, c1] := by
  refine ⟨cargs[0]'(by rw [h1]; simp), cargs[1]'(by rw [h1]; simp), ?_⟩
  apply Array.ext
  ·simpa using h1
  ·intro i hi hj
   match i, hj with
   | 0, _ => rfl
   | 1, _ => rfl
 have r0 := h2 0 _ _ rfl rfl
 have r1 := h2 1 _ _ rfl rfl
 cases r1
 cases r0 with
 | sl _ _ _ A c sz cu hc hcm hsz hA k1 hr hm =>
  have hfl := flat_sts l
  rw [hfl] at hA k1 hr
  simp only [List.length_map] at hA hc k1 hr ⊢
  obtain ⟨b, o, rfl, hcell⟩ := hA hl
  have hcu : ∀ (j : Nat) x, l[j]? = some x → cu j = .string ⟨x.toArray⟩ := fun j x hx => by
   have := hr j (.st x) (by rw [List.getElem?_map, hx]; rfl)
   generalize cu j = y at this
   cases this
   rfl
  have hj : Lib.join ((l.map fun x => (⟨x.toArray⟩ : ByteArray)).map (·.data.toList)) (⟨([] : By).toArray⟩ : ByteArray).data.toList = l.flatten := by
   rw [List.map_map, show ((fun x : ByteArray => x.data.toList) ∘ fun x : By => (⟨x.toArray⟩ : ByteArray)) = id from by funext x; simp, List.map_id]
   exact inter_nil l
  have key := Tryz.strings_Join b o c (l.map fun x => (⟨x.toArray⟩ : ByteArray)) ⟨([] : By).toArray⟩ w (fun j x hx => by
    rw [List.getElem?_map] at hx
    obtain ⟨y, hy, rfl⟩ := Option.map_eq_some_iff.1 hx
    rw [(hcell j (List.getElem?_eq_some_iff.1 hy).1).2, hcu j y hy])
   (World.block_lt_of_cell? w _ (hcell 0 hl).2) (by rw [List.length_map]; omega) (by rw [List.length_map]; exact hc) (by rw [hj]; exact h)
  rw [hj, List.length_map] at key
  refine key.mono ?_
  rintro r w' ⟨rfl, hb⟩
  exact ⟨_, rfl, fun g' => .st g' _, hb⟩
theorem hash_c (l : List By) (h : l.flatten.length ≤ 1000000000) (hl : 0 < l.length) (hl2 : l.length ≤ 1000000) : AC Tryz.prog 73 [sls l] [] (.it .i64 (Sg.hash l.flatten : Nat)) [] := by
 refine AC.enter [124, 82, 123] [] Tryz.func73 rfl (by decide) (by decide) (Nat.le_of_ble_eq_true rfl) (by kernel_rfl) ?_; refine zev ?_
 have hs : (Sm.sha l.flatten).length ≤ 140737488355328 := by show 32 ≤ _; omega
 refine run ?_
 refine cp (join_c l (by omega) hl hl2) ?_
 refine run ?_
 refine cp (sha_c l.flatten (by omega)) ?_
 refine run ?_
 refine cp (snum_c _ hs) ?_
 refine run ?_
 exact er0
theorem reduce_c (h : Nat) (hh : h < 2305843009213693952) : AC Tryz.prog 72 [.it .i64 (h : Int)] [] (.it .i64 (reduce h : Nat)) [] := by
 refine AC.enter [] [] Tryz.func72 rfl (by decide) (by decide) (Nat.le_of_ble_eq_true rfl) (by kernel_rfl) ?_; refine zev ?_
 unfold reduce
 have e : (h : Int).tmod 2305843009213693949 = ((h % 2305843009213693949 : Nat) : Int) := by rw [Int.tmod_eq_emod_of_nonneg (by omega)]; omega
 have e2 : (1 : Int) + ((h % 2305843009213693949 : Nat) : Int) = ((1 + h % 2305843009213693949 : Nat) : Int) := by omega
 refine runf (an @e @e2) ?_
 exact er0
theorem hash4 (a b c d : By) : [a, b, c, d].flatten = a ++ b ++ c ++ d := by simp
theorem hash3 (a b c : By) : [a, b, c].flatten = a ++ b ++ c := by simp
theorem hash2 (a b : By) : [a, b].flatten = a ++ b := by simp
theorem numI_len (n : Int) (h : n < 9223372036854775808) : (numI n).length ≤ 9 := numI_le n h
theorem text_le (m : By) (h : m.length ≤ 100000000) : (text m).length ≤ 100000009 := by
 have := num_le 8 m.length (by omega)
 unfold text
 rw [List.length_append]
 omega
theorem challenge_c (r p : Int) (m : By) (hm : m.length ≤ 100000000) (hr : -9223372036854775808 ≤ r ∧ r ≤ 9223372036854775807) (hp : -9223372036854775808 ≤ p ∧ p ≤ 9223372036854775807) : AC Tryz.prog 76 [.it .i64 r, .it .i64 p, .st m] [] (.it .i64 (challenge r p m : Nat)) [] := by
 refine AC.enter [74, 75, 73] [] Tryz.func76 rfl (by decide) (by decide) (Nat.le_of_ble_eq_true rfl) (by kernel_rfl) ?_; refine zev ?_
 have tw : (text wSign).length = 5 := by rfl
 have tm := text_le m hm
 have l1 := numI_len r (by omega)
 have l2 := numI_len p (by omega)
 have hlt := hash_lt (text wSign ++ numI r ++ numI p ++ text m)
 unfold challenge
 have hh := hash_c [text wSign, numI r, numI p, text m] (by rw [hash4]; simp only [List.length_append]; omega) (by simp) (by simp)
 rw [hash4] at hh
 generalize Sg.hash (text wSign ++ numI r ++ numI p ++ text m) = h at *
 have e : (h : Int).tmod 2305843009213693950 = ((h % 2305843009213693950 : Nat) : Int) := by rw [Int.tmod_eq_emod_of_nonneg (by omega)]; omega
 refine run ?_
 refine cp (text_c wSign (by simp)) ?_
 refine run ?_
 refine cp (num_c r (by omega) (by omega)) ?_
 refine run ?_
 refine cp (num_c p (by omega) (by omega)) ?_
 refine run ?_
 refine cp (text_c m (by omega)) ?_
 refine run ?_
 refine cp hh ?_
 refine runf @e ?_
 exact er0
abbrev keyV (k : Key) : AV := .agg [.it .i64 k.secret, .it .i64 k.pub]
abbrev sigV (s : Sig) : AV := .agg [.it .i64 s.e, .it .i64 s.s]
theorem of_c (s : Int) (hs : -9223372036854775808 ≤ s ∧ s ≤ 9223372036854775807) : AC Tryz.prog 71 [.it .i64 s] [] (keyV (Sg.keyOf s)) [] := by
 refine AC.enter [77] [] Tryz.func71 rfl (by decide) (by decide) (Nat.le_of_ble_eq_true rfl) (by kernel_rfl) ?_; refine zev ?_
 unfold Sg.keyOf
 by_cases h1 : s < 1
 ·rw [if_pos (.inl h1)]
  refine run ?_
  exact er0
 by_cases h2 : 2305843009213693949 < s
 ·rw [if_pos (.inr h2)]
  refine run ?_
  exact er0
 ·rw [if_neg (by omega)]
  obtain ⟨n, rfl⟩ := Int.eq_ofNat_of_zero_le (show 0 ≤ s by omega)
  have he := gexp_c 37 (n : Int) (by omega) (by omega)
  rw [expI_nat 37 37 n rfl (by decide)] at he
  refine run ?_
  refine cp he ?_
  refine run ?_
  exact er0
theorem keySeed_c (seed : By) (hm : seed.length ≤ 100000000) : AC Tryz.prog 37 [.st seed] [] (keyV (keySeed seed)) [] := by
 refine AC.enter [74, 73, 72, 71] [] Tryz.func37 rfl (by decide) (by decide) (Nat.le_of_ble_eq_true rfl) (by kernel_rfl) ?_; refine zev ?_
 have tm := text_le seed hm
 have tw : (text wKey).length = 4 := by rfl
 have hlt := hash_lt (text wKey ++ text seed)
 have hr := reduce_lt (Sg.hash (text wKey ++ text seed))
 have hh := hash_c [text wKey, text seed] (by rw [hash2]; simp only [List.length_append]; omega) (by simp) (by simp)
 rw [hash2] at hh
 unfold keySeed
 generalize Sg.hash (text wKey ++ text seed) = h at *
 refine run ?_
 refine cp (text_c wKey (by simp)) ?_
 refine run ?_
 refine cp (text_c seed (by omega)) ?_
 refine run ?_
 refine cp hh ?_
 refine run ?_
 refine cp (reduce_c h hlt) ?_
 refine run ?_
 refine cp (of_c (reduce h) (by omega)) ?_
 refine run ?_
 exact er0
theorem key_eta (k q : Key) : decide (k = q) = ((k.secret == q.secret) && (k.pub == q.pub)) := by
 obtain ⟨a, b⟩ := k
 obtain ⟨c, d⟩ := q
 rw [Bool.eq_iff_iff]
 simp
theorem keyright_c (k : Key) (hs : -9223372036854775808 ≤ k.secret ∧ k.secret ≤ 9223372036854775807) : AC Tryz.prog 32 [keyV k] [] (.bo k.right) [] := by
 refine AC.enter [71] [] Tryz.func32 rfl (by decide) (by decide) (Nat.le_of_ble_eq_true rfl) (by kernel_rfl) ?_; refine zev ?_
 unfold Key.right
 rw [key_eta]
 by_cases h1 : 1 ≤ k.secret
 ·rw [decide_eq_true h1]
  refine run ?_
  refine cp (of_c k.secret hs) ?_
  refine run ?_
  exact er0
 ·rw [decide_eq_false h1]
  refine run ?_
  exact er0
theorem inOrder_c (n : Int) : AC Tryz.prog 138 [.it .i64 n] [] (.bo (inOrder n)) [] := by
 refine AC.enter [] [] Tryz.func138 rfl (by decide) (by decide) (Nat.le_of_ble_eq_true rfl) (by kernel_rfl) ?_; refine zev ?_
 unfold inOrder
 by_cases h : 0 ≤ n
 ·rw [decide_eq_true h]
  refine run ?_
  exact er0
 ·rw [decide_eq_false h]
  refine run ?_
  exact er0
theorem nonce_lt (k : Key) (m : By) : 1 ≤ nonce k m ∧ nonce k m < 2305843009213693950 := reduce_lt _
theorem sign_c (k : Key) (m : By) (hm : m.length ≤ 100000000) (hs : -9223372036854775808 ≤ k.secret ∧ k.secret ≤ 9223372036854775807) : AC Tryz.prog 35 [keyV k, .st m] [] (sigV (sign k m)) [] := by
 refine AC.enter [32, 74, 75, 73, 72, 77, 76, 79, 78] [] Tryz.func35 rfl (by decide) (by decide) (Nat.le_of_ble_eq_true rfl) (by kernel_rfl) ?_; refine zev ?_
 unfold sign
 refine run ?_
 refine cp (keyright_c k hs) ?_
 cases hr : k.right with
 | false =>
  rw [if_neg (by simp)]
  refine run ?_
  exact er0
 | true =>
  rw [if_pos rfl]
  obtain ⟨p1, p2⟩ := pub_range hr
  obtain ⟨q1, q2, _⟩ := Key.right_iff.1 hr
  have tm := text_le m hm
  have tw : (text wNonce).length = 6 := by rfl
  have l1 := numI_len k.secret (by omega)
  have hh := hash_c [text wNonce, numI k.secret, text m] (by rw [hash3]; simp only [List.length_append]; omega) (by simp) (by simp)
  rw [hash3] at hh
  have hred := reduce_c (Sg.hash (text wNonce ++ numI k.secret ++ text m)) (hash_lt _)
  change AC _ _ _ _ (.it .i64 (nonce k m : Nat)) _ at hred
  obtain ⟨n1, n2⟩ := nonce_lt k m
  generalize nonce k m = u at *
  have hexp := gexp_c 37 (u : Int) (by omega) (by omega)
  rw [expI_nat 37 37 u rfl (by decide)] at hexp
  have hpl := powm_lt 37 u
  have hch := challenge_c (powm 37 u : Nat) k.pub m hm (by omega) (by omega)
  have hel := challenge_lt (powm 37 u : Nat) k.pub m
  generalize challenge (powm 37 u : Nat) k.pub m = e at *
  have hmul := gmulN_c (e : Int) k.secret (by omega) (by omega)
  have hml : mulNI e k.secret < 2305843009213693950 := Nat.mod_lt _ (by decide)
  have hadd := gaddN_c (u : Int) (mulNI e k.secret : Nat) (by omega) (by omega)
  have hval : ((u : Int) % 2305843009213693950 + ((mulNI e k.secret : Nat) : Int) % 2305843009213693950) % 2305843009213693950 = (((u + e * k.secret.toNat) % 2305843009213693950 : Nat) : Int) := by
   have h1 : mulNI e k.secret = e * k.secret.toNat % 2305843009213693950 := by
    unfold mulNI
    rw [show ((e : Int) % 2305843009213693950).toNat = e by omega, show (k.secret % 2305843009213693950).toNat = k.secret.toNat by omega]
   rw [h1]
   generalize e * k.secret.toNat = z
   omega
  rw [hval] at hadd
  refine run ?_
  refine cp (text_c wNonce (by simp)) ?_
  refine run ?_
  refine cp (num_c k.secret (by omega) (by omega)) ?_
  refine run ?_
  refine cp (text_c m (by omega)) ?_
  refine run ?_
  refine cp hh ?_
  refine run ?_
  refine cp hred ?_
  refine run ?_
  refine cp hexp ?_
  refine run ?_
  refine cp hch ?_
  refine run ?_
  refine cp hmul ?_
  refine run ?_
  refine cp hadd ?_
  refine run ?_
  exact er0
theorem verify_c (p : Int) (m : By) (s : Sig) (hm : m.length ≤ 100000000) (hp : -9223372036854775808 ≤ p ∧ p ≤ 9223372036854775807) (hs : -9223372036854775808 ≤ s.e ∧ s.e ≤ 9223372036854775807) : AC Tryz.prog 92 [.it .i64 p, .st m, sigV s] [] (.bo (verify p m s)) [] := by
 refine AC.enter [138, 77, 127, 76] [] Tryz.func92 rfl (by decide) (by decide) (Nat.le_of_ble_eq_true rfl) (by kernel_rfl) ?_; refine zev ?_
 unfold verify
 by_cases h1 : 1 ≤ p
 rotate_left
 ·rw [decide_eq_false h1]
  refine run ?_
  exact er0
 by_cases h2 : p < 2305843009213693951
 rotate_left
 ·rw [decide_eq_true h1, decide_eq_false h2]
  refine run ?_
  exact er0
 rw [decide_eq_true h1, decide_eq_true h2]
 cases ie : inOrder s.e with
 | false =>
  refine run ?_
  refine cp (inOrder_c s.e) ?_
  refine runf @ie ?_
  exact er0
 | true =>
  cases is : inOrder s.s with
  | false =>
   refine run ?_
   refine cp (inOrder_c s.e) ?_
   refine runf @ie ?_
   refine cp (inOrder_c s.s) ?_
   refine runf @is ?_
   exact er0
  | true =>
   have re : 0 ≤ s.e ∧ s.e < 2305843009213693950 := by simpa [inOrder] using ie
   have rs : 0 ≤ s.s ∧ s.s < 2305843009213693950 := by simpa [inOrder] using is
   have x1 := gexp_c 37 s.s (by omega) (by omega)
   have x2 := gexp_c p (2305843009213693950 - s.e) (by omega) (by omega)
   have e1 : expI 37 s.s = powm 37 s.s.toNat := by
    have := expI_nat 37 37 s.s.toNat rfl (by decide)
    rwa [Int.toNat_of_nonneg rs.1] at this
   have e2 : expI p (2305843009213693950 - s.e) = powm p.toNat (2305843009213693950 - s.e).toNat := by
    have := expI_nat p p.toNat (2305843009213693950 - s.e).toNat (by omega) (by omega)
    rwa [Int.toNat_of_nonneg (by omega)] at this
   rw [e1] at x1
   rw [e2] at x2
   have l1 := powm_lt 37 s.s.toNat
   have l2 := powm_lt p.toNat (2305843009213693950 - s.e).toNat
   have hmul := gmul_c (powm 37 s.s.toNat : Nat) (powm p.toNat (2305843009213693950 - s.e).toNat : Nat) (by omega) (by omega)
   rw [mulI_nat l1 l2] at hmul
   change AC _ _ _ _ (.it .i64 ((commit p s : Nat) : Int)) _ at hmul
   have hcl : commit p s < 2305843009213693951 := Nat.mod_lt _ (by decide)
   have hch := challenge_c (commit p s : Nat) p m hm (by omega) (by omega)
   generalize commit p s = c at *
   generalize challenge (c : Int) p m = h at *
   generalize powm 37 s.s.toNat = y1 at *
   generalize powm p.toNat (2305843009213693950 - s.e).toNat = y2 at *
   refine run ?_
   refine cp (inOrder_c s.e) ?_
   refine runf @ie ?_
   refine cp (inOrder_c s.s) ?_
   refine runf @is ?_
   refine cp x1 ?_
   refine run ?_
   refine cp x2 ?_
   refine run ?_
   refine cp hmul ?_
   refine run ?_
   refine cp hch ?_
   refine run ?_
   exact er0
end Go.Proofs.YtleljbiejeofgaaGreatDoor.Pe
end
