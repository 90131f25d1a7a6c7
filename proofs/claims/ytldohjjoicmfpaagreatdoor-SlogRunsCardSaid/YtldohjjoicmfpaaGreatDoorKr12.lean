/- A part. -/
import Derived.Test.YtldohjjoicmfpaaGreatDoorKr11
import Derived.Laws.Entries
set_option linter.unusedSectionVars false
set_option linter.unusedVariables false
set_option linter.unusedSimpArgs false
namespace Go.Proofs
open Go.Shelf Tryz
def Tryz.lays156_ren : Go.Shelf.Ren := ⟨fun | 156 => 67 | 165 => 126 | 166 => 127 | 169 => 128 | 240 => 190 | 241 => 191 | 276 => 252 | 277 => 253 | n => n, fun | 31 => 45 | 9 => 9 | 3 => 3 | 4 => 4 | 0 => 0 | 20 => 20 | 72 => 170 | 76 => 173 | 70 => 168 | 37 => 86 | 75 => 172 | 127 => 225 | 164 => 243 | 5 => 5 | 80 => 175 | n => n, fun | n => n⟩
theorem Tryz.lays156 : Go.Proofs.Lays.n156 prog Tryz.lays156_ren := {
 mixed := by kernel_rfl
 f156 := func67.trans (congrArg some (by kernel_rfl))
 f165 := func126.trans (congrArg some (by kernel_rfl))
 f166 := func127.trans (congrArg some (by kernel_rfl))
 f169 := func128.trans (congrArg some (by kernel_rfl))
 f240 := func190.trans (congrArg some (by kernel_rfl))
 f241 := func191.trans (congrArg some (by kernel_rfl))
 f276 := func252.trans (congrArg some (by kernel_rfl))
 f277 := func253.trans (congrArg some (by kernel_rfl))
 t0 := underlying0
 a0 := isAgg0
 z0 := sizeOf0
 v0 := zeroValue0
 t3 := underlying3
 a3 := isAgg3
 z3 := sizeOf3
 v3 := zeroValue3
 t4 := underlying4
 a4 := isAgg4
 z4 := sizeOf4
 v4 := zeroValue4
 t9 := underlying9
 a9 := isAgg9
 z9 := sizeOf9
 v9 := zeroValue9
 t20 := underlying20
 a20 := isAgg20
 z20 := sizeOf20
 v20 := zeroValue20
 t31 := underlying45
 a31 := isAgg45
 z31 := sizeOf45
 v31 := zeroValue45
 t37 := underlying86
 a37 := isAgg86
 z37 := sizeOf86
 v37 := zeroValue86
 t70 := underlying168
 a70 := isAgg168
 z70 := sizeOf168
 v70 := zeroValue168
 t72 := underlying170
 a72 := isAgg170
 z72 := sizeOf170
 v72 := zeroValue170
 t75 := underlying172
 a75 := isAgg172
 z75 := sizeOf172
 v75 := zeroValue172
 t76 := underlying173
 a76 := isAgg173
 z76 := sizeOf173
 v76 := zeroValue173
 t127 := underlying225
 a127 := isAgg225
 z127 := sizeOf225
 v127 := zeroValue225
 t164 := underlying243
 a164 := isAgg243
 z164 := sizeOf243
 v164 := zeroValue243 }
theorem Tryz.Builder_Extra_156 : Builder.Extra prog Tryz.lays156_ren := {
 sizeBuilder := by kernel_rfl
 liesBuilder := by kernel_rfl
 t5 := underlying5
 a5 := isAgg5
 z5 := sizeOf5
 v5 := zeroValue5
 infoByte := by kernel_rfl
 cellsByte := by kernel_rfl
 sizeByte := by kernel_rfl
 neB5 := by decide }
open Go.RowKit in
theorem Tryz.strings_Join (bk o c : Nat) (xs : List ByteArray) (sep : ByteArray) (w : World) (hcells : ∀ (j : Nat) x, xs[j]? = some x → w.cell? ⟨bk, o + j, none⟩ = some (.string x)) (hbk : bk < w.heap.size) (hN : xs.length ≤ 140737488355328) (hcap : xs.length ≤ c) (hlen : (Lib.join (xs.map (·.data.toList)) sep.data.toList).length ≤ 140737488355328) :
   Calls prog 67 #[.slice (some ⟨bk, o, none⟩) xs.length c, .string sep] w fun e w' => e = .returned (.string ⟨(Lib.join (xs.map (·.data.toList)) sep.data.toList).toArray⟩) ∧ Below w.heap.size w w' := Any.strings_Join Tryz.lays156 Tryz.Builder_Extra_156 bk o c xs sep w hcells hbk hN hcap hlen
end Go.Proofs
namespace Go.Proofs.YtldohjjoicmfpaaGreatDoor
section
namespace Pe
open Tryz
open Go
variable [Tab]
set_option maxRecDepth 100000
theorem AM {n : Int} : IntKind.u64.wrap n = n % 18446744073709551616 := rfl
theorem C3 {n : Nat} (h : n < 18446744073709551616) : IntKind.u64.wrap (n : Int) = (n : Int) := by rw [AM]; omega
theorem bits_nat (op : BinOp) (f : Nat → Nat → Nat) (hop : (op = .and ∧ f = Nat.land) ∨ (op = .or ∧ f = Nat.lor)) (a b : Nat) (ha : a < 18446744073709551616) (hb : b < 18446744073709551616) (k : IntKind) (hk : k = .u64 ∨ k = .i64) :
  Go.bits op k (a : Int) (b : Int) = k.wrap ((f a b : Nat) : Int) := by
 have h1 : (BitVec.ofInt 64 (a : Int)).toNat = a := by rw [BitVec.ofInt_natCast, BitVec.toNat_ofNat]; exact Nat.mod_eq_of_lt ha
 have h2 : (BitVec.ofInt 64 (b : Int)).toNat = b := by rw [BitVec.ofInt_natCast, BitVec.toNat_ofNat]; exact Nat.mod_eq_of_lt hb
 rcases hop with ⟨rfl, rfl⟩ | ⟨rfl, rfl⟩ <;> rcases hk with rfl | rfl
 ·show IntKind.u64.wrap ((BitVec.ofInt 64 (a : Int) &&& BitVec.ofInt 64 (b : Int)).toNat : Int) = _
  rw [BitVec.toNat_and, h1, h2]; rfl
 ·show IntKind.i64.wrap ((BitVec.ofInt 64 (a : Int) &&& BitVec.ofInt 64 (b : Int)).toNat : Int) = _
  rw [BitVec.toNat_and, h1, h2]; rfl
 ·show IntKind.u64.wrap ((BitVec.ofInt 64 (a : Int) ||| BitVec.ofInt 64 (b : Int)).toNat : Int) = _
  rw [BitVec.toNat_or, h1, h2]; rfl
 ·show IntKind.i64.wrap ((BitVec.ofInt 64 (a : Int) ||| BitVec.ofInt 64 (b : Int)).toNat : Int) = _
  rw [BitVec.toNat_or, h1, h2]; rfl
theorem ID (a : Nat) (ha : a < 18446744073709551616) : Go.bits .and .u64 (a : Int) 4294967295 = ((a % 4294967296 : Nat) : Int) := by
 have := bits_nat .and Nat.land (.inl ⟨rfl, rfl⟩) a 4294967295 ha (by omega) .u64 (.inl rfl)
 have e : Nat.land a 4294967295 = a % 4294967296 := Nat.and_two_pow_sub_one_eq_mod a 32;rw [e] at this;exact this.trans (C3 (by omega))
theorem Zff (a : Nat) (ha : a < 9223372036854775808) : Go.bits .and .i64 (a : Int) 1 = ((a % 2 : Nat) : Int) := by
 have := bits_nat .and Nat.land (.inl ⟨rfl, rfl⟩) a 1 (by omega) (by omega) .i64 (.inr rfl)
 have e : Nat.land a 1 = a % 2 := Nat.and_two_pow_sub_one_eq_mod a 1;rw [e] at this;exact this.trans (wrap64 (by omega) (by omega))
theorem Ss (c a j : Nat) (ha : a < 2 ^ j) (h : c * 2 ^ j + a < 18446744073709551616) : Go.bits .or .u64 ((c * 2 ^ j : Nat) : Int) (a : Int) = ((c * 2 ^ j + a : Nat) : Int) := by
 have := bits_nat .or Nat.lor (.inr ⟨rfl, rfl⟩) (c * 2 ^ j) a (by omega) (by omega) .u64 (.inl rfl)
 have e : Nat.lor (c * 2 ^ j) a = c * 2 ^ j + a := by
  show c * 2 ^ j ||| a = _
  rw [Nat.mul_comm, ← Nat.two_pow_add_eq_or_of_lt ha]
 rw [e] at this;exact this.trans (C3 h)
theorem GF (n : Nat) (b : Int) (s : Nat) (h : b = (s : Int)) (h' : s ≤ 64) : FS .u64 (n : Int) b = some (.it .u64 ((n * 2 ^ s % 18446744073709551616 : Nat) : Int)) := by
 subst h;unfold FS;rw [if_pos (by omega)]
 congr 2
 rw [Int.toNat_natCast, show min s IntKind.u64.bits = s from Nat.min_eq_left h']
 rw [show ((n : Int) * 2 ^ s) = ((n * 2 ^ s : Nat) : Int) from by push_cast; rfl, AM]
 omega
theorem Zb4 (x0 x1 y0 y1 : Nat) : (x1 * 4294967296 + x0) * (y1 * 4294967296 + y0) = x1 * y1 * 18446744073709551616 + (x1 * y0 + x0 * y1) * 4294967296 + x0 * y0 := by
 grind
theorem SV (a b : Nat) (ha : a < 2305843009213693952) (hb : b < 2305843009213693952) : AC prog 249 [.it .u64 a, .it .u64 b] [] (.tup [.it .u64 ((a * b / 18446744073709551616 : Nat) : Int), .it .u64 ((a * b % 18446744073709551616 : Nat) : Int)]) [] := by
 refine Ai [] [] func249 ?_;have hx0 := ID a (by omega)
 have hy0 := ID b (by omega)
 have hx1 := Cw a 32 32 rfl (by omega)
 have hy1 := Cw b 32 32 rfl (by omega)
 rw [show (2 : Nat) ^ 32 = 4294967296 from rfl] at hx1 hy1
 have hab : a * b = a / 4294967296 * (b / 4294967296) * 18446744073709551616 + (a / 4294967296 * (b % 4294967296) + a % 4294967296 * (b / 4294967296)) * 4294967296 + a % 4294967296 * (b % 4294967296) := by
  rw [← Zb4, Nat.div_add_mod', Nat.div_add_mod']
 have b0 : a % 4294967296 ≤ 4294967295 := by omega
 have b1 : a / 4294967296 ≤ 536870911 := by omega
 have b2 : b % 4294967296 ≤ 4294967295 := by omega
 have b3 : b / 4294967296 ≤ 536870911 := by omega
 have habI : IntKind.u64.wrap ((a : Int) * (b : Int)) = ((a * b % 18446744073709551616 : Nat) : Int) := by
  rw [show (a : Int) * (b : Int) = ((a * b : Nat) : Int) from by push_cast; rfl, AM]; omega
 generalize a % 4294967296 = x0 at *;generalize a / 4294967296 = x1 at *;generalize b % 4294967296 = y0 at *;generalize b / 4294967296 = y1 at *;have p00 : x0 * y0 ≤ 4294967295 * 4294967295 := Nat.mul_le_mul b0 b2;have p10 : x1 * y0 ≤ 536870911 * 4294967295 := Nat.mul_le_mul b1 b2;have p01 : x0 * y1 ≤ 4294967295 * 536870911 := Nat.mul_le_mul b0 b3;have p11 : x1 * y1 ≤ 536870911 * 536870911 := Nat.mul_le_mul b1 b3;have c00 : ((x0 : Int) * (y0 : Int)) = ((x0 * y0 : Nat) : Int) := by push_cast; rfl
 have c10 : ((x1 : Int) * (y0 : Int)) = ((x1 * y0 : Nat) : Int) := by push_cast; rfl
 have c01 : ((x0 : Int) * (y1 : Int)) = ((x0 * y1 : Nat) : Int) := by push_cast; rfl
 have c11 : ((x1 : Int) * (y1 : Int)) = ((x1 * y1 : Nat) : Int) := by push_cast; rfl
 generalize a * b = ab at *;generalize x0 * y0 = q00 at *;generalize x1 * y0 = q10 at *;generalize x0 * y1 = q01 at *;generalize x1 * y1 = q11 at *;have w00 : IntKind.u64.wrap (q00 : Int) = (q00 : Int) := C3 (by omega)
 have w10 : IntKind.u64.wrap (q10 : Int) = (q10 : Int) := C3 (by omega)
 have w01 : IntKind.u64.wrap (q01 : Int) = (q01 : Int) := C3 (by omega)
 have w11 : IntKind.u64.wrap (q11 : Int) = (q11 : Int) := C3 (by omega)
 have s00 := Cw q00 32 32 rfl (by omega)
 rw [show (2 : Nat) ^ 32 = 4294967296 from rfl] at s00
 obtain ⟨t, et⟩ : ∃ t, t = q10 + q00 / 4294967296 := ⟨_, rfl⟩
 have wt : IntKind.u64.wrap ((q10 : Int) + ((q00 / 4294967296 : Nat) : Int)) = (t : Int) := by rw [AM]; omega
 have st := Cw t 32 32 rfl (by omega)
 rw [show (2 : Nat) ^ 32 = 4294967296 from rfl] at st
 have mt := ID t (by omega)
 obtain ⟨u, eu⟩ : ∃ u, u = t % 4294967296 + q01 := ⟨_, rfl⟩
 have wu : IntKind.u64.wrap (((t % 4294967296 : Nat) : Int) + (q01 : Int)) = (u : Int) := by rw [AM]; omega
 have su := Cw u 32 32 rfl (by omega)
 rw [show (2 : Nat) ^ 32 = 4294967296 from rfl] at su
 have wv : IntKind.u64.wrap ((q11 : Int) + ((t / 4294967296 : Nat) : Int)) = (q11 : Int) + ((t / 4294967296 : Nat) : Int) := by rw [AM]; omega
 have wz : IntKind.u64.wrap ((q11 : Int) + ((t / 4294967296 : Nat) : Int) + ((u / 4294967296 : Nat) : Int)) = ((ab / 18446744073709551616 : Nat) : Int) := by rw [AM]; omega
 refine Aa (an hx0 (an hy0 (an hx1 (an hy1 (an c00 (an c10 (an c01 (an c11 (an w00 (an w10 (Bg w01 w11 s00 wt st mt wu su wv wz habI))))))))))) ?_;exact Ab
structure Hv (p : Prop) : Prop where
 out : p
theorem UH (u q1 r1 : Nat) (hub : u < 2305843009213693952) (eq1 : u = q1 * 4294967295 + r1) : q1 ≤ 536870913 := by omega
theorem MP (q2 q : Nat) (h : q2 ≤ 536870913) (h' : q ≤ 4294967296) : IntKind.u64.wrap (IntKind.u64.wrap ((q2 : Int) * 4294967296) + (q : Int)) = ((q2 * 4294967296 + q : Nat) : Int) := by rw [AM, AM]; omega
theorem UT (u q1 r1 : Nat) (hub : u < 2305843009213693952) (eq1 : u = q1 * 4294967295 + r1) (hr1 : r1 < 4294967295) : IntKind.u64.wrap ((u : Int).tdiv 4294967295) = (q1 : Int) := by rw [Int.tdiv_eq_ediv_of_nonneg (by omega), AM]; omega
theorem MQ (u q1 r1 : Nat) (hub : u < 18446744073709551616) (eq1 : u = q1 * 4294967295 + r1) (hr1 : r1 < 4294967295) : IntKind.u64.wrap ((u : Int) - IntKind.u64.wrap ((q1 : Int) * 4294967295)) = (r1 : Int) := by rw [AM, AM]; omega
theorem US (u q1 r1 : Nat) (hub : u < 18446744073709551616) (eq1 : u = q1 * 4294967295 + r1) (hr1 : r1 < 4294967295) : IntKind.u64.wrap ((u : Int).tdiv 4294967295) = (q1 : Int) := by rw [Int.tdiv_eq_ediv_of_nonneg (by omega), AM]; omega
theorem Ti (n : Nat) (h : n < 18446744073709551616) (hb : Be n ≤ 64) : AC prog 275 [.it .u64 n] [] (.it .i64 (64 - (Be n : Int))) [] := by
 refine Ai [120] [] func275 ?_;refine run ?_;refine cp (OG n h) ?_;refine run ?_;exact Ab
theorem UQ (u q1 r1 a1 : Nat) (eq1 : u = q1 * 4294967295 + r1) (hr1 : r1 < 4294967295) (ha : a1 < 4294967296) : u * 4294967296 + a1 < (q1 + 1) * 18446744073709551608 := by omega
theorem KH (u q r a1 : Nat) (e0 : u = q * 4294967295 + r) (hc : 4294967296 * r + a1 < q * 4294967288) : u * 4294967296 + a1 < (q - 1 + 1) * 18446744073709551608 ∧ u = (q - 1) * 4294967295 + (r + 4294967295) := by omega
theorem UO (u q r a1 : Nat) (e0 : u = q * 4294967295 + r) (hc : ¬ 4294967296 * r + a1 < q * 4294967288) : q * 18446744073709551608 ≤ u * 4294967296 + a1 := by omega
theorem UM (u q r a1 : Nat) (e0 : u = q * 4294967295 + r) (hq : q < 4294967297) (hbr : ¬ r + 4294967295 < 4294967296) : (q - 1) * 18446744073709551608 ≤ u * 4294967296 + a1 := by omega
theorem UK (u v D q2 a1 a0 t w q : Nat) (hu : u * 18446744073709551616 + t = 8 * D) (ht : t = a1 * 4294967296 + a0) (ev : v = u * 4294967296 + a1 - q2 * 18446744073709551608) (hq : q2 * 18446744073709551608 ≤ u * 4294967296 + a1) (ew : w = v * 4294967296 + a0 - q * 18446744073709551608) (hq' : q * 18446744073709551608 ≤ v * 4294967296 + a0) : D = (q2 * 4294967296 + q) * 2305843009213693951 + w / 8 ∧ 8 * (w / 8) = w := by omega
theorem UI (D Q w : Nat) (h : D = Q * 2305843009213693951 + w) (hw : w < 2305843009213693951) : D / 2305843009213693951 = Q ∧ D % 2305843009213693951 = w := by omega
theorem Pj (u a1 q2 v : Nat) (ev : v = u * 4294967296 + a1 - q2 * 18446744073709551608) (h : q2 * 18446744073709551608 ≤ u * 4294967296 + a1) (h' : u * 4294967296 + a1 < (q2 + 1) * 18446744073709551608) : v < 18446744073709551608 := by omega
theorem Ph (u a1 q2 v : Nat) (ev : v = u * 4294967296 + a1 - q2 * 18446744073709551608) (hv : v < 18446744073709551608) (h : q2 * 18446744073709551608 ≤ u * 4294967296 + a1) : IntKind.u64.wrap (IntKind.u64.wrap (IntKind.u64.wrap ((u : Int) * 4294967296) + (a1 : Int)) - IntKind.u64.wrap ((q2 : Int) * 18446744073709551608)) = (v : Int) := by rw [AM, AM, AM, AM]; omega
theorem ZdK (v q r : Nat) (hv : v < 18446744073709551608) (e0 : v = q * 4294967295 + r) : q ≤ 4294967296 := by omega
theorem ZdI (v q r a0 : Nat) (hv : v < 18446744073709551608) (ha : a0 < 4294967296) (e0 : v = q * 4294967295 + r) (hge : 4294967296 ≤ q) : 4294967296 * r + a0 < q * 4294967288 := by omega
theorem UD (w : Nat) (h : w < 18446744073709551608) : w / 8 < 2305843009213693951 := by omega
theorem UF (v : Nat) (h : v < 18446744073709551608) : v < 18446744073709551616 := by omega
theorem VS : Be 2305843009213693951 = 61 := by decide +kernel
set_option maxHeartbeats 6400000 in
theorem Zd5 (hi lo D : Nat) (hD : D = hi * 18446744073709551616 + lo) (hh : hi < 288230376151711744) (hl : lo < 18446744073709551616) :
  AC prog 273 [.it .u64 hi, .it .u64 lo, .it .u64 2305843009213693951] [] (.tup [.it .u64 ((D / 2305843009213693951 : Nat) : Int), .it .u64 ((D % 2305843009213693951 : Nat) : Int)]) [] := by
 refine Ai [275] [] func273 ?_;by_cases h0 : hi = 0
 ·subst h0
  have hD : D = lo := by omega
  subst hD;have e1 : IntKind.u64.wrap ((D : Int).tdiv 2305843009213693951) = ((D / 2305843009213693951 : Nat) : Int) := by rw [Int.tdiv_eq_ediv_of_nonneg (by omega), AM]; omega
  have e2 : (D : Int).tmod 2305843009213693951 = ((D % 2305843009213693951 : Nat) : Int) := by rw [Int.tmod_eq_emod_of_nonneg (by omega)]; omega
  refine Aa (an e1 e2) ?_;exact Ab
 have hlead := Ti 2305843009213693951 (by omega) (by rw [VS]; omega)
 rw [VS] at hlead;have k1 : IntKind.u64.wrap (64 - ((61 : Nat) : Int)) = 3 := by decide +kernel
 have k2 : IntKind.u64.wrap 61 = 61 := by decide +kernel
 have k3 : FS .u64 2305843009213693951 3 = some (.it .u64 18446744073709551608) := GF 2305843009213693951 3 3 rfl (by omega)
 have k4 : Dd .u64 18446744073709551608 32 = some (.it .u64 4294967295) := Cw 18446744073709551608 32 32 rfl (by omega)
 have k5 : Go.bits .and .u64 18446744073709551608 4294967295 = 4294967288 := ID 18446744073709551608 (by omega)
 have k6 := GF hi 3 3 rfl (by omega)
 have k7 := Cw lo 61 61 rfl (by omega)
 have k8 := GF lo 3 3 rfl (by omega)
 rw [show (2 : Nat) ^ 3 = 8 from rfl, Nat.mod_eq_of_lt (by omega)] at k6
 rw [show (2 : Nat) ^ 61 = 2305843009213693952 from rfl] at k7
 rw [show (2 : Nat) ^ 3 = 8 from rfl] at k8
 have k9 := Ss hi (lo / 2305843009213693952) 3 (by omega) (by omega)
 rw [show (2 : Nat) ^ 3 = 8 from rfl] at k9
 have hu : (hi * 8 + lo / 2305843009213693952) * 18446744073709551616 + lo * 8 % 18446744073709551616 = 8 * D := by omega
 have hub : hi * 8 + lo / 2305843009213693952 < 2305843009213693952 := by omega
 have hut : lo * 8 % 18446744073709551616 < 18446744073709551616 := by omega
 generalize hi * 8 + lo / 2305843009213693952 = u at *;generalize lo * 8 % 18446744073709551616 = t at *;have hu := Hv.mk hu;clear hD;have k10 := Cw t 32 32 rfl (by omega)
 rw [show (2 : Nat) ^ 32 = 4294967296 from rfl] at k10
 have k11 := ID t hut;have ht : t = t / 4294967296 * 4294967296 + t % 4294967296 := by omega
 have ha1 : t / 4294967296 < 4294967296 := by omega
 have ha0 : t % 4294967296 < 4294967296 := by omega
 generalize t / 4294967296 = a1 at *;generalize t % 4294967296 = a0 at *;obtain ⟨q1, r1, eq1, hr1⟩ : ∃ q r, u = q * 4294967295 + r ∧ r < 4294967295 := ⟨u / 4294967295, u % 4294967295, (Nat.div_add_mod' u 4294967295).symm, Nat.mod_lt _ (by decide)⟩
 have k12 := UT u q1 r1 hub eq1 hr1;have k13 := MQ u q1 r1 (by omega) eq1 hr1
 refine run ?_;refine cp hlead ?_;refine Aa (an k1 (an k2 (Bg k3 @k4 @k5 k6 k7 k8 k9 k10 k11 k12 k13))) ?_;refine Bp (fun m e S => S = [] ∧ e 2 = .it .u64 18446744073709551608 ∧ e 8 = .it .u64 3 ∧ e 9 = .it .u64 4294967295 ∧ e 10 = .it .u64 4294967288 ∧ e 11 = .it .u64 (u : Int) ∧ e 13 = .it .u64 (a1 : Int) ∧ e 14 = .it .u64 (a0 : Int) ∧
  ∃ q r : Nat, e 15 = .it .u64 (q : Int) ∧ e 16 = .it .u64 (r : Int) ∧ u = q * 4294967295 + r ∧ q ≤ q1 ∧ r < 4294967296 ∧ u * 4294967296 + a1 < (q + 1) * 18446744073709551608 ∧ q = m) q1
  ⟨rfl, Ad, Ad, Ad, Ad, Ad, Ad, Ad, q1, r1, Ad, Ad, eq1, Nat.le_refl _, Nat.lt_succ_of_lt hr1, UQ u q1 r1 a1 eq1 hr1 ha1, rfl⟩ ?_
 clear k1 k2 k3 k4 k5 k6 k7 k8 k9 k10 k11 k12 k13 hlead;rintro m e S ⟨rfl, s2, s8, s9, s10, s11, s13, s14, q, r, s15, s16, e0, hqq, hr, hup, rfl⟩
 have c1 : IntKind.u64.wrap ((q : Int) * 4294967288) = (q : Int) * 4294967288 := by rw [AM]; omega
 have c2 : IntKind.u64.wrap (4294967296 * (r : Int)) = 4294967296 * (r : Int) := by rw [AM]; omega
 have c3 : IntKind.u64.wrap (4294967296 * (r : Int) + (a1 : Int)) = 4294967296 * (r : Int) + (a1 : Int) := by rw [AM]; omega
 have hq32 : q < 4294967296 := by omega
 by_cases hc : 4294967296 * r + a1 < q * 4294967288
 focus
  have d1 : IntKind.u64.wrap ((q : Int) - 1) = ((q - 1 : Nat) : Int) := by rw [AM]; omega
  have d2 : IntKind.u64.wrap ((r : Int) + 4294967295) = ((r + 4294967295 : Nat) : Int) := by rw [AM]; omega
  by_cases hbr : r + 4294967295 < 4294967296
  focus
   refine Aa (an s2 (an s8 (an s9 (Bg s10 s11 s13 s14 s15 s16 @c1 c2 c3 d1 d2)))) ?_;exact AG (q - 1) (by omega) ⟨rfl, Ad, Ad, Ad, Ad, Ad, Ad, Ad, q - 1, r + 4294967295, Ad, Ad, (KH _ q r _ e0 hc).2, by omega, hbr, (KH _ q r _ e0 hc).1, rfl⟩
  refine Aa (an s2 (an s8 (an s9 (Bg s10 s11 s13 s14 s15 s16 @c1 c2 c3 d1 d2)))) ?_;have hz : q - 1 ≤ q1 ∧ (q - 1) * 18446744073709551608 ≤ u * 4294967296 + a1 ∧ u * 4294967296 + a1 < (q - 1 + 1) * 18446744073709551608 := ⟨by omega, UM u q r a1 e0 (by omega) hbr, (KH u q r a1 e0 hc).1⟩
  clear hc hbr d1 d2 c1 c2 c3 hup e0 hr;generalize q - 1 = q2 at *
 rotate_left;focus
  refine Aa (an s2 (Bg s8 s9 s10 s11 s13 s14 s15 s16 @c1 c2 c3)) ?_;have hz : q ≤ q1 ∧ q * 18446744073709551608 ≤ u * 4294967296 + a1 ∧ u * 4294967296 + a1 < (q + 1) * 18446744073709551608 := ⟨hqq, UO u q r a1 e0 hc, hup⟩;clear hc c1 c2 c3 hup e0 hr;generalize q = q2 at *
 all_goals
  obtain ⟨z2, z3, z4⟩ := hz;have hq1 : q2 ≤ 536870913 := Nat.le_trans z2 (UH u q1 r1 hub eq1);have ht0 := Hv.mk ht;obtain ⟨v, ev⟩ : ∃ v, v = u * 4294967296 + a1 - q2 * 18446744073709551608 := ⟨_, rfl⟩
  have hv : v < 18446744073709551608 := Pj u a1 q2 v ev z3 z4;have k1 := Ph u a1 q2 v ev hv z3;obtain ⟨p1, s1, ep1, hs1⟩ : ∃ q r, v = q * 4294967295 + r ∧ r < 4294967295 := ⟨v / 4294967295, v % 4294967295, (Nat.div_add_mod' v 4294967295).symm, Nat.mod_lt _ (by decide)⟩
  have k12 := US v p1 s1 (UF v hv) ep1 hs1;have k13 := MQ v p1 s1 (UF v hv) ep1 hs1;have ev := Hv.mk ev;have z3 := Hv.mk z3;clear z4 ht hub eq1 hr1 hut;have ht := ht0;refine Aa (an s2 (Bg s8 s9 s10 s11 s13 s14 s15 s16 k1 k12 k13)) ?_;refine Bp (fun m e S => S = [] ∧ e 2 = .it .u64 18446744073709551608 ∧ e 8 = .it .u64 3 ∧ e 9 = .it .u64 4294967295 ∧ e 10 = .it .u64 4294967288 ∧ e 14 = .it .u64 (a0 : Int) ∧ e 15 = .it .u64 (q2 : Int) ∧ e 17 = .it .u64 (v : Int) ∧
   ∃ q r : Nat, e 18 = .it .u64 (q : Int) ∧ e 16 = .it .u64 (r : Int) ∧ v = q * 4294967295 + r ∧ q ≤ p1 ∧ r < 4294967296 ∧ v * 4294967296 + a0 < (q + 1) * 18446744073709551608 ∧ q = m) p1
   ⟨rfl, Ad, Ad, Ad, Ad, Ad, Ad, Ad, p1, s1, Ad, Ad, ep1, Nat.le_refl _, Nat.lt_succ_of_lt hs1, UQ v p1 s1 a0 ep1 hs1 ha0, rfl⟩ ?_
  clear k1 k12 k13 s2 s8 s9 s10 s11 s13 s14 s15 s16;rintro m e S ⟨rfl, s2, s8, s9, s10, s14, s15, s17, q, r, s18, s16, e0, hqq, hr, hup, rfl⟩
  have c1 : IntKind.u64.wrap ((q : Int) * 4294967288) = (q : Int) * 4294967288 := by rw [AM]; omega
  have c2 : IntKind.u64.wrap (4294967296 * (r : Int)) = 4294967296 * (r : Int) := by rw [AM]; omega
  have c3 : IntKind.u64.wrap (4294967296 * (r : Int) + (a0 : Int)) = 4294967296 * (r : Int) + (a0 : Int) := by rw [AM]; omega
  have hq32 : q ≤ 4294967296 := ZdK v q r hv e0;have hgc : 4294967296 ≤ q → 4294967296 * r + a0 < q * 4294967288 := ZdI v q r a0 hv ha0 e0;by_cases hc : 4294967296 * r + a0 < q * 4294967288
  focus
   have hup1 := (KH v q r a0 e0 hc).1;have e01 := (KH v q r a0 e0 hc).2;have hle := UM v q r a0 e0 (by omega)
   clear hgc hup e0;have d1 : IntKind.u64.wrap ((q : Int) - 1) = ((q - 1 : Nat) : Int) := by rw [AM]; omega
   have d2 : IntKind.u64.wrap ((r : Int) + 4294967295) = ((r + 4294967295 : Nat) : Int) := by rw [AM]; omega
   by_cases hbr : r + 4294967295 < 4294967296
   focus
    by_cases hge : 4294967296 ≤ q
    ·refine Aa (an s2 (an s8 (an s9 (Bg s10 s14 s15 s16 s17 s18 @c1 c2 c3 d1 d2)))) ?_
     exact AG (q - 1) (by omega) ⟨rfl, Ad, Ad, Ad, Ad, Ad, Ad, Ad, q - 1, r + 4294967295, Ad, Ad, e01, by omega, hbr, hup1, rfl⟩
    ·refine Aa (an s2 (an s8 (an s9 (Bg s10 s14 s15 s16 s17 s18 @c1 c2 c3 d1 d2)))) ?_
     exact AG (q - 1) (by omega) ⟨rfl, Ad, Ad, Ad, Ad, Ad, Ad, Ad, q - 1, r + 4294967295, Ad, Ad, e01, by omega, hbr, hup1, rfl⟩
   have hle := hle hbr;have hp : q - 1 ≤ 4294967296 := Nat.le_trans (Nat.sub_le _ _) hq32;by_cases hge : 4294967296 ≤ q
   all_goals
    generalize hpq : q - 1 = p at *;obtain ⟨w, ew⟩ : ∃ w, w = v * 4294967296 + a0 - p * 18446744073709551608 := ⟨_, rfl⟩
    obtain ⟨g1, g2⟩ := UK u v D q2 a1 a0 t w p hu.out ht.out ev.out z3.out ew hle;have hw := Pj v a0 p w ew hle hup1;obtain ⟨g3, g4⟩ := UI D _ (w / 8) g1 (UD w hw);have f1 := MP q2 p hq1 hp;have f2 := Ph v a0 p w ew hw hle;have f3 := Cw w 3 3 rfl (by decide)
    rw [show (2 : Nat) ^ 3 = 8 from rfl] at f3
    rw [g3, g4];clear g1 g2 g3 g4 ew hw hle hup1 e01 hpq;refine Aa (an s2 (an s8 (an s9 (an s10 (an s14 (an s15 (Bg s16 s17 s18 @c1 c2 c3 d1 d2 f1 f2 f3))))))) ?_;exact Ab
  have hge : ¬ 4294967296 ≤ q := fun h => hc (hgc h)
  have hle := UO v q r a0 e0 hc;obtain ⟨w, ew⟩ : ∃ w, w = v * 4294967296 + a0 - q * 18446744073709551608 := ⟨_, rfl⟩
  obtain ⟨g1, g2⟩ := UK u v D q2 a1 a0 t w q hu.out ht.out ev.out z3.out ew hle;have hw := Pj v a0 q w ew hle hup;obtain ⟨g3, g4⟩ := UI D _ (w / 8) g1 (UD w hw);have f1 := MP q2 q hq1 hq32;have f2 := Ph v a0 q w ew hw hle;have f3 := Cw w 3 3 rfl (by decide)
  rw [show (2 : Nat) ^ 3 = 8 from rfl] at f3
  rw [g3, g4];clear g1 g2 g3 g4 ew hw hle hup e0 hgc;refine Aa (an s2 (an s8 (an s9 (an s10 (Bg s14 s15 s16 s17 s18 @c1 c2 c3 f1 f2 f3))))) ?_;exact Ab
theorem Zax (hi lo D : Nat) (hD : D = hi * 18446744073709551616 + lo) (hh : hi < 288230376151711744) (hl : lo < 18446744073709551616) :
  AC prog 250 [.it .u64 hi, .it .u64 lo, .it .u64 2305843009213693951] [] (.it .u64 ((D % 2305843009213693951 : Nat) : Int)) [] := by
 refine Ai [273] [] func250 ?_;have e1 : (hi : Int).tmod 2305843009213693951 = (hi : Int) := by rw [Int.tmod_eq_emod_of_nonneg (by omega)]; omega
 refine Aa e1 ?_;refine cp (Zd5 hi lo D hD hh hl) ?_;refine run ?_;exact Ab
theorem UR (u q1 r1 a1 : Nat) (eq1 : u = q1 * 4294967295 + r1) (hr1 : r1 < 4294967295) (ha : a1 < 4294967296) : u * 4294967296 + a1 < (q1 + 1) * 18446744073709551600 := by omega
theorem KI (u q r a1 : Nat) (e0 : u = q * 4294967295 + r) (hc : 4294967296 * r + a1 < q * 4294967280) : u * 4294967296 + a1 < (q - 1 + 1) * 18446744073709551600 ∧ u = (q - 1) * 4294967295 + (r + 4294967295) := by omega
theorem UP (u q r a1 : Nat) (e0 : u = q * 4294967295 + r) (hc : ¬ 4294967296 * r + a1 < q * 4294967280) : q * 18446744073709551600 ≤ u * 4294967296 + a1 := by omega
theorem UN (u q r a1 : Nat) (e0 : u = q * 4294967295 + r) (hq : q < 4294967297) (hbr : ¬ r + 4294967295 < 4294967296) : (q - 1) * 18446744073709551600 ≤ u * 4294967296 + a1 := by omega
theorem UL (u v D q2 a1 a0 t w q : Nat) (hu : u * 18446744073709551616 + t = 8 * D) (ht : t = a1 * 4294967296 + a0) (ev : v = u * 4294967296 + a1 - q2 * 18446744073709551600) (hq : q2 * 18446744073709551600 ≤ u * 4294967296 + a1) (ew : w = v * 4294967296 + a0 - q * 18446744073709551600) (hq' : q * 18446744073709551600 ≤ v * 4294967296 + a0) : D = (q2 * 4294967296 + q) * 2305843009213693950 + w / 8 ∧ 8 * (w / 8) = w := by omega
theorem UJ (D Q w : Nat) (h : D = Q * 2305843009213693950 + w) (hw : w < 2305843009213693950) : D / 2305843009213693950 = Q ∧ D % 2305843009213693950 = w := by omega
theorem Pk (u a1 q2 v : Nat) (ev : v = u * 4294967296 + a1 - q2 * 18446744073709551600) (h : q2 * 18446744073709551600 ≤ u * 4294967296 + a1) (h' : u * 4294967296 + a1 < (q2 + 1) * 18446744073709551600) : v < 18446744073709551600 := by omega
theorem Pi (u a1 q2 v : Nat) (ev : v = u * 4294967296 + a1 - q2 * 18446744073709551600) (hv : v < 18446744073709551600) (h : q2 * 18446744073709551600 ≤ u * 4294967296 + a1) : IntKind.u64.wrap (IntKind.u64.wrap (IntKind.u64.wrap ((u : Int) * 4294967296) + (a1 : Int)) - IntKind.u64.wrap ((q2 : Int) * 18446744073709551600)) = (v : Int) := by rw [AM, AM, AM, AM]; omega
theorem ZdL (v q r : Nat) (hv : v < 18446744073709551600) (e0 : v = q * 4294967295 + r) : q ≤ 4294967296 := by omega
theorem ZdJ (v q r a0 : Nat) (hv : v < 18446744073709551600) (ha : a0 < 4294967296) (e0 : v = q * 4294967295 + r) (hge : 4294967296 ≤ q) : 4294967296 * r + a0 < q * 4294967280 := by omega
theorem UE (w : Nat) (h : w < 18446744073709551600) : w / 8 < 2305843009213693950 := by omega
theorem UG (v : Nat) (h : v < 18446744073709551600) : v < 18446744073709551616 := by omega
theorem VT : Be 2305843009213693950 = 61 := by decide +kernel
set_option maxHeartbeats 6400000 in
theorem Zd6 (hi lo D : Nat) (hD : D = hi * 18446744073709551616 + lo) (hh : hi < 288230376151711744) (hl : lo < 18446744073709551616) :
  AC prog 273 [.it .u64 hi, .it .u64 lo, .it .u64 2305843009213693950] [] (.tup [.it .u64 ((D / 2305843009213693950 : Nat) : Int), .it .u64 ((D % 2305843009213693950 : Nat) : Int)]) [] := by
 refine Ai [275] [] func273 ?_;by_cases h0 : hi = 0
 ·subst h0
  have hD : D = lo := by omega
  subst hD;have e1 : IntKind.u64.wrap ((D : Int).tdiv 2305843009213693950) = ((D / 2305843009213693950 : Nat) : Int) := by rw [Int.tdiv_eq_ediv_of_nonneg (by omega), AM]; omega
  have e2 : (D : Int).tmod 2305843009213693950 = ((D % 2305843009213693950 : Nat) : Int) := by rw [Int.tmod_eq_emod_of_nonneg (by omega)]; omega
  refine Aa (an e1 e2) ?_;exact Ab
 have hlead := Ti 2305843009213693950 (by omega) (by rw [VT]; omega)
 rw [VT] at hlead;have k1 : IntKind.u64.wrap (64 - ((61 : Nat) : Int)) = 3 := by decide +kernel
 have k2 : IntKind.u64.wrap 61 = 61 := by decide +kernel
 have k3 : FS .u64 2305843009213693950 3 = some (.it .u64 18446744073709551600) := GF 2305843009213693950 3 3 rfl (by omega)
 have k4 : Dd .u64 18446744073709551600 32 = some (.it .u64 4294967295) := Cw 18446744073709551600 32 32 rfl (by omega)
 have k5 : Go.bits .and .u64 18446744073709551600 4294967295 = 4294967280 := ID 18446744073709551600 (by omega)
 have k6 := GF hi 3 3 rfl (by omega)
 have k7 := Cw lo 61 61 rfl (by omega)
 have k8 := GF lo 3 3 rfl (by omega)
 rw [show (2 : Nat) ^ 3 = 8 from rfl, Nat.mod_eq_of_lt (by omega)] at k6
 rw [show (2 : Nat) ^ 61 = 2305843009213693952 from rfl] at k7
 rw [show (2 : Nat) ^ 3 = 8 from rfl] at k8
 have k9 := Ss hi (lo / 2305843009213693952) 3 (by omega) (by omega)
 rw [show (2 : Nat) ^ 3 = 8 from rfl] at k9
 have hu : (hi * 8 + lo / 2305843009213693952) * 18446744073709551616 + lo * 8 % 18446744073709551616 = 8 * D := by omega
 have hub : hi * 8 + lo / 2305843009213693952 < 2305843009213693952 := by omega
 have hut : lo * 8 % 18446744073709551616 < 18446744073709551616 := by omega
 generalize hi * 8 + lo / 2305843009213693952 = u at *;generalize lo * 8 % 18446744073709551616 = t at *;have hu := Hv.mk hu;clear hD;have k10 := Cw t 32 32 rfl (by omega)
 rw [show (2 : Nat) ^ 32 = 4294967296 from rfl] at k10
 have k11 := ID t hut;have ht : t = t / 4294967296 * 4294967296 + t % 4294967296 := by omega
 have ha1 : t / 4294967296 < 4294967296 := by omega
 have ha0 : t % 4294967296 < 4294967296 := by omega
 generalize t / 4294967296 = a1 at *;generalize t % 4294967296 = a0 at *;obtain ⟨q1, r1, eq1, hr1⟩ : ∃ q r, u = q * 4294967295 + r ∧ r < 4294967295 := ⟨u / 4294967295, u % 4294967295, (Nat.div_add_mod' u 4294967295).symm, Nat.mod_lt _ (by decide)⟩
 have k12 := UT u q1 r1 hub eq1 hr1;have k13 := MQ u q1 r1 (by omega) eq1 hr1
 refine run ?_;refine cp hlead ?_;refine Aa (an k1 (an k2 (Bg k3 @k4 @k5 k6 k7 k8 k9 k10 k11 k12 k13))) ?_;refine Bp (fun m e S => S = [] ∧ e 2 = .it .u64 18446744073709551600 ∧ e 8 = .it .u64 3 ∧ e 9 = .it .u64 4294967295 ∧ e 10 = .it .u64 4294967280 ∧ e 11 = .it .u64 (u : Int) ∧ e 13 = .it .u64 (a1 : Int) ∧ e 14 = .it .u64 (a0 : Int) ∧
  ∃ q r : Nat, e 15 = .it .u64 (q : Int) ∧ e 16 = .it .u64 (r : Int) ∧ u = q * 4294967295 + r ∧ q ≤ q1 ∧ r < 4294967296 ∧ u * 4294967296 + a1 < (q + 1) * 18446744073709551600 ∧ q = m) q1
  ⟨rfl, Ad, Ad, Ad, Ad, Ad, Ad, Ad, q1, r1, Ad, Ad, eq1, Nat.le_refl _, Nat.lt_succ_of_lt hr1, UR u q1 r1 a1 eq1 hr1 ha1, rfl⟩ ?_
 clear k1 k2 k3 k4 k5 k6 k7 k8 k9 k10 k11 k12 k13 hlead;rintro m e S ⟨rfl, s2, s8, s9, s10, s11, s13, s14, q, r, s15, s16, e0, hqq, hr, hup, rfl⟩
 have c1 : IntKind.u64.wrap ((q : Int) * 4294967280) = (q : Int) * 4294967280 := by rw [AM]; omega
 have c2 : IntKind.u64.wrap (4294967296 * (r : Int)) = 4294967296 * (r : Int) := by rw [AM]; omega
 have c3 : IntKind.u64.wrap (4294967296 * (r : Int) + (a1 : Int)) = 4294967296 * (r : Int) + (a1 : Int) := by rw [AM]; omega
 have hq32 : q < 4294967296 := by omega
 by_cases hc : 4294967296 * r + a1 < q * 4294967280
 focus
  have d1 : IntKind.u64.wrap ((q : Int) - 1) = ((q - 1 : Nat) : Int) := by rw [AM]; omega
  have d2 : IntKind.u64.wrap ((r : Int) + 4294967295) = ((r + 4294967295 : Nat) : Int) := by rw [AM]; omega
  by_cases hbr : r + 4294967295 < 4294967296
  focus
   refine Aa (an s2 (an s8 (an s9 (Bg s10 s11 s13 s14 s15 s16 @c1 c2 c3 d1 d2)))) ?_;exact AG (q - 1) (by omega) ⟨rfl, Ad, Ad, Ad, Ad, Ad, Ad, Ad, q - 1, r + 4294967295, Ad, Ad, (KI _ q r _ e0 hc).2, by omega, hbr, (KI _ q r _ e0 hc).1, rfl⟩
  refine Aa (an s2 (an s8 (an s9 (Bg s10 s11 s13 s14 s15 s16 @c1 c2 c3 d1 d2)))) ?_;have hz : q - 1 ≤ q1 ∧ (q - 1) * 18446744073709551600 ≤ u * 4294967296 + a1 ∧ u * 4294967296 + a1 < (q - 1 + 1) * 18446744073709551600 := ⟨by omega, UN u q r a1 e0 (by omega) hbr, (KI u q r a1 e0 hc).1⟩
  clear hc hbr d1 d2 c1 c2 c3 hup e0 hr;generalize q - 1 = q2 at *
 rotate_left;focus
  refine Aa (an s2 (Bg s8 s9 s10 s11 s13 s14 s15 s16 @c1 c2 c3)) ?_;have hz : q ≤ q1 ∧ q * 18446744073709551600 ≤ u * 4294967296 + a1 ∧ u * 4294967296 + a1 < (q + 1) * 18446744073709551600 := ⟨hqq, UP u q r a1 e0 hc, hup⟩;clear hc c1 c2 c3 hup e0 hr;generalize q = q2 at *
 all_goals
  obtain ⟨z2, z3, z4⟩ := hz;have hq1 : q2 ≤ 536870913 := Nat.le_trans z2 (UH u q1 r1 hub eq1);have ht0 := Hv.mk ht;obtain ⟨v, ev⟩ : ∃ v, v = u * 4294967296 + a1 - q2 * 18446744073709551600 := ⟨_, rfl⟩
  have hv : v < 18446744073709551600 := Pk u a1 q2 v ev z3 z4;have k1 := Pi u a1 q2 v ev hv z3;obtain ⟨p1, s1, ep1, hs1⟩ : ∃ q r, v = q * 4294967295 + r ∧ r < 4294967295 := ⟨v / 4294967295, v % 4294967295, (Nat.div_add_mod' v 4294967295).symm, Nat.mod_lt _ (by decide)⟩
  have k12 := US v p1 s1 (UG v hv) ep1 hs1;have k13 := MQ v p1 s1 (UG v hv) ep1 hs1;have ev := Hv.mk ev;have z3 := Hv.mk z3;clear z4 ht hub eq1 hr1 hut;have ht := ht0;refine Aa (an s2 (Bg s8 s9 s10 s11 s13 s14 s15 s16 k1 k12 k13)) ?_;refine Bp (fun m e S => S = [] ∧ e 2 = .it .u64 18446744073709551600 ∧ e 8 = .it .u64 3 ∧ e 9 = .it .u64 4294967295 ∧ e 10 = .it .u64 4294967280 ∧ e 14 = .it .u64 (a0 : Int) ∧ e 15 = .it .u64 (q2 : Int) ∧ e 17 = .it .u64 (v : Int) ∧
   ∃ q r : Nat, e 18 = .it .u64 (q : Int) ∧ e 16 = .it .u64 (r : Int) ∧ v = q * 4294967295 + r ∧ q ≤ p1 ∧ r < 4294967296 ∧ v * 4294967296 + a0 < (q + 1) * 18446744073709551600 ∧ q = m) p1
   ⟨rfl, Ad, Ad, Ad, Ad, Ad, Ad, Ad, p1, s1, Ad, Ad, ep1, Nat.le_refl _, Nat.lt_succ_of_lt hs1, UR v p1 s1 a0 ep1 hs1 ha0, rfl⟩ ?_
  clear k1 k12 k13 s2 s8 s9 s10 s11 s13 s14 s15 s16;rintro m e S ⟨rfl, s2, s8, s9, s10, s14, s15, s17, q, r, s18, s16, e0, hqq, hr, hup, rfl⟩
  have c1 : IntKind.u64.wrap ((q : Int) * 4294967280) = (q : Int) * 4294967280 := by rw [AM]; omega
  have c2 : IntKind.u64.wrap (4294967296 * (r : Int)) = 4294967296 * (r : Int) := by rw [AM]; omega
  have c3 : IntKind.u64.wrap (4294967296 * (r : Int) + (a0 : Int)) = 4294967296 * (r : Int) + (a0 : Int) := by rw [AM]; omega
  have hq32 : q ≤ 4294967296 := ZdL v q r hv e0;have hgc : 4294967296 ≤ q → 4294967296 * r + a0 < q * 4294967280 := ZdJ v q r a0 hv ha0 e0;by_cases hc : 4294967296 * r + a0 < q * 4294967280
  focus
   have hup1 := (KI v q r a0 e0 hc).1;have e01 := (KI v q r a0 e0 hc).2;have hle := UN v q r a0 e0 (by omega)
   clear hgc hup e0;have d1 : IntKind.u64.wrap ((q : Int) - 1) = ((q - 1 : Nat) : Int) := by rw [AM]; omega
   have d2 : IntKind.u64.wrap ((r : Int) + 4294967295) = ((r + 4294967295 : Nat) : Int) := by rw [AM]; omega
   by_cases hbr : r + 4294967295 < 4294967296
   focus
    by_cases hge : 4294967296 ≤ q
    ·refine Aa (an s2 (an s8 (an s9 (Bg s10 s14 s15 s16 s17 s18 @c1 c2 c3 d1 d2)))) ?_
     exact AG (q - 1) (by omega) ⟨rfl, Ad, Ad, Ad, Ad, Ad, Ad, Ad, q - 1, r + 4294967295, Ad, Ad, e01, by omega, hbr, hup1, rfl⟩
    ·refine Aa (an s2 (an s8 (an s9 (Bg s10 s14 s15 s16 s17 s18 @c1 c2 c3 d1 d2)))) ?_
     exact AG (q - 1) (by omega) ⟨rfl, Ad, Ad, Ad, Ad, Ad, Ad, Ad, q - 1, r + 4294967295, Ad, Ad, e01, by omega, hbr, hup1, rfl⟩
   have hle := hle hbr;have hp : q - 1 ≤ 4294967296 := Nat.le_trans (Nat.sub_le _ _) hq32;by_cases hge : 4294967296 ≤ q
   all_goals
    generalize hpq : q - 1 = p at *;obtain ⟨w, ew⟩ : ∃ w, w = v * 4294967296 + a0 - p * 18446744073709551600 := ⟨_, rfl⟩
    obtain ⟨g1, g2⟩ := UL u v D q2 a1 a0 t w p hu.out ht.out ev.out z3.out ew hle;have hw := Pk v a0 p w ew hle hup1;obtain ⟨g3, g4⟩ := UJ D _ (w / 8) g1 (UE w hw);have f1 := MP q2 p hq1 hp;have f2 := Pi v a0 p w ew hw hle;have f3 := Cw w 3 3 rfl (by decide)
    rw [show (2 : Nat) ^ 3 = 8 from rfl] at f3
    rw [g3, g4];clear g1 g2 g3 g4 ew hw hle hup1 e01 hpq;refine Aa (an s2 (an s8 (an s9 (an s10 (an s14 (an s15 (Bg s16 s17 s18 @c1 c2 c3 d1 d2 f1 f2 f3))))))) ?_;exact Ab
  have hge : ¬ 4294967296 ≤ q := fun h => hc (hgc h)
  have hle := UP v q r a0 e0 hc;obtain ⟨w, ew⟩ : ∃ w, w = v * 4294967296 + a0 - q * 18446744073709551600 := ⟨_, rfl⟩
  obtain ⟨g1, g2⟩ := UL u v D q2 a1 a0 t w q hu.out ht.out ev.out z3.out ew hle;have hw := Pk v a0 q w ew hle hup;obtain ⟨g3, g4⟩ := UJ D _ (w / 8) g1 (UE w hw);have f1 := MP q2 q hq1 hq32;have f2 := Pi v a0 q w ew hw hle;have f3 := Cw w 3 3 rfl (by decide)
  rw [show (2 : Nat) ^ 3 = 8 from rfl] at f3
  rw [g3, g4];clear g1 g2 g3 g4 ew hw hle hup e0 hgc;refine Aa (an s2 (an s8 (an s9 (an s10 (Bg s14 s15 s16 s17 s18 @c1 c2 c3 f1 f2 f3))))) ?_;exact Ab
theorem Zay (hi lo D : Nat) (hD : D = hi * 18446744073709551616 + lo) (hh : hi < 288230376151711744) (hl : lo < 18446744073709551616) :
  AC prog 250 [.it .u64 hi, .it .u64 lo, .it .u64 2305843009213693950] [] (.it .u64 ((D % 2305843009213693950 : Nat) : Int)) [] := by
 refine Ai [273] [] func250 ?_;have e1 : (hi : Int).tmod 2305843009213693950 = (hi : Int) := by rw [Int.tmod_eq_emod_of_nonneg (by omega)]; omega
 refine Aa e1 ?_;refine cp (Zd6 hi lo D hD hh hl) ?_;refine run ?_;exact Ab
end Pe
namespace Pe
open Tryz
open Go Sg
variable [Tab]
set_option maxRecDepth 100000
theorem X1 : IntKind.u64.wrap 2305843009213693951 = 2305843009213693951 := by decide +kernel
theorem X2 : IntKind.u64.wrap 2305843009213693950 = 2305843009213693950 := by decide +kernel
theorem F4 (a m : Int) (hm : 0 < m) (hm' : m < 4611686018427387904) (ha : -9223372036854775808 ≤ a ∧ a ≤ 9223372036854775807) : AC prog 119 [.it .i64 a, .it .i64 m] [] (.it .i64 (a % m)) [] := by
 refine Ai [] [] func119 ?_;have h1 : a % m = if a.tmod m < 0 then a.tmod m + m else a.tmod m := by
  rw [Int.emod_eq_tmod];have hb := Int.emod_nonneg a (show m ≠ 0 by omega)
  have ht := Int.tmod_lt_of_pos a hm;by_cases h0 : 0 ≤ a
  ·have := Int.tmod_nonneg m h0
   rw [if_pos (.inl h0), if_neg (by omega)]; omega
  ·by_cases hd : m ∣ a
   ·rw [if_pos (.inr hd), Int.tmod_eq_zero_of_dvd hd]; simp
   ·have hneg : a.tmod m < 0 := by
     have h2 := Int.emod_eq_tmod (a := a) (b := m);rw [if_neg (by rintro (h | h); exact h0 h; exact hd h)] at h2
     have h3 := Int.emod_lt_of_pos a hm
     have : (m.natAbs : Int) = m := by omega
     omega
    rw [if_neg (by rintro (h | h); exact h0 h; exact hd h), if_pos hneg]
    omega
 have h2 : -m ≤ a.tmod m ∧ a.tmod m < m := by
  have hb := Int.emod_nonneg a (show m ≠ 0 by omega)
  have hc := Int.emod_lt_of_pos a hm;have ht := Int.tmod_lt_of_pos a hm;split at h1 <;> omega
 have hm0 : m ≠ 0 := by omega
 obtain ⟨t, ht⟩ : ∃ t, a.tmod m = t := ⟨_, rfl⟩
 rw [ht] at h1 h2;rw [h1];by_cases h0 : t < 0
 ·rw [if_pos h0]
  refine Aa (an ht hm0) ?_;exact Ab
 ·rw [if_neg h0]
  refine Aa (an ht hm0) ?_;exact Ab
theorem Zfi (a b m : Int) (hm : 0 < m) (hm' : m < 4611686018427387904) (ha : -9223372036854775808 ≤ a ∧ a ≤ 9223372036854775807) (hb : -9223372036854775808 ≤ b ∧ b ≤ 9223372036854775807) : AC prog 243 [.it .i64 a, .it .i64 b, .it .i64 m] [] (.it .i64 ((a % m + b % m) % m)) [] := by
 refine Ai [119] [] func243 ?_;have a1 := Int.emod_nonneg a (show m ≠ 0 by omega)
 have a2 := Int.emod_lt_of_pos a hm;have b1 := Int.emod_nonneg b (show m ≠ 0 by omega)
 have b2 := Int.emod_lt_of_pos b hm;refine run ?_;refine cp (F4 a m hm hm' ha) ?_;refine run ?_;refine cp (F4 b m hm hm' hb) ?_;refine run ?_;refine cp (F4 (a % m + b % m) m hm hm' (by omega)) ?_
 refine run ?_;exact Ab
theorem Zb5 (a b : Int) (ha : -9223372036854775808 ≤ a ∧ a ≤ 9223372036854775807) (hb : -9223372036854775808 ≤ b ∧ b ≤ 9223372036854775807) : AC prog 187 [.it .i64 a, .it .i64 b, .it .i64 2305843009213693951] [] (.it .i64 (Ig a b : Nat)) [] := by
 refine Ai [119, 249, 250] [] func187 ?_;unfold Ig;have a1 := Int.emod_nonneg a (show (2305843009213693951 : Int) ≠ 0 by omega)
 have a2 := Int.emod_lt_of_pos a (show (0 : Int) < 2305843009213693951 by omega)
 have b1 := Int.emod_nonneg b (show (2305843009213693951 : Int) ≠ 0 by omega)
 have b2 := Int.emod_lt_of_pos b (show (0 : Int) < 2305843009213693951 by omega)
 obtain ⟨x, hx⟩ := Int.eq_ofNat_of_zero_le a1;obtain ⟨y, hy⟩ := Int.eq_ofNat_of_zero_le b1;have ra := F4 a 2305843009213693951 (by omega) (by omega) ha
 have rb := F4 b 2305843009213693951 (by omega) (by omega) hb
 rw [hx] at ra a1 a2 ⊢;rw [hy] at rb b1 b2 ⊢;rw [Int.toNat_natCast, Int.toNat_natCast];have wx := C3 (n := x) (by omega)
 have wy := C3 (n := y) (by omega)
 have wP := X1;have hxy : x * y < 2305843009213693951 * 2305843009213693951 := Nat.mul_lt_mul'' (by omega) (by omega)
 have hm := SV x y (by omega) (by omega)
 have hr := Zax (x * y / 18446744073709551616) (x * y % 18446744073709551616) (x * y) (by omega) (by omega) (by omega)
 have hz : x * y % 2305843009213693951 < 2305843009213693951 := Nat.mod_lt _ (by omega)
 refine run ?_;refine cp ra ?_;refine run ?_;refine cp rb ?_;refine Aa (A3 wx wy wP) ?_;refine cp hm ?_;refine Aa (A3 wx wy wP) ?_;refine cp hr ?_;refine run ?_;exact Ab
theorem Zb6 (a b : Int) (ha : -9223372036854775808 ≤ a ∧ a ≤ 9223372036854775807) (hb : -9223372036854775808 ≤ b ∧ b ≤ 9223372036854775807) : AC prog 187 [.it .i64 a, .it .i64 b, .it .i64 2305843009213693950] [] (.it .i64 (D3 a b : Nat)) [] := by
 refine Ai [119, 249, 250] [] func187 ?_;unfold D3;have a1 := Int.emod_nonneg a (show (2305843009213693950 : Int) ≠ 0 by omega)
 have a2 := Int.emod_lt_of_pos a (show (0 : Int) < 2305843009213693950 by omega)
 have b1 := Int.emod_nonneg b (show (2305843009213693950 : Int) ≠ 0 by omega)
 have b2 := Int.emod_lt_of_pos b (show (0 : Int) < 2305843009213693950 by omega)
 obtain ⟨x, hx⟩ := Int.eq_ofNat_of_zero_le a1;obtain ⟨y, hy⟩ := Int.eq_ofNat_of_zero_le b1;have ra := F4 a 2305843009213693950 (by omega) (by omega) ha
 have rb := F4 b 2305843009213693950 (by omega) (by omega) hb
 rw [hx] at ra a1 a2 ⊢;rw [hy] at rb b1 b2 ⊢;rw [Int.toNat_natCast, Int.toNat_natCast];have wx := C3 (n := x) (by omega)
 have wy := C3 (n := y) (by omega)
 have wP := X2;have hxy : x * y < 2305843009213693951 * 2305843009213693951 := Nat.mul_lt_mul'' (by omega) (by omega)
 have hm := SV x y (by omega) (by omega)
 have hr := Zay (x * y / 18446744073709551616) (x * y % 18446744073709551616) (x * y) (by omega) (by omega) (by omega)
 have hz : x * y % 2305843009213693950 < 2305843009213693950 := Nat.mod_lt _ (by omega)
 refine run ?_;refine cp ra ?_;refine run ?_;refine cp rb ?_;refine Aa (A3 wx wy wP) ?_;refine cp hm ?_;refine Aa (A3 wx wy wP) ?_;refine cp hr ?_;refine run ?_;exact Ab
theorem OU (a b : Int) (ha : -9223372036854775808 ≤ a ∧ a ≤ 9223372036854775807) (hb : -9223372036854775808 ≤ b ∧ b ≤ 9223372036854775807) : AC prog 121 [.it .i64 a, .it .i64 b] [] (.it .i64 (Ig a b : Nat)) [] := by
 refine Ai [187] [] func121 ?_;refine run ?_;refine cp (Zb5 a b ha hb) ?_;refine run ?_;exact Ab
theorem ZcA (a b : Int) (ha : -9223372036854775808 ≤ a ∧ a ≤ 9223372036854775807) (hb : -9223372036854775808 ≤ b ∧ b ≤ 9223372036854775807) : AC prog 179 [.it .i64 a, .it .i64 b] [] (.it .i64 (D3 a b : Nat)) [] := by
 refine Ai [187] [] func179 ?_;refine run ?_;refine cp (Zb6 a b ha hb) ?_;refine run ?_;exact Ab
theorem ZcC (a b : Int) (ha : -9223372036854775808 ≤ a ∧ a ≤ 9223372036854775807) (hb : -9223372036854775808 ≤ b ∧ b ≤ 9223372036854775807) : AC prog 178 [.it .i64 a, .it .i64 b] [] (.it .i64 ((a % 2305843009213693950 + b % 2305843009213693950) % 2305843009213693950)) [] := by
 refine Ai [243] [] func178 ?_;refine run ?_;refine cp (Zfi a b 2305843009213693950 (by omega) (by omega) ha hb) ?_
 refine run ?_;exact Ab
end Pe
namespace Pe
open Tryz
open Go Go.RowKit Co Sg
set_option maxRecDepth 100000
theorem Y7 (n i : Nat) (h : n < 9223372036854775808) (h' : i ≤ 64) : Dd .i64 (n : Int) (i : Int) = some (.it .i64 ((n / 2 ^ i : Nat) : Int)) := by
 unfold Dd;rw [if_pos (by omega), Int.toNat_natCast, show min i IntKind.i64.bits = i from Nat.min_eq_left h']
 congr 2
 rw [Int.fdiv_eq_ediv_of_nonneg _ (by exact Int.le_of_lt (Int.pow_pos (by omega)))]
 norm_cast
theorem ZeW (n : Nat) : n < 2 ^ Be n := by
 unfold Be;split
 ·subst_vars; decide
 ·exact Nat.lt_log2_self
theorem ZeX {n : Nat} (h : n < 9223372036854775808) : Be n ≤ 63 := by
 unfold Be;split
 ·omega
 ·have := (Nat.log2_lt (n := n) (k := 63) (by assumption)).2 (by omega)
  omega
theorem Zbv {f r p e : Nat} (h : e = 0) : EM f r p e = r := by subst h; exact Oe f r p
set_option maxHeartbeats 1600000 in
theorem ME (a e : Int) (ha : -9223372036854775808 ≤ a ∧ a ≤ 9223372036854775807) (he : -9223372036854775808 ≤ e ∧ e ≤ 9223372036854775807) : AC prog 60 [.it .i64 a, .it .i64 e] [] (.it .i64 (GY a e : Nat)) [] := by
 refine Ai [119, 120, 121] [] func60 ?_;unfold GY Br;have a1 := Int.emod_nonneg a (show (2305843009213693951 : Int) ≠ 0 by omega)
 have a2 := Int.emod_lt_of_pos a (show (0 : Int) < 2305843009213693951 by omega)
 have ra := F4 a 2305843009213693951 (by omega) (by omega) ha
 obtain ⟨x, hx⟩ := Int.eq_ofNat_of_zero_le a1;rw [hx] at ra a1 a2 ⊢;rw [Int.toNat_natCast, Nat.mod_eq_of_lt (show x < 2305843009213693951 by omega)]
 have hE : ∃ n : Nat, n < 9223372036854775808 ∧ ((if e < 0 then (e % 2305843009213693950).toNat else e.toNat) = n) ∧ (if e < 0 then e % 2305843009213693950 else e) = (n : Int) := by
  split
  ·exact ⟨(e % 2305843009213693950).toNat, by omega, rfl, by omega⟩
  ·exact ⟨e.toNat, by omega, rfl, by omega⟩
 obtain ⟨n, hn, en, eI⟩ := hE;rw [en];have wn := C3 (n := n) (by omega)
 have hlen := OG n (by omega)
 have hb1 := ZeW n;have hb2 : Be n ≤ 63 := ZeX (by omega)
 by_cases hneg : e < 0
 focus
  rw [if_pos hneg] at eI;have re := F4 e 2305843009213693950 (by omega) (by omega) he
  rw [eI] at re;refine run ?_;refine cp re ?_;refine run ?_;refine cp ra ?_;refine Aa wn ?_;refine cp hlen ?_
 rotate_left;focus
  rw [if_neg hneg] at eI;subst eI;refine run ?_;refine cp ra ?_;refine Aa wn ?_;refine cp hlen ?_
 all_goals
  refine run ?_;refine Bp (fun m e S => S = [] ∧ e 1 = .it .i64 (n : Int) ∧ e 16 = .it .i64 (Be n : Int) ∧ ∃ i r p : Nat, e 17 = .it .i64 (i : Int) ∧ e 5 = .it .i64 (r : Int) ∧ e 6 = .it .i64 (p : Int) ∧ i ≤ Be n ∧ r < 2305843009213693951 ∧ p < 2305843009213693951 ∧ EM 64 1 x n = EM (64 - i) r p (n / 2 ^ i) ∧ m = Be n - i) (Be n)
   ⟨rfl, Ad, Ad, 0, 1, x, Ad, Ad, Ad, by omega, by decide, by omega, by simp, rfl⟩ ?_
  rintro m e S ⟨rfl, s1, s16, i, r, p, s17, s5, s6, hi, hr, hp, hpow, rfl⟩
  by_cases hlt : i < Be n
  rotate_left
  ·obtain rfl : i = Be n := by omega
   rw [Zbv (f := 64 - Be n) (e := n / 2 ^ Be n) (Nat.div_eq_of_lt hb1)] at hpow;rw [hpow];refine Aa (A5 s1 s16 s17 s5 s6) ?_;exact Ab
  have hsh := Y7 n i hn (by omega)
  have hq : n / 2 ^ i < 9223372036854775808 := Nat.lt_of_le_of_lt (Nat.div_le_self _ _) hn;have hand := Zff (n / 2 ^ i) hq;have h64 : 64 - i = (64 - (i + 1)) + 1 := by omega
  have hd : n / 2 ^ i / 2 = n / 2 ^ (i + 1) := by rw [Nat.div_div_eq_div_mul, Nat.pow_succ]
  rw [h64, Ke (64 - (i + 1)) r p, hd] at hpow;have mpp := OU (p : Int) (p : Int) (by omega) (by omega)
  have mrp := OU (r : Int) (p : Int) (by omega) (by omega)
  rw [Kk hp hp] at mpp;rw [Kk hr hp] at mrp;have lpp : p * p % 2305843009213693951 < 2305843009213693951 := Nat.mod_lt _ (by decide)
  have lrp : r * p % 2305843009213693951 < 2305843009213693951 := Nat.mod_lt _ (by decide)
  generalize n / 2 ^ i = q at *;by_cases ho : q % 2 = 1
  ·rw [if_pos ho] at hpow
   have hoI : ((q % 2 : Nat) : Int) = 1 := by omega
   refine Aa (A8 s1 s16 s17 s5 s6 hsh hand hoI) ?_;refine cp mrp ?_;refine Aa (A5 s1 s16 s17 s5 s6) ?_;refine cp mpp ?_;refine Aa (A5 s1 s16 s17 s5 s6) ?_;exact AG (Be n - (i + 1)) (by omega) ⟨rfl, Ad, Ad, i + 1, r * p % 2305843009213693951, p * p % 2305843009213693951, Ad, Ad, Ad, by omega, lrp, lpp, hpow, rfl⟩
  ·rw [if_neg ho] at hpow
   have hoI : ((q % 2 : Nat) : Int) = 0 := by omega
   refine Aa (A8 s1 s16 s17 s5 s6 hsh hand hoI) ?_;refine cp mpp ?_;refine Aa (A5 s1 s16 s17 s5 s6) ?_;exact AG (Be n - (i + 1)) (by omega) ⟨rfl, Ad, Ad, i + 1, r, p * p % 2305843009213693951, Ad, Ad, Ad, by omega, hr, lpp, hpow, rfl⟩
theorem Js (a : Int) (b e : Nat) (h : a = (b : Int)) (hb : b < 2305843009213693951) : GY a (e : Int) = Br b e := by
 subst h;unfold GY;rw [if_neg (by omega), Int.toNat_natCast, show ((b : Int) % (2305843009213693951 : Int)).toNat = b by omega]
theorem Y0 (l : By) (h : l.length ≤ 140737488355328) : AC prog 65 [.st l] [] (.it .i64 (Sm.num l : Nat)) [] := by
 refine AC.ofBelow (by kernel_rfl) fun w g cargs ht hargs => ?_
 rw [Jh hargs];refine (ZbQ ⟨l.toArray⟩ w (by simp [ByteArray.size]; omega)).mono ?_
 rintro r w' ⟨rfl, rfl⟩
 exact ⟨_, rfl, fun g' => .it g' _ _, Below.refl _ _⟩
theorem TD : ∀ (l : List By), List.intercalate [] l = l.flatten
 | [] => rfl
 | [a] => by simp [List.intercalate]
 | a :: b :: l => by
  have := TD (b :: l);unfold List.intercalate at this ⊢;simp only [List.intersperse, List.flatten_cons, List.nil_append] at this ⊢;rw [this]
theorem Zc6 (l : List By) : Av (l.map AV.st) = l.map AV.st := by
 induction l with
 | nil => rfl
 | cons b l ih => simp only [List.map_cons, Av, List.flatMap_cons, AV.cells] at *; rw [ih]; rfl
theorem Zcs (l : List By) (h : l.flatten.length ≤ 140737488355328) (hl : 0 < l.length) (hl2 : l.length ≤ 1000000) : AC prog 67 [Bn l, .st []] [] (.st l.flatten) [] := by
 refine AC.ofBelow (by kernel_rfl) fun w g cargs ht hargs => ?_
 obtain ⟨h1, h2⟩ := hargs;obtain ⟨c0, c1, rfl⟩ : ∃ c0 c1, cargs = #[c0, c1] := by
  refine ⟨cargs[0]'(by rw [h1]; simp), cargs[1]'(by rw [h1]; simp), ?_⟩
  apply Array.ext
  ·simpa using h1
  ·intro i hi hj
   match i, hj with
   | 0, _ => rfl
   | 1, _ => rfl
 have r0 := h2 0 _ _ rfl rfl;have r1 := h2 1 _ _ rfl rfl;cases r1
 cases r0 with
 | sl _ _ _ A c sz cu hc hcm hsz hA k1 hr hm =>
  have hfl := Zc6 l;rw [hfl] at hA k1 hr;simp only [List.length_map] at hA hc k1 hr ⊢;obtain ⟨b, o, rfl, hcell⟩ := hA hl;have hcu : ∀ (j : Nat) x, l[j]? = some x → cu j = .string ⟨x.toArray⟩ := fun j x hx => by
   have := hr j (.st x) (by rw [List.getElem?_map, hx]; rfl)
   generalize cu j = y at this;cases this
   rfl
  have hj : Lib.join ((l.map fun x => (⟨x.toArray⟩ : ByteArray)).map (·.data.toList)) (⟨([] : By).toArray⟩ : ByteArray).data.toList = l.flatten := by
   rw [List.map_map, show ((fun x : ByteArray => x.data.toList) ∘ fun x : By => (⟨x.toArray⟩ : ByteArray)) = id from by funext x; simp, List.map_id]
   exact TD l
  have key := Tryz.strings_Join b o c (l.map fun x => (⟨x.toArray⟩ : ByteArray)) ⟨([] : By).toArray⟩ w (fun j x hx => by
    rw [List.getElem?_map] at hx
    obtain ⟨y, hy, rfl⟩ := Option.map_eq_some_iff.1 hx;rw [(hcell j (List.getElem?_eq_some_iff.1 hy).1).2, hcu j y hy])
   (World.block_lt_of_cell? w _ (hcell 0 hl).2) (by rw [List.length_map]; omega) (by rw [List.length_map]; exact hc) (by rw [hj]; exact h)
  rw [hj, List.length_map] at key;refine key.mono ?_
  rintro r w' ⟨rfl, hb⟩
  exact ⟨_, rfl, fun g' => .st g' _, hb⟩
theorem OS (l : List By) (h : l.flatten.length ≤ 1000000000) (hl : 0 < l.length) (hl2 : l.length ≤ 1000000) : AC prog 32 [Bn l] [] (.it .i64 (Sg.hash l.flatten : Nat)) [] := by
 refine Ai [67, 66, 65] [] func32 ?_;have hs : (Sm.sha l.flatten).length ≤ 140737488355328 := by show 32 ≤ _; omega
 refine run ?_;refine cp (Zcs l (by omega) hl hl2) ?_
 refine run ?_;refine cp (JX l.flatten (by omega)) ?_
 refine run ?_;refine cp (Y0 _ hs) ?_;refine run ?_;exact Ab
theorem RO (h : Nat) (hh : h < 2305843009213693952) : AC prog 31 [.it .i64 (h : Int)] [] (.it .i64 (Fz h : Nat)) [] := by
 refine Ai [] [] func31 ?_;unfold Fz;have e : (h : Int).tmod 2305843009213693949 = ((h % 2305843009213693949 : Nat) : Int) := by rw [Int.tmod_eq_emod_of_nonneg (by omega)]; omega
 have e2 : (1 : Int) + ((h % 2305843009213693949 : Nat) : Int) = ((1 + h % 2305843009213693949 : Nat) : Int) := by omega
 refine Aa (an e e2) ?_;exact Ab
theorem TI (a b c d : By) : [a, b, c, d].flatten = a ++ b ++ c ++ d := by simp
theorem TJ (a b c : By) : [a, b, c].flatten = a ++ b ++ c := by simp
theorem TK (a b : By) : [a, b].flatten = a ++ b := by simp
theorem Jg (n : Int) (h : n < 9223372036854775808) : (Ah n).length ≤ 9 := Ak n h
theorem JP (m : By) (h : m.length ≤ 100000000) : (text m).length ≤ 100000009 := by
 have := Jf 8 m.length (by omega)
 unfold text;rw [List.length_append];omega
theorem Vt (r p : Int) (m : By) (hm : m.length ≤ 100000000) (hr : -9223372036854775808 ≤ r ∧ r ≤ 9223372036854775807) (hp : -9223372036854775808 ≤ p ∧ p ≤ 9223372036854775807) : AC prog 123 [.it .i64 r, .it .i64 p, .st m] [] (.it .i64 (DE r p m : Nat)) [] := by
 refine Ai [33, 68, 32] [] func123 ?_;have tw : (text E3).length = 5 := by rfl
 have tm := JP m hm;have l1 := Jg r (by omega)
 have l2 := Jg p (by omega)
 have hlt := KB (text E3 ++ Ah r ++ Ah p ++ text m);unfold DE;have hh := OS [text E3, Ah r, Ah p, text m] (by rw [TI]; simp only [List.length_append]; omega) (by simp) (by simp)
 rw [TI] at hh;generalize Sg.hash (text E3 ++ Ah r ++ Ah p ++ text m) = h at *;have e : (h : Int).tmod 2305843009213693950 = ((h % 2305843009213693950 : Nat) : Int) := by rw [Int.tmod_eq_emod_of_nonneg (by omega)]; omega
 refine run ?_;refine cp (CO E3 (by simp)) ?_
 refine run ?_;refine cp (Cf r (by omega) (by omega)) ?_
 refine run ?_;refine cp (Cf p (by omega) (by omega)) ?_
 refine run ?_;refine cp (CO m (by omega)) ?_
 refine run ?_;refine cp hh ?_;refine Aa e ?_;exact Ab
abbrev Cr (k : Key) : AV := .agg [.it .i64 k.secret, .it .i64 k.pub]
abbrev H5 (s : Sig) : AV := .agg [.it .i64 s.e, .it .i64 s.s]
theorem Ol (s : Int) (hs : -9223372036854775808 ≤ s ∧ s ≤ 9223372036854775807) : AC prog 28 [.it .i64 s] [] (Cr (Sg.keyOf s)) [] := by
 refine Ai [60] [] func28 ?_;unfold Sg.keyOf;by_cases h1 : s < 1
 ·rw [if_pos (.inl h1)]
  refine run ?_;exact Ab
 by_cases h2 : 2305843009213693949 < s
 ·rw [if_pos (.inr h2)]
  refine run ?_;exact Ab
 ·rw [if_neg (by omega)]
  obtain ⟨n, rfl⟩ := Int.eq_ofNat_of_zero_le (show 0 ≤ s by omega)
  have he := ME 37 (n : Int) (by omega) (by omega)
  rw [Js 37 37 n rfl (by decide)] at he
  refine run ?_;refine cp he ?_;refine run ?_;exact Ab
theorem Zco (seed : By) (hm : seed.length ≤ 100000000) : AC prog 6 [.st seed] [] (Cr (Jj seed)) [] := by
 refine Ai [33, 32, 31, 28] [] func6 ?_;have tm := JP seed hm;have tw : (text Gz).length = 4 := by rfl
 have hlt := KB (text Gz ++ text seed);have hr := J7 (Sg.hash (text Gz ++ text seed));have hh := OS [text Gz, text seed] (by rw [TK]; simp only [List.length_append]; omega) (by simp) (by simp)
 rw [TK] at hh;unfold Jj;generalize Sg.hash (text Gz ++ text seed) = h at *;refine run ?_;refine cp (CO Gz (by simp)) ?_
 refine run ?_;refine cp (CO seed (by omega)) ?_
 refine run ?_;refine cp hh ?_;refine run ?_;refine cp (RO h hlt) ?_;refine run ?_;refine cp (Ol (Fz h) (by omega)) ?_
 refine run ?_;exact Ab
theorem Zcn (k q : Key) : decide (k = q) = ((k.secret == q.secret) && (k.pub == q.pub)) := by
 obtain ⟨a, b⟩ := k;obtain ⟨c, d⟩ := q;rw [Bool.eq_iff_iff];simp
theorem Io (k : Key) (hs : -9223372036854775808 ≤ k.secret ∧ k.secret ≤ 9223372036854775807) : AC prog 34 [Cr k] [] (.bo k.right) [] := by
 refine Ai [28] [] func34 ?_;unfold Key.right;rw [Zcn];by_cases h1 : 1 ≤ k.secret
 ·rw [decide_eq_true h1]
  refine run ?_;refine cp (Ol k.secret hs) ?_;refine run ?_;exact Ab
 ·rw [decide_eq_false h1]
  refine run ?_;exact Ab
theorem Ky (n : Int) : AC prog 122 [.it .i64 n] [] (.bo (Gg n)) [] := by
 refine Ai [] [] func122 ?_;unfold Gg;by_cases h : 0 ≤ n
 ·rw [decide_eq_true h]
  refine run ?_;exact Ab
 ·rw [decide_eq_false h]
  refine run ?_;exact Ab
theorem ZbU (k : Key) (m : By) : 1 ≤ nonce k m ∧ nonce k m < 2305843009213693950 := J7 _
theorem Y4 (k : Key) (m : By) (hm : m.length ≤ 100000000) (hs : -9223372036854775808 ≤ k.secret ∧ k.secret ≤ 9223372036854775807) : AC prog 114 [Cr k, .st m] [] (H5 (Df k m)) [] := by
 refine Ai [34, 33, 68, 32, 31, 60, 123, 179, 178] [] func114 ?_;unfold Df;refine run ?_;refine cp (Io k hs) ?_;cases hr : k.right with
 | false =>
  rw [if_neg (by simp)]
  refine run ?_;exact Ab
 | true =>
  rw [if_pos rfl];obtain ⟨p1, p2⟩ := Od hr;obtain ⟨q1, q2, _⟩ := Key.right_iff.1 hr;have tm := JP m hm;have tw : (text FX).length = 6 := by rfl
  have l1 := Jg k.secret (by omega)
  have hh := OS [text FX, Ah k.secret, text m] (by rw [TJ]; simp only [List.length_append]; omega) (by simp) (by simp)
  rw [TJ] at hh;have hred := RO (Sg.hash (text FX ++ Ah k.secret ++ text m)) (KB _);change AC _ _ _ _ (.it .i64 (nonce k m : Nat)) _ at hred;obtain ⟨n1, n2⟩ := ZbU k m;generalize nonce k m = u at *;have hexp := ME 37 (u : Int) (by omega) (by omega)
  rw [Js 37 37 u rfl (by decide)] at hexp
  have hpl := Kc 37 u;have hch := Vt (Br 37 u : Nat) k.pub m hm (by omega) (by omega)
  have hel := MX (Br 37 u : Nat) k.pub m;generalize DE (Br 37 u : Nat) k.pub m = e at *;have hmul := ZcA (e : Int) k.secret (by omega) (by omega)
  have hml : D3 e k.secret < 2305843009213693950 := Nat.mod_lt _ (by decide)
  have hadd := ZcC (u : Int) (D3 e k.secret : Nat) (by omega) (by omega)
  have hval : ((u : Int) % 2305843009213693950 + ((D3 e k.secret : Nat) : Int) % 2305843009213693950) % 2305843009213693950 = (((u + e * k.secret.toNat) % 2305843009213693950 : Nat) : Int) := by
   have h1 : D3 e k.secret = e * k.secret.toNat % 2305843009213693950 := by
    unfold D3;rw [show ((e : Int) % 2305843009213693950).toNat = e by omega, show (k.secret % 2305843009213693950).toNat = k.secret.toNat by omega]
   rw [h1];generalize e * k.secret.toNat = z;omega
  rw [hval] at hadd;refine run ?_;refine cp (CO FX (by simp)) ?_
  refine run ?_;refine cp (Cf k.secret (by omega) (by omega)) ?_
  refine run ?_;refine cp (CO m (by omega)) ?_
  refine run ?_;refine cp hh ?_;refine run ?_;refine cp hred ?_;refine run ?_;refine cp hexp ?_;refine run ?_;refine cp hch ?_;refine run ?_;refine cp hmul ?_;refine run ?_;refine cp hadd ?_;refine run ?_;exact Ab
theorem Yl (p : Int) (m : By) (s : Sig) (hm : m.length ≤ 100000000) (hp : -9223372036854775808 ≤ p ∧ p ≤ 9223372036854775807) (hs : -9223372036854775808 ≤ s.e ∧ s.e ≤ 9223372036854775807) : AC prog 63 [.it .i64 p, .st m, H5 s] [] (.bo (IU p m s)) [] := by
 refine Ai [122, 60, 121, 123] [] func63 ?_;unfold IU;by_cases h1 : 1 ≤ p
 rotate_left
 ·rw [decide_eq_false h1]
  refine run ?_;exact Ab
 by_cases h2 : p < 2305843009213693951
 rotate_left
 ·rw [decide_eq_true h1, decide_eq_false h2]
  refine run ?_;exact Ab
 rw [decide_eq_true h1, decide_eq_true h2];cases ie : Gg s.e with
 | false =>
  refine run ?_;refine cp (Ky s.e) ?_;refine Aa ie ?_;exact Ab
 | true =>
  cases is : Gg s.s with
  | false =>
   refine run ?_;refine cp (Ky s.e) ?_;refine Aa ie ?_;refine cp (Ky s.s) ?_;refine Aa is ?_;exact Ab
  | true =>
   have re : 0 ≤ s.e ∧ s.e < 2305843009213693950 := by simpa [Gg] using ie
   have rs : 0 ≤ s.s ∧ s.s < 2305843009213693950 := by simpa [Gg] using is
   have x1 := ME 37 s.s (by omega) (by omega)
   have x2 := ME p (2305843009213693950 - s.e) (by omega) (by omega)
   have e1 : GY 37 s.s = Br 37 s.s.toNat := by
    have := Js 37 37 s.s.toNat rfl (by decide)
    rwa [Int.toNat_of_nonneg rs.1] at this
   have e2 : GY p (2305843009213693950 - s.e) = Br p.toNat (2305843009213693950 - s.e).toNat := by
    have := Js p p.toNat (2305843009213693950 - s.e).toNat (by omega) (by omega)
    rwa [Int.toNat_of_nonneg (by omega)] at this
   rw [e1] at x1;rw [e2] at x2;have l1 := Kc 37 s.s.toNat;have l2 := Kc p.toNat (2305843009213693950 - s.e).toNat;have hmul := OU (Br 37 s.s.toNat : Nat) (Br p.toNat (2305843009213693950 - s.e).toNat : Nat) (by omega) (by omega)
   rw [Kk l1 l2] at hmul;change AC _ _ _ _ (.it .i64 ((Iw p s : Nat) : Int)) _ at hmul;have hcl : Iw p s < 2305843009213693951 := Nat.mod_lt _ (by decide)
   have hch := Vt (Iw p s : Nat) p m hm (by omega) (by omega)
   generalize Iw p s = c at *;generalize DE (c : Int) p m = h at *;generalize Br 37 s.s.toNat = y1 at *;generalize Br p.toNat (2305843009213693950 - s.e).toNat = y2 at *;refine run ?_;refine cp (Ky s.e) ?_;refine Aa ie ?_;refine cp (Ky s.s) ?_;refine Aa is ?_;refine cp x1 ?_;refine run ?_;refine cp x2 ?_;refine run ?_;refine cp hmul ?_;refine run ?_;refine cp hch ?_;refine run ?_;exact Ab
end Pe
end
section
namespace Ac
open Tryz
open Go Co Sg
def EQ (b : UInt8) : Bool := (decide (48 ≤ b.toNat) && decide (b.toNat ≤ 57)) || (decide (97 ≤ b.toNat) && decide (b.toNat ≤ 102))
def Ax (s : By) : Bool := decide (s.length = 16) && s.all EQ
def Cy (b : UInt8) : Bool := decide (97 ≤ b.toNat) && decide (b.toNat ≤ 122)
def CU (b : UInt8) : Bool := Cy b || (decide (48 ≤ b.toNat) && decide (b.toNat ≤ 57)) || decide (b.toNat = 95)
def BY : By → Bool
 | [] => false
 | c :: r => decide (r.length ≤ 23) && Cy c && r.all CU
def IC : List By → Bool
 | a :: b :: r => !(Op.bytesLess b a || b == a) && IC (b :: r)
 | _ => true
def BS (l : List By) : Bool := decide (l.length ≤ 64) && l.all Ax && IC l
structure Box where
 nonce : By
 data : By
 tag : By
 deriving DecidableEq
structure Wrap where
 to : Int
 eph : Int
 box : Box
 deriving DecidableEq
structure Act where
 author : By
 seq : Int
 prev : By
 kind : Int
 time : Int
 object : By
 target : By
 scope : Int
 group : By
 to : List By
 text : By
 body : Box
 epoch : Int
 wraps : List Wrap
 n : Int
 m : Int
 sig : Sig
 deriving DecidableEq
def Cu : Box := ⟨[], [], []⟩
def BX : Sig := ⟨0, 0⟩
def BU : Act := ⟨[], 0, [], 0, 0, [], [], 0, [], [], [], Cu, 0, [], 0, 0, BX⟩
def wi (n lo hi : Int) : Bool := decide (lo ≤ n) && decide (n ≤ hi)
theorem AZ {n lo hi : Int} : wi n lo hi = true ↔ lo ≤ n ∧ n ≤ hi := by simp [wi]
def Bd (s : By) : Bool := decide (s.length = 32)
def Cx (s : By) : Bool := decide (s.length ≤ 500)
def pub (n : Int) : Bool := wi n 1 2305843009213693950
def DJ (b : Box) : Bool := decide (b.nonce.length = 32) && decide (b.tag.length = 16) && Cx b.data
def BH (w : Wrap) : Bool := pub w.to && pub w.eph && DJ w.box
def En (a : Act) : Bool := a.wraps.all BH && decide (a.wraps.length = a.to.length)
def E5 (scope : Int) (group : By) : Bool := if scope = 2 then BY group else if scope = 1 ∨ scope = 3 then decide (group = []) else false
def Ds (a : Act) : Bool :=
 BS a.to && (if a.scope = 0 then decide (a.group = []) && decide (a.epoch = 0) && Cx a.text && decide (a.body = Cu)
  else (decide (a.to = []) || decide (a.scope = 3)) && E5 a.scope a.group && wi a.epoch 0 1073741824 && decide (a.text = []) && DJ a.body)
def home (a : Act) : Bool := pub a.n && wi a.m 0 19
def grant (a : Act) : Bool := E5 a.scope a.group && wi a.epoch 0 1073741824 && BS a.to && En a
def label (a : Act) : Bool := BY a.text && ((Bd a.object && decide (a.target = [])) || (Ax a.target && decide (a.object = [])))
def setup (a : Act) : Bool := decide (0 < a.to.length) && BS a.to && En a && wi a.n 1 a.to.length && pub a.m
def Bo (z : Bool) (f s : Int) : Int := if z then s else Go.bits .or .i64 s f
def HV (a : Act) : Int :=
 Bo (decide (a.m = 0)) 1024 <| Bo (decide (a.n = 0)) 512 <| Bo (decide (a.wraps = [])) 256 <| Bo (decide (a.epoch = 0)) 128 <| Bo (decide (a.body = Cu)) 64 <|
 Bo (decide (a.text = [])) 32 <| Bo (decide (a.to = [])) 16 <| Bo (decide (a.group = [])) 8 <| Bo (decide (a.scope = 0)) 4 <| Bo (decide (a.target = [])) 2 <| Bo (decide (a.object = [])) 1 0
inductive Ru where
 | begin | post | reply | about | tie | reason | circle | grant | label | move | setup | judge | list
 deriving DecidableEq
def Ru.mask : Ru → Int
 | .begin => 1568
 | .post => 252
 | .reply => 253
 | .about => 1
 | .tie => 2
 | .reason => 33
 | .circle => 24
 | .grant => 412
 | .label => 35
 | .move => 1536
 | .setup => 1808
 | .judge => 513
 | .list => 546
def Ru.ok (a : Act) : Ru → Bool
 | .begin => BY a.text && home a
 | .post => Ds a
 | .reply => Bd a.object && Ds a
 | .about => Bd a.object
 | .tie => Ax a.target
 | .reason => Bd a.object && Cx a.text
 | .circle => BY a.group && BS a.to
 | .grant => Ac.grant a
 | .label => Ac.label a
 | .move => home a
 | .setup => Ac.setup a
 | .judge => Bd a.object && wi a.n 0 1
 | .list => Ax a.target && Cx a.text && wi a.n 0 1099511627776
def I6 : List (Int × Ru) := [(0, .begin), (1, .post), (2, .reply), (3, .reply), (14, .reply), (4, .about), (5, .about), (6, .about), (13, .about), (20, .about), (7, .tie), (8, .tie), (9, .tie), (10, .tie), (11, .tie), (12, .reason), (21, .reason), (15, .circle), (16, .grant), (17, .label), (18, .move), (19, .setup), (22, .judge), (23, .list)]
def EK (k : Int) : Option Ru := I6.lookup k
def Cp (a : Act) : Bool := if a.seq = 0 then decide (a.kind = 0) && decide (a.prev = []) else wi a.seq 1 1073741824 && decide (a.kind ≠ 0) && Bd a.prev
def AT (s : Sig) : Bool := wi s.e 0 2305843009213693949 && wi s.s 0 2305843009213693949
def right (a : Act) : Bool := Ax a.author && Cp a && wi a.time 0 1099511627776 && AT a.sig &&
 (match EK a.kind with
 | none => false
 | some r => decide (Go.bits .andNot .i64 (HV a) r.mask = 0) && r.ok a)
def D8 (b : Box) : By := text b.nonce ++ text b.data ++ text b.tag
def Bz (w : Wrap) : By := Ah w.to ++ Ah w.eph ++ D8 w.box
abbrev Cl : By := [97, 99, 116]
def Fi (a : Act) : By :=
 text Cl ++ text a.author ++ Ah a.seq ++ text a.prev ++ Ah a.kind ++ Ah a.time ++ text a.object ++ text a.target ++ Ah a.scope ++ text a.group ++ list a.to ++ text a.text ++ D8 a.body ++ Ah a.epoch ++ num a.wraps.length ++ (a.wraps.map Bz).flatten ++ Ah a.n ++ Ah a.m
def Bk (a : Act) : By := if right a then Fi a else []
def bytes (a : Act) : By := if right a then Fi a ++ Ah a.sig.e ++ Ah a.sig.s else []
def Ce (x : R) : Box × R := (⟨x.text.1, x.text.2.text.1, x.text.2.text.2.text.1⟩, x.text.2.text.2.text.2)
def Ap (x : R) : Int × R := ((x.num.1 : Int), x.num.2)
def B8 (x : R) : Wrap × R :=
 let a := Ap x
 let b := Ap a.2
 let c := Ce b.2
 (⟨a.1, b.1, c.1⟩, c.2)
def CS : Nat → R → Option (List Wrap) × R
 | 0, x => (some [], x)
 | n + 1, x => if (B8 x).2.rest = [] then (none, (B8 x).2) else ((CS n (B8 x).2).1.map ((B8 x).1 :: ·), (CS n (B8 x).2).2)
def EL (x : R) : List Wrap × R := ((CS x.num.1 x.num.2).1.getD [], (CS x.num.1 x.num.2).2)
def GM (x : R) : Act × R :=
 let author := x.text
 let seq := Ap author.2
 let prev := seq.2.text
 let kind := Ap prev.2
 let time := Ap kind.2
 let object := time.2.text
 let target := object.2.text
 let scope := Ap target.2
 let group := scope.2.text
 let to := group.2.list
 let text := to.2.text
 let body := Ce text.2
 let epoch := Ap body.2
 let wraps := EL epoch.2
 let n := Ap wraps.2
 let m := Ap n.2
 let e := Ap m.2
 let s := Ap e.2
 (⟨author.1, seq.1, prev.1, kind.1, time.1, object.1, target.1, scope.1, group.1, to.1, text.1, body.1, epoch.1, wraps.1, n.1, m.1, ⟨e.1, s.1⟩⟩, s.2)
def _root_.Go.Proofs.YtldohjjoicmfpaaGreatDoor.Co.R.done (x : R) : Bool := !x.bad && x.rest == []
def read (s : By) : Act × Bool :=
 let x : R := ⟨s, false⟩
 if x.text.1 = Cl ∧ (GM x.text.2).2.done = true ∧ bytes (GM x.text.2).1 = s then ((GM x.text.2).1, true) else (BU, false)
def Yp (o t s g l x b e w n m : Bool) : Int :=
 Bo m 1024 <| Bo n 512 <| Bo w 256 <| Bo e 128 <| Bo b 64 <| Bo x 32 <| Bo l 16 <| Bo g 8 <| Bo s 4 <| Bo t 2 <| Bo o 1 0
def BQ (o t s g l x b e w n m : Bool) : Ru → Bool
 | .begin => o && t && s && g && l && b && e && w
 | .post => o && t && w && n && m
 | .reply => t && w && n && m
 | .about => t && s && g && l && x && b && e && w && n && m
 | .tie => o && s && g && l && x && b && e && w && n && m
 | .reason => t && s && g && l && b && e && w && n && m
 | .circle => o && t && s && x && b && e && w && n && m
 | .grant => o && t && x && b && n && m
 | .label => s && g && l && b && e && w && n && m
 | .move => o && t && s && g && l && x && b && e && w
 | .setup => o && t && s && g && x && b && e
 | .judge => t && s && g && l && x && b && e && w && m
 | .list => o && s && g && l && b && e && w && m
theorem S5 (r : Ru) : ∀ o t s g l x b e w n m : Bool, decide (Go.bits .andNot .i64 (Yp o t s g l x b e w n m) r.mask = 0) = BQ o t s g l x b e w n m r := by
 cases r <;> decide +kernel
def out (a : Act) (r : Ru) : Bool := BQ (decide (a.object = [])) (decide (a.target = [])) (decide (a.scope = 0)) (decide (a.group = [])) (decide (a.to = [])) (decide (a.text = [])) (decide (a.body = Cu)) (decide (a.epoch = 0)) (decide (a.wraps = [])) (decide (a.n = 0)) (decide (a.m = 0)) r
theorem right_iff {a : Act} : right a = true ↔ Ax a.author = true ∧ Cp a = true ∧ wi a.time 0 1099511627776 = true ∧ AT a.sig = true ∧ ∃ r, EK a.kind = some r ∧ out a r = true ∧ r.ok a = true := by
 unfold right;cases h : EK a.kind with
 | none => simp
 | some r =>
  have e : decide (Go.bits .andNot .i64 (HV a) r.mask = 0) = out a r := S5 r _ _ _ _ _ _ _ _ _ _ _;simp only [e, Bool.and_eq_true, and_assoc, Option.some.injEq, exists_eq_left']
theorem ZG {k : Int} {r : Ru} (h : EK k = some r) : (k, r) ∈ I6 := by
 unfold EK at h;generalize I6 = l at h ⊢;induction l with
 | nil => cases h
 | cons p l ih =>
  obtain ⟨j, s⟩ := p;rw [List.lookup_cons] at h;by_cases e : k = j
  ·subst e
   simp at h
   subst h;simp
  ·rw [show (k == j) = false by simpa using e] at h
   exact List.mem_cons_of_mem _ (ih h)
theorem Rl {k : Int} {r : Ru} (h : EK k = some r) : 0 ≤ k ∧ k ≤ 23 := by
 have := ZG h;simp only [I6, List.mem_cons, Prod.mk.injEq, List.not_mem_nil, or_false] at this;omega
theorem ZF {k : Int} (h : k < 0 ∨ 23 < k) : EK k = none := by
 cases e : EK k with
 | none => rfl
 | some r => have := Rl e; omega
theorem GW {s : By} (h : Ax s = true) : s.length = 16 := by simp only [Ax, Bool.and_eq_true, decide_eq_true_eq] at h; exact h.1
theorem Mv {s : By} (h : BY s = true) : s.length ≤ 24 := by
 cases s with
 | nil => cases h
 | cons c r => simp only [BY, Bool.and_eq_true, decide_eq_true_eq] at h; simp only [List.length_cons]; omega
theorem KA {l : List By} (h : BS l = true) : l.length ≤ 64 ∧ ∀ s ∈ l, s.length = 16 := by
 simp only [BS, Bool.and_eq_true, decide_eq_true_eq, List.all_eq_true] at h;exact ⟨h.1.1, fun s hs => GW (h.1.2 s hs)⟩
theorem Rc {sc : Int} {g : By} (h : E5 sc g = true) : g.length ≤ 24 ∧ 1 ≤ sc ∧ sc ≤ 3 := by
 unfold E5 at h;split at h
 ·exact ⟨Mv h, by omega, by omega⟩
 ·split at h
  ·have h := of_decide_eq_true h; subst h; exact ⟨by simp, by omega, by omega⟩
  ·cases h
theorem L7 {b : Box} (h : DJ b = true) : b.nonce.length = 32 ∧ b.tag.length = 16 ∧ b.data.length ≤ 500 := by
 simp only [DJ, Cx, Bool.and_eq_true, decide_eq_true_eq] at h;exact ⟨h.1.1, h.1.2, h.2⟩
structure Sm (a : Act) : Prop where
 author : a.author.length ≤ 16
 seq : 0 ≤ a.seq ∧ a.seq ≤ 1073741824
 prev : a.prev.length ≤ 32
 kind : 0 ≤ a.kind ∧ a.kind ≤ 23
 time : 0 ≤ a.time ∧ a.time ≤ 1099511627776
 object : a.object.length ≤ 32
 target : a.target.length ≤ 16
 scope : 0 ≤ a.scope ∧ a.scope ≤ 3
 group : a.group.length ≤ 24
 to : a.to.length ≤ 64 ∧ ∀ s ∈ a.to, s.length = 16
 text : a.text.length ≤ 500
 body : a.body.nonce.length ≤ 32 ∧ a.body.data.length ≤ 500 ∧ a.body.tag.length ≤ 16
 epoch : 0 ≤ a.epoch ∧ a.epoch ≤ 1073741824
 wraps : a.wraps.length ≤ 64 ∧ ∀ w ∈ a.wraps, BH w = true
 n : 0 ≤ a.n ∧ a.n ≤ 2305843009213693950
 m : 0 ≤ a.m ∧ a.m ≤ 2305843009213693950
 sig : AT a.sig = true
theorem Is {s : By} (h : Bd s = true) : s.length ≤ 32 := by have := of_decide_eq_true h; omega
theorem I0 {s : By} (h : Cx s = true) : s.length ≤ 500 := of_decide_eq_true h
theorem P5 {a : Act} (h : En a = true) (ht : a.to.length ≤ 64) : a.wraps.length ≤ 64 ∧ ∀ w ∈ a.wraps, BH w = true := by
 simp only [En, Bool.and_eq_true, decide_eq_true_eq, List.all_eq_true] at h;exact ⟨by omega, h.1⟩
structure Aud (a : Act) : Prop where
 scope : 0 ≤ a.scope ∧ a.scope ≤ 3
 group : a.group.length ≤ 24
 to : a.to.length ≤ 64 ∧ ∀ s ∈ a.to, s.length = 16
 text : a.text.length ≤ 500
 body : a.body.nonce.length ≤ 32 ∧ a.body.data.length ≤ 500 ∧ a.body.tag.length ≤ 16
 epoch : 0 ≤ a.epoch ∧ a.epoch ≤ 1073741824
theorem Wg {a : Act} (h : Ds a = true) : Aud a := by
 unfold Ds at h;rw [Bool.and_eq_true] at h;obtain ⟨h1, h2⟩ := h;have h1 := KA h1;split at h2
 ·rename_i h0
  simp only [Bool.and_eq_true, decide_eq_true_eq] at h2;obtain ⟨⟨⟨a1, a2⟩, a3⟩, a4⟩ := h2;exact ⟨by omega, by rw [a1]; simp, h1, I0 a3, by rw [a4]; simp [Cu], by omega⟩
 ·simp only [Bool.and_eq_true, decide_eq_true_eq, AZ] at h2
  obtain ⟨⟨⟨⟨_, a1⟩, a2⟩, a3⟩, a4⟩ := h2;have b1 := Rc a1;have b4 := L7 a4;exact ⟨by omega, b1.1, h1, by rw [a3]; simp, by omega, a2⟩
theorem Et {a : Act} (h : right a = true) : Sm a := by
 obtain ⟨h1, h2, h3, h4, r, h5, h6, h7⟩ := right_iff.1 h;have k := Rl h5;have hp : a.prev.length ≤ 32 ∧ 0 ≤ a.seq ∧ a.seq ≤ 1073741824 := by
  unfold Cp at h2;split at h2
  ·simp only [Bool.and_eq_true, decide_eq_true_eq] at h2; rw [h2.2]; simp; omega
  ·simp only [Bool.and_eq_true, decide_eq_true_eq, AZ] at h2; have := Is h2.2; omega
 have h1 := GW h1;rw [AZ] at h3;clear h2;cases r <;> simp only [out, BQ, Bool.and_eq_true, decide_eq_true_eq] at h6 <;> simp only [Ru.ok, Bool.and_eq_true] at h7
 case begin =>
  obtain ⟨⟨⟨⟨⟨⟨⟨a1, a2⟩, a3⟩, a4⟩, a5⟩, a6⟩, a7⟩, a8⟩ := h6;obtain ⟨b1, b2⟩ := h7;simp only [home, pub, Bool.and_eq_true, AZ] at b2;have := Mv b1;exact ⟨by omega, hp.2, hp.1, k, h3, by simp [a1], by simp [a2], by omega, by simp [a4], by simp [a5], by omega, by simp [a6, Cu], by omega, by simp [a8], by omega, by omega, h4⟩
 case post =>
  obtain ⟨⟨⟨⟨a1, a2⟩, a3⟩, a4⟩, a5⟩ := h6;have c := Wg h7;exact ⟨by omega, hp.2, hp.1, k, h3, by simp [a1], by simp [a2], c.scope, c.group, c.to, c.text, c.body, c.epoch, by simp [a3], by omega, by omega, h4⟩
 case reply =>
  obtain ⟨⟨⟨a2, a3⟩, a4⟩, a5⟩ := h6;have c := Wg h7.2;exact ⟨by omega, hp.2, hp.1, k, h3, Is h7.1, by simp [a2], c.scope, c.group, c.to, c.text, c.body, c.epoch, by simp [a3], by omega, by omega, h4⟩
 case about =>
  obtain ⟨⟨⟨⟨⟨⟨⟨⟨⟨a1, a2⟩, a3⟩, a4⟩, a5⟩, a6⟩, a7⟩, a8⟩, a9⟩, a10⟩ := h6;exact ⟨by omega, hp.2, hp.1, k, h3, Is h7, by simp [a1], by omega, by simp [a3], by simp [a4], by simp [a5], by simp [a6, Cu], by omega, by simp [a8], by omega, by omega, h4⟩
 case tie =>
  obtain ⟨⟨⟨⟨⟨⟨⟨⟨⟨a1, a2⟩, a3⟩, a4⟩, a5⟩, a6⟩, a7⟩, a8⟩, a9⟩, a10⟩ := h6;have := GW h7;exact ⟨by omega, hp.2, hp.1, k, h3, by simp [a1], by omega, by omega, by simp [a3], by simp [a4], by simp [a5], by simp [a6, Cu], by omega, by simp [a8], by omega, by omega, h4⟩
 case reason =>
  obtain ⟨⟨⟨⟨⟨⟨⟨⟨a1, a2⟩, a3⟩, a4⟩, a6⟩, a7⟩, a8⟩, a9⟩, a10⟩ := h6;exact ⟨by omega, hp.2, hp.1, k, h3, Is h7.1, by simp [a1], by omega, by simp [a3], by simp [a4], I0 h7.2, by simp [a6, Cu], by omega, by simp [a8], by omega, by omega, h4⟩
 case circle =>
  obtain ⟨⟨⟨⟨⟨⟨⟨⟨a1, a2⟩, a3⟩, a5⟩, a6⟩, a7⟩, a8⟩, a9⟩, a10⟩ := h6;have g := Mv h7.1;exact ⟨by omega, hp.2, hp.1, k, h3, by simp [a1], by simp [a2], by omega, g, KA h7.2, by simp [a5], by simp [a6, Cu], by omega, by simp [a8], by omega, by omega, h4⟩
 case grant =>
  obtain ⟨⟨⟨⟨⟨a1, a2⟩, a5⟩, a6⟩, a9⟩, a10⟩ := h6;simp only [grant, Bool.and_eq_true, AZ] at h7;obtain ⟨⟨⟨b1, b2⟩, b3⟩, b4⟩ := h7;have c1 := Rc b1;have c3 := KA b3;exact ⟨by omega, hp.2, hp.1, k, h3, by simp [a1], by simp [a2], by omega, c1.1, c3, by simp [a5], by simp [a6, Cu], b2, P5 b4 c3.1, by omega, by omega, h4⟩
 case label =>
  obtain ⟨⟨⟨⟨⟨⟨⟨a3, a4⟩, a5⟩, a6⟩, a7⟩, a8⟩, a9⟩, a10⟩ := h6;simp only [label, Bool.and_eq_true, Bool.or_eq_true, decide_eq_true_eq] at h7;have b1 := Mv h7.1;have b2 : a.object.length ≤ 32 ∧ a.target.length ≤ 16 := by
   rcases h7.2 with ⟨x, y⟩ | ⟨x, y⟩
   ·exact ⟨Is x, by simp [y]⟩
   ·exact ⟨by simp [y], by have := GW x; omega⟩
  exact ⟨by omega, hp.2, hp.1, k, h3, b2.1, b2.2, by omega, by simp [a4], by simp [a5], by omega, by simp [a6, Cu], by omega, by simp [a8], by omega, by omega, h4⟩
 case move =>
  obtain ⟨⟨⟨⟨⟨⟨⟨⟨a1, a2⟩, a3⟩, a4⟩, a5⟩, a6⟩, a7⟩, a8⟩, a9⟩ := h6;simp only [home, pub, Bool.and_eq_true, AZ] at h7;exact ⟨by omega, hp.2, hp.1, k, h3, by simp [a1], by simp [a2], by omega, by simp [a4], by simp [a5], by simp [a6], by simp [a7, Cu], by omega, by simp [a9], by omega, by omega, h4⟩
 case setup =>
  obtain ⟨⟨⟨⟨⟨⟨a1, a2⟩, a3⟩, a4⟩, a6⟩, a7⟩, a8⟩ := h6;simp only [setup, pub, Bool.and_eq_true, AZ, decide_eq_true_eq] at h7;obtain ⟨⟨⟨⟨b0, b1⟩, b2⟩, b3⟩, b4⟩ := h7;have c1 := KA b1;exact ⟨by omega, hp.2, hp.1, k, h3, by simp [a1], by simp [a2], by omega, by simp [a4], c1, by simp [a6], by simp [a7, Cu], by omega, P5 b2 c1.1, by omega, by omega, h4⟩
 case judge =>
  obtain ⟨⟨⟨⟨⟨⟨⟨⟨a1, a2⟩, a3⟩, a4⟩, a5⟩, a6⟩, a7⟩, a8⟩, a10⟩ := h6;rw [AZ] at h7;exact ⟨by omega, hp.2, hp.1, k, h3, Is h7.1, by simp [a1], by omega, by simp [a3], by simp [a4], by simp [a5], by simp [a6, Cu], by omega, by simp [a8], by omega, by omega, h4⟩
 case list =>
  obtain ⟨⟨⟨⟨⟨⟨⟨a1, a2⟩, a3⟩, a4⟩, a6⟩, a7⟩, a8⟩, a10⟩ := h6;simp only [Bool.and_eq_true, AZ] at h7;obtain ⟨⟨b1, b2⟩, b3⟩ := h7;have := GW b1;exact ⟨by omega, hp.2, hp.1, k, h3, by simp [a1], by omega, by omega, by simp [a3], by simp [a4], I0 b2, by simp [a6, Cu], by omega, by simp [a8], by omega, by omega, h4⟩
theorem Bf (n : Int) (rest : By) (h0 : 0 ≤ n) (h : n < 9223372036854775808) : Ap ⟨Ah n ++ rest, false⟩ = (n, ⟨rest, false⟩) := by
 unfold Ap;rw [ZbR n rest false h0 h];simp only [Prod.mk.injEq, and_true];omega
theorem Oc (b : Box) (rest : By) (h : b.nonce.length < 2 ^ 63 ∧ b.data.length < 2 ^ 63 ∧ b.tag.length < 2 ^ 63) : Ce ⟨D8 b ++ rest, false⟩ = (b, ⟨rest, false⟩) := by
 unfold Ce D8;simp only [List.append_assoc];rw [Cd _ _ h.1];simp only
 rw [Cd _ _ h.2.1];simp only
 rw [Cd _ _ h.2.2]
theorem R5 (w : Wrap) (rest : By) (h : BH w = true) : B8 ⟨Bz w ++ rest, false⟩ = (w, ⟨rest, false⟩) := by
 simp only [BH, pub, Bool.and_eq_true, AZ] at h;have hb := L7 h.2;unfold B8 Bz;simp only [List.append_assoc];rw [Bf _ _ (by omega) (by omega)]
 simp only
 rw [Bf _ _ (by omega) (by omega)]
 simp only
 rw [Oc _ _ (by omega)]
theorem R3 : ∀ (l : List Wrap) (rest : By), rest ≠ [] → (∀ w ∈ l, BH w = true) → CS l.length ⟨(l.map Bz).flatten ++ rest, false⟩ = (some l, ⟨rest, false⟩)
 | [], rest, _, _ => rfl
 | w :: l, rest, hr, h => by
  rw [List.length_cons, List.map_cons, List.flatten_cons, List.append_assoc];unfold CS;rw [R5 w _ (h w (by simp))]
  simp only
  rw [if_neg (by simp [hr]), R3 l rest hr fun x hx => h x (by simp [hx])]
  rfl
theorem Zbh (l : List Wrap) (rest : By) (hl : l.length < 2 ^ 63) (hr : rest ≠ []) (h : ∀ w ∈ l, BH w = true) : EL ⟨num l.length ++ ((l.map Bz).flatten ++ rest), false⟩ = (l, ⟨rest, false⟩) := by
 unfold EL;rw [Ie _ _ _ hl];simp only
 rw [R3 l rest hr h];rfl
def FZ (a : Act) (rest : By) : By :=
 text a.author ++ (Ah a.seq ++ (text a.prev ++ (Ah a.kind ++ (Ah a.time ++ (text a.object ++ (text a.target ++ (Ah a.scope ++ (text a.group ++ (list a.to ++ (text a.text ++ (D8 a.body ++ (Ah a.epoch ++ (num a.wraps.length ++ ((a.wraps.map Bz).flatten ++ (Ah a.n ++ (Ah a.m ++ (Ah a.sig.e ++ (Ah a.sig.s ++ rest))))))))))))))))))
theorem Zeq (a : Act) (rest : By) : Fi a ++ Ah a.sig.e ++ Ah a.sig.s ++ rest = text Cl ++ FZ a rest := by
 unfold Fi FZ;simp only [List.append_assoc]
theorem Mr {n : Int} (h : 0 ≤ n) : Ah n ≠ [] := by
 unfold Ah;rw [if_neg (by omega)]
 intro e;have := Mq n.toNat;rw [e] at this;simp at this
theorem Zbl {a : Act} (h : Sm a) (rest : By) : GM ⟨FZ a rest, false⟩ = (a, ⟨rest, false⟩) := by
 have hs := h.sig;simp only [AT, Bool.and_eq_true, AZ] at hs;have h1 := h.author; have h2 := h.seq; have h3 := h.prev; have h4 := h.kind; have h5 := h.time; have h6 := h.object; have h7 := h.target; have h8 := h.scope; have h9 := h.group;have h10 := h.to; have h11 := h.text; have h12 := h.body; have h13 := h.epoch; have h14 := h.wraps; have h15 := h.n; have h16 := h.m;unfold GM FZ;simp only
 rw [Cd _ _ (by omega)]; simp only
 rw [Bf _ _ (by omega) (by omega)]; simp only
 rw [Cd _ _ (by omega)]; simp only
 rw [Bf _ _ (by omega) (by omega)]; simp only
 rw [Bf _ _ (by omega) (by omega)]; simp only
 rw [Cd _ _ (by omega)]; simp only
 rw [Cd _ _ (by omega)]; simp only
 rw [Bf _ _ (by omega) (by omega)]; simp only
 rw [Cd _ _ (by omega)]; simp only
 rw [OA _ _ (by omega) (fun s hs => by have := h10.2 s hs; omega)]; simp only
 rw [Cd _ _ (by omega)]; simp only
 rw [Oc _ _ (by omega)]; simp only
 rw [Bf _ _ (by omega) (by omega)]; simp only
 rw [Zbh _ _ (by omega) (fun e => absurd (List.append_eq_nil_iff.1 e).1 (Mr h15.1)) h14.2]; simp only
 rw [Bf _ _ (by omega) (by omega)]; simp only
 rw [Bf _ _ (by omega) (by omega)]; simp only
 rw [Bf _ _ (by omega) (by omega)]; simp only
 rw [Bf _ _ (by omega) (by omega)]
theorem bytes_right {a : Act} (h : right a = true) : bytes a = text Cl ++ FZ a [] := by
 unfold bytes;rw [if_pos h, ← Zeq, List.append_nil]
theorem QH (rest : By) : R.text ⟨text Cl ++ rest, false⟩ = (Cl, ⟨rest, false⟩) := Cd _ _ (by simp)
theorem bytes_wrong {a : Act} (h : right a = false) : bytes a = [] ∧ Bk a = [] := by
 unfold bytes Bk;simp [h]
theorem Ps {a : Act} (h : right a = true) : Bk a ≠ [] := by
 unfold Bk Fi;rw [if_pos h];simp [text, F7]
theorem ZeO (a : Act) : bytes a = if Bk a = [] then [] else Bk a ++ Ah a.sig.e ++ Ah a.sig.s := by
 cases h : right a with
 | false => rw [(bytes_wrong h).1, (bytes_wrong h).2]; rfl
 | true =>
  rw [if_neg (Ps h)];unfold bytes Bk;rw [if_pos h, if_pos h]
theorem Ka {a : Act} (h : right a = true) : read (bytes a) = (a, true) := by
 unfold read;have hb := bytes_right h;simp only
 rw [hb, QH];simp only
 rw [Zbl (Et h)];exact if_pos ⟨by trivial, rfl, hb⟩
theorem read_right {s : By} (h : (read s).2 = true) : right (read s).1 = true ∧ bytes (read s).1 = s := by
 unfold read at h ⊢;simp only at h ⊢
 split at h
 ·rename_i hc
  rw [if_pos hc];refine ⟨?_, hc.2.2⟩
  refine Classical.byContradiction fun hn => ?_
  have hn : right (GM (R.text ⟨s, false⟩).2).1 = false := by simpa using hn
  have h1 := hc.2.2;rw [(bytes_wrong hn).1] at h1
  subst h1;exact absurd hc.1 (by decide)
 ·cases h
theorem read_wrong {s : By} (h : (read s).2 = false) : (read s).1 = BU := by
 unfold read at h ⊢;simp only at h ⊢
 split at h
 ·cases h
 ·rename_i hc
  rw [if_neg hc]
end Ac
end
end Go.Proofs.YtldohjjoicmfpaaGreatDoor
