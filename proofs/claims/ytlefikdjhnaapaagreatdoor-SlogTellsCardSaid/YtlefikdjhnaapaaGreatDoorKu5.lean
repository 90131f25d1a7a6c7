/- Several texts of this claim in one. -/
import Derived.Test.YtlefikdjhnaapaaGreatDoorKu4
import Derived.Shelf.Strings.Builder1
import Derived.Shelf.Strings.Builder2
import Derived.Shelf.Strings.OnBuilder
import Derived.Shelf.Small.Bits
import Derived.Shelf.Strconv.Itoa0
import Derived.Shelf.Bits.Mul64
import Derived.Ground.Names2Prog
import Derived.Shelf.Slices.Clone
import Derived.Ground.SlgnProg
import Derived.Shelf.SlicesE.Clone
import Derived.Test.YtlefikdjhnaapaaGreatDoorProg
import Derived.Laws.Entries
set_option linter.unusedSectionVars false
set_option linter.unusedVariables false
set_option linter.unusedSimpArgs false
section
namespace Go.Proofs.YtlefikdjhnaapaaGreatDoor.Pe
open Go Go.RowKit Sm
instance tabs : Tab := ⟨fun b i => if b = 1 ∧ i < 64 then some (w32 (tabK.getD i 0)) else if b = 0 ∧ i < 8 then some (w32 (init8.list.getD i 0)) else none⟩
theorem Tabs.of {w : World} {g : Gh} (h : TabOk w g) : Tabs w := by
 refine ⟨fun i hi => (h 1 i _ ?_).2, fun i hi => (h 0 i _ ?_).2⟩
 ·show (if _ then _ else _) = _
  rw [if_pos ⟨rfl, hi⟩]
 ·show (if _ then _ else _) = _
  rw [if_neg (fun e => absurd e.1 (by decide)), if_pos ⟨rfl, hi⟩]
theorem sha_c (l : List UInt8) (h : l.length ≤ 70368744177664) : AC Tryz.prog 91 [.st l] [] (.st (sha l)) [] := by
 refine AC.ofBelow (by kernel_rfl) fun w g cargs ht hargs => ?_
 rw [lrel_st hargs]
 refine (sha_any ⟨l.toArray⟩ w (by simp [ByteArray.size]; omega) (Tabs.of ht)).mono ?_
 rintro r w' ⟨rfl, hb⟩
 refine ⟨_, rfl, fun g' => ?_, hb⟩
 exact .st g' _
theorem rsha_c (l : List UInt8) (h : l.length ≤ 70368744177664) : AC Tryz.prog 145 [.st l] [] (.st (sha l)) [] := by
 refine AC.ofBelow (by kernel_rfl) fun w g cargs ht hargs => ?_
 rw [lrel_st hargs]
 refine (rsha_any ⟨l.toArray⟩ w (by simp [ByteArray.size]; omega)).mono ?_
 rintro r w' ⟨rfl, hb⟩
 refine ⟨_, rfl, fun g' => ?_, hb⟩
 exact .st g' _
end Go.Proofs.YtlefikdjhnaapaaGreatDoor.Pe
end
section
namespace Go.Proofs
open Go.Shelf
def Tryz.lays156_ren : Go.Shelf.Ren := ⟨fun | 156 => 126 | 165 => 196 | 166 => 197 | 169 => 198 | 240 => 258 | 241 => 259 | 276 => 290 | 277 => 291 | n => n, fun | 31 => 45 | 9 => 9 | 3 => 3 | 4 => 4 | 0 => 0 | 20 => 20 | 72 => 224 | 76 => 227 | 70 => 222 | 37 => 114 | 75 => 226 | 127 => 259 | 164 => 271 | 5 => 5 | 80 => 150 | n => n, fun | n => n⟩
theorem Tryz.lays156 : Go.Proofs.Lays.n156 Tryz.prog Tryz.lays156_ren := {
  mixed := by kernel_rfl
  f156 := Tryz.func126.trans (congrArg some (by kernel_rfl))
  f165 := Tryz.func196.trans (congrArg some (by kernel_rfl))
  f166 := Tryz.func197.trans (congrArg some (by kernel_rfl))
  f169 := Tryz.func198.trans (congrArg some (by kernel_rfl))
  f240 := Tryz.func258.trans (congrArg some (by kernel_rfl))
  f241 := Tryz.func259.trans (congrArg some (by kernel_rfl))
  f276 := Tryz.func290.trans (congrArg some (by kernel_rfl))
  f277 := Tryz.func291.trans (congrArg some (by kernel_rfl))
  t0 := Tryz.underlying0
  a0 := Tryz.isAgg0
  z0 := Tryz.sizeOf0
  v0 := Tryz.zeroValue0
  t3 := Tryz.underlying3
  a3 := Tryz.isAgg3
  z3 := Tryz.sizeOf3
  v3 := Tryz.zeroValue3
  t4 := Tryz.underlying4
  a4 := Tryz.isAgg4
  z4 := Tryz.sizeOf4
  v4 := Tryz.zeroValue4
  t9 := Tryz.underlying9
  a9 := Tryz.isAgg9
  z9 := Tryz.sizeOf9
  v9 := Tryz.zeroValue9
  t20 := Tryz.underlying20
  a20 := Tryz.isAgg20
  z20 := Tryz.sizeOf20
  v20 := Tryz.zeroValue20
  t31 := Tryz.underlying45
  a31 := Tryz.isAgg45
  z31 := Tryz.sizeOf45
  v31 := Tryz.zeroValue45
  t37 := Tryz.underlying114
  a37 := Tryz.isAgg114
  z37 := Tryz.sizeOf114
  v37 := Tryz.zeroValue114
  t70 := Tryz.underlying222
  a70 := Tryz.isAgg222
  z70 := Tryz.sizeOf222
  v70 := Tryz.zeroValue222
  t72 := Tryz.underlying224
  a72 := Tryz.isAgg224
  z72 := Tryz.sizeOf224
  v72 := Tryz.zeroValue224
  t75 := Tryz.underlying226
  a75 := Tryz.isAgg226
  z75 := Tryz.sizeOf226
  v75 := Tryz.zeroValue226
  t76 := Tryz.underlying227
  a76 := Tryz.isAgg227
  z76 := Tryz.sizeOf227
  v76 := Tryz.zeroValue227
  t127 := Tryz.underlying259
  a127 := Tryz.isAgg259
  z127 := Tryz.sizeOf259
  v127 := Tryz.zeroValue259
  t164 := Tryz.underlying271
  a164 := Tryz.isAgg271
  z164 := Tryz.sizeOf271
  v164 := Tryz.zeroValue271 }
theorem Tryz.Builder_Extra_156 : Builder.Extra Tryz.prog Tryz.lays156_ren := {
  sizeBuilder := by kernel_rfl
  liesBuilder := by kernel_rfl
  t5 := Tryz.underlying5
  a5 := Tryz.isAgg5
  z5 := Tryz.sizeOf5
  v5 := Tryz.zeroValue5
  infoByte := by kernel_rfl
  cellsByte := by kernel_rfl
  sizeByte := by kernel_rfl
  neB5 := by decide }
open Go.RowKit in
theorem Tryz.strings_Join (bk o c : Nat) (xs : List ByteArray) (sep : ByteArray) (w : World) (hcells : ∀ (j : Nat) x, xs[j]? = some x → w.cell? ⟨bk, o + j, none⟩ = some (.string x)) (hbk : bk < w.heap.size) (hN : xs.length ≤ 140737488355328) (hcap : xs.length ≤ c) (hlen : (Lib.join (xs.map (·.data.toList)) sep.data.toList).length ≤ 140737488355328) :
    Calls Tryz.prog 126 #[.slice (some ⟨bk, o, none⟩) xs.length c, .string sep] w fun e w' => e = .returned (.string ⟨(Lib.join (xs.map (·.data.toList)) sep.data.toList).toArray⟩) ∧ Below w.heap.size w w' := Any.strings_Join Tryz.lays156 Tryz.Builder_Extra_156 bk o c xs sep w hcells hbk hN hcap hlen
end Go.Proofs
end
section
namespace Go.Proofs.YtlefikdjhnaapaaGreatDoor.Pe
open Go
variable [Tab]
set_option maxRecDepth 100000
theorem wrapu {n : Int} : IntKind.u64.wrap n = n % 18446744073709551616 := rfl
theorem wrapn {n : Nat} (h : n < 18446744073709551616) : IntKind.u64.wrap (n : Int) = (n : Int) := by rw [wrapu]; omega
theorem bits_nat (op : BinOp) (f : Nat → Nat → Nat) (hop : (op = .and ∧ f = Nat.land) ∨ (op = .or ∧ f = Nat.lor)) (a b : Nat) (ha : a < 18446744073709551616) (hb : b < 18446744073709551616) (k : IntKind) (hk : k = .u64 ∨ k = .i64) :
  Go.bits op k (a : Int) (b : Int) = k.wrap ((f a b : Nat) : Int) := by
 have h1 : (BitVec.ofInt 64 (a : Int)).toNat = a := by rw [BitVec.ofInt_natCast, BitVec.toNat_ofNat]; exact Nat.mod_eq_of_lt ha
 have h2 : (BitVec.ofInt 64 (b : Int)).toNat = b := by rw [BitVec.ofInt_natCast, BitVec.toNat_ofNat]; exact Nat.mod_eq_of_lt hb
 rcases hop with ⟨rfl, rfl⟩ | ⟨rfl, rfl⟩ <;> rcases hk with rfl | rfl
 ·show IntKind.u64.wrap ((BitVec.ofInt 64 (a : Int) &&& BitVec.ofInt 64 (b : Int)).toNat : Int) = _
  rw [BitVec.toNat_and, h1, h2]; rfl
 ·show IntKind.i64.wrap ((BitVec.ofInt 64 (a : Int) &&& BitVec.ofInt 64 (b : Int)).toNat : Int) = _
  rw [BitVec.toNat_and, h1, h2]; rfl
 ·show IntKind.u64.wrap ((BitVec.ofInt 64 (a : Int) ||| BitVec.ofInt 64 (b : Int)).toNat : Int) = _
  rw [BitVec.toNat_or, h1, h2]; rfl
 ·show IntKind.i64.wrap ((BitVec.ofInt 64 (a : Int) ||| BitVec.ofInt 64 (b : Int)).toNat : Int) = _
  rw [BitVec.toNat_or, h1, h2]; rfl
theorem and_mask (a : Nat) (ha : a < 18446744073709551616) : Go.bits .and .u64 (a : Int) 4294967295 = ((a % 4294967296 : Nat) : Int) := by
 have := bits_nat .and Nat.land (.inl ⟨rfl, rfl⟩) a 4294967295 ha (by omega) .u64 (.inl rfl)
 have e : Nat.land a 4294967295 = a % 4294967296 := Nat.and_two_pow_sub_one_eq_mod a 32
 rw [e] at this
 exact this.trans (wrapn (by omega))
theorem and_one (a : Nat) (ha : a < 9223372036854775808) : Go.bits .and .i64 (a : Int) 1 = ((a % 2 : Nat) : Int) := by
 have := bits_nat .and Nat.land (.inl ⟨rfl, rfl⟩) a 1 (by omega) (by omega) .i64 (.inr rfl)
 have e : Nat.land a 1 = a % 2 := Nat.and_two_pow_sub_one_eq_mod a 1
 rw [e] at this
 exact this.trans (wrap64 (by omega) (by omega))
theorem or_low (c a j : Nat) (ha : a < 2 ^ j) (h : c * 2 ^ j + a < 18446744073709551616) : Go.bits .or .u64 ((c * 2 ^ j : Nat) : Int) (a : Int) = ((c * 2 ^ j + a : Nat) : Int) := by
 have := bits_nat .or Nat.lor (.inr ⟨rfl, rfl⟩) (c * 2 ^ j) a (by omega) (by omega) .u64 (.inl rfl)
 have e : Nat.lor (c * 2 ^ j) a = c * 2 ^ j + a := by
  show c * 2 ^ j ||| a = _
  rw [Nat.mul_comm, ← Nat.two_pow_add_eq_or_of_lt ha]
 rw [e] at this
 exact this.trans (wrapn h)
theorem shl_lit (n : Nat) (b : Int) (s : Nat) (h : b = (s : Int)) (h' : s ≤ 64) : aShl .u64 (n : Int) b = some (.it .u64 ((n * 2 ^ s % 18446744073709551616 : Nat) : Int)) := by
 subst h
 unfold aShl
 rw [if_pos (by omega)]
 congr 2
 rw [Int.toNat_natCast, show min s IntKind.u64.bits = s from Nat.min_eq_left h']
 rw [show ((n : Int) * 2 ^ s) = ((n * 2 ^ s : Nat) : Int) from by push_cast; rfl, wrapu]
 omega
theorem mul_parts (x0 x1 y0 y1 : Nat) : (x1 * 4294967296 + x0) * (y1 * 4294967296 + y0) = x1 * y1 * 18446744073709551616 + (x1 * y0 + x0 * y1) * 4294967296 + x0 * y0 := by
 grind
theorem mul64_c (a b : Nat) (ha : a < 2305843009213693952) (hb : b < 2305843009213693952) : AC Tryz.prog 256 [.it .u64 a, .it .u64 b] [] (.tup [.it .u64 ((a * b / 18446744073709551616 : Nat) : Int), .it .u64 ((a * b % 18446744073709551616 : Nat) : Int)]) [] := by
 refine AC.enter [] [] Tryz.func256 rfl (by decide) (by decide) znl (by kernel_rfl) ?_; refine zev ?_
 have hx0 := and_mask a (by omega)
 have hy0 := and_mask b (by omega)
 have hx1 := shr_lit a 32 32 rfl (by omega)
 have hy1 := shr_lit b 32 32 rfl (by omega)
 rw [show (2 : Nat) ^ 32 = 4294967296 from rfl] at hx1 hy1
 have hab : a * b = a / 4294967296 * (b / 4294967296) * 18446744073709551616 + (a / 4294967296 * (b % 4294967296) + a % 4294967296 * (b / 4294967296)) * 4294967296 + a % 4294967296 * (b % 4294967296) := by
  rw [← mul_parts, Nat.div_add_mod', Nat.div_add_mod']
 have b0 : a % 4294967296 ≤ 4294967295 := by omega
 have b1 : a / 4294967296 ≤ 536870911 := by omega
 have b2 : b % 4294967296 ≤ 4294967295 := by omega
 have b3 : b / 4294967296 ≤ 536870911 := by omega
 have habI : IntKind.u64.wrap ((a : Int) * (b : Int)) = ((a * b % 18446744073709551616 : Nat) : Int) := by
  rw [show (a : Int) * (b : Int) = ((a * b : Nat) : Int) from by push_cast; rfl, wrapu]; omega
 generalize a % 4294967296 = x0 at *
 generalize a / 4294967296 = x1 at *
 generalize b % 4294967296 = y0 at *
 generalize b / 4294967296 = y1 at *
 have p00 : x0 * y0 ≤ 4294967295 * 4294967295 := Nat.mul_le_mul b0 b2
 have p10 : x1 * y0 ≤ 536870911 * 4294967295 := Nat.mul_le_mul b1 b2
 have p01 : x0 * y1 ≤ 4294967295 * 536870911 := Nat.mul_le_mul b0 b3
 have p11 : x1 * y1 ≤ 536870911 * 536870911 := Nat.mul_le_mul b1 b3
 have c00 : ((x0 : Int) * (y0 : Int)) = ((x0 * y0 : Nat) : Int) := by push_cast; rfl
 have c10 : ((x1 : Int) * (y0 : Int)) = ((x1 * y0 : Nat) : Int) := by push_cast; rfl
 have c01 : ((x0 : Int) * (y1 : Int)) = ((x0 * y1 : Nat) : Int) := by push_cast; rfl
 have c11 : ((x1 : Int) * (y1 : Int)) = ((x1 * y1 : Nat) : Int) := by push_cast; rfl
 generalize a * b = ab at *
 generalize x0 * y0 = q00 at *
 generalize x1 * y0 = q10 at *
 generalize x0 * y1 = q01 at *
 generalize x1 * y1 = q11 at *
 have w00 : IntKind.u64.wrap (q00 : Int) = (q00 : Int) := wrapn (by omega)
 have w10 : IntKind.u64.wrap (q10 : Int) = (q10 : Int) := wrapn (by omega)
 have w01 : IntKind.u64.wrap (q01 : Int) = (q01 : Int) := wrapn (by omega)
 have w11 : IntKind.u64.wrap (q11 : Int) = (q11 : Int) := wrapn (by omega)
 have s00 := shr_lit q00 32 32 rfl (by omega)
 rw [show (2 : Nat) ^ 32 = 4294967296 from rfl] at s00
 obtain ⟨t, et⟩ : ∃ t, t = q10 + q00 / 4294967296 := ⟨_, rfl⟩
 have wt : IntKind.u64.wrap ((q10 : Int) + ((q00 / 4294967296 : Nat) : Int)) = (t : Int) := by rw [wrapu]; omega
 have st := shr_lit t 32 32 rfl (by omega)
 rw [show (2 : Nat) ^ 32 = 4294967296 from rfl] at st
 have mt := and_mask t (by omega)
 obtain ⟨u, eu⟩ : ∃ u, u = t % 4294967296 + q01 := ⟨_, rfl⟩
 have wu : IntKind.u64.wrap (((t % 4294967296 : Nat) : Int) + (q01 : Int)) = (u : Int) := by rw [wrapu]; omega
 have su := shr_lit u 32 32 rfl (by omega)
 rw [show (2 : Nat) ^ 32 = 4294967296 from rfl] at su
 have wv : IntKind.u64.wrap ((q11 : Int) + ((t / 4294967296 : Nat) : Int)) = (q11 : Int) + ((t / 4294967296 : Nat) : Int) := by rw [wrapu]; omega
 have wz : IntKind.u64.wrap ((q11 : Int) + ((t / 4294967296 : Nat) : Int) + ((u / 4294967296 : Nat) : Int)) = ((ab / 18446744073709551616 : Nat) : Int) := by rw [wrapu]; omega
 refine runf (an @hx0 (an @hy0 (an @hx1 (an @hy1 (an @c00 (an @c10 (an @c01 (an @c11 (an @w00 (an @w10 (an @w01 (an @w11 (an @s00 (an @wt (an @st (an @mt (an @wu (an @su (an @wv (an @wz @habI)))))))))))))))))))) ?_
 exact er0
structure Hv (p : Prop) : Prop where
 out : p
theorem dve (u q1 r1 : Nat) (hub : u < 2305843009213693952) (eq1 : u = q1 * 4294967295 + r1) : q1 ≤ 536870913 := by omega
theorem dvi (q2 q : Nat) (h : q2 ≤ 536870913) (h' : q ≤ 4294967296) : IntKind.u64.wrap (IntKind.u64.wrap ((q2 : Int) * 4294967296) + (q : Int)) = ((q2 * 4294967296 + q : Nat) : Int) := by rw [wrapu, wrapu]; omega
theorem dv1 (u q1 r1 : Nat) (hub : u < 2305843009213693952) (eq1 : u = q1 * 4294967295 + r1) (hr1 : r1 < 4294967295) : IntKind.u64.wrap ((u : Int).tdiv 4294967295) = (q1 : Int) := by rw [Int.tdiv_eq_ediv_of_nonneg (by omega), wrapu]; omega
theorem dv2 (u q1 r1 : Nat) (hub : u < 18446744073709551616) (eq1 : u = q1 * 4294967295 + r1) (hr1 : r1 < 4294967295) : IntKind.u64.wrap ((u : Int) - IntKind.u64.wrap ((q1 : Int) * 4294967295)) = (r1 : Int) := by rw [wrapu, wrapu]; omega
theorem dv3 (u q1 r1 : Nat) (hub : u < 18446744073709551616) (eq1 : u = q1 * 4294967295 + r1) (hr1 : r1 < 4294967295) : IntKind.u64.wrap ((u : Int).tdiv 4294967295) = (q1 : Int) := by rw [Int.tdiv_eq_ediv_of_nonneg (by omega), wrapu]; omega
theorem lead_c (n : Nat) (h : n < 18446744073709551616) (hb : blen n ≤ 64) : AC Tryz.prog 299 [.it .u64 n] [] (.it .i64 (64 - (blen n : Int))) [] := by
 refine AC.enter [195] [] Tryz.func299 rfl (by decide) (by decide) znl (by kernel_rfl) ?_; refine zev ?_
 refine run ?_
 refine cp (len64_c n h) ?_
 refine run ?_
 exact er0
theorem dv4P (u q1 r1 a1 : Nat) (eq1 : u = q1 * 4294967295 + r1) (hr1 : r1 < 4294967295) (ha : a1 < 4294967296) : u * 4294967296 + a1 < (q1 + 1) * 18446744073709551608 := by omega
theorem dv6P (u q r a1 : Nat) (e0 : u = q * 4294967295 + r) (hc : 4294967296 * r + a1 < q * 4294967288) : u * 4294967296 + a1 < (q - 1 + 1) * 18446744073709551608 ∧ u = (q - 1) * 4294967295 + (r + 4294967295) := by omega
theorem dv7P (u q r a1 : Nat) (e0 : u = q * 4294967295 + r) (hc : ¬ 4294967296 * r + a1 < q * 4294967288) : q * 18446744073709551608 ≤ u * 4294967296 + a1 := by omega
theorem dv8P (u q r a1 : Nat) (e0 : u = q * 4294967295 + r) (hq : q < 4294967297) (hbr : ¬ r + 4294967295 < 4294967296) : (q - 1) * 18446744073709551608 ≤ u * 4294967296 + a1 := by omega
theorem dv9P (u v D q2 a1 a0 t w q : Nat) (hu : u * 18446744073709551616 + t = 8 * D) (ht : t = a1 * 4294967296 + a0) (ev : v = u * 4294967296 + a1 - q2 * 18446744073709551608) (hq : q2 * 18446744073709551608 ≤ u * 4294967296 + a1) (ew : w = v * 4294967296 + a0 - q * 18446744073709551608) (hq' : q * 18446744073709551608 ≤ v * 4294967296 + a0) : D = (q2 * 4294967296 + q) * 2305843009213693951 + w / 8 ∧ 8 * (w / 8) = w := by omega
theorem dvaP (D Q w : Nat) (h : D = Q * 2305843009213693951 + w) (hw : w < 2305843009213693951) : D / 2305843009213693951 = Q ∧ D % 2305843009213693951 = w := by omega
theorem dvbP (u a1 q2 v : Nat) (ev : v = u * 4294967296 + a1 - q2 * 18446744073709551608) (h : q2 * 18446744073709551608 ≤ u * 4294967296 + a1) (h' : u * 4294967296 + a1 < (q2 + 1) * 18446744073709551608) : v < 18446744073709551608 := by omega
theorem dvcP (u a1 q2 v : Nat) (ev : v = u * 4294967296 + a1 - q2 * 18446744073709551608) (hv : v < 18446744073709551608) (h : q2 * 18446744073709551608 ≤ u * 4294967296 + a1) : IntKind.u64.wrap (IntKind.u64.wrap (IntKind.u64.wrap ((u : Int) * 4294967296) + (a1 : Int)) - IntKind.u64.wrap ((q2 : Int) * 18446744073709551608)) = (v : Int) := by rw [wrapu, wrapu, wrapu, wrapu]; omega
theorem dvfP (v q r : Nat) (hv : v < 18446744073709551608) (e0 : v = q * 4294967295 + r) : q ≤ 4294967296 := by omega
theorem dvgP (v q r a0 : Nat) (hv : v < 18446744073709551608) (ha : a0 < 4294967296) (e0 : v = q * 4294967295 + r) (hge : 4294967296 ≤ q) : 4294967296 * r + a0 < q * 4294967288 := by omega
theorem dvwP (w : Nat) (h : w < 18446744073709551608) : w / 8 < 2305843009213693951 := by omega
theorem dvuP (v : Nat) (h : v < 18446744073709551608) : v < 18446744073709551616 := by omega
theorem blenP : blen 2305843009213693951 = 61 := by decide +kernel
set_option maxHeartbeats 6400000 in
theorem divP_c (hi lo D : Nat) (hD : D = hi * 18446744073709551616 + lo) (hh : hi < 288230376151711744) (hl : lo < 18446744073709551616) :
  AC Tryz.prog 289 [.it .u64 hi, .it .u64 lo, .it .u64 2305843009213693951] [] (.tup [.it .u64 ((D / 2305843009213693951 : Nat) : Int), .it .u64 ((D % 2305843009213693951 : Nat) : Int)]) [] := by
 refine AC.enter [299] [] Tryz.func289 rfl (by decide) (by decide) znl (by kernel_rfl) ?_; refine zev ?_
 by_cases h0 : hi = 0
 ·subst h0
  have hD : D = lo := by omega
  subst hD
  have e1 : IntKind.u64.wrap ((D : Int).tdiv 2305843009213693951) = ((D / 2305843009213693951 : Nat) : Int) := by rw [Int.tdiv_eq_ediv_of_nonneg (by omega), wrapu]; omega
  have e2 : (D : Int).tmod 2305843009213693951 = ((D % 2305843009213693951 : Nat) : Int) := by rw [Int.tmod_eq_emod_of_nonneg (by omega)]; omega
  refine runf (an @e1 @e2) ?_
  exact er0
 have hlead := lead_c 2305843009213693951 (by omega) (by rw [blenP]; omega)
 rw [blenP] at hlead
 have k1 : IntKind.u64.wrap (64 - ((61 : Nat) : Int)) = 3 := by decide +kernel
 have k2 : IntKind.u64.wrap 61 = 61 := by decide +kernel
 have k3 : aShl .u64 2305843009213693951 3 = some (.it .u64 18446744073709551608) := shl_lit 2305843009213693951 3 3 rfl (by omega)
 have k4 : aShr .u64 18446744073709551608 32 = some (.it .u64 4294967295) := shr_lit 18446744073709551608 32 32 rfl (by omega)
 have k5 : Go.bits .and .u64 18446744073709551608 4294967295 = 4294967288 := and_mask 18446744073709551608 (by omega)
 have k6 := shl_lit hi 3 3 rfl (by omega)
 have k7 := shr_lit lo 61 61 rfl (by omega)
 have k8 := shl_lit lo 3 3 rfl (by omega)
 rw [show (2 : Nat) ^ 3 = 8 from rfl, Nat.mod_eq_of_lt (by omega)] at k6
 rw [show (2 : Nat) ^ 61 = 2305843009213693952 from rfl] at k7
 rw [show (2 : Nat) ^ 3 = 8 from rfl] at k8
 have k9 := or_low hi (lo / 2305843009213693952) 3 (by omega) (by omega)
 rw [show (2 : Nat) ^ 3 = 8 from rfl] at k9
 have hu : (hi * 8 + lo / 2305843009213693952) * 18446744073709551616 + lo * 8 % 18446744073709551616 = 8 * D := by omega
 have hub : hi * 8 + lo / 2305843009213693952 < 2305843009213693952 := by omega
 have hut : lo * 8 % 18446744073709551616 < 18446744073709551616 := by omega
 generalize hi * 8 + lo / 2305843009213693952 = u at *
 generalize lo * 8 % 18446744073709551616 = t at *
 have hu := Hv.mk hu
 clear hD
 have k10 := shr_lit t 32 32 rfl (by omega)
 rw [show (2 : Nat) ^ 32 = 4294967296 from rfl] at k10
 have k11 := and_mask t hut
 have ht : t = t / 4294967296 * 4294967296 + t % 4294967296 := by omega
 have ha1 : t / 4294967296 < 4294967296 := by omega
 have ha0 : t % 4294967296 < 4294967296 := by omega
 generalize t / 4294967296 = a1 at *
 generalize t % 4294967296 = a0 at *
 obtain ⟨q1, r1, eq1, hr1⟩ : ∃ q r, u = q * 4294967295 + r ∧ r < 4294967295 := ⟨u / 4294967295, u % 4294967295, (Nat.div_add_mod' u 4294967295).symm, Nat.mod_lt _ (by decide)⟩
 have k12 := dv1 u q1 r1 hub eq1 hr1
 have k13 := dv2 u q1 r1 (by omega) eq1 hr1
 refine run ?_
 refine cp hlead ?_
 refine runf (an @k1 (an @k2 (an @k3 (an @k4 (an @k5 (an @k6 (an @k7 (an @k8 (an @k9 (an @k10 (an @k11 (an @k12 @k13)))))))))))) ?_
 refine loop_mk (fun m e S => S = [] ∧ e 2 = .it .u64 18446744073709551608 ∧ e 8 = .it .u64 3 ∧ e 9 = .it .u64 4294967295 ∧ e 10 = .it .u64 4294967288 ∧ e 11 = .it .u64 (u : Int) ∧ e 13 = .it .u64 (a1 : Int) ∧ e 14 = .it .u64 (a0 : Int) ∧
  ∃ q r : Nat, e 15 = .it .u64 (q : Int) ∧ e 16 = .it .u64 (r : Int) ∧ u = q * 4294967295 + r ∧ q ≤ q1 ∧ r < 4294967296 ∧ u * 4294967296 + a1 < (q + 1) * 18446744073709551608 ∧ q = m) q1
  ⟨rfl, zsl, zsl, zsl, zsl, zsl, zsl, zsl, q1, r1, zsl, zsl, eq1, Nat.le_refl _, Nat.lt_succ_of_lt hr1, dv4P u q1 r1 a1 eq1 hr1 ha1, rfl⟩ ?_
 clear k1 k2 k3 k4 k5 k6 k7 k8 k9 k10 k11 k12 k13 hlead
 rintro m e S ⟨rfl, s2, s8, s9, s10, s11, s13, s14, q, r, s15, s16, e0, hqq, hr, hup, rfl⟩
 have c1 : IntKind.u64.wrap ((q : Int) * 4294967288) = (q : Int) * 4294967288 := by rw [wrapu]; omega
 have c2 : IntKind.u64.wrap (4294967296 * (r : Int)) = 4294967296 * (r : Int) := by rw [wrapu]; omega
 have c3 : IntKind.u64.wrap (4294967296 * (r : Int) + (a1 : Int)) = 4294967296 * (r : Int) + (a1 : Int) := by rw [wrapu]; omega
 have hq32 : q < 4294967296 := by omega
 by_cases hc : 4294967296 * r + a1 < q * 4294967288
 focus
  have d1 : IntKind.u64.wrap ((q : Int) - 1) = ((q - 1 : Nat) : Int) := by rw [wrapu]; omega
  have d2 : IntKind.u64.wrap ((r : Int) + 4294967295) = ((r + 4294967295 : Nat) : Int) := by rw [wrapu]; omega
  by_cases hbr : r + 4294967295 < 4294967296
  focus
   refine runf (an @s2 (an @s8 (an @s9 (an @s10 (an @s11 (an @s13 (an @s14 (an @s15 (an @s16 (an @c1 (an @c2 (an @c3 (an @d1 @d2))))))))))))) ?_
   exact round_mk (q - 1) (by omega) ⟨rfl, zsl, zsl, zsl, zsl, zsl, zsl, zsl, q - 1, r + 4294967295, zsl, zsl, (dv6P _ q r _ e0 hc).2, by omega, hbr, (dv6P _ q r _ e0 hc).1, rfl⟩
  refine runf (an @s2 (an @s8 (an @s9 (an @s10 (an @s11 (an @s13 (an @s14 (an @s15 (an @s16 (an @c1 (an @c2 (an @c3 (an @d1 @d2))))))))))))) ?_
  have hz : q - 1 ≤ q1 ∧ (q - 1) * 18446744073709551608 ≤ u * 4294967296 + a1 ∧ u * 4294967296 + a1 < (q - 1 + 1) * 18446744073709551608 := ⟨by omega, dv8P u q r a1 e0 (by omega) hbr, (dv6P u q r a1 e0 hc).1⟩
  clear hc hbr d1 d2 c1 c2 c3 hup e0 hr
  generalize q - 1 = q2 at *
 rotate_left
 focus
  refine runf (an @s2 (an @s8 (an @s9 (an @s10 (an @s11 (an @s13 (an @s14 (an @s15 (an @s16 (an @c1 (an @c2 @c3))))))))))) ?_
  have hz : q ≤ q1 ∧ q * 18446744073709551608 ≤ u * 4294967296 + a1 ∧ u * 4294967296 + a1 < (q + 1) * 18446744073709551608 := ⟨hqq, dv7P u q r a1 e0 hc, hup⟩
  clear hc c1 c2 c3 hup e0 hr
  generalize q = q2 at *
 all_goals
  obtain ⟨z2, z3, z4⟩ := hz
  have hq1 : q2 ≤ 536870913 := Nat.le_trans z2 (dve u q1 r1 hub eq1)
  have ht0 := Hv.mk ht
  obtain ⟨v, ev⟩ : ∃ v, v = u * 4294967296 + a1 - q2 * 18446744073709551608 := ⟨_, rfl⟩
  have hv : v < 18446744073709551608 := dvbP u a1 q2 v ev z3 z4
  have k1 := dvcP u a1 q2 v ev hv z3
  obtain ⟨p1, s1, ep1, hs1⟩ : ∃ q r, v = q * 4294967295 + r ∧ r < 4294967295 := ⟨v / 4294967295, v % 4294967295, (Nat.div_add_mod' v 4294967295).symm, Nat.mod_lt _ (by decide)⟩
  have k12 := dv3 v p1 s1 (dvuP v hv) ep1 hs1
  have k13 := dv2 v p1 s1 (dvuP v hv) ep1 hs1
  have ev := Hv.mk ev
  have z3 := Hv.mk z3
  clear z4 ht hub eq1 hr1 hut
  have ht := ht0
  refine runf (an @s2 (an @s8 (an @s9 (an @s10 (an @s11 (an @s13 (an @s14 (an @s15 (an @s16 (an @k1 (an @k12 @k13))))))))))) ?_
  refine loop_mk (fun m e S => S = [] ∧ e 2 = .it .u64 18446744073709551608 ∧ e 8 = .it .u64 3 ∧ e 9 = .it .u64 4294967295 ∧ e 10 = .it .u64 4294967288 ∧ e 14 = .it .u64 (a0 : Int) ∧ e 15 = .it .u64 (q2 : Int) ∧ e 17 = .it .u64 (v : Int) ∧
   ∃ q r : Nat, e 18 = .it .u64 (q : Int) ∧ e 16 = .it .u64 (r : Int) ∧ v = q * 4294967295 + r ∧ q ≤ p1 ∧ r < 4294967296 ∧ v * 4294967296 + a0 < (q + 1) * 18446744073709551608 ∧ q = m) p1
   ⟨rfl, zsl, zsl, zsl, zsl, zsl, zsl, zsl, p1, s1, zsl, zsl, ep1, Nat.le_refl _, Nat.lt_succ_of_lt hs1, dv4P v p1 s1 a0 ep1 hs1 ha0, rfl⟩ ?_
  clear k1 k12 k13 s2 s8 s9 s10 s11 s13 s14 s15 s16
  rintro m e S ⟨rfl, s2, s8, s9, s10, s14, s15, s17, q, r, s18, s16, e0, hqq, hr, hup, rfl⟩
  have c1 : IntKind.u64.wrap ((q : Int) * 4294967288) = (q : Int) * 4294967288 := by rw [wrapu]; omega
  have c2 : IntKind.u64.wrap (4294967296 * (r : Int)) = 4294967296 * (r : Int) := by rw [wrapu]; omega
  have c3 : IntKind.u64.wrap (4294967296 * (r : Int) + (a0 : Int)) = 4294967296 * (r : Int) + (a0 : Int) := by rw [wrapu]; omega
  have hq32 : q ≤ 4294967296 := dvfP v q r hv e0
  have hgc : 4294967296 ≤ q → 4294967296 * r + a0 < q * 4294967288 := dvgP v q r a0 hv ha0 e0
  by_cases hc : 4294967296 * r + a0 < q * 4294967288
  focus
   have hup1 := (dv6P v q r a0 e0 hc).1
   have e01 := (dv6P v q r a0 e0 hc).2
   have hle := dv8P v q r a0 e0 (by omega)
   clear hgc hup e0
   have d1 : IntKind.u64.wrap ((q : Int) - 1) = ((q - 1 : Nat) : Int) := by rw [wrapu]; omega
   have d2 : IntKind.u64.wrap ((r : Int) + 4294967295) = ((r + 4294967295 : Nat) : Int) := by rw [wrapu]; omega
   by_cases hbr : r + 4294967295 < 4294967296
   focus
    by_cases hge : 4294967296 ≤ q
    ·refine runf (an @s2 (an @s8 (an @s9 (an @s10 (an @s14 (an @s15 (an @s16 (an @s17 (an @s18 (an @c1 (an @c2 (an @c3 (an @d1 @d2))))))))))))) ?_
     exact round_mk (q - 1) (by omega) ⟨rfl, zsl, zsl, zsl, zsl, zsl, zsl, zsl, q - 1, r + 4294967295, zsl, zsl, e01, by omega, hbr, hup1, rfl⟩
    ·refine runf (an @s2 (an @s8 (an @s9 (an @s10 (an @s14 (an @s15 (an @s16 (an @s17 (an @s18 (an @c1 (an @c2 (an @c3 (an @d1 @d2))))))))))))) ?_
     exact round_mk (q - 1) (by omega) ⟨rfl, zsl, zsl, zsl, zsl, zsl, zsl, zsl, q - 1, r + 4294967295, zsl, zsl, e01, by omega, hbr, hup1, rfl⟩
   have hle := hle hbr
   have hp : q - 1 ≤ 4294967296 := Nat.le_trans (Nat.sub_le _ _) hq32
   by_cases hge : 4294967296 ≤ q
   all_goals
    generalize hpq : q - 1 = p at *
    obtain ⟨w, ew⟩ : ∃ w, w = v * 4294967296 + a0 - p * 18446744073709551608 := ⟨_, rfl⟩
    obtain ⟨g1, g2⟩ := dv9P u v D q2 a1 a0 t w p hu.out ht.out ev.out z3.out ew hle
    have hw := dvbP v a0 p w ew hle hup1
    obtain ⟨g3, g4⟩ := dvaP D _ (w / 8) g1 (dvwP w hw)
    have f1 := dvi q2 p hq1 hp
    have f2 := dvcP v a0 p w ew hw hle
    have f3 := shr_lit w 3 3 rfl (by decide)
    rw [show (2 : Nat) ^ 3 = 8 from rfl] at f3
    rw [g3, g4]
    clear g1 g2 g3 g4 ew hw hle hup1 e01 hpq
    refine runf (an @s2 (an @s8 (an @s9 (an @s10 (an @s14 (an @s15 (an @s16 (an @s17 (an @s18 (an @c1 (an @c2 (an @c3 (an @d1 (an @d2 (an @f1 (an @f2 @f3)))))))))))))))) ?_
    exact er0
  have hge : ¬ 4294967296 ≤ q := fun h => hc (hgc h)
  have hle := dv7P v q r a0 e0 hc
  obtain ⟨w, ew⟩ : ∃ w, w = v * 4294967296 + a0 - q * 18446744073709551608 := ⟨_, rfl⟩
  obtain ⟨g1, g2⟩ := dv9P u v D q2 a1 a0 t w q hu.out ht.out ev.out z3.out ew hle
  have hw := dvbP v a0 q w ew hle hup
  obtain ⟨g3, g4⟩ := dvaP D _ (w / 8) g1 (dvwP w hw)
  have f1 := dvi q2 q hq1 hq32
  have f2 := dvcP v a0 q w ew hw hle
  have f3 := shr_lit w 3 3 rfl (by decide)
  rw [show (2 : Nat) ^ 3 = 8 from rfl] at f3
  rw [g3, g4]
  clear g1 g2 g3 g4 ew hw hle hup e0 hgc
  refine runf (an @s2 (an @s8 (an @s9 (an @s10 (an @s14 (an @s15 (an @s16 (an @s17 (an @s18 (an @c1 (an @c2 (an @c3 (an @f1 (an @f2 @f3)))))))))))))) ?_
  exact er0
theorem remP_c (hi lo D : Nat) (hD : D = hi * 18446744073709551616 + lo) (hh : hi < 288230376151711744) (hl : lo < 18446744073709551616) :
  AC Tryz.prog 257 [.it .u64 hi, .it .u64 lo, .it .u64 2305843009213693951] [] (.it .u64 ((D % 2305843009213693951 : Nat) : Int)) [] := by
 refine AC.enter [289] [] Tryz.func257 rfl (by decide) (by decide) znl (by kernel_rfl) ?_; refine zev ?_
 have e1 : (hi : Int).tmod 2305843009213693951 = (hi : Int) := by rw [Int.tmod_eq_emod_of_nonneg (by omega)]; omega
 refine runf @e1 ?_
 refine cp (divP_c hi lo D hD hh hl) ?_
 refine run ?_
 exact er0
theorem dv4N (u q1 r1 a1 : Nat) (eq1 : u = q1 * 4294967295 + r1) (hr1 : r1 < 4294967295) (ha : a1 < 4294967296) : u * 4294967296 + a1 < (q1 + 1) * 18446744073709551600 := by omega
theorem dv6N (u q r a1 : Nat) (e0 : u = q * 4294967295 + r) (hc : 4294967296 * r + a1 < q * 4294967280) : u * 4294967296 + a1 < (q - 1 + 1) * 18446744073709551600 ∧ u = (q - 1) * 4294967295 + (r + 4294967295) := by omega
theorem dv7N (u q r a1 : Nat) (e0 : u = q * 4294967295 + r) (hc : ¬ 4294967296 * r + a1 < q * 4294967280) : q * 18446744073709551600 ≤ u * 4294967296 + a1 := by omega
theorem dv8N (u q r a1 : Nat) (e0 : u = q * 4294967295 + r) (hq : q < 4294967297) (hbr : ¬ r + 4294967295 < 4294967296) : (q - 1) * 18446744073709551600 ≤ u * 4294967296 + a1 := by omega
theorem dv9N (u v D q2 a1 a0 t w q : Nat) (hu : u * 18446744073709551616 + t = 8 * D) (ht : t = a1 * 4294967296 + a0) (ev : v = u * 4294967296 + a1 - q2 * 18446744073709551600) (hq : q2 * 18446744073709551600 ≤ u * 4294967296 + a1) (ew : w = v * 4294967296 + a0 - q * 18446744073709551600) (hq' : q * 18446744073709551600 ≤ v * 4294967296 + a0) : D = (q2 * 4294967296 + q) * 2305843009213693950 + w / 8 ∧ 8 * (w / 8) = w := by omega
theorem dvaN (D Q w : Nat) (h : D = Q * 2305843009213693950 + w) (hw : w < 2305843009213693950) : D / 2305843009213693950 = Q ∧ D % 2305843009213693950 = w := by omega
theorem dvbN (u a1 q2 v : Nat) (ev : v = u * 4294967296 + a1 - q2 * 18446744073709551600) (h : q2 * 18446744073709551600 ≤ u * 4294967296 + a1) (h' : u * 4294967296 + a1 < (q2 + 1) * 18446744073709551600) : v < 18446744073709551600 := by omega
theorem dvcN (u a1 q2 v : Nat) (ev : v = u * 4294967296 + a1 - q2 * 18446744073709551600) (hv : v < 18446744073709551600) (h : q2 * 18446744073709551600 ≤ u * 4294967296 + a1) : IntKind.u64.wrap (IntKind.u64.wrap (IntKind.u64.wrap ((u : Int) * 4294967296) + (a1 : Int)) - IntKind.u64.wrap ((q2 : Int) * 18446744073709551600)) = (v : Int) := by rw [wrapu, wrapu, wrapu, wrapu]; omega
theorem dvfN (v q r : Nat) (hv : v < 18446744073709551600) (e0 : v = q * 4294967295 + r) : q ≤ 4294967296 := by omega
theorem dvgN (v q r a0 : Nat) (hv : v < 18446744073709551600) (ha : a0 < 4294967296) (e0 : v = q * 4294967295 + r) (hge : 4294967296 ≤ q) : 4294967296 * r + a0 < q * 4294967280 := by omega
theorem dvwN (w : Nat) (h : w < 18446744073709551600) : w / 8 < 2305843009213693950 := by omega
theorem dvuN (v : Nat) (h : v < 18446744073709551600) : v < 18446744073709551616 := by omega
theorem blenN : blen 2305843009213693950 = 61 := by decide +kernel
set_option maxHeartbeats 6400000 in
theorem divN_c (hi lo D : Nat) (hD : D = hi * 18446744073709551616 + lo) (hh : hi < 288230376151711744) (hl : lo < 18446744073709551616) :
  AC Tryz.prog 289 [.it .u64 hi, .it .u64 lo, .it .u64 2305843009213693950] [] (.tup [.it .u64 ((D / 2305843009213693950 : Nat) : Int), .it .u64 ((D % 2305843009213693950 : Nat) : Int)]) [] := by
 refine AC.enter [299] [] Tryz.func289 rfl (by decide) (by decide) znl (by kernel_rfl) ?_; refine zev ?_
 by_cases h0 : hi = 0
 ·subst h0
  have hD : D = lo := by omega
  subst hD
  have e1 : IntKind.u64.wrap ((D : Int).tdiv 2305843009213693950) = ((D / 2305843009213693950 : Nat) : Int) := by rw [Int.tdiv_eq_ediv_of_nonneg (by omega), wrapu]; omega
  have e2 : (D : Int).tmod 2305843009213693950 = ((D % 2305843009213693950 : Nat) : Int) := by rw [Int.tmod_eq_emod_of_nonneg (by omega)]; omega
  refine runf (an @e1 @e2) ?_
  exact er0
 have hlead := lead_c 2305843009213693950 (by omega) (by rw [blenN]; omega)
 rw [blenN] at hlead
 have k1 : IntKind.u64.wrap (64 - ((61 : Nat) : Int)) = 3 := by decide +kernel
 have k2 : IntKind.u64.wrap 61 = 61 := by decide +kernel
 have k3 : aShl .u64 2305843009213693950 3 = some (.it .u64 18446744073709551600) := shl_lit 2305843009213693950 3 3 rfl (by omega)
 have k4 : aShr .u64 18446744073709551600 32 = some (.it .u64 4294967295) := shr_lit 18446744073709551600 32 32 rfl (by omega)
 have k5 : Go.bits .and .u64 18446744073709551600 4294967295 = 4294967280 := and_mask 18446744073709551600 (by omega)
 have k6 := shl_lit hi 3 3 rfl (by omega)
 have k7 := shr_lit lo 61 61 rfl (by omega)
 have k8 := shl_lit lo 3 3 rfl (by omega)
 rw [show (2 : Nat) ^ 3 = 8 from rfl, Nat.mod_eq_of_lt (by omega)] at k6
 rw [show (2 : Nat) ^ 61 = 2305843009213693952 from rfl] at k7
 rw [show (2 : Nat) ^ 3 = 8 from rfl] at k8
 have k9 := or_low hi (lo / 2305843009213693952) 3 (by omega) (by omega)
 rw [show (2 : Nat) ^ 3 = 8 from rfl] at k9
 have hu : (hi * 8 + lo / 2305843009213693952) * 18446744073709551616 + lo * 8 % 18446744073709551616 = 8 * D := by omega
 have hub : hi * 8 + lo / 2305843009213693952 < 2305843009213693952 := by omega
 have hut : lo * 8 % 18446744073709551616 < 18446744073709551616 := by omega
 generalize hi * 8 + lo / 2305843009213693952 = u at *
 generalize lo * 8 % 18446744073709551616 = t at *
 have hu := Hv.mk hu
 clear hD
 have k10 := shr_lit t 32 32 rfl (by omega)
 rw [show (2 : Nat) ^ 32 = 4294967296 from rfl] at k10
 have k11 := and_mask t hut
 have ht : t = t / 4294967296 * 4294967296 + t % 4294967296 := by omega
 have ha1 : t / 4294967296 < 4294967296 := by omega
 have ha0 : t % 4294967296 < 4294967296 := by omega
 generalize t / 4294967296 = a1 at *
 generalize t % 4294967296 = a0 at *
 obtain ⟨q1, r1, eq1, hr1⟩ : ∃ q r, u = q * 4294967295 + r ∧ r < 4294967295 := ⟨u / 4294967295, u % 4294967295, (Nat.div_add_mod' u 4294967295).symm, Nat.mod_lt _ (by decide)⟩
 have k12 := dv1 u q1 r1 hub eq1 hr1
 have k13 := dv2 u q1 r1 (by omega) eq1 hr1
 refine run ?_
 refine cp hlead ?_
 refine runf (an @k1 (an @k2 (an @k3 (an @k4 (an @k5 (an @k6 (an @k7 (an @k8 (an @k9 (an @k10 (an @k11 (an @k12 @k13)))))))))))) ?_
 refine loop_mk (fun m e S => S = [] ∧ e 2 = .it .u64 18446744073709551600 ∧ e 8 = .it .u64 3 ∧ e 9 = .it .u64 4294967295 ∧ e 10 = .it .u64 4294967280 ∧ e 11 = .it .u64 (u : Int) ∧ e 13 = .it .u64 (a1 : Int) ∧ e 14 = .it .u64 (a0 : Int) ∧
  ∃ q r : Nat, e 15 = .it .u64 (q : Int) ∧ e 16 = .it .u64 (r : Int) ∧ u = q * 4294967295 + r ∧ q ≤ q1 ∧ r < 4294967296 ∧ u * 4294967296 + a1 < (q + 1) * 18446744073709551600 ∧ q = m) q1
  ⟨rfl, zsl, zsl, zsl, zsl, zsl, zsl, zsl, q1, r1, zsl, zsl, eq1, Nat.le_refl _, Nat.lt_succ_of_lt hr1, dv4N u q1 r1 a1 eq1 hr1 ha1, rfl⟩ ?_
 clear k1 k2 k3 k4 k5 k6 k7 k8 k9 k10 k11 k12 k13 hlead
 rintro m e S ⟨rfl, s2, s8, s9, s10, s11, s13, s14, q, r, s15, s16, e0, hqq, hr, hup, rfl⟩
 have c1 : IntKind.u64.wrap ((q : Int) * 4294967280) = (q : Int) * 4294967280 := by rw [wrapu]; omega
 have c2 : IntKind.u64.wrap (4294967296 * (r : Int)) = 4294967296 * (r : Int) := by rw [wrapu]; omega
 have c3 : IntKind.u64.wrap (4294967296 * (r : Int) + (a1 : Int)) = 4294967296 * (r : Int) + (a1 : Int) := by rw [wrapu]; omega
 have hq32 : q < 4294967296 := by omega
 by_cases hc : 4294967296 * r + a1 < q * 4294967280
 focus
  have d1 : IntKind.u64.wrap ((q : Int) - 1) = ((q - 1 : Nat) : Int) := by rw [wrapu]; omega
  have d2 : IntKind.u64.wrap ((r : Int) + 4294967295) = ((r + 4294967295 : Nat) : Int) := by rw [wrapu]; omega
  by_cases hbr : r + 4294967295 < 4294967296
  focus
   refine runf (an @s2 (an @s8 (an @s9 (an @s10 (an @s11 (an @s13 (an @s14 (an @s15 (an @s16 (an @c1 (an @c2 (an @c3 (an @d1 @d2))))))))))))) ?_
   exact round_mk (q - 1) (by omega) ⟨rfl, zsl, zsl, zsl, zsl, zsl, zsl, zsl, q - 1, r + 4294967295, zsl, zsl, (dv6N _ q r _ e0 hc).2, by omega, hbr, (dv6N _ q r _ e0 hc).1, rfl⟩
  refine runf (an @s2 (an @s8 (an @s9 (an @s10 (an @s11 (an @s13 (an @s14 (an @s15 (an @s16 (an @c1 (an @c2 (an @c3 (an @d1 @d2))))))))))))) ?_
  have hz : q - 1 ≤ q1 ∧ (q - 1) * 18446744073709551600 ≤ u * 4294967296 + a1 ∧ u * 4294967296 + a1 < (q - 1 + 1) * 18446744073709551600 := ⟨by omega, dv8N u q r a1 e0 (by omega) hbr, (dv6N u q r a1 e0 hc).1⟩
  clear hc hbr d1 d2 c1 c2 c3 hup e0 hr
  generalize q - 1 = q2 at *
 rotate_left
 focus
  refine runf (an @s2 (an @s8 (an @s9 (an @s10 (an @s11 (an @s13 (an @s14 (an @s15 (an @s16 (an @c1 (an @c2 @c3))))))))))) ?_
  have hz : q ≤ q1 ∧ q * 18446744073709551600 ≤ u * 4294967296 + a1 ∧ u * 4294967296 + a1 < (q + 1) * 18446744073709551600 := ⟨hqq, dv7N u q r a1 e0 hc, hup⟩
  clear hc c1 c2 c3 hup e0 hr
  generalize q = q2 at *
 all_goals
  obtain ⟨z2, z3, z4⟩ := hz
  have hq1 : q2 ≤ 536870913 := Nat.le_trans z2 (dve u q1 r1 hub eq1)
  have ht0 := Hv.mk ht
  obtain ⟨v, ev⟩ : ∃ v, v = u * 4294967296 + a1 - q2 * 18446744073709551600 := ⟨_, rfl⟩
  have hv : v < 18446744073709551600 := dvbN u a1 q2 v ev z3 z4
  have k1 := dvcN u a1 q2 v ev hv z3
  obtain ⟨p1, s1, ep1, hs1⟩ : ∃ q r, v = q * 4294967295 + r ∧ r < 4294967295 := ⟨v / 4294967295, v % 4294967295, (Nat.div_add_mod' v 4294967295).symm, Nat.mod_lt _ (by decide)⟩
  have k12 := dv3 v p1 s1 (dvuN v hv) ep1 hs1
  have k13 := dv2 v p1 s1 (dvuN v hv) ep1 hs1
  have ev := Hv.mk ev
  have z3 := Hv.mk z3
  clear z4 ht hub eq1 hr1 hut
  have ht := ht0
  refine runf (an @s2 (an @s8 (an @s9 (an @s10 (an @s11 (an @s13 (an @s14 (an @s15 (an @s16 (an @k1 (an @k12 @k13))))))))))) ?_
  refine loop_mk (fun m e S => S = [] ∧ e 2 = .it .u64 18446744073709551600 ∧ e 8 = .it .u64 3 ∧ e 9 = .it .u64 4294967295 ∧ e 10 = .it .u64 4294967280 ∧ e 14 = .it .u64 (a0 : Int) ∧ e 15 = .it .u64 (q2 : Int) ∧ e 17 = .it .u64 (v : Int) ∧
   ∃ q r : Nat, e 18 = .it .u64 (q : Int) ∧ e 16 = .it .u64 (r : Int) ∧ v = q * 4294967295 + r ∧ q ≤ p1 ∧ r < 4294967296 ∧ v * 4294967296 + a0 < (q + 1) * 18446744073709551600 ∧ q = m) p1
   ⟨rfl, zsl, zsl, zsl, zsl, zsl, zsl, zsl, p1, s1, zsl, zsl, ep1, Nat.le_refl _, Nat.lt_succ_of_lt hs1, dv4N v p1 s1 a0 ep1 hs1 ha0, rfl⟩ ?_
  clear k1 k12 k13 s2 s8 s9 s10 s11 s13 s14 s15 s16
  rintro m e S ⟨rfl, s2, s8, s9, s10, s14, s15, s17, q, r, s18, s16, e0, hqq, hr, hup, rfl⟩
  have c1 : IntKind.u64.wrap ((q : Int) * 4294967280) = (q : Int) * 4294967280 := by rw [wrapu]; omega
  have c2 : IntKind.u64.wrap (4294967296 * (r : Int)) = 4294967296 * (r : Int) := by rw [wrapu]; omega
  have c3 : IntKind.u64.wrap (4294967296 * (r : Int) + (a0 : Int)) = 4294967296 * (r : Int) + (a0 : Int) := by rw [wrapu]; omega
  have hq32 : q ≤ 4294967296 := dvfN v q r hv e0
  have hgc : 4294967296 ≤ q → 4294967296 * r + a0 < q * 4294967280 := dvgN v q r a0 hv ha0 e0
  by_cases hc : 4294967296 * r + a0 < q * 4294967280
  focus
   have hup1 := (dv6N v q r a0 e0 hc).1
   have e01 := (dv6N v q r a0 e0 hc).2
   have hle := dv8N v q r a0 e0 (by omega)
   clear hgc hup e0
   have d1 : IntKind.u64.wrap ((q : Int) - 1) = ((q - 1 : Nat) : Int) := by rw [wrapu]; omega
   have d2 : IntKind.u64.wrap ((r : Int) + 4294967295) = ((r + 4294967295 : Nat) : Int) := by rw [wrapu]; omega
   by_cases hbr : r + 4294967295 < 4294967296
   focus
    by_cases hge : 4294967296 ≤ q
    ·refine runf (an @s2 (an @s8 (an @s9 (an @s10 (an @s14 (an @s15 (an @s16 (an @s17 (an @s18 (an @c1 (an @c2 (an @c3 (an @d1 @d2))))))))))))) ?_
     exact round_mk (q - 1) (by omega) ⟨rfl, zsl, zsl, zsl, zsl, zsl, zsl, zsl, q - 1, r + 4294967295, zsl, zsl, e01, by omega, hbr, hup1, rfl⟩
    ·refine runf (an @s2 (an @s8 (an @s9 (an @s10 (an @s14 (an @s15 (an @s16 (an @s17 (an @s18 (an @c1 (an @c2 (an @c3 (an @d1 @d2))))))))))))) ?_
     exact round_mk (q - 1) (by omega) ⟨rfl, zsl, zsl, zsl, zsl, zsl, zsl, zsl, q - 1, r + 4294967295, zsl, zsl, e01, by omega, hbr, hup1, rfl⟩
   have hle := hle hbr
   have hp : q - 1 ≤ 4294967296 := Nat.le_trans (Nat.sub_le _ _) hq32
   by_cases hge : 4294967296 ≤ q
   all_goals
    generalize hpq : q - 1 = p at *
    obtain ⟨w, ew⟩ : ∃ w, w = v * 4294967296 + a0 - p * 18446744073709551600 := ⟨_, rfl⟩
    obtain ⟨g1, g2⟩ := dv9N u v D q2 a1 a0 t w p hu.out ht.out ev.out z3.out ew hle
    have hw := dvbN v a0 p w ew hle hup1
    obtain ⟨g3, g4⟩ := dvaN D _ (w / 8) g1 (dvwN w hw)
    have f1 := dvi q2 p hq1 hp
    have f2 := dvcN v a0 p w ew hw hle
    have f3 := shr_lit w 3 3 rfl (by decide)
    rw [show (2 : Nat) ^ 3 = 8 from rfl] at f3
    rw [g3, g4]
    clear g1 g2 g3 g4 ew hw hle hup1 e01 hpq
    refine runf (an @s2 (an @s8 (an @s9 (an @s10 (an @s14 (an @s15 (an @s16 (an @s17 (an @s18 (an @c1 (an @c2 (an @c3 (an @d1 (an @d2 (an @f1 (an @f2 @f3)))))))))))))))) ?_
    exact er0
  have hge : ¬ 4294967296 ≤ q := fun h => hc (hgc h)
  have hle := dv7N v q r a0 e0 hc
  obtain ⟨w, ew⟩ : ∃ w, w = v * 4294967296 + a0 - q * 18446744073709551600 := ⟨_, rfl⟩
  obtain ⟨g1, g2⟩ := dv9N u v D q2 a1 a0 t w q hu.out ht.out ev.out z3.out ew hle
  have hw := dvbN v a0 q w ew hle hup
  obtain ⟨g3, g4⟩ := dvaN D _ (w / 8) g1 (dvwN w hw)
  have f1 := dvi q2 q hq1 hq32
  have f2 := dvcN v a0 q w ew hw hle
  have f3 := shr_lit w 3 3 rfl (by decide)
  rw [show (2 : Nat) ^ 3 = 8 from rfl] at f3
  rw [g3, g4]
  clear g1 g2 g3 g4 ew hw hle hup e0 hgc
  refine runf (an @s2 (an @s8 (an @s9 (an @s10 (an @s14 (an @s15 (an @s16 (an @s17 (an @s18 (an @c1 (an @c2 (an @c3 (an @f1 (an @f2 @f3)))))))))))))) ?_
  exact er0
theorem remN_c (hi lo D : Nat) (hD : D = hi * 18446744073709551616 + lo) (hh : hi < 288230376151711744) (hl : lo < 18446744073709551616) :
  AC Tryz.prog 257 [.it .u64 hi, .it .u64 lo, .it .u64 2305843009213693950] [] (.it .u64 ((D % 2305843009213693950 : Nat) : Int)) [] := by
 refine AC.enter [289] [] Tryz.func257 rfl (by decide) (by decide) znl (by kernel_rfl) ?_; refine zev ?_
 have e1 : (hi : Int).tmod 2305843009213693950 = (hi : Int) := by rw [Int.tmod_eq_emod_of_nonneg (by omega)]; omega
 refine runf @e1 ?_
 refine cp (divN_c hi lo D hD hh hl) ?_
 refine run ?_
 exact er0
end Go.Proofs.YtlefikdjhnaapaaGreatDoor.Pe
namespace Go.Proofs.YtlefikdjhnaapaaGreatDoor.Pe
open Go Sg
variable [Tab]
set_option maxRecDepth 100000
theorem wrapPu : IntKind.u64.wrap 2305843009213693951 = 2305843009213693951 := by decide +kernel
theorem wrapNu : IntKind.u64.wrap 2305843009213693950 = 2305843009213693950 := by decide +kernel
theorem residue_c (a m : Int) (hm : 0 < m) (hm' : m < 4611686018427387904) (ha : -9223372036854775808 ≤ a ∧ a ≤ 9223372036854775807) : AC Tryz.prog 194 [.it .i64 a, .it .i64 m] [] (.it .i64 (a % m)) [] := by
 refine AC.enter [] [] Tryz.func194 rfl (by decide) (by decide) znl (by kernel_rfl) ?_; refine zev ?_
 have h1 : a % m = if a.tmod m < 0 then a.tmod m + m else a.tmod m := by
  rw [Int.emod_eq_tmod]
  have hb := Int.emod_nonneg a (show m ≠ 0 by omega)
  have ht := Int.tmod_lt_of_pos a hm
  by_cases h0 : 0 ≤ a
  ·have := Int.tmod_nonneg m h0
   rw [if_pos (.inl h0), if_neg (by omega)]; omega
  ·by_cases hd : m ∣ a
   ·rw [if_pos (.inr hd), Int.tmod_eq_zero_of_dvd hd]; simp
   ·have hneg : a.tmod m < 0 := by
     have h2 := Int.emod_eq_tmod (a := a) (b := m)
     rw [if_neg (by rintro (h | h); exact h0 h; exact hd h)] at h2
     have h3 := Int.emod_lt_of_pos a hm
     have : (m.natAbs : Int) = m := by omega
     omega
    rw [if_neg (by rintro (h | h); exact h0 h; exact hd h), if_pos hneg]
    omega
 have h2 : -m ≤ a.tmod m ∧ a.tmod m < m := by
  have hb := Int.emod_nonneg a (show m ≠ 0 by omega)
  have hc := Int.emod_lt_of_pos a hm
  have ht := Int.tmod_lt_of_pos a hm
  split at h1 <;> omega
 have hm0 : m ≠ 0 := by omega
 obtain ⟨t, ht⟩ : ∃ t, a.tmod m = t := ⟨_, rfl⟩
 rw [ht] at h1 h2
 rw [h1]
 by_cases h0 : t < 0
 ·rw [if_pos h0]
  refine runf (an @ht @hm0) ?_
  exact er0
 ·rw [if_neg h0]
  refine runf (an @ht @hm0) ?_
  exact er0
theorem add_c (a b m : Int) (hm : 0 < m) (hm' : m < 4611686018427387904) (ha : -9223372036854775808 ≤ a ∧ a ≤ 9223372036854775807) (hb : -9223372036854775808 ≤ b ∧ b ≤ 9223372036854775807) : AC Tryz.prog 250 [.it .i64 a, .it .i64 b, .it .i64 m] [] (.it .i64 ((a % m + b % m) % m)) [] := by
 refine AC.enter [194] [] Tryz.func250 rfl (by decide) (by decide) znl (by kernel_rfl) ?_; refine zev ?_
 have a1 := Int.emod_nonneg a (show m ≠ 0 by omega)
 have a2 := Int.emod_lt_of_pos a hm
 have b1 := Int.emod_nonneg b (show m ≠ 0 by omega)
 have b2 := Int.emod_lt_of_pos b hm
 refine run ?_
 refine cp (residue_c a m hm hm' ha) ?_
 refine run ?_
 refine cp (residue_c b m hm hm' hb) ?_
 refine run ?_
 refine cp (residue_c (a % m + b % m) m hm hm' (by omega)) ?_
 refine run ?_
 exact er0
theorem mulP_c (a b : Int) (ha : -9223372036854775808 ≤ a ∧ a ≤ 9223372036854775807) (hb : -9223372036854775808 ≤ b ∧ b ≤ 9223372036854775807) : AC Tryz.prog 193 [.it .i64 a, .it .i64 b, .it .i64 2305843009213693951] [] (.it .i64 (mulI a b : Nat)) [] := by
 refine AC.enter [194, 256, 257] [] Tryz.func193 rfl (by decide) (by decide) znl (by kernel_rfl) ?_; refine zev ?_
 unfold mulI
 have a1 := Int.emod_nonneg a (show (2305843009213693951 : Int) ≠ 0 by omega)
 have a2 := Int.emod_lt_of_pos a (show (0 : Int) < 2305843009213693951 by omega)
 have b1 := Int.emod_nonneg b (show (2305843009213693951 : Int) ≠ 0 by omega)
 have b2 := Int.emod_lt_of_pos b (show (0 : Int) < 2305843009213693951 by omega)
 obtain ⟨x, hx⟩ := Int.eq_ofNat_of_zero_le a1
 obtain ⟨y, hy⟩ := Int.eq_ofNat_of_zero_le b1
 have ra := residue_c a 2305843009213693951 (by omega) (by omega) ha
 have rb := residue_c b 2305843009213693951 (by omega) (by omega) hb
 rw [hx] at ra a1 a2 ⊢
 rw [hy] at rb b1 b2 ⊢
 rw [Int.toNat_natCast, Int.toNat_natCast]
 have wx := wrapn (n := x) (by omega)
 have wy := wrapn (n := y) (by omega)
 have wP := wrapPu
 have hxy : x * y < 2305843009213693951 * 2305843009213693951 := Nat.mul_lt_mul'' (by omega) (by omega)
 have hm := mul64_c x y (by omega) (by omega)
 have hr := remP_c (x * y / 18446744073709551616) (x * y % 18446744073709551616) (x * y) (by omega) (by omega) (by omega)
 have hz : x * y % 2305843009213693951 < 2305843009213693951 := Nat.mod_lt _ (by omega)
 refine run ?_
 refine cp ra ?_
 refine run ?_
 refine cp rb ?_
 refine runf (an @wx (an @wy @wP)) ?_
 refine cp hm ?_
 refine runf (an @wx (an @wy @wP)) ?_
 refine cp hr ?_
 refine run ?_
 exact er0
theorem mulN_c (a b : Int) (ha : -9223372036854775808 ≤ a ∧ a ≤ 9223372036854775807) (hb : -9223372036854775808 ≤ b ∧ b ≤ 9223372036854775807) : AC Tryz.prog 193 [.it .i64 a, .it .i64 b, .it .i64 2305843009213693950] [] (.it .i64 (mulNI a b : Nat)) [] := by
 refine AC.enter [194, 256, 257] [] Tryz.func193 rfl (by decide) (by decide) znl (by kernel_rfl) ?_; refine zev ?_
 unfold mulNI
 have a1 := Int.emod_nonneg a (show (2305843009213693950 : Int) ≠ 0 by omega)
 have a2 := Int.emod_lt_of_pos a (show (0 : Int) < 2305843009213693950 by omega)
 have b1 := Int.emod_nonneg b (show (2305843009213693950 : Int) ≠ 0 by omega)
 have b2 := Int.emod_lt_of_pos b (show (0 : Int) < 2305843009213693950 by omega)
 obtain ⟨x, hx⟩ := Int.eq_ofNat_of_zero_le a1
 obtain ⟨y, hy⟩ := Int.eq_ofNat_of_zero_le b1
 have ra := residue_c a 2305843009213693950 (by omega) (by omega) ha
 have rb := residue_c b 2305843009213693950 (by omega) (by omega) hb
 rw [hx] at ra a1 a2 ⊢
 rw [hy] at rb b1 b2 ⊢
 rw [Int.toNat_natCast, Int.toNat_natCast]
 have wx := wrapn (n := x) (by omega)
 have wy := wrapn (n := y) (by omega)
 have wP := wrapNu
 have hxy : x * y < 2305843009213693951 * 2305843009213693951 := Nat.mul_lt_mul'' (by omega) (by omega)
 have hm := mul64_c x y (by omega) (by omega)
 have hr := remN_c (x * y / 18446744073709551616) (x * y % 18446744073709551616) (x * y) (by omega) (by omega) (by omega)
 have hz : x * y % 2305843009213693950 < 2305843009213693950 := Nat.mod_lt _ (by omega)
 refine run ?_
 refine cp ra ?_
 refine run ?_
 refine cp rb ?_
 refine runf (an @wx (an @wy @wP)) ?_
 refine cp hm ?_
 refine runf (an @wx (an @wy @wP)) ?_
 refine cp hr ?_
 refine run ?_
 exact er0
theorem gmul_c (a b : Int) (ha : -9223372036854775808 ≤ a ∧ a ≤ 9223372036854775807) (hb : -9223372036854775808 ≤ b ∧ b ≤ 9223372036854775807) : AC Tryz.prog 115 [.it .i64 a, .it .i64 b] [] (.it .i64 (mulI a b : Nat)) [] := by
 refine AC.enter [193] [] Tryz.func115 rfl (by decide) (by decide) znl (by kernel_rfl) ?_; refine zev ?_
 refine run ?_
 refine cp (mulP_c a b ha hb) ?_
 refine run ?_
 exact er0
theorem gmulN_c (a b : Int) (ha : -9223372036854775808 ≤ a ∧ a ≤ 9223372036854775807) (hb : -9223372036854775808 ≤ b ∧ b ≤ 9223372036854775807) : AC Tryz.prog 176 [.it .i64 a, .it .i64 b] [] (.it .i64 (mulNI a b : Nat)) [] := by
 refine AC.enter [193] [] Tryz.func176 rfl (by decide) (by decide) znl (by kernel_rfl) ?_; refine zev ?_
 refine run ?_
 refine cp (mulN_c a b ha hb) ?_
 refine run ?_
 exact er0
theorem gaddN_c (a b : Int) (ha : -9223372036854775808 ≤ a ∧ a ≤ 9223372036854775807) (hb : -9223372036854775808 ≤ b ∧ b ≤ 9223372036854775807) : AC Tryz.prog 175 [.it .i64 a, .it .i64 b] [] (.it .i64 ((a % 2305843009213693950 + b % 2305843009213693950) % 2305843009213693950)) [] := by
 refine AC.enter [250] [] Tryz.func175 rfl (by decide) (by decide) znl (by kernel_rfl) ?_; refine zev ?_
 refine run ?_
 refine cp (add_c a b 2305843009213693950 (by omega) (by omega) ha hb) ?_
 refine run ?_
 exact er0
end Go.Proofs.YtlefikdjhnaapaaGreatDoor.Pe
namespace Go.Proofs.YtlefikdjhnaapaaGreatDoor.Pe
open Go Go.RowKit Co Sg
set_option maxRecDepth 100000
theorem shr_i (n i : Nat) (h : n < 9223372036854775808) (h' : i ≤ 64) : aShr .i64 (n : Int) (i : Int) = some (.it .i64 ((n / 2 ^ i : Nat) : Int)) := by
 unfold aShr
 rw [if_pos (by omega), Int.toNat_natCast, show min i IntKind.i64.bits = i from Nat.min_eq_left h']
 congr 2
 rw [Int.fdiv_eq_ediv_of_nonneg _ (by exact Int.le_of_lt (Int.pow_pos (by omega)))]
 norm_cast
theorem blen_lt (n : Nat) : n < 2 ^ blen n := by
 unfold blen
 split
 ·subst_vars; decide
 ·exact Nat.lt_log2_self
theorem blen_63 {n : Nat} (h : n < 9223372036854775808) : blen n ≤ 63 := by
 unfold blen
 split
 ·omega
 ·have := (Nat.log2_lt (n := n) (k := 63) (by assumption)).2 (by omega)
  omega
theorem powF_stop {f r p e : Nat} (h : e = 0) : powF f r p e = r := by subst h; exact powF_zero f r p
set_option maxHeartbeats 1600000 in
theorem gexp_c (a e : Int) (ha : -9223372036854775808 ≤ a ∧ a ≤ 9223372036854775807) (he : -9223372036854775808 ≤ e ∧ e ≤ 9223372036854775807) : AC Tryz.prog 116 [.it .i64 a, .it .i64 e] [] (.it .i64 (expI a e : Nat)) [] := by
 refine AC.enter [194, 195, 115] [] Tryz.func116 rfl (by decide) (by decide) znl (by kernel_rfl) ?_; refine zev ?_
 unfold expI powm
 have a1 := Int.emod_nonneg a (show (2305843009213693951 : Int) ≠ 0 by omega)
 have a2 := Int.emod_lt_of_pos a (show (0 : Int) < 2305843009213693951 by omega)
 have ra := residue_c a 2305843009213693951 (by omega) (by omega) ha
 obtain ⟨x, hx⟩ := Int.eq_ofNat_of_zero_le a1
 rw [hx] at ra a1 a2 ⊢
 rw [Int.toNat_natCast, Nat.mod_eq_of_lt (show x < 2305843009213693951 by omega)]
 have hE : ∃ n : Nat, n < 9223372036854775808 ∧ ((if e < 0 then (e % 2305843009213693950).toNat else e.toNat) = n) ∧ (if e < 0 then e % 2305843009213693950 else e) = (n : Int) := by
  split
  ·exact ⟨(e % 2305843009213693950).toNat, by omega, rfl, by omega⟩
  ·exact ⟨e.toNat, by omega, rfl, by omega⟩
 obtain ⟨n, hn, en, eI⟩ := hE
 rw [en]
 have wn := wrapn (n := n) (by omega)
 have hlen := len64_c n (by omega)
 have hb1 := blen_lt n
 have hb2 : blen n ≤ 63 := blen_63 (by omega)
 by_cases hneg : e < 0
 focus
  rw [if_pos hneg] at eI
  have re := residue_c e 2305843009213693950 (by omega) (by omega) he
  rw [eI] at re
  refine run ?_
  refine cp re ?_
  refine run ?_
  refine cp ra ?_
  refine runf @wn ?_
  refine cp hlen ?_
 rotate_left
 focus
  rw [if_neg hneg] at eI
  subst eI
  refine run ?_
  refine cp ra ?_
  refine runf @wn ?_
  refine cp hlen ?_
 all_goals
  refine run ?_
  refine loop_mk (fun m e S => S = [] ∧ e 1 = .it .i64 (n : Int) ∧ e 16 = .it .i64 (blen n : Int) ∧ ∃ i r p : Nat, e 17 = .it .i64 (i : Int) ∧ e 5 = .it .i64 (r : Int) ∧ e 6 = .it .i64 (p : Int) ∧ i ≤ blen n ∧ r < 2305843009213693951 ∧ p < 2305843009213693951 ∧ powF 64 1 x n = powF (64 - i) r p (n / 2 ^ i) ∧ m = blen n - i) (blen n)
   ⟨rfl, zsl, zsl, 0, 1, x, zsl, zsl, zsl, by omega, by decide, by omega, by simp, rfl⟩ ?_
  rintro m e S ⟨rfl, s1, s16, i, r, p, s17, s5, s6, hi, hr, hp, hpow, rfl⟩
  by_cases hlt : i < blen n
  rotate_left
  ·obtain rfl : i = blen n := by omega
   rw [powF_stop (f := 64 - blen n) (e := n / 2 ^ blen n) (Nat.div_eq_of_lt hb1)] at hpow
   rw [hpow]
   refine runf (an @s1 (an @s16 (an @s17 (an @s5 @s6)))) ?_
   exact er0
  have hsh := shr_i n i hn (by omega)
  have hq : n / 2 ^ i < 9223372036854775808 := Nat.lt_of_le_of_lt (Nat.div_le_self _ _) hn
  have hand := and_one (n / 2 ^ i) hq
  have h64 : 64 - i = (64 - (i + 1)) + 1 := by omega
  have hd : n / 2 ^ i / 2 = n / 2 ^ (i + 1) := by rw [Nat.div_div_eq_div_mul, Nat.pow_succ]
  rw [h64, powF_succ (64 - (i + 1)) r p, hd] at hpow
  have mpp := gmul_c (p : Int) (p : Int) (by omega) (by omega)
  have mrp := gmul_c (r : Int) (p : Int) (by omega) (by omega)
  rw [mulI_nat hp hp] at mpp
  rw [mulI_nat hr hp] at mrp
  have lpp : p * p % 2305843009213693951 < 2305843009213693951 := Nat.mod_lt _ (by decide)
  have lrp : r * p % 2305843009213693951 < 2305843009213693951 := Nat.mod_lt _ (by decide)
  generalize n / 2 ^ i = q at *
  by_cases ho : q % 2 = 1
  ·rw [if_pos ho] at hpow
   have hoI : ((q % 2 : Nat) : Int) = 1 := by omega
   refine runf (an @s1 (an @s16 (an @s17 (an @s5 (an @s6 (an @hsh (an @hand @hoI))))))) ?_
   refine cp mrp ?_
   refine runf (an @s1 (an @s16 (an @s17 (an @s5 @s6)))) ?_
   refine cp mpp ?_
   refine runf (an @s1 (an @s16 (an @s17 (an @s5 @s6)))) ?_
   exact round_mk (blen n - (i + 1)) (by omega) ⟨rfl, zsl, zsl, i + 1, r * p % 2305843009213693951, p * p % 2305843009213693951, zsl, zsl, zsl, by omega, lrp, lpp, hpow, rfl⟩
  ·rw [if_neg ho] at hpow
   have hoI : ((q % 2 : Nat) : Int) = 0 := by omega
   refine runf (an @s1 (an @s16 (an @s17 (an @s5 (an @s6 (an @hsh (an @hand @hoI))))))) ?_
   refine cp mpp ?_
   refine runf (an @s1 (an @s16 (an @s17 (an @s5 @s6)))) ?_
   exact round_mk (blen n - (i + 1)) (by omega) ⟨rfl, zsl, zsl, i + 1, r, p * p % 2305843009213693951, zsl, zsl, zsl, by omega, hr, lpp, hpow, rfl⟩
theorem expI_nat (a : Int) (b e : Nat) (h : a = (b : Int)) (hb : b < 2305843009213693951) : expI a (e : Int) = powm b e := by
 subst h
 unfold expI
 rw [if_neg (by omega), Int.toNat_natCast, show ((b : Int) % (2305843009213693951 : Int)).toNat = b by omega]
theorem snum_c (l : By) (h : l.length ≤ 140737488355328) : AC Tryz.prog 125 [.st l] [] (.it .i64 (Sm.num l : Nat)) [] := by
 refine AC.ofBelow (by kernel_rfl) fun w g cargs ht hargs => ?_
 rw [lrel_st hargs]
 refine (num_any ⟨l.toArray⟩ w (by simp [ByteArray.size]; omega)).mono ?_
 rintro r w' ⟨rfl, rfl⟩
 exact ⟨_, rfl, fun g' => .it g' _ _, Below.refl _ _⟩
theorem inter_nil : ∀ (l : List By), List.intercalate [] l = l.flatten
 | [] => rfl
 | [a] => by simp [List.intercalate]
 | a :: b :: l => by
  have := inter_nil (b :: l)
  unfold List.intercalate at this ⊢
  simp only [List.intersperse, List.flatten_cons, List.nil_append] at this ⊢
  rw [this]
theorem flat_sts (l : List By) : flat (l.map AV.st) = l.map AV.st := by
 induction l with
 | nil => rfl
 | cons b l ih => simp only [List.map_cons, flat, List.flatMap_cons, AV.cells] at *; rw [ih]; rfl
theorem join_c (l : List By) (h : l.flatten.length ≤ 140737488355328) (hl : 0 < l.length) (hl2 : l.length ≤ 1000000) : AC Tryz.prog 126 [sls l, .st []] [] (.st l.flatten) [] := by
 refine AC.ofBelow (by kernel_rfl) fun w g cargs ht hargs => ?_
 obtain ⟨h1, h2⟩ := hargs
 obtain ⟨c0, c1, rfl⟩ : ∃ c0 c1, cargs = #[c0, c1] := by
  refine ⟨cargs[0]'(by rw [h1]; simp), cargs[1]'(by rw [h1]; simp), ?_⟩
  apply Array.ext
  ·simpa using h1
  ·intro i hi hj
   match i, hj with
   | 0, _ => rfl
   | 1, _ => rfl
 have r0 := h2 0 _ _ rfl rfl
 have r1 := h2 1 _ _ rfl rfl
 cases r1
 cases r0 with
 | sl _ _ _ A c sz cu hc hcm hsz hA k1 hr hm =>
  have hfl := flat_sts l
  rw [hfl] at hA k1 hr
  simp only [List.length_map] at hA hc k1 hr ⊢
  obtain ⟨b, o, rfl, hcell⟩ := hA hl
  have hcu : ∀ (j : Nat) x, l[j]? = some x → cu j = .string ⟨x.toArray⟩ := fun j x hx => by
   have := hr j (.st x) (by rw [List.getElem?_map, hx]; rfl)
   generalize cu j = y at this
   cases this
   rfl
  have hj : Lib.join ((l.map fun x => (⟨x.toArray⟩ : ByteArray)).map (·.data.toList)) (⟨([] : By).toArray⟩ : ByteArray).data.toList = l.flatten := by
   rw [List.map_map, show ((fun x : ByteArray => x.data.toList) ∘ fun x : By => (⟨x.toArray⟩ : ByteArray)) = id from by funext x; simp, List.map_id]
   exact inter_nil l
  have key := Tryz.strings_Join b o c (l.map fun x => (⟨x.toArray⟩ : ByteArray)) ⟨([] : By).toArray⟩ w (fun j x hx => by
    rw [List.getElem?_map] at hx
    obtain ⟨y, hy, rfl⟩ := Option.map_eq_some_iff.1 hx
    rw [(hcell j (List.getElem?_eq_some_iff.1 hy).1).2, hcu j y hy])
   (World.block_lt_of_cell? w _ (hcell 0 hl).2) (by rw [List.length_map]; omega) (by rw [List.length_map]; exact hc) (by rw [hj]; exact h)
  rw [hj, List.length_map] at key
  refine key.mono ?_
  rintro r w' ⟨rfl, hb⟩
  exact ⟨_, rfl, fun g' => .st g' _, hb⟩
theorem hash_c (l : List By) (h : l.flatten.length ≤ 1000000000) (hl : 0 < l.length) (hl2 : l.length ≤ 1000000) : AC Tryz.prog 67 [sls l] [] (.it .i64 (Sg.hash l.flatten : Nat)) [] := by
 refine AC.enter [126, 91, 125] [] Tryz.func67 rfl (by decide) (by decide) znl (by kernel_rfl) ?_; refine zev ?_
 have hs : (Sm.sha l.flatten).length ≤ 140737488355328 := by show 32 ≤ _; omega
 refine run ?_
 refine cp (join_c l (by omega) hl hl2) ?_
 refine run ?_
 refine cp (sha_c l.flatten (by omega)) ?_
 refine run ?_
 refine cp (snum_c _ hs) ?_
 refine run ?_
 exact er0
theorem reduce_c (h : Nat) (hh : h < 2305843009213693952) : AC Tryz.prog 66 [.it .i64 (h : Int)] [] (.it .i64 (reduce h : Nat)) [] := by
 refine AC.enter [] [] Tryz.func66 rfl (by decide) (by decide) znl (by kernel_rfl) ?_; refine zev ?_
 unfold reduce
 have e : (h : Int).tmod 2305843009213693949 = ((h % 2305843009213693949 : Nat) : Int) := by rw [Int.tmod_eq_emod_of_nonneg (by omega)]; omega
 have e2 : (1 : Int) + ((h % 2305843009213693949 : Nat) : Int) = ((1 + h % 2305843009213693949 : Nat) : Int) := by omega
 refine runf (an @e @e2) ?_
 exact er0
theorem hash4 (a b c d : By) : [a, b, c, d].flatten = a ++ b ++ c ++ d := by simp
theorem hash3 (a b c : By) : [a, b, c].flatten = a ++ b ++ c := by simp
theorem numI_len (n : Int) (h : n < 9223372036854775808) : (numI n).length ≤ 9 := numI_le n h
theorem text_le (m : By) (h : m.length ≤ 100000000) : (text m).length ≤ 100000009 := by
 have := num_le 8 m.length (by omega)
 unfold text
 rw [List.length_append]
 omega
theorem challenge_c (r p : Int) (m : By) (hm : m.length ≤ 100000000) (hr : -9223372036854775808 ≤ r ∧ r ≤ 9223372036854775807) (hp : -9223372036854775808 ≤ p ∧ p ≤ 9223372036854775807) : AC Tryz.prog 117 [.it .i64 r, .it .i64 p, .st m] [] (.it .i64 (challenge r p m : Nat)) [] := by
 refine AC.enter [56, 57, 67] [] Tryz.func117 rfl (by decide) (by decide) znl (by kernel_rfl) ?_; refine zev ?_
 have tw : (text wSign).length = 5 := by rfl
 have tm := text_le m hm
 have l1 := numI_len r (by omega)
 have l2 := numI_len p (by omega)
 have hlt := hash_lt (text wSign ++ numI r ++ numI p ++ text m)
 unfold challenge
 have hh := hash_c [text wSign, numI r, numI p, text m] (by rw [hash4]; simp only [List.length_append]; omega) (by simp) (by simp)
 rw [hash4] at hh
 generalize Sg.hash (text wSign ++ numI r ++ numI p ++ text m) = h at *
 have e : (h : Int).tmod 2305843009213693950 = ((h % 2305843009213693950 : Nat) : Int) := by rw [Int.tmod_eq_emod_of_nonneg (by omega)]; omega
 refine run ?_
 refine cp (text_c wSign (by simp)) ?_
 refine run ?_
 refine cp (num_c r (by omega) (by omega)) ?_
 refine run ?_
 refine cp (num_c p (by omega) (by omega)) ?_
 refine run ?_
 refine cp (text_c m (by omega)) ?_
 refine run ?_
 refine cp hh ?_
 refine runf @e ?_
 exact er0
abbrev keyV (k : Key) : AV := .agg [.it .i64 k.secret, .it .i64 k.pub]
abbrev sigV (s : Sig) : AV := .agg [.it .i64 s.e, .it .i64 s.s]
theorem of_c (s : Int) (hs : -9223372036854775808 ≤ s ∧ s ≤ 9223372036854775807) : AC Tryz.prog 64 [.it .i64 s] [] (keyV (Sg.keyOf s)) [] := by
 refine AC.enter [116] [] Tryz.func64 rfl (by decide) (by decide) znl (by kernel_rfl) ?_; refine zev ?_
 unfold Sg.keyOf
 by_cases h1 : s < 1
 ·rw [if_pos (.inl h1)]
  refine run ?_
  exact er0
 by_cases h2 : 2305843009213693949 < s
 ·rw [if_pos (.inr h2)]
  refine run ?_
  exact er0
 ·rw [if_neg (by omega)]
  obtain ⟨n, rfl⟩ := Int.eq_ofNat_of_zero_le (show 0 ≤ s by omega)
  have he := gexp_c 37 (n : Int) (by omega) (by omega)
  rw [expI_nat 37 37 n rfl (by decide)] at he
  refine run ?_
  refine cp he ?_
  refine run ?_
  exact er0
theorem key_eta (k q : Key) : decide (k = q) = ((k.secret == q.secret) && (k.pub == q.pub)) := by
 obtain ⟨a, b⟩ := k
 obtain ⟨c, d⟩ := q
 rw [Bool.eq_iff_iff]
 simp
theorem keyright_c (k : Key) (hs : -9223372036854775808 ≤ k.secret ∧ k.secret ≤ 9223372036854775807) : AC Tryz.prog 54 [keyV k] [] (.bo k.right) [] := by
 refine AC.enter [64] [] Tryz.func54 rfl (by decide) (by decide) znl (by kernel_rfl) ?_; refine zev ?_
 unfold Key.right
 rw [key_eta]
 by_cases h1 : 1 ≤ k.secret
 ·rw [decide_eq_true h1]
  refine run ?_
  refine cp (of_c k.secret hs) ?_
  refine run ?_
  exact er0
 ·rw [decide_eq_false h1]
  refine run ?_
  exact er0
theorem inOrder_c (n : Int) : AC Tryz.prog 114 [.it .i64 n] [] (.bo (inOrder n)) [] := by
 refine AC.enter [] [] Tryz.func114 rfl (by decide) (by decide) znl (by kernel_rfl) ?_; refine zev ?_
 unfold inOrder
 by_cases h : 0 ≤ n
 ·rw [decide_eq_true h]
  refine run ?_
  exact er0
 ·rw [decide_eq_false h]
  refine run ?_
  exact er0
theorem nonce_lt (k : Key) (m : By) : 1 ≤ nonce k m ∧ nonce k m < 2305843009213693950 := reduce_lt _
theorem sign_c (k : Key) (m : By) (hm : m.length ≤ 100000000) (hs : -9223372036854775808 ≤ k.secret ∧ k.secret ≤ 9223372036854775807) : AC Tryz.prog 94 [keyV k, .st m] [] (sigV (sign k m)) [] := by
 refine AC.enter [54, 56, 57, 67, 66, 116, 117, 176, 175] [] Tryz.func94 rfl (by decide) (by decide) znl (by kernel_rfl) ?_; refine zev ?_
 unfold sign
 refine run ?_
 refine cp (keyright_c k hs) ?_
 cases hr : k.right with
 | false =>
  rw [if_neg (by simp)]
  refine run ?_
  exact er0
 | true =>
  rw [if_pos rfl]
  obtain ⟨p1, p2⟩ := pub_range hr
  obtain ⟨q1, q2, _⟩ := Key.right_iff.1 hr
  have tm := text_le m hm
  have tw : (text wNonce).length = 6 := by rfl
  have l1 := numI_len k.secret (by omega)
  have hh := hash_c [text wNonce, numI k.secret, text m] (by rw [hash3]; simp only [List.length_append]; omega) (by simp) (by simp)
  rw [hash3] at hh
  have hred := reduce_c (Sg.hash (text wNonce ++ numI k.secret ++ text m)) (hash_lt _)
  change AC _ _ _ _ (.it .i64 (nonce k m : Nat)) _ at hred
  obtain ⟨n1, n2⟩ := nonce_lt k m
  generalize nonce k m = u at *
  have hexp := gexp_c 37 (u : Int) (by omega) (by omega)
  rw [expI_nat 37 37 u rfl (by decide)] at hexp
  have hpl := powm_lt 37 u
  have hch := challenge_c (powm 37 u : Nat) k.pub m hm (by omega) (by omega)
  have hel := challenge_lt (powm 37 u : Nat) k.pub m
  generalize challenge (powm 37 u : Nat) k.pub m = e at *
  have hmul := gmulN_c (e : Int) k.secret (by omega) (by omega)
  have hml : mulNI e k.secret < 2305843009213693950 := Nat.mod_lt _ (by decide)
  have hadd := gaddN_c (u : Int) (mulNI e k.secret : Nat) (by omega) (by omega)
  have hval : ((u : Int) % 2305843009213693950 + ((mulNI e k.secret : Nat) : Int) % 2305843009213693950) % 2305843009213693950 = (((u + e * k.secret.toNat) % 2305843009213693950 : Nat) : Int) := by
   have h1 : mulNI e k.secret = e * k.secret.toNat % 2305843009213693950 := by
    unfold mulNI
    rw [show ((e : Int) % 2305843009213693950).toNat = e by omega, show (k.secret % 2305843009213693950).toNat = k.secret.toNat by omega]
   rw [h1]
   generalize e * k.secret.toNat = z
   omega
  rw [hval] at hadd
  refine run ?_
  refine cp (text_c wNonce (by simp)) ?_
  refine run ?_
  refine cp (num_c k.secret (by omega) (by omega)) ?_
  refine run ?_
  refine cp (text_c m (by omega)) ?_
  refine run ?_
  refine cp hh ?_
  refine run ?_
  refine cp hred ?_
  refine run ?_
  refine cp hexp ?_
  refine run ?_
  refine cp hch ?_
  refine run ?_
  refine cp hmul ?_
  refine run ?_
  refine cp hadd ?_
  refine run ?_
  exact er0
theorem verify_c (p : Int) (m : By) (s : Sig) (hm : m.length ≤ 100000000) (hp : -9223372036854775808 ≤ p ∧ p ≤ 9223372036854775807) (hs : -9223372036854775808 ≤ s.e ∧ s.e ≤ 9223372036854775807) : AC Tryz.prog 59 [.it .i64 p, .st m, sigV s] [] (.bo (verify p m s)) [] := by
 refine AC.enter [114, 116, 115, 117] [] Tryz.func59 rfl (by decide) (by decide) znl (by kernel_rfl) ?_; refine zev ?_
 unfold verify
 by_cases h1 : 1 ≤ p
 rotate_left
 ·rw [decide_eq_false h1]
  refine run ?_
  exact er0
 by_cases h2 : p < 2305843009213693951
 rotate_left
 ·rw [decide_eq_true h1, decide_eq_false h2]
  refine run ?_
  exact er0
 rw [decide_eq_true h1, decide_eq_true h2]
 cases ie : inOrder s.e with
 | false =>
  refine run ?_
  refine cp (inOrder_c s.e) ?_
  refine runf @ie ?_
  exact er0
 | true =>
  cases is : inOrder s.s with
  | false =>
   refine run ?_
   refine cp (inOrder_c s.e) ?_
   refine runf @ie ?_
   refine cp (inOrder_c s.s) ?_
   refine runf @is ?_
   exact er0
  | true =>
   have re : 0 ≤ s.e ∧ s.e < 2305843009213693950 := by simpa [inOrder] using ie
   have rs : 0 ≤ s.s ∧ s.s < 2305843009213693950 := by simpa [inOrder] using is
   have x1 := gexp_c 37 s.s (by omega) (by omega)
   have x2 := gexp_c p (2305843009213693950 - s.e) (by omega) (by omega)
   have e1 : expI 37 s.s = powm 37 s.s.toNat := by
    have := expI_nat 37 37 s.s.toNat rfl (by decide)
    rwa [Int.toNat_of_nonneg rs.1] at this
   have e2 : expI p (2305843009213693950 - s.e) = powm p.toNat (2305843009213693950 - s.e).toNat := by
    have := expI_nat p p.toNat (2305843009213693950 - s.e).toNat (by omega) (by omega)
    rwa [Int.toNat_of_nonneg (by omega)] at this
   rw [e1] at x1
   rw [e2] at x2
   have l1 := powm_lt 37 s.s.toNat
   have l2 := powm_lt p.toNat (2305843009213693950 - s.e).toNat
   have hmul := gmul_c (powm 37 s.s.toNat : Nat) (powm p.toNat (2305843009213693950 - s.e).toNat : Nat) (by omega) (by omega)
   rw [mulI_nat l1 l2] at hmul
   change AC _ _ _ _ (.it .i64 ((commit p s : Nat) : Int)) _ at hmul
   have hcl : commit p s < 2305843009213693951 := Nat.mod_lt _ (by decide)
   have hch := challenge_c (commit p s : Nat) p m hm (by omega) (by omega)
   generalize commit p s = c at *
   generalize challenge (c : Int) p m = h at *
   generalize powm 37 s.s.toNat = y1 at *
   generalize powm p.toNat (2305843009213693950 - s.e).toNat = y2 at *
   refine run ?_
   refine cp (inOrder_c s.e) ?_
   refine runf @ie ?_
   refine cp (inOrder_c s.s) ?_
   refine runf @is ?_
   refine cp x1 ?_
   refine run ?_
   refine cp x2 ?_
   refine run ?_
   refine cp hmul ?_
   refine run ?_
   refine cp hch ?_
   refine run ?_
   exact er0
end Go.Proofs.YtlefikdjhnaapaaGreatDoor.Pe
end
section
namespace Go.Proofs.YtlefikdjhnaapaaGreatDoor.Pe
open Go Go.RowKit Co Sg Ac
variable [Tab]
set_option maxRecDepth 100000
set_option maxHeartbeats 4000000
abbrev boxV (b : Box) : AV := .agg [.st b.nonce, .st b.data, .st b.tag]
abbrev wrapV (w : Wrap) : AV := .agg [.it .i64 w.to, .it .i64 w.eph, .st w.box.nonce, .st w.box.data, .st w.box.tag]
abbrev wraps (m : Mode) (l : List Wrap) : AV := .sl m (l.map wrapV)
abbrev actL (a : Ac.Act) : List AV := [.st a.author, .it .i64 a.seq, .st a.prev, .it .i64 a.kind, .it .i64 a.time, .st a.object, .st a.target, .it .i64 a.scope, .st a.group, sls a.to, .st a.text, .st a.body.nonce, .st a.body.data, .st a.body.tag, .it .i64 a.epoch, .sl .ro (a.wraps.map wrapV), .it .i64 a.n, .it .i64 a.m, .it .i64 a.sig.e, .it .i64 a.sig.s]
abbrev actV (a : Ac.Act) : AV := .agg [.st a.author, .it .i64 a.seq, .st a.prev, .it .i64 a.kind, .it .i64 a.time, .st a.object, .st a.target, .it .i64 a.scope, .st a.group, sls a.to, .st a.text, .st a.body.nonce, .st a.body.data, .st a.body.tag, .it .i64 a.epoch, .sl .ro (a.wraps.map wrapV), .it .i64 a.n, .it .i64 a.m, .it .i64 a.sig.e, .it .i64 a.sig.s]
structure Sz (a : Ac.Act) : Prop where
 author : a.author.length ≤ 140737488355328
 target : a.target.length ≤ 140737488355328
 group : a.group.length ≤ 140737488355328
 text : a.text.length ≤ 140737488355328
 tos : ∀ s ∈ a.to, s.length ≤ 140737488355328
 to : a.to.length ≤ 140737488355328
 wraps : a.wraps.length ≤ 140737488355328
theorem nilD (s : By) : (s == []) = decide (s = []) := by rw [Bool.eq_iff_iff]; simp
theorem zeroD (n : Int) : (n == 0) = decide (n = 0) := rfl
theorem lenD {α : Type} (l : List α) [DecidableEq α] : ((l.length : Int) == 0) = decide (l = []) := by
 cases l with
 | nil => rfl
 | cons a l =>
  rw [show ((((a :: l).length : Nat) : Int) == 0) = false from beqF (by simp only [List.length_cons]; omega)]
  simp
theorem dig_eq (s : By) : dig s = ((s.length : Int) == 32) := by
 unfold dig
 rw [Bool.eq_iff_iff]
 simp only [decide_eq_true_eq, beq_iff_eq]
 omega
theorem short_eq (s : By) : short s = decide ((s.length : Int) ≤ 500) := by
 unfold short
 rw [Bool.eq_iff_iff]
 simp only [decide_eq_true_eq]
 omega
theorem box0_eq (b : Box) : decide (b = box0) = ((b.nonce == []) && ((b.data == []) && (b.tag == []))) := by
 obtain ⟨x, y, z⟩ := b
 rw [Bool.eq_iff_iff]
 simp [box0]
theorem within_c (n lo hi : Int) : AC Tryz.prog 160 [.it .i64 n, .it .i64 lo, .it .i64 hi] [] (.bo (wi n lo hi)) [] := by
 refine AC.enter [] [] Tryz.func160 rfl (by decide) (by decide) znl (by kernel_rfl) ?_; refine zev ?_
 unfold wi
 by_cases h : lo ≤ n
 ·rw [decide_eq_true h]
  refine run ?_
  exact er0
 ·rw [decide_eq_false h]
  refine run ?_
  exact er0
theorem isDigest_c (s : By) : AC Tryz.prog 226 [.st s] [] (.bo (dig s)) [] := by
 refine AC.enter [] [] Tryz.func226 rfl (by decide) (by decide) znl (by kernel_rfl) ?_; refine zev ?_
 rw [dig_eq]
 refine run ?_
 exact er0
theorem isShort_c (s : By) : AC Tryz.prog 232 [.st s] [] (.bo (short s)) [] := by
 refine AC.enter [] [] Tryz.func232 rfl (by decide) (by decide) znl (by kernel_rfl) ?_; refine zev ?_
 rw [short_eq]
 refine run ?_
 exact er0
theorem isPublic_c (n : Int) : AC Tryz.prog 282 [.it .i64 n] [] (.bo (pub n)) [] := by
 refine AC.enter [160] [] Tryz.func282 rfl (by decide) (by decide) znl (by kernel_rfl) ?_; refine zev ?_
 refine run ?_
 refine cp (within_c n 1 2305843009213693950) ?_
 refine run ?_
 exact er0
theorem isSealed_c (b : Box) : AC Tryz.prog 281 [boxV b] [] (.bo (sealedB b)) [] := by
 refine AC.enter [232] [] Tryz.func281 rfl (by decide) (by decide) znl (by kernel_rfl) ?_; refine zev ?_
 unfold sealedB
 by_cases h1 : b.nonce.length = 32
 ·rw [decide_eq_true h1]
  by_cases h2 : b.tag.length = 16
  ·rw [decide_eq_true h2]
   refine run ?_
   refine cp (isShort_c b.data) ?_
   refine run ?_
   exact er0
  ·rw [decide_eq_false h2]
   refine run ?_
   exact er0
 ·rw [decide_eq_false h1]
  refine run ?_
  exact er0
theorem wrapped_c (a : Ac.Act) (hw : a.wraps.length ≤ 140737488355328) : AC Tryz.prog 283 [actV a] [] (.bo (wrapped a)) [] := by
 refine AC.enter [282, 281] [] Tryz.func283 rfl (by decide) (by decide) znl (by kernel_rfl) ?_; refine zev ?_
 unfold wrapped
 have hsz : allSz 5 (a.wraps.map wrapV) = true := allSz_map 5 wrapV (fun _ => rfl) _
 refine run ?_
 refine loop_mk (fun m e S => e 1 = .ptr 0 0 ∧ e 6 = .sl .ro (a.wraps.map wrapV) ∧ e 7 = .it .i64 (a.wraps.length : Int) ∧ ∃ (k : Nat) (T : Store), e 8 = .it .i64 (k : Int) ∧ S = .cells (actL a) :: T ∧ k ≤ a.wraps.length ∧ (∀ j (h : j < a.wraps.length), j < k → wrapR a.wraps[j] = true) ∧ m = a.wraps.length - k) a.wraps.length
  ⟨zsl, zsl, zsl, 0, [], zsl, rfl, by omega, fun j _ h => absurd h (Nat.not_lt_zero _), rfl⟩ ?_
 rintro m e S ⟨s1, s6, s7, k, T, s8, rfl, hk, hall, rfl⟩
 by_cases hlt : k < a.wraps.length
 rotate_left
 ·obtain rfl : k = a.wraps.length := by omega
  have h1 : a.wraps.all wrapR = true := List.all_eq_true.2 fun x hx => by
   obtain ⟨j, hj, rfl⟩ := List.getElem_of_mem hx
   exact hall j hj hj
  have h2 : decide (a.wraps.length = a.to.length) = ((a.wraps.length : Int) == (a.to.length : Int)) := by
   rw [Bool.eq_iff_iff]
   simp only [decide_eq_true_eq, beq_iff_eq]
   omega
  rw [h1, h2]
  refine runf (an @s1 (an @s6 (an @s7 @s8))) ?_
  exact er0
 have hg : a.wraps[k]? = some a.wraps[k] := List.getElem?_eq_getElem hlt
 have hbad : wrapR a.wraps[k] = false → a.wraps.all wrapR = false := fun h => List.all_eq_false.2 ⟨_, List.getElem_mem hlt, by simp [h]⟩
 have hnext : wrapR a.wraps[k] = true → ∀ j (h : j < a.wraps.length), j < k + 1 → wrapR a.wraps[j] = true := fun hb j h hj => by
  by_cases e : j = k
  ·subst e; exact hb
  ·exact hall j h (by omega)
 generalize a.wraps[k] = x at *
 have hT1 : ∀ y : SObj, (T ++ [y])[T.length]? = some y := fun y => by simp
 have hT2 : ∀ y z : SObj, (T ++ [y]).set T.length z = T ++ [z] := fun y z => by simp
 have hwx : wrapR x = (pub x.to && pub x.eph && sealedB x.box) := rfl
 rw [hwx] at hbad hnext
 refine runf (an @s1 (an @s6 (an @s7 (an @s8 (an @hg (an @hsz (an @hT1 @hT2))))))) ?_
 refine cp (isPublic_c x.to) ?_
 cases h1 : pub x.to with
 | false =>
  rw [h1] at hbad
  rw [hbad rfl]
  refine runf (an @s1 (an @s6 (an @s7 (an @s8 (an @hT1 @hT2))))) ?_
  exact er0
 | true =>
  refine runf (an @s1 (an @s6 (an @s7 (an @s8 (an @hT1 @hT2))))) ?_
  refine cp (isPublic_c x.eph) ?_
  cases h2 : pub x.eph with
  | false =>
   rw [h1, h2] at hbad
   rw [hbad rfl]
   refine runf (an @s1 (an @s6 (an @s7 (an @s8 (an @hT1 @hT2))))) ?_
   exact er0
  | true =>
   refine runf (an @s1 (an @s6 (an @s7 (an @s8 (an @hT1 @hT2))))) ?_
   refine cp (isSealed_c x.box) ?_
   cases h3 : sealedB x.box with
   | false =>
    rw [h1, h2, h3] at hbad
    rw [hbad rfl]
    refine runf (an @s1 (an @s6 (an @s7 (an @s8 (an @hT1 @hT2))))) ?_
    exact er0
   | true =>
    rw [h1, h2, h3] at hnext
    refine runf (an @s1 (an @s6 (an @s7 (an @s8 (an @hT1 @hT2))))) ?_
    exact round_mk (a.wraps.length - (k + 1)) (by omega) ⟨zsl, zsl, zsl, k + 1, _, zsl, rfl, by omega, hnext rfl, rfl⟩
theorem sealedScope_c (sc : Int) (g : By) (hg : g.length ≤ 140737488355328) : AC Tryz.prog 280 [.it .i64 sc, .st g] [] (.bo (sealedSc sc g)) [] := by
 refine AC.enter [234] [] Tryz.func280 rfl (by decide) (by decide) znl (by kernel_rfl) ?_; refine zev ?_
 unfold sealedSc
 have hn := nilD
 by_cases h2 : sc = 2
 ·rw [if_pos h2]
  refine run ?_
  refine cp (name_c g hg) ?_
  refine run ?_
  exact er0
 rw [if_neg h2]
 by_cases h1 : sc = 1
 ·rw [if_pos (.inl h1)]
  refine runf @hn ?_
  exact er0
 by_cases h3 : sc = 3
 ·rw [if_pos (.inr h3)]
  refine runf @hn ?_
  exact er0
 ·rw [if_neg (by omega)]
  refine run ?_
  exact er0
theorem audience_c (a : Ac.Act) (h : Sz a) : AC Tryz.prog 229 [actV a] [] (.bo (audience a)) [] := by
 refine AC.enter [237, 232, 280, 160, 281] [] Tryz.func229 rfl (by decide) (by decide) znl (by kernel_rfl) ?_; refine zev ?_
 unfold audience
 have hn := nilD
 have hz := zeroD
 have hb := box0_eq a.body
 have hl := lenD a.to
 refine run ?_
 refine cp (ids_c a.to h.tos h.to) ?_
 cases h0 : idsR a.to with
 | false =>
  refine run ?_
  exact er0
 | true =>
  by_cases hs : a.scope = 0
  ·rw [if_pos hs]
   by_cases h1 : a.group = []
   rotate_left
   ·rw [decide_eq_false h1]
    refine runf (an @hn @h1) ?_
    exact er0
   by_cases h2 : a.epoch = 0
   rotate_left
   ·rw [decide_eq_true h1, decide_eq_false h2]
    refine runf (an @hn @h1) ?_
    exact er0
   rw [decide_eq_true h1, decide_eq_true h2]
   refine runf (an @hn @h1) ?_
   refine cp (isShort_c a.text) ?_
   cases h3 : short a.text with
   | false =>
    refine run ?_
    exact er0
   | true =>
    rw [hb]
    refine run ?_
    exact er0
  ·rw [if_neg hs]
   by_cases h1 : a.to = [] ∨ a.scope = 3
   rotate_left
   ·have h2 : a.to ≠ [] := fun e => h1 (.inl e)
    have h3 : a.scope ≠ 3 := fun e => h1 (.inr e)
    have h4 : (0 : Int) < (a.to.length : Int) := by have := List.length_pos_iff.2 h2; omega
    rw [decide_eq_false h2, decide_eq_false h3]
    refine runf @h4 ?_
    exact er0
   have e1 : (decide (a.to = []) || decide (a.scope = 3)) = true := by simpa using h1
   rw [e1]
   have hgo : ∀ G : Prop, (a.to = [] → G) → (a.to ≠ [] → a.scope = 3 → G) → G := fun G g1 g2 => by
    by_cases e : a.to = []
    ·exact g1 e
    ·exact g2 e (h1.resolve_left e)
   refine hgo _ (fun e => ?_) (fun e e3 => ?_)
   focus
    have h4 : ¬ (0 : Int) < (a.to.length : Int) := by rw [e]; simp
    refine runf @h4 ?_
   rotate_left
   focus
    have h4 : (0 : Int) < (a.to.length : Int) := by have := List.length_pos_iff.2 e; omega
    refine runf (an @h4 @e3) ?_
    rw [← e3]
   all_goals
    refine cp (sealedScope_c a.scope a.group h.group) ?_
    cases h5 : sealedSc a.scope a.group with
    | false =>
     refine run ?_
     exact er0
    | true =>
     refine run ?_
     refine cp (within_c a.epoch 0 1073741824) ?_
     cases h6 : wi a.epoch 0 1073741824 with
     | false =>
      refine run ?_
      exact er0
     | true =>
      by_cases h7 : a.text = []
      rotate_left
      ·rw [decide_eq_false h7]
       refine runf (an @hn @h7) ?_
       exact er0
      rw [decide_eq_true h7]
      refine runf (an @hn @h7) ?_
      refine cp (isSealed_c a.body) ?_
      refine run ?_
      exact er0
theorem object_c (a : Ac.Act) : AC Tryz.prog 228 [actV a] [] (.bo (dig a.object)) [] := by
 refine AC.enter [226] [] Tryz.func228 rfl (by decide) (by decide) znl (by kernel_rfl) ?_; refine zev ?_
 refine run ?_
 refine cp (isDigest_c a.object) ?_
 refine run ?_
 exact er0
theorem target_c (a : Ac.Act) (h : Sz a) : AC Tryz.prog 230 [actV a] [] (.bo (idR a.target)) [] := by
 refine AC.enter [158] [] Tryz.func230 rfl (by decide) (by decide) znl (by kernel_rfl) ?_; refine zev ?_
 refine run ?_
 refine cp (idright_c a.target h.target) ?_
 refine run ?_
 exact er0
theorem home_c (a : Ac.Act) : AC Tryz.prog 235 [actV a] [] (.bo (home a)) [] := by
 refine AC.enter [282, 160] [] Tryz.func235 rfl (by decide) (by decide) znl (by kernel_rfl) ?_; refine zev ?_
 unfold home
 refine run ?_
 refine cp (isPublic_c a.n) ?_
 cases h1 : pub a.n with
 | false => refine run ?_; exact er0
 | true =>
  refine run ?_
  refine cp (within_c a.m 0 19) ?_
  refine run ?_
  exact er0
theorem grant_c (a : Ac.Act) (h : Sz a) : AC Tryz.prog 238 [actV a] [] (.bo (grant a)) [] := by
 refine AC.enter [280, 160, 237, 283] [] Tryz.func238 rfl (by decide) (by decide) znl (by kernel_rfl) ?_; refine zev ?_
 unfold grant
 refine run ?_
 refine cp (sealedScope_c a.scope a.group h.group) ?_
 cases h1 : sealedSc a.scope a.group with
 | false => refine run ?_; exact er0
 | true =>
  refine run ?_
  refine cp (within_c a.epoch 0 1073741824) ?_
  cases h2 : wi a.epoch 0 1073741824 with
  | false => refine run ?_; exact er0
  | true =>
   refine run ?_
   refine cp (ids_c a.to h.tos h.to) ?_
   cases h3 : idsR a.to with
   | false => refine run ?_; exact er0
   | true =>
    refine run ?_
    refine cp (wrapped_c a h.wraps) ?_
    refine run ?_
    exact er0
theorem label_c (a : Ac.Act) (h : Sz a) : AC Tryz.prog 239 [actV a] [] (.bo (label a)) [] := by
 refine AC.enter [234, 228, 230] [] Tryz.func239 rfl (by decide) (by decide) znl (by kernel_rfl) ?_; refine zev ?_
 unfold label
 have hn := nilD
 refine run ?_
 refine cp (name_c a.text h.text) ?_
 cases h1 : nameR a.text with
 | false => refine run ?_; exact er0
 | true =>
  refine run ?_
  refine cp (object_c a) ?_
  cases h2 : dig a.object with
  | true =>
   by_cases h3 : a.target = []
   ·rw [decide_eq_true h3]
    refine runf (an @hn @h3) ?_
    exact er0
   ·rw [decide_eq_false h3]
    refine runf (an @hn @h3) ?_
    refine cp (target_c a h) ?_
    cases h4 : idR a.target with
    | false => refine run ?_; exact er0
    | true => refine runf @hn ?_; exact er0
  | false =>
   refine run ?_
   refine cp (target_c a h) ?_
   cases h4 : idR a.target with
   | false => refine run ?_; exact er0
   | true => refine runf @hn ?_; exact er0
theorem setup_c (a : Ac.Act) (h : Sz a) : AC Tryz.prog 240 [actV a] [] (.bo (setup a)) [] := by
 refine AC.enter [237, 283, 160, 282] [] Tryz.func240 rfl (by decide) (by decide) znl (by kernel_rfl) ?_; refine zev ?_
 unfold setup
 by_cases h0 : 0 < a.to.length
 rotate_left
 ·rw [decide_eq_false h0]
  refine run ?_
  exact er0
 rw [decide_eq_true h0]
 refine run ?_
 refine cp (ids_c a.to h.tos h.to) ?_
 cases h1 : idsR a.to with
 | false => refine run ?_; exact er0
 | true =>
  refine run ?_
  refine cp (wrapped_c a h.wraps) ?_
  cases h2 : wrapped a with
  | false => refine run ?_; exact er0
  | true =>
   refine run ?_
   refine cp (within_c a.n 1 a.to.length) ?_
   cases h3 : wi a.n 1 a.to.length with
   | false => refine run ?_; exact er0
   | true =>
    refine run ?_
    refine cp (isPublic_c a.m) ?_
    refine run ?_
    exact er0
theorem rules1_c (a : Ac.Act) (h : Sz a) : AC Tryz.prog 227 [actV a] [] (.bo (dig a.object && audience a)) [] := by
 refine AC.enter [228, 229] [] Tryz.func227 rfl (by decide) (by decide) znl (by kernel_rfl) ?_; refine zev ?_
 refine run ?_
 refine cp (object_c a) ?_
 cases h1 : dig a.object with
 | false => refine run ?_; exact er0
 | true =>
  refine run ?_
  refine cp (audience_c a h) ?_
  refine run ?_
  exact er0
theorem rules2_c (a : Ac.Act) : AC Tryz.prog 231 [actV a] [] (.bo (dig a.object && short a.text)) [] := by
 refine AC.enter [228, 232] [] Tryz.func231 rfl (by decide) (by decide) znl (by kernel_rfl) ?_; refine zev ?_
 refine run ?_
 refine cp (object_c a) ?_
 cases h1 : dig a.object with
 | false => refine run ?_; exact er0
 | true =>
  refine run ?_
  refine cp (isShort_c a.text) ?_
  refine run ?_
  exact er0
theorem rules3_c (a : Ac.Act) (h : Sz a) : AC Tryz.prog 233 [actV a] [] (.bo (nameR a.text && home a)) [] := by
 refine AC.enter [234, 235] [] Tryz.func233 rfl (by decide) (by decide) znl (by kernel_rfl) ?_; refine zev ?_
 refine run ?_
 refine cp (name_c a.text h.text) ?_
 cases h1 : nameR a.text with
 | false => refine run ?_; exact er0
 | true =>
  refine run ?_
  refine cp (home_c a) ?_
  refine run ?_
  exact er0
theorem rules4_c (a : Ac.Act) (h : Sz a) : AC Tryz.prog 236 [actV a] [] (.bo (nameR a.group && idsR a.to)) [] := by
 refine AC.enter [234, 237] [] Tryz.func236 rfl (by decide) (by decide) znl (by kernel_rfl) ?_; refine zev ?_
 refine run ?_
 refine cp (name_c a.group h.group) ?_
 cases h1 : nameR a.group with
 | false => refine run ?_; exact er0
 | true =>
  refine run ?_
  refine cp (ids_c a.to h.tos h.to) ?_
  refine run ?_
  exact er0
theorem rules5_c (a : Ac.Act) : AC Tryz.prog 241 [actV a] [] (.bo (dig a.object && wi a.n 0 1)) [] := by
 refine AC.enter [228, 160] [] Tryz.func241 rfl (by decide) (by decide) znl (by kernel_rfl) ?_; refine zev ?_
 refine run ?_
 refine cp (object_c a) ?_
 cases h1 : dig a.object with
 | false => refine run ?_; exact er0
 | true =>
  refine run ?_
  refine cp (within_c a.n 0 1) ?_
  refine run ?_
  exact er0
theorem rules6_c (a : Ac.Act) (h : Sz a) : AC Tryz.prog 242 [actV a] [] (.bo (idR a.target && short a.text && wi a.n 0 1099511627776)) [] := by
 refine AC.enter [230, 232, 160] [] Tryz.func242 rfl (by decide) (by decide) znl (by kernel_rfl) ?_; refine zev ?_
 refine run ?_
 refine cp (target_c a h) ?_
 cases h1 : idR a.target with
 | false => refine run ?_; exact er0
 | true =>
  refine run ?_
  refine cp (isShort_c a.text) ?_
  cases h2 : short a.text with
  | false => refine run ?_; exact er0
  | true =>
   refine run ?_
   refine cp (within_c a.n 0 1099511627776) ?_
   refine run ?_
   exact er0
theorem placed_c (a : Ac.Act) : AC Tryz.prog 159 [actV a] [] (.bo (placed a)) [] := by
 refine AC.enter [160, 226] [] Tryz.func159 rfl (by decide) (by decide) znl (by kernel_rfl) ?_; refine zev ?_
 unfold placed
 have hn := nilD
 by_cases h0 : a.seq = 0
 ·rw [if_pos h0]
  by_cases h1 : a.kind = 0
  ·rw [decide_eq_true h1]
   refine runf @hn ?_
   exact er0
  ·rw [decide_eq_false h1]
   refine run ?_
   exact er0
 ·rw [if_neg h0]
  refine run ?_
  refine cp (within_c a.seq 1 1073741824) ?_
  cases h1 : wi a.seq 1 1073741824 with
  | false => refine run ?_; exact er0
  | true =>
   by_cases h2 : a.kind = 0
   ·rw [decide_eq_false (p := a.kind ≠ 0) (by simpa using h2)]
    refine run ?_
    exact er0
   ·rw [decide_eq_true (p := a.kind ≠ 0) h2]
    refine run ?_
    refine cp (isDigest_c a.prev) ?_
    refine run ?_
    exact er0
theorem note_c (f s : Int) (z : Bool) : AC Tryz.prog 243 [.it .i64 f, .bo z, .ptr 0 0] [.cells [.it .i64 s]] (.tup []) [.cells [.it .i64 (note z f s)]] := by
 refine AC.enter [] [] Tryz.func243 rfl (by decide) (by decide) znl (by kernel_rfl) ?_; refine zev ?_
 unfold note
 cases z
 ·refine run ?_
  exact en1
 ·refine run ?_
  exact en1
theorem note_at (f s : Int) (z : Bool) (o : SObj) : AC Tryz.prog 243 [.it .i64 f, .bo z, .ptr 1 0] [o, .cells [.it .i64 s]] (.tup []) [o, .cells [.it .i64 (note z f s)]] :=
 AC.at1 (T := [o, .cells [.it .i64 s]]) (note_c f s z) 1 rfl rfl rfl rfl rfl
theorem used_c (a : Ac.Act) : AC Tryz.prog 162 [actV a] [] (.it .i64 (used a)) [] := by
 refine AC.enter [] [] Tryz.func162 rfl (by decide) (by decide) znl (by kernel_rfl) ?_; refine zev ?_
 unfold used
 have hn := nilD
 have hz := zeroD
 have hb := box0_eq a.body
 have hl := lenD a.to
 have hw := lenD a.wraps
 rw [hb]
 refine runf @hn ?_
 refine call_mk (note_at 1 0 (decide (a.object = [])) _) ?_
 generalize note (decide (a.object = [])) 1 0 = s at *
 refine runf @hn ?_
 refine call_mk (note_at 2 s (decide (a.target = [])) _) ?_
 generalize note (decide (a.target = [])) 2 s = s at *
 refine runf @hz ?_
 refine call_mk (note_at 4 s (decide (a.scope = 0)) _) ?_
 generalize note (decide (a.scope = 0)) 4 s = s at *
 refine runf @hn ?_
 refine call_mk (note_at 8 s (decide (a.group = [])) _) ?_
 generalize note (decide (a.group = [])) 8 s = s at *
 refine runf @hl ?_
 refine call_mk (note_at 16 s (decide (a.to = [])) _) ?_
 generalize note (decide (a.to = [])) 16 s = s at *
 refine runf @hn ?_
 refine call_mk (note_at 32 s (decide (a.text = [])) _) ?_
 generalize note (decide (a.text = [])) 32 s = s at *
 refine runf @hn ?_
 refine call_mk (note_at 64 s (decide (a.body.nonce = []) && (decide (a.body.data = []) && decide (a.body.tag = []))) _) ?_
 generalize note (decide (a.body.nonce = []) && (decide (a.body.data = []) && decide (a.body.tag = []))) 64 s = s at *
 refine runf @hz ?_
 refine call_mk (note_at 128 s (decide (a.epoch = 0)) _) ?_
 generalize note (decide (a.epoch = 0)) 128 s = s at *
 refine runf @hw ?_
 refine call_mk (note_at 256 s (decide (a.wraps = [])) _) ?_
 generalize note (decide (a.wraps = [])) 256 s = s at *
 refine runf @hz ?_
 refine call_mk (note_at 512 s (decide (a.n = 0)) _) ?_
 generalize note (decide (a.n = 0)) 512 s = s at *
 refine runf @hz ?_
 refine call_mk (note_at 1024 s (decide (a.m = 0)) _) ?_
 generalize note (decide (a.m = 0)) 1024 s = s at *
 refine run ?_
 exact er0
def ruleF : Ru → FuncId
 | .begin => 233
 | .post => 229
 | .reply => 227
 | .about => 228
 | .tie => 230
 | .reason => 231
 | .circle => 236
 | .grant => 238
 | .label => 239
 | .move => 235
 | .setup => 240
 | .judge => 241
 | .list => 242
theorem ruleF_c (a : Ac.Act) (h : Sz a) (r : Ru) : AC Tryz.prog (ruleF r) [actV a] [] (.bo (r.ok a)) [] := by
 cases r
 ·exact rules3_c a h
 ·exact audience_c a h
 ·exact rules1_c a h
 ·exact object_c a
 ·exact target_c a h
 ·exact rules2_c a
 ·exact rules4_c a h
 ·exact grant_c a h
 ·exact label_c a h
 ·exact home_c a
 ·exact setup_c a h
 ·exact rules5_c a
 ·exact rules6_c a h
def ruleV (r : Ru) : AV := .agg [.it .i64 r.mask, .fn (.func (ruleF r)) [] []]
def ruleE : List (AV × AV) := ruleL.map fun p => (.it .i64 p.1, ruleV p.2)
theorem kfind_rule (k : Int) : ∀ (l : List (Int × Ru)) (i : Nat), (l.lookup k = none ∧ kfind (.it .i64 k) (l.map fun p => (.it .i64 p.1, ruleV p.2)) i = some none) ∨ (∃ r j, l.lookup k = some r ∧ kfind (.it .i64 k) (l.map fun p => (.it .i64 p.1, ruleV p.2)) i = some (some (j, ruleV r)))
 | [], i => .inl ⟨rfl, rfl⟩
 | (k', r) :: l, i => by
  have hk : keq (.it .i64 k) (.it .i64 k') = some (k == k') := rfl
  rw [List.map_cons, List.lookup_cons]
  unfold kfind
  rw [hk]
  cases e : k == k' with
  | true => exact .inr ⟨r, i, rfl, rfl⟩
  | false => exact kfind_rule k l (i + 1)
theorem ruleE_ok : (SObj.map ruleE).ok 0 = true := by decide +kernel
theorem rules_c : AC Tryz.prog 161 [] [] (.fm ruleE) [] := by
 refine AC.enter [] [] Tryz.func161 rfl (by decide) (by decide) znl (by kernel_rfl) ?_; refine zev ?_
 refine run ?_
 exact ends_retW _ _ (Weak.freeze 0 0 4 (es := ruleE) (by rfl) (by rfl) ruleE_ok) [] (by rfl) (subOk_nil _) (by rfl) (by rfl) (by rfl)
theorem right_c (a : Ac.Act) (h : Sz a) : AC Tryz.prog 85 [actV a] [] (.bo (right a)) [] := by
 refine AC.enter [161, 158, 159, 160, 162, 1000050] [] Tryz.func85 rfl (by decide) (by decide) znl (by kernel_rfl) ?_; refine zev ?_
 unfold right
 refine run ?_
 refine cp (idright_c a.author h.author) ?_
 cases h1 : idR a.author with
 | false => refine run ?_; exact er0
 | true =>
  refine run ?_
  refine cp (placed_c a) ?_
  cases h2 : placed a with
  | false => refine run ?_; exact er0
  | true =>
   refine run ?_
   refine cp (within_c a.time 0 1099511627776) ?_
   cases h3 : wi a.time 0 1099511627776 with
   | false => refine run ?_; exact er0
   | true =>
    unfold sigR
    refine run ?_
    refine cp (within_c a.sig.e 0 2305843009213693949) ?_
    cases h4 : wi a.sig.e 0 2305843009213693949 with
    | false => refine run ?_; exact er0
    | true =>
     refine run ?_
     refine cp (within_c a.sig.s 0 2305843009213693949) ?_
     cases h5 : wi a.sig.s 0 2305843009213693949 with
     | false => refine run ?_; exact er0
     | true =>
      refine run ?_
      refine cp rules_c ?_
      rcases kfind_rule a.kind ruleL 0 with ⟨hr, hk⟩ | ⟨r, j, hr, hk⟩
      ·change kfind _ ruleE 0 = _ at hk
       change rule a.kind = _ at hr
       rw [hr]
       refine runf @hk ?_
       exact er0
      ·change kfind _ ruleE 0 = _ at hk
       change rule a.kind = _ at hr
       rw [hr]
       have hv : ruleV r = .agg [.it .i64 r.mask, .fn (.func (ruleF r)) [] []] := rfl
       rw [hv] at hk
       refine runf @hk ?_
       refine cp (used_c a) ?_
       by_cases hu : Go.bits .andNot .i64 (used a) r.mask = 0
       ·rw [decide_eq_true hu]
        have hrc := ruleF_c a h r
        refine runf @hu ?_
        refine cp hrc ?_
        refine run ?_
        exact er0
       ·have hb : (Go.bits .andNot .i64 (used a) r.mask == 0) = false := by simpa using hu
        rw [decide_eq_false hu]
        refine runf @hb ?_
        exact er0
end Go.Proofs.YtlefikdjhnaapaaGreatDoor.Pe
namespace Go.Proofs.YtlefikdjhnaapaaGreatDoor.Pe
open Go Go.RowKit Co Sg Ac
set_option maxRecDepth 100000
set_option maxHeartbeats 4000000
theorem AC.empties [Tab] {P : Program} {f : FuncId} {m : Mode} {rest : List AV} {S S' : Store} {v : AV} (h : ∀ (A : Option Addr) (c : Nat), AC P f (.ot (.slice A 0 c) :: rest) S v S') : AC P f (.sl m [] :: rest) S v S' := by
 refine ⟨(h none 0).can, fun w g cargs hw hargs => ?_⟩
 obtain ⟨h1, h2⟩ := hargs
 have h0 : 0 < cargs.size := by rw [h1]; simp
 have hr := h2 0 _ cargs[0] rfl (Array.getElem?_eq_getElem h0)
 generalize hcv : cargs[0] = cv at hr
 cases hr with
 | sl _ _ _ A c sz cu hc hcm hsz hA h1' hr' hm =>
  refine (h A c).run w g cargs hw ⟨by simpa using h1, fun j u v hu hv => ?_⟩
  cases j with
  | zero =>
   simp only [List.getElem?_cons_zero, Option.some.injEq] at hu
   subst hu
   rw [Array.getElem?_eq_getElem h0, hcv] at hv
   cases hv
   exact .ot _ _ rfl
  | succ j => exact h2 (j + 1) u v (by simpa using hu) hv
theorem eqS_c (l r : List By) (hl : l.length ≤ 140737488355328) (hr : r.length ≤ 140737488355328) : AC Tryz.prog 173 [.sl .ro (l.map AV.st), .sl .ro (r.map AV.st)] [] (.bo (decide (l = r))) [] := by
 refine AC.enter [] [] Tryz.func173 rfl (by decide) (by decide) znl (by kernel_rfl) ?_; refine zev ?_
 by_cases hlen : l.length = r.length
 rotate_left
 ·rw [decide_eq_false (fun e => hlen (by rw [e]))]
  refine run ?_
  exact er0
 have hs1 : allSz 1 (l.map AV.st) = true := allSz_map 1 AV.st (fun _ => rfl) _
 have hs2 : allSz 1 (r.map AV.st) = true := allSz_map 1 AV.st (fun _ => rfl) _
 refine run ?_
 refine loop_mk (fun m e S => S = [] ∧ e 0 = .sl .ro (l.map AV.st) ∧ e 1 = .sl .ro (r.map AV.st) ∧ e 12 = .it .i64 (l.length : Int) ∧ ∃ k : Nat, e 13 = .it .i64 (k : Int) ∧ k ≤ l.length ∧ l.take k = r.take k ∧ m = l.length - k) l.length ⟨rfl, zsl, zsl, zsl, 0, zsl, by omega, rfl, rfl⟩ ?_
 rintro m e S ⟨rfl, s0, s1, s12, k, s13, hk, htk, rfl⟩
 by_cases hlt : k < l.length
 rotate_left
 ·obtain rfl : k = l.length := by omega
  rw [List.take_length, List.take_of_length_le (by omega)] at htk
  rw [decide_eq_true htk]
  refine runf (an @s0 (an @s1 (an @s12 @s13))) ?_
  exact er0
 have g1 : l[k]? = some l[k] := List.getElem?_eq_getElem hlt
 have g2 : r[k]? = some (r[k]'(by omega)) := List.getElem?_eq_getElem (by omega)
 have hbad : l[k] ≠ r[k]'(by omega) → l ≠ r := fun h e => h (by subst e; rfl)
 have hgood : l[k] = r[k]'(by omega) → l.take (k + 1) = r.take (k + 1) := fun h => by
  rw [List.take_succ_eq_append_getElem hlt, List.take_succ_eq_append_getElem (by omega : k < r.length), htk, h]
 generalize l[k] = x at *
 generalize r[k]'_ = y at *
 by_cases hxy : x = y
 ·subst hxy
  have hg := hgood rfl
  clear hgood hbad htk
  refine runf (an @s0 (an @s1 (an @s12 (an @s13 (an @g1 (an @g2 (an @hs1 @hs2))))))) ?_
  exact round_mk (l.length - (k + 1)) (by omega) ⟨rfl, zsl, zsl, zsl, k + 1, zsl, by omega, hg, rfl⟩
 ·rw [decide_eq_false (hbad hxy)]
  clear hgood hbad htk
  have e1 : (x == y) = false := by simpa using hxy
  refine runf (an @s0 (an @s1 (an @s12 (an @s13 (an @g1 (an @g2 (an @hs1 (an @hs2 @e1)))))))) ?_
  exact er0
theorem eqW_c (l r : List Wrap) (hl : l.length ≤ 140737488355328) (hr : r.length ≤ 140737488355328) : AC Tryz.prog 174 [.sl .ro (l.map wrapV), .sl .ro (r.map wrapV)] [] (.bo (decide (l = r))) [] := by
 refine AC.enter [] [] Tryz.func174 rfl (by decide) (by decide) znl (by kernel_rfl) ?_; refine zev ?_
 by_cases hlen : l.length = r.length
 rotate_left
 ·rw [decide_eq_false (fun e => hlen (by rw [e]))]
  refine run ?_
  exact er0
 have hs1 : allSz 5 (l.map wrapV) = true := allSz_map 5 wrapV (fun _ => rfl) _
 have hs2 : allSz 5 (r.map wrapV) = true := allSz_map 5 wrapV (fun _ => rfl) _
 refine run ?_
 refine loop_mk (fun m e S => S = [] ∧ e 0 = .sl .ro (l.map wrapV) ∧ e 1 = .sl .ro (r.map wrapV) ∧ e 12 = .it .i64 (l.length : Int) ∧ ∃ k : Nat, e 13 = .it .i64 (k : Int) ∧ k ≤ l.length ∧ l.take k = r.take k ∧ m = l.length - k) l.length ⟨rfl, zsl, zsl, zsl, 0, zsl, by omega, rfl, rfl⟩ ?_
 rintro m e S ⟨rfl, s0, s1, s12, k, s13, hk, htk, rfl⟩
 by_cases hlt : k < l.length
 rotate_left
 ·obtain rfl : k = l.length := by omega
  rw [List.take_length, List.take_of_length_le (by omega)] at htk
  rw [decide_eq_true htk]
  refine runf (an @s0 (an @s1 (an @s12 @s13))) ?_
  exact er0
 have g1 : l[k]? = some l[k] := List.getElem?_eq_getElem hlt
 have g2 : r[k]? = some (r[k]'(by omega)) := List.getElem?_eq_getElem (by omega)
 have hbad : l[k] ≠ r[k]'(by omega) → l ≠ r := fun h e => h (by subst e; rfl)
 have hgood : l[k] = r[k]'(by omega) → l.take (k + 1) = r.take (k + 1) := fun h => by
  rw [List.take_succ_eq_append_getElem hlt, List.take_succ_eq_append_getElem (by omega : k < r.length), htk, h]
 generalize l[k] = x at *
 generalize r[k]'_ = y at *
 by_cases hxy : x = y
 ·subst hxy
  have hg := hgood rfl
  clear hgood hbad htk
  refine runf (an @s0 (an @s1 (an @s12 (an @s13 (an @g1 (an @g2 (an @hs1 @hs2))))))) ?_
  exact round_mk (l.length - (k + 1)) (by omega) ⟨rfl, zsl, zsl, zsl, k + 1, zsl, by omega, hg, rfl⟩
 ·rw [decide_eq_false (hbad hxy)]
  clear hgood hbad htk
  have e1 : ((x.to == y.to) && ((x.eph == y.eph) && (((x.box.nonce == y.box.nonce) && ((x.box.data == y.box.data) && (x.box.tag == y.box.tag)))))) = false := by
   obtain ⟨x1, x2, x3, x4, x5⟩ := x
   obtain ⟨y1, y2, y3, y4, y5⟩ := y
   rw [Bool.eq_false_iff]
   intro h
   simp only [Bool.and_eq_true, beq_iff_eq] at h
   obtain ⟨rfl, rfl, rfl, rfl, rfl⟩ := h
   exact hxy rfl
  refine runf (an @s0 (an @s1 (an @s12 (an @s13 (an @g1 (an @g2 (an @hs1 (an @hs2 @e1)))))))) ?_
  exact er0
theorem same_c (a b : Ac.Act) (ha : a.to.length ≤ 140737488355328 ∧ a.wraps.length ≤ 140737488355328) (hb : b.to.length ≤ 140737488355328 ∧ b.wraps.length ≤ 140737488355328) : AC Tryz.prog 92 [actV a, actV b] [] (.bo (decide (a = b))) [] := by
 refine AC.enter [173, 174] [] Tryz.func92 rfl (by decide) (by decide) znl (by kernel_rfl) ?_; refine zev ?_
 obtain ⟨q, hq⟩ : ∃ q, decide (a = b) = q := ⟨_, rfl⟩
 rw [hq]
 obtain ⟨a_author, a_seq, a_prev, a_kind, a_time, a_object, a_target, a_scope, a_group, a_to, a_text, ⟨a_bn, a_bd, a_bt⟩, a_epoch, a_wraps, a_n, a_m, ⟨a_se, a_ss⟩⟩ := a
 obtain ⟨b_author, b_seq, b_prev, b_kind, b_time, b_object, b_target, b_scope, b_group, b_to, b_text, ⟨b_bn, b_bd, b_bt⟩, b_epoch, b_wraps, b_n, b_m, ⟨b_se, b_ss⟩⟩ := b
 by_cases h_author : a_author = b_author
 rotate_left
 ·obtain rfl : q = false := by rw [← hq]; exact decide_eq_false (fun e => h_author (by cases e; rfl))
  have e_author : (a_author == b_author) = false := by simpa using h_author
  refine runf @e_author ?_
  exact er0
 subst h_author
 by_cases h_seq : a_seq = b_seq
 rotate_left
 ·obtain rfl : q = false := by rw [← hq]; exact decide_eq_false (fun e => h_seq (by cases e; rfl))
  refine run ?_
  exact er0
 subst h_seq
 by_cases h_prev : a_prev = b_prev
 rotate_left
 ·obtain rfl : q = false := by rw [← hq]; exact decide_eq_false (fun e => h_prev (by cases e; rfl))
  have e_prev : (a_prev == b_prev) = false := by simpa using h_prev
  refine runf @e_prev ?_
  exact er0
 subst h_prev
 by_cases h_kind : a_kind = b_kind
 rotate_left
 ·obtain rfl : q = false := by rw [← hq]; exact decide_eq_false (fun e => h_kind (by cases e; rfl))
  refine run ?_
  exact er0
 subst h_kind
 by_cases h_time : a_time = b_time
 rotate_left
 ·obtain rfl : q = false := by rw [← hq]; exact decide_eq_false (fun e => h_time (by cases e; rfl))
  refine run ?_
  exact er0
 subst h_time
 by_cases h_object : a_object = b_object
 rotate_left
 ·obtain rfl : q = false := by rw [← hq]; exact decide_eq_false (fun e => h_object (by cases e; rfl))
  have e_object : (a_object == b_object) = false := by simpa using h_object
  refine runf @e_object ?_
  exact er0
 subst h_object
 by_cases h_target : a_target = b_target
 rotate_left
 ·obtain rfl : q = false := by rw [← hq]; exact decide_eq_false (fun e => h_target (by cases e; rfl))
  have e_target : (a_target == b_target) = false := by simpa using h_target
  refine runf @e_target ?_
  exact er0
 subst h_target
 by_cases h_scope : a_scope = b_scope
 rotate_left
 ·obtain rfl : q = false := by rw [← hq]; exact decide_eq_false (fun e => h_scope (by cases e; rfl))
  refine run ?_
  exact er0
 subst h_scope
 by_cases h_group : a_group = b_group
 rotate_left
 ·obtain rfl : q = false := by rw [← hq]; exact decide_eq_false (fun e => h_group (by cases e; rfl))
  have e_group : (a_group == b_group) = false := by simpa using h_group
  refine runf @e_group ?_
  exact er0
 subst h_group
 refine run ?_
 refine cp (eqS_c a_to b_to ha.1 hb.1) ?_
 by_cases h_to : a_to = b_to
 rotate_left
 ·obtain rfl : q = false := by rw [← hq]; exact decide_eq_false (fun e => h_to (by cases e; rfl))
  rw [decide_eq_false h_to]
  refine run ?_
  exact er0
 subst h_to
 rw [decide_eq_true (p := a_to = a_to) rfl]
 by_cases h_text : a_text = b_text
 rotate_left
 ·obtain rfl : q = false := by rw [← hq]; exact decide_eq_false (fun e => h_text (by cases e; rfl))
  have e_text : (a_text == b_text) = false := by simpa using h_text
  refine runf @e_text ?_
  exact er0
 subst h_text
 by_cases h_bn : a_bn = b_bn
 rotate_left
 ·obtain rfl : q = false := by rw [← hq]; exact decide_eq_false (fun e => h_bn (by cases e; rfl))
  have e_bn : (a_bn == b_bn) = false := by simpa using h_bn
  refine runf @e_bn ?_
  exact er0
 subst h_bn
 by_cases h_bd : a_bd = b_bd
 rotate_left
 ·obtain rfl : q = false := by rw [← hq]; exact decide_eq_false (fun e => h_bd (by cases e; rfl))
  have e_bd : (a_bd == b_bd) = false := by simpa using h_bd
  refine runf @e_bd ?_
  exact er0
 subst h_bd
 by_cases h_bt : a_bt = b_bt
 rotate_left
 ·obtain rfl : q = false := by rw [← hq]; exact decide_eq_false (fun e => h_bt (by cases e; rfl))
  have e_bt : (a_bt == b_bt) = false := by simpa using h_bt
  refine runf @e_bt ?_
  exact er0
 subst h_bt
 by_cases h_epoch : a_epoch = b_epoch
 rotate_left
 ·obtain rfl : q = false := by rw [← hq]; exact decide_eq_false (fun e => h_epoch (by cases e; rfl))
  refine run ?_
  exact er0
 subst h_epoch
 refine run ?_
 refine cp (eqW_c a_wraps b_wraps ha.2 hb.2) ?_
 by_cases h_wraps : a_wraps = b_wraps
 rotate_left
 ·obtain rfl : q = false := by rw [← hq]; exact decide_eq_false (fun e => h_wraps (by cases e; rfl))
  rw [decide_eq_false h_wraps]
  refine run ?_
  exact er0
 subst h_wraps
 rw [decide_eq_true (p := a_wraps = a_wraps) rfl]
 by_cases h_n : a_n = b_n
 rotate_left
 ·obtain rfl : q = false := by rw [← hq]; exact decide_eq_false (fun e => h_n (by cases e; rfl))
  refine run ?_
  exact er0
 subst h_n
 by_cases h_m : a_m = b_m
 rotate_left
 ·obtain rfl : q = false := by rw [← hq]; exact decide_eq_false (fun e => h_m (by cases e; rfl))
  refine run ?_
  exact er0
 subst h_m
 by_cases h_se : a_se = b_se
 rotate_left
 ·obtain rfl : q = false := by rw [← hq]; exact decide_eq_false (fun e => h_se (by cases e; rfl))
  refine run ?_
  exact er0
 subst h_se
 by_cases h_ss : a_ss = b_ss
 rotate_left
 ·obtain rfl : q = false := by rw [← hq]; exact decide_eq_false (fun e => h_ss (by cases e; rfl))
  refine run ?_
  exact er0
 subst h_ss
 obtain rfl : q = true := by rw [← hq]; exact decide_eq_true rfl
 refine run ?_
 exact er0
theorem cloneS_c (l : List By) (hl : l.length ≤ 1000000) : AC Tryz.prog 132 [.sl .ro (l.map AV.st)] [] (.sl .ro (l.map AV.st)) [] := by
 cases l with
 | nil =>
  refine AC.empties fun A c => ?_
  refine AC.enter [] [] Tryz.func132 rfl (by decide) (by decide) znl (by kernel_rfl) ?_; refine zev ?_
  cases A with
  | none =>
   refine run ?_
   exact er0w
  | some A =>
   refine run ?_
   exact er0w
 | cons x l =>
  have hs1 : allSz 1 ((x :: l).map AV.st) = true := allSz_map 1 AV.st (fun _ => rfl) _
  have hl' : l.length ≤ 1000000 := by simp only [List.length_cons] at hl; omega
  simp only [List.map_cons] at hs1 ⊢
  refine AC.enter [] [] Tryz.func132 rfl (by decide) (by decide) znl (by kernel_rfl) ?_; refine zev ?_
  refine runf @hs1 ?_
  exact er0w
theorem cloneW_c (l : List Wrap) (hl : l.length ≤ 1000000) : AC Tryz.prog 146 [.sl .ro (l.map wrapV)] [] (.sl .ro (l.map wrapV)) [] := by
 cases l with
 | nil =>
  refine AC.empties fun A c => ?_
  refine AC.enter [] [] Tryz.func146 rfl (by decide) (by decide) znl (by kernel_rfl) ?_; refine zev ?_
  cases A with
  | none =>
   refine run ?_
   exact er0w
  | some A =>
   refine run ?_
   exact er0w
 | cons x l =>
  have hs1 : allSz 5 ((x :: l).map wrapV) = true := allSz_map 5 wrapV (fun _ => rfl) _
  have hl' : l.length ≤ 1000000 := by simp only [List.length_cons] at hl; omega
  simp only [List.map_cons] at hs1 ⊢
  refine AC.enter [] [] Tryz.func146 rfl (by decide) (by decide) znl (by kernel_rfl) ?_; refine zev ?_
  refine runf @hs1 ?_
  exact er0w
theorem boxBytes_c (b : Box) (h : b.nonce.length ≤ 1000000 ∧ b.data.length ≤ 1000000 ∧ b.tag.length ≤ 1000000) : AC Tryz.prog 285 [boxV b] [] (.st (boxB b)) [] := by
 refine AC.enter [56] [] Tryz.func285 rfl (by decide) (by decide) znl (by kernel_rfl) ?_; refine zev ?_
 have l1 := text_len h.1
 have l2 := text_len h.2.1
 have l3 := text_len h.2.2
 unfold boxB
 refine run ?_
 refine cp (text_c b.nonce (by omega)) ?_
 refine run ?_
 refine cp (text_c b.data (by omega)) ?_
 refine run ?_
 refine cp (text_c b.tag (by omega)) ?_
 refine run ?_
 exact er0
theorem boxB_len (b : Box) (h : b.nonce.length ≤ 1000000 ∧ b.data.length ≤ 1000000 ∧ b.tag.length ≤ 1000000) : (boxB b).length ≤ 3000027 := by
 have l1 := text_len h.1
 have l2 := text_len h.2.1
 have l3 := text_len h.2.2
 unfold boxB
 simp only [List.length_append]
 omega
theorem wrap_sm {w : Wrap} (h : wrapR w = true) : (1 ≤ w.to ∧ w.to ≤ 2305843009213693950) ∧ (1 ≤ w.eph ∧ w.eph ≤ 2305843009213693950) ∧ w.box.nonce.length ≤ 1000000 ∧ w.box.data.length ≤ 1000000 ∧ w.box.tag.length ≤ 1000000 := by
 simp only [wrapR, pub, Bool.and_eq_true, wi_iff] at h
 have := sealedB_len h.2
 omega
theorem wrapB_len {w : Wrap} (h : wrapR w = true) : (wrapB w).length ≤ 3000045 := by
 have h' := wrap_sm h
 have := boxB_len w.box h'.2.2
 have h1 := numI_le w.to (by omega)
 have h2 := numI_le w.eph (by omega)
 unfold wrapB
 simp only [List.length_append]
 omega
theorem wraps_len {l : List Wrap} (hw : ∀ w ∈ l, wrapR w = true) (hl : l.length ≤ 64) (k : Nat) : ((l.take k).map wrapB).flatten.length ≤ 192002880 := by
 have hx : ∀ m : List Wrap, (∀ w ∈ m, wrapR w = true) → (m.map wrapB).flatten.length ≤ m.length * 3000045 := fun m => by
  induction m with
  | nil => intro _; simp
  | cons w m ih =>
   intro h
   have h1 := wrapB_len (h w (by simp))
   have h2 := ih fun x hx => h x (by simp [hx])
   rw [List.map_cons, List.flatten_cons, List.length_append, List.length_cons, Nat.succ_mul]
   omega
 have h1 := hx (l.take k) fun w h => hw w (List.mem_of_mem_take h)
 have h2 : (l.take k).length * 3000045 ≤ 64 * 3000045 := Nat.mul_le_mul_right _ (by rw [List.length_take]; omega)
 omega
def preC (a : Ac.Act) : By :=
 text wAct ++ text a.author ++ numI a.seq ++ text a.prev ++ (numI a.kind ++ numI a.time ++ text a.object ++ text a.target) ++ (numI a.scope ++ text a.group ++ list a.to ++ text a.text) ++ (boxB a.body ++ numI a.epoch ++ num a.wraps.length)
theorem coreB_pre (a : Ac.Act) : coreB a = preC a ++ (a.wraps.map wrapB).flatten ++ numI a.n ++ numI a.m := by
 unfold coreB preC
 simp only [List.append_assoc]
theorem core_c (a : Ac.Act) (h : Sz a) : AC Tryz.prog 244 [actV a] [] (.st (core a)) [] := by
 refine AC.enter [85, 56, 57, 284, 285] [] Tryz.func244 rfl (by decide) (by decide) znl (by kernel_rfl) ?_; refine zev ?_
 unfold core
 refine run ?_
 refine cp (right_c a h) ?_
 cases hr : right a with
 | false => rw [if_neg (by simp)]; refine run ?_; exact er0
 | true =>
  rw [if_pos rfl]
  have sm := right_sm hr
  have q1 := text_len (s := wAct) (by simp)
  have q2 := text_len (s := a.author) (by have := sm.author; omega)
  have q3 := numI_le a.seq (by have := sm.seq; omega)
  have q4 := text_len (s := a.prev) (by have := sm.prev; omega)
  have q5 := numI_le a.kind (by have := sm.kind; omega)
  have q6 := numI_le a.time (by have := sm.time; omega)
  have q7 := text_len (s := a.object) (by have := sm.object; omega)
  have q8 := text_len (s := a.target) (by have := sm.target; omega)
  have q9 := numI_le a.scope (by have := sm.scope; omega)
  have q10 := text_len (s := a.group) (by have := sm.group; omega)
  have q11 := list_len (l := a.to) (by have := sm.to; omega) (fun x hx => by have := sm.to.2 x hx; omega)
  have q12 := text_len (s := a.text) (by have := sm.text; omega)
  have q13 := boxB_len a.body (by have := sm.body; omega)
  have q14 := numI_le a.epoch (by have := sm.epoch; omega)
  have q15 := num_len9 (n := a.wraps.length) (by have := sm.wraps; omega)
  have q16 := numI_le a.n (by have := sm.n; omega)
  have q17 := numI_le a.m (by have := sm.m; omega)
  have k1 := text_c wAct (by simp)
  have k2 := text_c a.author (by have := sm.author; omega)
  have k3 := num_c a.seq (by have := sm.seq; omega) (by have := sm.seq; omega)
  have k4 := text_c a.prev (by have := sm.prev; omega)
  have k5 := num_c a.kind (by have := sm.kind; omega) (by have := sm.kind; omega)
  have k6 := num_c a.time (by have := sm.time; omega) (by have := sm.time; omega)
  have k7 := text_c a.object (by have := sm.object; omega)
  have k8 := text_c a.target (by have := sm.target; omega)
  have k9 := num_c a.scope (by have := sm.scope; omega) (by have := sm.scope; omega)
  have k10 := text_c a.group (by have := sm.group; omega)
  have k11 := list_c a.to (by have := sm.to; omega) (fun x hx => by have := sm.to.2 x hx; omega)
  have k12 := text_c a.text (by have := sm.text; omega)
  have k13 := boxBytes_c a.body (by have := sm.body; omega)
  have k14 := num_c a.epoch (by have := sm.epoch; omega) (by have := sm.epoch; omega)
  have k15 := num_c (a.wraps.length : Int) (by have := sm.wraps; omega) (by omega)
  rw [numI_nat] at k15
  have k16 := num_c a.n (by have := sm.n; omega) (by have := sm.n; omega)
  have k17 := num_c a.m (by have := sm.m; omega) (by have := sm.m; omega)
  have hwr := sm.wraps
  have hlp : (preC a).length ≤ 2000000000000 := by
   unfold preC
   simp only [List.length_append]
   omega
  rw [coreB_pre]
  have hsz : allSz 5 (a.wraps.map wrapV) = true := allSz_map 5 wrapV (fun _ => rfl) _
  clear hr sm h
  refine run ?_
  refine cp k1 ?_
  refine run ?_
  refine cp k2 ?_
  refine run ?_
  refine cp k3 ?_
  refine run ?_
  refine cp k4 ?_
  refine run ?_
  refine cp k5 ?_
  refine run ?_
  refine cp k6 ?_
  refine run ?_
  refine cp k7 ?_
  refine run ?_
  refine cp k8 ?_
  refine run ?_
  refine cp k9 ?_
  refine run ?_
  refine cp k10 ?_
  refine run ?_
  refine cp k11 ?_
  refine run ?_
  refine cp k12 ?_
  refine run ?_
  refine cp k13 ?_
  refine run ?_
  refine cp k14 ?_
  refine run ?_
  refine cp k15 ?_
  clear k1 k2 k3 k4 k5 k6 k7 k8 k9 k10 k11 k12 k13 k14 k15
  refine run ?_
  refine loop_mk (fun m e S => e 1 = .ptr 0 0 ∧ e 71 = .sl .ro (a.wraps.map wrapV) ∧ e 72 = .it .i64 (a.wraps.length : Int) ∧ ∃ (k : Nat) (T : Store), e 73 = .it .i64 (k : Int) ∧ e 3 = .st (preC a ++ ((a.wraps.take k).map wrapB).flatten) ∧ S = .cells (actL a) :: T ∧ k ≤ a.wraps.length ∧ m = a.wraps.length - k) a.wraps.length
   ⟨zsl, zsl, zsl, 0, [], zsl, by rw [List.take_zero, List.map_nil, List.flatten_nil, List.append_nil]; exact zsl, rfl, by omega, rfl⟩ ?_
  clear q1 q2 q3 q4 q5 q6 q7 q8 q9 q10 q11 q12 q13 q14 q15
  rintro m e S ⟨s1, s71, s72, k, T, s73, s3, rfl, hk, rfl⟩
  have hlen := wraps_len hwr.2 hwr.1 k
  by_cases hlt : k < a.wraps.length
  rotate_left
  ·obtain rfl : k = a.wraps.length := by omega
   rw [List.take_length] at s3 hlen
   generalize (a.wraps.map wrapB).flatten = z at *
   generalize preC a = p at *
   refine runf (an @s1 (an @s71 (an @s72 (an @s73 @s3)))) ?_
   refine cp k16 ?_
   refine runf (an @s1 (an @s71 (an @s72 (an @s73 @s3)))) ?_
   refine cp k17 ?_
   refine runf (an @s1 (an @s71 (an @s72 (an @s73 @s3)))) ?_
   exact er0
  have hg : a.wraps[k]? = some a.wraps[k] := List.getElem?_eq_getElem hlt
  have hx := hwr.2 a.wraps[k] (List.getElem_mem hlt)
  have hstep : ((a.wraps.take (k + 1)).map wrapB).flatten = ((a.wraps.take k).map wrapB).flatten ++ wrapB a.wraps[k] := by
   rw [List.take_succ_eq_append_getElem hlt, List.map_append, List.flatten_append]
   congr 1
   exact List.append_nil _
  have hT1 : ∀ y : SObj, (T ++ [y])[T.length]? = some y := fun y => by simp
  have hT2 : ∀ y z : SObj, (T ++ [y]).set T.length z = T ++ [z] := fun y z => by simp
  generalize a.wraps[k] = x at *
  have hx' := wrap_sm hx
  have hbl := boxB_len x.box hx'.2.2
  have hn1 := numI_le x.to (by omega)
  have hn2 := numI_le x.eph (by omega)
  generalize ((a.wraps.take k).map wrapB).flatten = z at *
  generalize preC a = p at *
  have hwl := hwr.1
  clear k16 k17 q16 q17 hwr
  refine runf (an @s1 (an @s71 (an @s72 (an @s73 (an @s3 (an @hg (an @hsz (an @hT1 @hT2)))))))) ?_
  refine cp (num_c x.to (by omega) (by omega)) ?_
  refine runf (an @s1 (an @s71 (an @s72 (an @s73 (an @s3 (an @hT1 @hT2)))))) ?_
  refine cp (num_c x.eph (by omega) (by omega)) ?_
  refine runf (an @s1 (an @s71 (an @s72 (an @s73 (an @s3 (an @hT1 @hT2)))))) ?_
  refine cp (boxBytes_c x.box hx'.2.2) ?_
  refine runf (an @s1 (an @s71 (an @s72 (an @s73 (an @s3 (an @hT1 @hT2)))))) ?_
  exact round_mk (a.wraps.length - (k + 1)) (by omega) ⟨zsl, zsl, zsl, k + 1, _, zsl, by rw [hstep]; unfold wrapB; simp only [List.append_assoc]; exact zsl, rfl, by omega, rfl⟩
theorem core_len5 {a : Ac.Act} : (core a).length ≤ 100000 := by
 unfold core
 split
 ·rename_i hr
  have sm := right_sm hr
  have q1 : (text wAct).length = 4 := by rfl
  have tl : ∀ (s : By) (n : Nat), s.length ≤ n → n ≤ 1000 → (text s).length ≤ n + 9 := fun s n h h' => by
   have := num_len9 (n := s.length) (by omega)
   unfold text
   rw [List.length_append]
   omega
  have q2 := tl a.author 16 (by have := sm.author; omega) (by omega)
  have q3 := numI_le a.seq (by have := sm.seq; omega)
  have q4 := tl a.prev 32 (by have := sm.prev; omega) (by omega)
  have q5 := numI_le a.kind (by have := sm.kind; omega)
  have q6 := numI_le a.time (by have := sm.time; omega)
  have q7 := tl a.object 32 (by have := sm.object; omega) (by omega)
  have q8 := tl a.target 16 (by have := sm.target; omega) (by omega)
  have q9 := numI_le a.scope (by have := sm.scope; omega)
  have q10 := tl a.group 24 (by have := sm.group; omega) (by omega)
  have q12 := tl a.text 500 (by have := sm.text; omega) (by omega)
  have bl : ∀ b : Box, b.nonce.length ≤ 32 ∧ b.data.length ≤ 500 ∧ b.tag.length ≤ 16 → (boxB b).length ≤ 575 := fun b h => by
   have l1 := tl b.nonce 32 h.1 (by omega)
   have l2 := tl b.data 500 h.2.1 (by omega)
   have l3 := tl b.tag 16 h.2.2 (by omega)
   unfold boxB
   simp only [List.length_append]
   omega
  have q13 := bl a.body sm.body
  have q14 := numI_le a.epoch (by have := sm.epoch; omega)
  have q15 := num_len9 (n := a.wraps.length) (by have := sm.wraps; omega)
  have q16 := numI_le a.n (by have := sm.n; omega)
  have q17 := numI_le a.m (by have := sm.m; omega)
  have q11 : (list a.to).length ≤ 2000 := by
   have h1 := num_len9 (n := a.to.length) (by have := sm.to; omega)
   have h2 : ∀ l : List By, (∀ s ∈ l, s.length = 16) → (l.map text).flatten.length ≤ l.length * 25 := fun l => by
    induction l with
    | nil => intro _; simp
    | cons s l ih =>
     intro h
     have e1 := tl s 16 (by have := h s (by simp); omega) (by omega)
     have e2 := ih fun x hx => h x (by simp [hx])
     rw [List.map_cons, List.flatten_cons, List.length_append, List.length_cons, Nat.succ_mul]
     omega
   have h3 := h2 a.to sm.to.2
   have h4 : a.to.length * 25 ≤ 64 * 25 := Nat.mul_le_mul_right _ sm.to.1
   unfold list
   rw [List.length_append]
   omega
  have q18 : (a.wraps.map wrapB).flatten.length ≤ 40000 := by
   have h2 : ∀ l : List Wrap, (∀ w ∈ l, wrapR w = true) → (l.map wrapB).flatten.length ≤ l.length * 593 := fun l => by
    induction l with
    | nil => intro _; simp
    | cons w l ih =>
     intro h
     have hw := h w (by simp)
     have hw2 := wrap_sm hw
     simp only [wrapR, Bool.and_eq_true] at hw
     have hb := sealedB_len hw.2
     have e0 := bl w.box (by omega)
     have e1 := numI_le w.to (by omega)
     have e2 := numI_le w.eph (by omega)
     have e3 := ih fun x hx => h x (by simp [hx])
     have e4 : (wrapB w).length ≤ 593 := by
      unfold wrapB
      simp only [List.length_append]
      omega
     rw [List.map_cons, List.flatten_cons, List.length_append, List.length_cons, Nat.succ_mul]
     omega
   have h3 := h2 a.wraps sm.wraps.2
   have h4 : a.wraps.length * 593 ≤ 64 * 593 := Nat.mul_le_mul_right _ sm.wraps.1
   omega
  unfold coreB
  simp only [List.length_append]
  omega
 ·simp
theorem core_len {a : Ac.Act} : (core a).length ≤ 100000000 := Nat.le_trans core_len5 (by omega)
theorem bytes_len {a : Ac.Act} : (Ac.bytes a).length ≤ 100018 := by
 unfold Ac.bytes
 split
 ·rename_i hr
  have sm := (right_sm hr).sig
  simp only [sigR, Bool.and_eq_true, wi_iff] at sm
  have h := core_len5 (a := a)
  unfold core at h
  rw [if_pos hr] at h
  have n1 := numI_le a.sig.e (by omega)
  have n2 := numI_le a.sig.s (by omega)
  simp only [List.length_append]
  omega
 ·simp
theorem bytes_c (a : Ac.Act) (h : Sz a) : AC Tryz.prog 169 [actV a] [] (.st (Ac.bytes a)) [] := by
 refine AC.enter [244, 57] [] Tryz.func169 rfl (by decide) (by decide) znl (by kernel_rfl) ?_; refine zev ?_
 have hl := core_len (a := a)
 rw [bytes_core]
 refine run ?_
 refine cp (core_c a h) ?_
 by_cases hc : core a = []
 ·rw [if_pos hc]
  rw [hc]
  refine run ?_
  exact er0
 ·rw [if_neg hc]
  have hb : (core a == []) = false := by simpa using hc
  have hr : right a = true := by
   cases hr : right a with
   | true => rfl
   | false => exact absurd (bytes_wrong hr).2 hc
  have hs := (right_sm hr).sig
  simp only [sigR, Bool.and_eq_true, wi_iff] at hs
  have n1 := numI_le a.sig.e (by omega)
  have n2 := numI_le a.sig.s (by omega)
  generalize core a = c at *
  refine runf @hb ?_
  refine cp (num_c a.sig.e (by omega) (by omega)) ?_
  refine runf @hb ?_
  refine cp (num_c a.sig.s (by omega) (by omega)) ?_
  refine runf @hb ?_
  exact er0
theorem rtext_s (x : R) (hx : x.rest.length ≤ 1000000) : ∃ s y, x.text = (s, y) ∧ y.rest.length ≤ 1000000 ∧ s.length ≤ 1000000 ∧ AC Tryz.prog 97 [.ptr 0 0] [rd x] (.st s) [rd y] := by
 have := text_rest x
 exact ⟨x.text.1, x.text.2, rfl, by omega, by omega, rtext_c x (by omega)⟩
theorem rnum_s (x : R) (hx : x.rest.length ≤ 1000000) : ∃ (n : Int) (y : R), rNum x = (n, y) ∧ y.rest.length ≤ 1000000 ∧ (0 ≤ n ∧ n < 9223372036854775808) ∧ AC Tryz.prog 98 [.ptr 0 0] [rd x] (.it .i64 n) [rd y] := by
 have := num_rest x
 have := num_lt x
 exact ⟨x.num.1, x.num.2, rfl, by omega, by omega, rnum_c x (by omega)⟩
end Go.Proofs.YtlefikdjhnaapaaGreatDoor.Pe
end
section
namespace Go.Proofs.YtlefikdjhnaapaaGreatDoor.Pe
open Go Go.RowKit
variable [Tab]
def dep (md : Region.Mode) (ops : Array Oper) (k : Nat) : Nat → Nat → Bool
 | 0, j => j == k
 | n + 1, j => j == k || (match ops[j]? with
  | none => false
  | some oj => oj.after.any fun e => Region.binds md e && dep md ops k n e.on)
theorem dep_ready {md : Region.Mode} {ops : Array Oper} {k : Nat} {listed : Array Bool} (hinv : ∀ n j, dep md ops k n j = true → listed.getD j true = false) {j : Nat} (hj : j ∈ Region.ready md ops listed) (hne : j ≠ k) (n : Nat) : dep md ops k n j = false := by
 have h0 : (j == k) = false := by simpa using hne
 cases n with
 | zero => exact h0
 | succ n =>
  obtain ⟨_, oj, hoj, hall⟩ := mem_ready.1 hj
  cases hd : dep md ops k (n + 1) j with
  | false => rfl
  | true =>
   exfalso
   unfold dep at hd
   rw [h0, hoj, Bool.false_or] at hd
   simp only at hd
   rw [Array.any_eq_true'] at hd
   obtain ⟨e, he, h2⟩ := hd
   simp only [Bool.and_eq_true] at h2
   have h3 := hinv n e.on h2.2
   have h1 := hall e he h2.1
   rcases Nat.lt_or_ge e.on listed.size with h' | h'
   ·simp [h'] at h3 h1; rw [h3] at h1; cases h1
   ·simp [Array.getElem?_eq_none h'] at h1
def freeC2 (cls : Op → Cls) (md : Region.Mode) (ops : Array Oper) (listed : Array Bool) (k : Nat) : Bool :=
 match ops[k]? with
 | none => false
 | some ok => (List.range ops.size).all fun j =>
  match ops[j]? with
  | none => true
  | some oj => j == k || listed.getD j true || dep md ops k 8 j || indep cls ops ok oj
def lateC (md : Region.Mode) (ops : Array Oper) : Bool := (List.range ops.size).all fun j => match ops[j]? with
 | none => true
 | some oj => oj.after.all fun e => !Region.binds md e || decide (e.on < j)
theorem lateC_dep {md : Region.Mode} {ops : Array Oper} (h : lateC md ops = true) (k : Nat) : ∀ n j, dep md ops k n j = true → k ≤ j := by
 intro n
 induction n with
 | zero => intro j hj; unfold dep at hj; have := beq_iff_eq.1 hj; omega
 | succ n ih =>
  intro j hj
  unfold dep at hj
  rw [Bool.or_eq_true] at hj
  rcases hj with hj | hj
  ·have := beq_iff_eq.1 hj; omega
  ·cases ho : ops[j]? with
   | none => rw [ho] at hj; cases hj
   | some oj =>
    rw [ho] at hj
    simp only at hj
    rw [Array.any_eq_true'] at hj
    obtain ⟨e, he, h2⟩ := hj
    simp only [Bool.and_eq_true] at h2
    have h3 := ih e.on h2.2
    have hlt : j < ops.size := (Array.getElem?_eq_some_iff.1 ho).1
    have h4 := (List.all_eq_true.1 h) j (List.mem_range.2 hlt)
    rw [ho] at h4
    simp only at h4
    have h5 := (Array.all_eq_true_iff_forall_mem.1 h4) e he
    rw [h2.1] at h5
    have : e.on < j := by simpa using h5
    omega
def lexC2 (cls : Op → Cls) (md : Region.Mode) (ops : Array Oper) : Nat → Nat → Array Bool → Bool
 | 0, _, listed => (Region.ready md ops listed).isEmpty
 | fuel + 1, k, listed => (Region.ready md ops listed).contains k && freeC2 cls md ops listed k && lexC2 cls md ops fuel (k + 1) (listed.setIfInBounds k true)
def lexOk2 (cls : Op → Cls) (ops : Array Oper) : Bool := lateC .any ops && lexC2 cls .any ops ops.size 0 (Array.replicate ops.size false)
theorem freeC2_spec {cls : Op → Cls} {md : Region.Mode} {ops : Array Oper} {listed : Array Bool} {k : Nat} {ok : Oper} (hk : ops[k]? = some ok) (h : freeC2 cls md ops listed k = true) :
  ∀ (j : Nat) oj, ops[j]? = some oj → j ≠ k → listed.getD j true = false → (∀ n, dep md ops k n j = false) → indep cls ops ok oj = true := by
 intro j oj hj hne hun hno
 unfold freeC2 at h
 rw [hk] at h
 simp only at h
 have hlt : j < ops.size := (Array.getElem?_eq_some_iff.1 hj).1
 have h1 := (List.all_eq_true.1 h) j (List.mem_range.2 hlt)
 rw [hj] at h1
 simp only [Bool.or_eq_true, beq_iff_eq] at h1
 rcases h1 with ((h1 | h1) | h1) | h1
 ·exact absurd h1 hne
 ·rw [hun] at h1; cases h1
 ·rw [hno 8] at h1; cases h1
 ·exact h1
section
variable {P : Program} {N N0 : Nat} {w0 : World} {g0 : Gh} {pf rf : List FuncId}
theorem wpX_first2 {cls : Op → Cls} {md : Region.Mode} {ops : Array Oper} {Q : Env → Store → Prop} {i : Nat} {oi : Oper} {v : AV} (hi : ops[i]? = some oi) :
  ∀ (fuel : Nat) (listed : Array Bool) (e : Env) (S Si : Store),
   (∀ n j, dep md ops i n j = true → listed.getD j true = false) →
   (∀ (j : Nat) oj, ops[j]? = some oj → j ≠ i → listed.getD j true = false → (∀ n, dep md ops i n j = false) → indep cls ops oi oj = true) →
   i ∈ Region.ready md ops listed → YieldsX P cls ops oi e S v Si →
   wpX P cls md ops Q fuel (listed.setIfInBounds i true) (Pe.put e oi.dst v) Si → wpX P cls md ops Q (fuel + 1) listed e S := by
 intro fuel
 induction fuel with
 | zero =>
  intro listed e S Si _ _ hr hy H
  refine ⟨fun h => (by rw [h] at hr; cases hr), fun j hj => ?_⟩
  by_cases hji : j = i
  ·subst hji; exact hy.xOp hi H
  ·have := ready_mono hj hji
   rw [H.1] at this
   cases this
 | succ fuel ih =>
  intro listed e S Si hinv hfree hr hy H
  refine ⟨fun h => (by rw [h] at hr; cases hr), fun j hj => ?_⟩
  by_cases hji : j = i
  ·subst hji; exact hy.xOp hi H
  ·have h1 := H.2 j (ready_mono hj hji)
   have hnd := dep_ready hinv hj hji
   obtain ⟨hjun, oj, hoj, hall⟩ := mem_ready.1 hj
   have h2 := xOp_swap hoj (hfree j oj hoj hji hjun hnd) hy h1
   have hinv' : ∀ n k, dep md ops i n k = true → (listed.setIfInBounds j true).getD k true = false := fun n k hk => by
    have hjk : j ≠ k := fun e => by rw [← e, hnd n] at hk; cases hk
    rw [getD_set_ne true hjk]
    exact hinv n k hk
   have hfree' : ∀ (k : Nat) ok, ops[k]? = some ok → k ≠ i → (listed.setIfInBounds j true).getD k true = false →
     (∀ n, dep md ops i n k = false) → indep cls ops oi ok = true := fun k ok hk hki hun hno => by
    refine hfree k ok hk hki ?_ hno
    by_cases hjk : j = k
    ·subst hjk; exact hjun
    ·rw [getD_set_ne true hjk] at hun; exact hun
   refine xOp_mono (fun e' S' h3 => ?_) h2
   obtain ⟨Si', h3, h4⟩ := h3
   refine ih (listed.setIfInBounds j true) e' S' Si' hinv' hfree' (ready_mono hr (Ne.symm hji)) h3 ?_
   rw [Array.setIfInBounds_comm _ _ hji]
   exact h4
theorem wpX_lex2 {cls : Op → Cls} {md : Region.Mode} {ops : Array Oper} {Q : Env → Store → Prop} (hlate : lateC md ops = true) : ∀ (l : List Oper) (k : Nat) (listed : Array Bool) (e : Env) (S : Store), (∀ j, l[j]? = ops[k + j]?) →
  (∀ j, k ≤ j → j < ops.size → listed.getD j true = false) → listed.size = ops.size →
  lexC2 cls md ops l.length k listed = true → wpL P cls ops Q l e S → wpX P cls md ops Q l.length listed e S
 | [], _, _, _, _, _, _, _, hB, h => ⟨by simpa [lexC2] using hB, h⟩
 | o :: l, k, listed, e, S, hl, hun, hsz, hB, h => by
  have h0 : ops[k]? = some o := by simpa using (hl 0).symm
  simp only [List.length_cons, lexC2, Bool.and_eq_true] at hB
  obtain ⟨⟨hr, hf⟩, hB'⟩ := hB
  have hst : xOp P cls ops k (wpL P cls ops Q l) e S := by unfold xOp; simp only [h0]; exact h
  obtain ⟨v, S', hy, hK⟩ := yieldsX_of_xOp h0 hst
  have hks : k < ops.size := (Array.getElem?_eq_some_iff.1 h0).1
  refine wpX_first2 h0 l.length listed e S S' (fun n j hj => ?_) (freeC2_spec h0 hf) (by simpa using hr) hy
   (wpX_lex2 hlate l (k + 1) _ _ _ (fun j => by have := hl (j + 1); simpa [Nat.add_assoc, Nat.add_comm 1 j] using this) (fun j h1 h2 => ?_) (by simpa using hsz) hB' hK)
  ·refine hun j (lateC_dep hlate k n j hj) ?_
   cases n with
   | zero => unfold dep at hj; have := beq_iff_eq.1 hj; omega
   | succ n =>
    unfold dep at hj
    rw [Bool.or_eq_true] at hj
    rcases hj with hj | hj
    ·have := beq_iff_eq.1 hj; omega
    ·cases ho : ops[j]? with
     | none => rw [ho] at hj; cases hj
     | some oj => exact (Array.getElem?_eq_some_iff.1 ho).1
  ·rw [getD_set_ne true (by omega)]
   exact hun j (by omega) h2
theorem region_draws2 {ro : Option Nat} {cls : Op → Cls} {ops : Array Oper} {id : Nat} {Q : Env → Store → Prop} {Q' : Exit → Act → World → Prop} {e : Env} {S : Store} {a : Act} {w : World} (hm : P.follows .mixedOrders = true) (hB : lexOk2 cls ops = true) (hds : dstsOk N ops = true)
  (hQ : ∀ e S a w, Conc N w0 g0 e S a w → Q e S → Q' .normal a w) (hc : Conc N w0 g0 e S a w) (h : wpL P cls ops Q ops.toList e S) : (Code.region id ops true).wpIn (wR ro) 0 P Q' a w := by
 refine wpIn_region_any hm (wpAny_of_x ro (cls := cls) hds hQ _ _ e S a _ (hc.draw _) ?_)
 simp only [lexOk2, Bool.and_eq_true] at hB
 have := wpX_lex2 (md := .any) hB.1 ops.toList 0 (Array.replicate ops.size false) e S (by simp) (fun j _ hj => by simp [hj]) (by simp) (by simpa using hB.2) h
 simpa using this
end
def codeOk2 (P : Program) (pf rf : List FuncId) (N : Nat) : Code → Bool
 | .region _ ops draw => dstsOk N ops && (!draw || lexOk2 (clsOf P pf rf) ops)
 | .seq a b => codeOk2 P pf rf N a && codeOk2 P pf rf N b
 | .cond _ a b => codeOk2 P pf rf N a && codeOk2 P pf rf N b
 | .block _ b => codeOk2 P pf rf N b
 | .loop b => codeOk2 P pf rf N b
 | _ => true
section
variable {P : Program} {N N0 : Nat} {w0 : World} {g0 : Gh} {pf rf : List FuncId}
theorem AW_ok2 {ro : Option Nat} (hm : P.follows .mixedOrders = true) (hN0 : g0.nid = N0) : ∀ (c : Code) (Q : AX → Env → Store → Prop) (e : Env) (S : Store) (a : Act) (w : World), codeOk2 P pf rf N c = true → Conc N w0 g0 e S a w → AW P pf rf N0 (eraseC c) Q e S → c.wpIn (wR ro) 0 P (toQ N w0 g0 Q) a w := by
 intro c
 induction c with
 | skip => intro Q e S a w _ hc h; exact wpIn_skip ⟨e, S, hc, h⟩
 | label l => intro Q e S a w _ hc h; exact wpIn_label ⟨e, S, hc, h⟩
 | ret => intro Q e S a w _ hc h; exact wpIn_ret ⟨e, S, hc, h⟩
 | exit id => intro Q e S a w _ hc h; exact wpIn_exit ⟨e, S, hc, h⟩
 | region id ops draw =>
  intro Q e S a w hok hc h
  simp only [codeOk2, Bool.and_eq_true] at hok
  simp only [eraseC, eraseG, AW] at h
  have hL := wpL_of_ARg ops.toList e S h
  have hQ : ∀ e S a w, Conc N w0 g0 e S a w → Q .norm e S → toQ N w0 g0 Q .normal a w := fun e S a w hc hq => ⟨e, S, hc, hq⟩
  cases draw with
  | false => exact region_list hok.1 hQ hc hL ro
  | true => exact region_draws2 hm (by simpa using hok.2) hok.1 hQ hc hL
 | seq x y ihx ihy =>
  intro Q e S a w hok hc h
  simp only [codeOk2, Bool.and_eq_true] at hok
  simp only [eraseC, eraseG, AW] at h
  refine wpIn_seq (Go.wpIn_mono (ihx _ e S a w hok.1 hc h) ?_)
  intro ex a' w' hq
  cases ex with
  | normal => obtain ⟨e', S', hc', h'⟩ := hq; exact ihy Q e' S' a' w' hok.2 hc' h'
  | exit id => exact hq
  | ret => exact hq
  | _ => exact hq.elim
 | cond c x y ihx ihy =>
  intro Q e S a w hok hc h
  simp only [codeOk2, Bool.and_eq_true] at hok
  simp only [eraseC, eraseG, AW] at h
  split at h
  ·rename_i b hb
   have hcb : a.eval c = .bool b := by
    obtain ⟨_, _, g, _, h4, _⟩ := hc
    have := ev_ok h4 c
    rw [hb] at this
    cases hv : a.eval c <;> rw [hv] at this <;> cases this
    rfl
   refine wpIn_cond_split hcb (fun ht => ihx Q e S a w hok.1 hc (h.1 ht)) (fun hf => ihy Q e S a w hok.2 hc (h.2 hf))
  ·exact h.elim
 | block id c ih =>
  intro Q e S a w hok hc h
  simp only [eraseC, eraseG, AW] at h
  refine wpIn_block (Go.wpIn_mono (ih _ e S a w hok hc h) ?_)
  intro ex a' w' hq
  cases ex with
  | normal => exact hq
  | exit i =>
   obtain ⟨e', S', hc', h'⟩ := hq
   simp only [blockQ] at h'
   simp only [Exit.inBlock]
   by_cases hi : i = id
   ·rw [if_pos hi] at h' ⊢; exact ⟨e', S', hc', h'⟩
   ·rw [if_neg hi] at h' ⊢; exact ⟨e', S', hc', h'⟩
  | ret => exact hq
  | _ => exact hq.elim
 | loop c ih =>
  intro Q e S a w hok hc h
  simp only [eraseC, eraseG, AW] at h
  obtain ⟨I, ⟨n, e', S', hwk, hI⟩, hround⟩ := h
  refine wpIn_loop_ghost (fun n a w => ∃ e S, Conc N w0 g0 e S a w ∧ I n e S) n ⟨e', S', hwk N w0 g0 a w hN0 hc, hI⟩ ?_
  rintro n a w ⟨e, S, hc, hI⟩
  refine Go.wpIn_mono (ih _ e S a w hok hc (hround n e S hI)) ?_
  intro ex a' w' hq
  cases ex with
  | normal =>
   obtain ⟨e1, S1, hc1, n', e2, S2, hlt, hwk', hI'⟩ := hq
   exact ⟨n', hlt, e2, S2, hwk' N w0 g0 a' w' hN0 hc1, hI'⟩
  | exit i => exact hq
  | ret => exact hq
  | _ => exact hq.elim
 | _ => intro Q e S a w _ _ h; exact h.elim
end
section
variable {P : Program}
theorem AC.enter2 {f : FuncId} {fn : Func} {c : Code} {args : List AV} {S S' : Store} {v : AV} (pf rf : List FuncId) (hf : P.funcs[f]? = some fn) (hb : fn.body = some c) (hname : fn.name ≠ "runtime.NumGoroutine") (hm : P.follows .mixedOrders = true)
  (hn : args.length ≤ fn.ntmps) (hok : codeOk2 P pf rf fn.ntmps c = true) (h : AW P pf rf S.length (eraseC c) (finQ P fn.results.toList S.length v S') (argEnv args) S) : AC P f args S v S' := by
 exact AC.of_wp hf hb hname hn fun w g a hg hc => AW_ok2 hm hg c _ (argEnv args) S a w hok hc h
end
end Go.Proofs.YtlefikdjhnaapaaGreatDoor.Pe
end
