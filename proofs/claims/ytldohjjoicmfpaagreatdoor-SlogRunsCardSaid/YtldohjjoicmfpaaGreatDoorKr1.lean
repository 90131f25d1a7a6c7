/- A part. -/
import Derived.WalkKit
import Derived.ProofKit
import Derived.WalkSpells
import Derived.WalkLawsBesides
import Derived.Laws.OwnMore
import Derived.Laws.IdiomStrings
import Derived.Deep.Draws
import Derived.Deep.OwnRows
import Derived.StillTailTactics
set_option linter.unusedSectionVars false
set_option linter.unusedVariables false
set_option linter.unusedSimpArgs false
namespace Go.Proofs.YtldohjjoicmfpaaGreatDoor
section
section
open Go
structure Veil (p : Prop) : Prop where
 out : p
def w8 (b : UInt8) : Value := .int .u8 (b.toNat : Int)
def Ag (x : BitVec 32) : Value := .int .u32 (x.toNat : Int)
def An (x : BitVec 64) : Value := .int .u64 (x.toNat : Int)
@[go_sem] theorem v8 (b : UInt8) : Value.int .u8 (b.toNat : Int) = w8 b := rfl
@[go_sem] theorem Zf0 (x : BitVec 32) : Value.int .u32 (x.toNat : Int) = Ag x := rfl
@[go_sem] theorem ZfZ (x : BitVec 64) : Value.int .u64 (x.toNat : Int) = An x := rfl
def bw (b : UInt8) : BitVec 32 := b.toBitVec.setWidth 32
def bq (b : UInt8) : BitVec 64 := b.toBitVec.setWidth 64
def wb (x : BitVec 32) : UInt8 := UInt8.ofBitVec (x.setWidth 8)
def OR (x : BitVec 64) : Int := x.toInt
def qb (x : BitVec 64) : UInt8 := UInt8.ofBitVec (x.setWidth 8)
def ES (a b : BitVec 32) : Bool := decide (a = b)
def G1 (a b : BitVec 64) : Bool := decide (a = b)
def G0 (a b : UInt8) : Bool := decide (a = b)
def GS (a b : UInt8) : Bool := decide (a.toNat ≤ b.toNat)
def GR (a b : UInt8) : Bool := decide (a.toNat < b.toNat)
section
variable {P : Program} (t : TypeId) (w : World)
@[go_sem] theorem Zgu (a : Addr) (m : Mode) (b : UInt8) : (store a (w8 b) m).run P w = stored P w a (w8 b) m := run_store P w a _ m rfl
@[go_sem] theorem Zgw (a : Addr) (m : Mode) (b : BitVec 32) : (store a (Ag b) m).run P w = stored P w a (Ag b) m := run_store P w a _ m rfl
@[go_sem] theorem Zgv (a : Addr) (m : Mode) (b : BitVec 64) : (store a (An b) m).run P w = stored P w a (An b) m := run_store P w a _ m rfl
@[go_sem] theorem Zhu (b : UInt8) : (w8 b).cells = #[w8 b] := rfl
@[go_sem] theorem Zhw (b : BitVec 32) : (Ag b).cells = #[Ag b] := rfl
@[go_sem] theorem Zhv (b : BitVec 64) : (An b).cells = #[An b] := rfl
@[go_sem] theorem Zhr (b : UInt8) (f : Array Value → Array Value) (g : Value → Array Value) : Value.cells.match_1 (fun _ => Array Value) (w8 b) f g = g (w8 b) := rfl
@[go_sem] theorem Zht (b : BitVec 32) (f : Array Value → Array Value) (g : Value → Array Value) : Value.cells.match_1 (fun _ => Array Value) (Ag b) f g = g (Ag b) := rfl
@[go_sem] theorem Zhs (b : BitVec 64) (f : Array Value → Array Value) (g : Value → Array Value) : Value.cells.match_1 (fun _ => Array Value) (An b) f g = g (An b) := rfl
theorem P8 (n : Nat) : IntKind.u32.wrap (n : Int) = ((BitVec.ofNat 32 n).toNat : Int) := by
 rw [IntKind.wrap_u32', BitVec.toNat_ofNat]; omega
theorem Nt (n : Nat) : IntKind.u64.wrap (n : Int) = ((BitVec.ofNat 64 n).toNat : Int) := by
 rw [IntKind.wrap_u64, BitVec.toNat_ofNat]; omega
theorem Ns (n : Nat) : IntKind.u8.wrap (n : Int) = ((UInt8.ofNat n).toNat : Int) := by
 rw [IntKind.wrap_u8', UInt8.toNat_ofNat']; omega
@[go_sem] theorem WC (a b : BitVec 32) : binOp .add t (Ag a) (Ag b) = pure (Ag (a + b)) := by
 show binOp .add t (.int .u32 _) (.int .u32 _) = _
 rw [binOp_add];show pure (Value.int .u32 (IntKind.u32.wrap ((a.toNat : Int) + (b.toNat : Int)))) = _
 rw [← Int.natCast_add, P8];congr 2
@[go_sem] theorem Ws (a b : BitVec 32) : binOp .and t (Ag a) (Ag b) = pure (Ag (a &&& b)) := by
 show binOp .and t (.int .u32 _) (.int .u32 _) = _
 rw [binOp_and, intBits_and, u32_and_nat _ _ a.isLt b.isLt, ← BitVec.toNat_and]; rfl
@[go_sem] theorem SA (a b : BitVec 32) : binOp .or t (Ag a) (Ag b) = pure (Ag (a ||| b)) := by
 show binOp .or t (.int .u32 _) (.int .u32 _) = _
 rw [binOp_or, intBits_or, u32_or_nat _ _ a.isLt b.isLt, ← BitVec.toNat_or]; rfl
@[go_sem] theorem P1 (a b : BitVec 32) : binOp .xor t (Ag a) (Ag b) = pure (Ag (a ^^^ b)) := by
 show binOp .xor t (.int .u32 _) (.int .u32 _) = _
 rw [binOp_xor, intBits_xor, u32_xor_nat _ _ a.isLt b.isLt, ← BitVec.toNat_xor]; rfl
theorem Dj (n : Nat) (h : n < 4294967296) : Value.int .u32 (OfNat.ofNat n) = Ag (BitVec.ofNat 32 n) := by
 unfold Ag; rw [BitVec.toNat_ofNat, Nat.mod_eq_of_lt h]; rfl
theorem DT (n : Nat) (h : n < 18446744073709551616) : Value.int .u64 (OfNat.ofNat n) = An (BitVec.ofNat 64 n) := by
 unfold An; rw [BitVec.toNat_ofNat, Nat.mod_eq_of_lt h]; rfl
theorem B3 (n : Nat) (h : n < 256) : Value.int .u8 (OfNat.ofNat n) = w8 (UInt8.ofNat n) := by
 unfold w8; rw [UInt8.toNat_ofNat', Nat.mod_eq_of_lt h]; rfl
@[go_sem] theorem ZgI (a : BitVec 32) : Op.unary .xor (Ag a) = pure (Ag (~~~ a)) := by
 show pure (Value.int .u32 (Go.bits .xor .u32 IntKind.u32.max (a.toNat : Int))) = _
 rw [show IntKind.u32.max = (((0xffffffff#32).toNat : Nat) : Int) from rfl, u32_xor_nat _ _ (BitVec.isLt _) a.isLt, ← BitVec.toNat_xor]
 unfold Ag;congr 2
@[go_sem] theorem QQ (a b : BitVec 32) : binOp .sub t (Ag a) (Ag b) = pure (Ag (a - b)) := by
 show binOp .sub t (.int .u32 _) (.int .u32 _) = _
 rw [binOp_sub];show pure (Value.int .u32 (IntKind.u32.wrap ((a.toNat : Int) - (b.toNat : Int)))) = _
 unfold Ag;rw [IntKind.wrap_u32', BitVec.toNat_sub];congr 2
 have := a.isLt;have := b.isLt;omega
@[go_sem] theorem SX (a b : BitVec 32) : binOp .mul t (Ag a) (Ag b) = pure (Ag (a * b)) := by
 show binOp .mul t (.int .u32 _) (.int .u32 _) = _
 rw [binOp_mul];show pure (Value.int .u32 (IntKind.u32.wrap ((a.toNat : Int) * (b.toNat : Int)))) = _
 unfold Ag;rw [IntKind.wrap_u32', BitVec.toNat_mul];congr 2
theorem Ot (x y k : Nat) (hx : x < 2 ^ k) : x / 2 ^ min y k = x / 2 ^ y := by
 by_cases h : y ≤ k
 ·rw [Nat.min_eq_left h]
 ·have hk : k ≤ y := by omega
  rw [Nat.min_eq_right hk, Nat.div_eq_of_lt hx, Nat.div_eq_of_lt (Nat.lt_of_lt_of_le hx (Nat.pow_le_pow_right (by omega) hk))]
theorem Ou (x y k : Nat) : x * 2 ^ min y k % 2 ^ k = x * 2 ^ y % 2 ^ k := by
 by_cases h : y ≤ k
 ·rw [Nat.min_eq_left h]
 ·have hk : k ≤ y := by omega
  rw [Nat.min_eq_right hk, Nat.mul_mod_left];obtain ⟨d, rfl⟩ := Nat.exists_eq_add_of_le hk;rw [Nat.pow_add, Nat.mul_left_comm, Nat.mul_mod_right]
theorem L2 (x : BitVec 32) (yk : IntKind) (y : Int) (h : 0 ≤ y) : Op.shift .shr .u32 (x.toNat : Int) yk y = pure (Ag (x >>> y.toNat)) := by
 rw [shift_shr_any _ _ _ _ h];unfold Ag;rw [BitVec.toNat_ushiftRight, Nat.shiftRight_eq_div_pow, ← Ot _ _ 32 x.isLt];simp [IntKind.bits]
theorem L6 (x : BitVec 32) (yk : IntKind) (y : Int) (h : 0 ≤ y) : Op.shift .shl .u32 (x.toNat : Int) yk y = pure (Ag (x <<< y.toNat)) := by
 rw [shift_shl_any _ _ _ _ h];unfold Ag;rw [IntKind.wrap_u32', BitVec.toNat_shiftLeft, Nat.shiftLeft_eq, ← Ou];simp [IntKind.bits]
@[go_sem] theorem H6 (x : BitVec 32) (y : BitVec 64) : binOp .shr t (Ag x) (An y) = pure (Ag (x >>> y.toNat)) := L2 x .u64 _ (by omega)
@[go_sem] theorem Zgt (x : BitVec 32) (y : BitVec 64) : binOp .shl t (Ag x) (An y) = pure (Ag (x <<< y.toNat)) := L6 x .u64 _ (by omega)
@[go_sem] theorem Zgf (x : BitVec 32) (y : Int) (h : 0 ≤ y) : binOp .shr t (Ag x) (.int .i64 y) = pure (Ag (x >>> y.toNat)) := L2 x .i64 _ h
@[go_sem] theorem Zgq (x : BitVec 32) (y : Int) (h : 0 ≤ y) : binOp .shl t (Ag x) (.int .i64 y) = pure (Ag (x <<< y.toNat)) := L6 x .i64 _ h
@[go_sem] theorem Ux (a b : BitVec 32) : binOp .eql t (Ag a) (Ag b) = pure (.bool (ES a b)) := by
 show binOp .eql t (.int .u32 _) (.int .u32 _) = _
 rw [binOp_eql];congr 2
 rw [Bool.eq_iff_iff]; simp [ES, BitVec.toNat_eq]; omega
@[go_sem] theorem SP (a b : BitVec 32) : binOp .neq t (Ag a) (Ag b) = pure (.bool (!ES a b)) := by
 show binOp .neq t (.int .u32 _) (.int .u32 _) = _
 rw [binOp_neq];congr 2
 rw [Bool.eq_iff_iff]; simp [ES, BitVec.toNat_eq]; omega
@[go_sem] theorem WB (a b : BitVec 64) : binOp .add t (An a) (An b) = pure (An (a + b)) := by
 show binOp .add t (.int .u64 _) (.int .u64 _) = _
 rw [binOp_add];show pure (Value.int .u64 (IntKind.u64.wrap ((a.toNat : Int) + (b.toNat : Int)))) = _
 rw [← Int.natCast_add, Nt];congr 2
@[go_sem] theorem QP (a b : BitVec 64) : binOp .sub t (An a) (An b) = pure (An (a - b)) := by
 show binOp .sub t (.int .u64 _) (.int .u64 _) = _
 rw [binOp_sub];show pure (Value.int .u64 (IntKind.u64.wrap ((a.toNat : Int) - (b.toNat : Int)))) = _
 unfold An;rw [IntKind.wrap_u64, BitVec.toNat_sub];congr 2
 have := a.isLt;have := b.isLt;omega
@[go_sem] theorem SW (a b : BitVec 64) : binOp .mul t (An a) (An b) = pure (An (a * b)) := by
 show binOp .mul t (.int .u64 _) (.int .u64 _) = _
 rw [binOp_mul];show pure (Value.int .u64 (IntKind.u64.wrap ((a.toNat : Int) * (b.toNat : Int)))) = _
 unfold An;rw [IntKind.wrap_u64, BitVec.toNat_mul];congr 2
@[go_sem] theorem Wr (a b : BitVec 64) : binOp .and t (An a) (An b) = pure (An (a &&& b)) := by
 show binOp .and t (.int .u64 _) (.int .u64 _) = _
 rw [binOp_and, intBits_and, u64_and_nat _ _ a.isLt b.isLt, ← BitVec.toNat_and]; rfl
@[go_sem] theorem Sy (a b : BitVec 64) : binOp .or t (An a) (An b) = pure (An (a ||| b)) := by
 show binOp .or t (.int .u64 _) (.int .u64 _) = _
 rw [binOp_or, intBits_or, u64_or_nat _ _ a.isLt b.isLt, ← BitVec.toNat_or]; rfl
@[go_sem] theorem P0 (a b : BitVec 64) : binOp .xor t (An a) (An b) = pure (An (a ^^^ b)) := by
 show binOp .xor t (.int .u64 _) (.int .u64 _) = _
 rw [binOp_xor, intBits_xor, u64_xor_nat _ _ a.isLt b.isLt, ← BitVec.toNat_xor]; rfl
theorem L1 (x : BitVec 64) (yk : IntKind) (y : Int) (h : 0 ≤ y) : Op.shift .shr .u64 (x.toNat : Int) yk y = pure (An (x >>> y.toNat)) := by
 rw [shift_shr_any _ _ _ _ h];unfold An;rw [BitVec.toNat_ushiftRight, Nat.shiftRight_eq_div_pow, ← Ot _ _ 64 x.isLt];simp [IntKind.bits]
theorem L5 (x : BitVec 64) (yk : IntKind) (y : Int) (h : 0 ≤ y) : Op.shift .shl .u64 (x.toNat : Int) yk y = pure (An (x <<< y.toNat)) := by
 rw [shift_shl_any _ _ _ _ h];unfold An;rw [IntKind.wrap_u64, BitVec.toNat_shiftLeft, Nat.shiftLeft_eq, ← Ou];simp [IntKind.bits]
@[go_sem] theorem Zge (x y : BitVec 64) : binOp .shr t (An x) (An y) = pure (An (x >>> y.toNat)) := L1 x .u64 _ (by omega)
@[go_sem] theorem Zgp (x y : BitVec 64) : binOp .shl t (An x) (An y) = pure (An (x <<< y.toNat)) := L5 x .u64 _ (by omega)
@[go_sem] theorem Zgb (x : BitVec 64) (y : Int) (h : 0 ≤ y) : binOp .shr t (An x) (.int .i64 y) = pure (An (x >>> y.toNat)) := L1 x .i64 _ h
@[go_sem] theorem Zgm (x : BitVec 64) (y : Int) (h : 0 ≤ y) : binOp .shl t (An x) (.int .i64 y) = pure (An (x <<< y.toNat)) := L5 x .i64 _ h
@[go_sem] theorem Uw (a b : BitVec 64) : binOp .eql t (An a) (An b) = pure (.bool (G1 a b)) := by
 show binOp .eql t (.int .u64 _) (.int .u64 _) = _
 rw [binOp_eql];congr 2
 rw [Bool.eq_iff_iff]; simp [G1, BitVec.toNat_eq]; omega
@[go_sem] theorem SO (a b : BitVec 64) : binOp .neq t (An a) (An b) = pure (.bool (!G1 a b)) := by
 show binOp .neq t (.int .u64 _) (.int .u64 _) = _
 rw [binOp_neq];congr 2
 rw [Bool.eq_iff_iff]; simp [G1, BitVec.toNat_eq]; omega
@[go_sem] theorem Uv (a b : UInt8) : binOp .eql t (w8 a) (w8 b) = pure (.bool (G0 a b)) := by
 show binOp .eql t (.int .u8 _) (.int .u8 _) = _
 rw [binOp_eql];congr 2
 rw [Bool.eq_iff_iff]; simp [G0, ← UInt8.toNat_inj]; omega
@[go_sem] theorem SN (a b : UInt8) : binOp .neq t (w8 a) (w8 b) = pure (.bool (!G0 a b)) := by
 show binOp .neq t (.int .u8 _) (.int .u8 _) = _
 rw [binOp_neq];congr 2
 rw [Bool.eq_iff_iff]; simp [G0, ← UInt8.toNat_inj]; omega
@[go_sem] theorem Tg (a b : UInt8) : binOp .leq t (w8 a) (w8 b) = pure (.bool (GS a b)) := by
 show binOp .leq t (.int .u8 _) (.int .u8 _) = _
 rw [binOp_leq];congr 2
 rw [Bool.eq_iff_iff]; simp [GS]
@[go_sem] theorem Ta (a b : UInt8) : binOp .lss t (w8 a) (w8 b) = pure (.bool (GR a b)) := by
 show binOp .lss t (.int .u8 _) (.int .u8 _) = _
 rw [binOp_lss];congr 2
 rw [Bool.eq_iff_iff]; simp [GR]
@[go_sem] theorem TO (a b : UInt8) : binOp .geq t (w8 a) (w8 b) = pure (.bool (GS b a)) := by
 show binOp .geq t (.int .u8 _) (.int .u8 _) = _
 rw [binOp_geq];congr 2
 rw [Bool.eq_iff_iff]; simp [GS]
@[go_sem] theorem TN (a b : UInt8) : binOp .gtr t (w8 a) (w8 b) = pure (.bool (GR b a)) := by
 show binOp .gtr t (.int .u8 _) (.int .u8 _) = _
 rw [binOp_gtr];congr 2
 rw [Bool.eq_iff_iff]; simp [GR]
@[go_sem] theorem WA (a b : UInt8) : binOp .add t (w8 a) (w8 b) = pure (w8 (a + b)) := by
 show binOp .add t (.int .u8 _) (.int .u8 _) = _
 rw [binOp_add];show pure (Value.int .u8 (IntKind.u8.wrap ((a.toNat : Int) + (b.toNat : Int)))) = _
 unfold w8;rw [IntKind.wrap_u8', UInt8.toNat_add];congr 2
@[go_sem] theorem QO (a b : UInt8) : binOp .sub t (w8 a) (w8 b) = pure (w8 (a - b)) := by
 show binOp .sub t (.int .u8 _) (.int .u8 _) = _
 rw [binOp_sub];show pure (Value.int .u8 (IntKind.u8.wrap ((a.toNat : Int) - (b.toNat : Int)))) = _
 unfold w8;rw [IntKind.wrap_u8', UInt8.toNat_sub];congr 2
 have := a.toNat_lt;have := b.toNat_lt;omega
@[go_sem] theorem SU (a b : UInt8) : binOp .mul t (w8 a) (w8 b) = pure (w8 (a * b)) := by
 show binOp .mul t (.int .u8 _) (.int .u8 _) = _
 rw [binOp_mul];show pure (Value.int .u8 (IntKind.u8.wrap ((a.toNat : Int) * (b.toNat : Int)))) = _
 unfold w8;rw [IntKind.wrap_u8', UInt8.toNat_mul];congr 2
@[go_sem] theorem Wq (a b : UInt8) : binOp .and t (w8 a) (w8 b) = pure (w8 (a &&& b)) := by
 show binOp .and t (.int .u8 _) (.int .u8 _) = _
 rw [binOp_and, intBits_and, u8_and_nat _ _ a.toNat_lt b.toNat_lt, ← UInt8.toNat_and]; rfl
@[go_sem] theorem Sx (a b : UInt8) : binOp .or t (w8 a) (w8 b) = pure (w8 (a ||| b)) := by
 show binOp .or t (.int .u8 _) (.int .u8 _) = _
 rw [binOp_or, intBits_or, u8_or_nat _ _ a.toNat_lt b.toNat_lt, ← UInt8.toNat_or]; rfl
@[go_sem] theorem PZ (a b : UInt8) : binOp .xor t (w8 a) (w8 b) = pure (w8 (a ^^^ b)) := by
 show binOp .xor t (.int .u8 _) (.int .u8 _) = _
 rw [binOp_xor, intBits_xor, u8_xor_nat _ _ a.toNat_lt b.toNat_lt, ← UInt8.toNat_xor]; rfl
def IZ (x : UInt8) (n : Nat) : UInt8 := UInt8.ofNat (x.toNat / 2 ^ n)
def I1 (x : UInt8) (n : Nat) : UInt8 := UInt8.ofNat (x.toNat * 2 ^ n)
theorem L0 (x : UInt8) (yk : IntKind) (y : Int) (h : 0 ≤ y) : Op.shift .shr .u8 (x.toNat : Int) yk y = pure (w8 (IZ x y.toNat)) := by
 rw [shift_shr_any _ _ _ _ h];have hx := x.toNat_lt;have hd : x.toNat / 2 ^ y.toNat < 256 := Nat.lt_of_le_of_lt (Nat.div_le_self _ _) hx;unfold w8 IZ;rw [UInt8.toNat_ofNat', Nat.mod_eq_of_lt hd, ← Ot _ _ 8 hx];simp [IntKind.bits]
theorem L4 (x : UInt8) (yk : IntKind) (y : Int) (h : 0 ≤ y) : Op.shift .shl .u8 (x.toNat : Int) yk y = pure (w8 (I1 x y.toNat)) := by
 rw [shift_shl_any _ _ _ _ h];unfold w8 I1;rw [IntKind.wrap_u8', UInt8.toNat_ofNat', ← Ou];simp [IntKind.bits]
@[go_sem] theorem Zga (x : UInt8) (y : BitVec 64) : binOp .shr t (w8 x) (An y) = pure (w8 (IZ x y.toNat)) := L0 x .u64 _ (by omega)
@[go_sem] theorem Zgl (x : UInt8) (y : BitVec 64) : binOp .shl t (w8 x) (An y) = pure (w8 (I1 x y.toNat)) := L4 x .u64 _ (by omega)
@[go_sem] theorem Zf7 (x : UInt8) (y : Int) (h : 0 ≤ y) : binOp .shr t (w8 x) (.int .i64 y) = pure (w8 (IZ x y.toNat)) := L0 x .i64 _ h
@[go_sem] theorem Zgi (x : UInt8) (y : Int) (h : 0 ≤ y) : binOp .shl t (w8 x) (.int .i64 y) = pure (w8 (I1 x y.toNat)) := L4 x .i64 _ h
@[go_sem] theorem Zbn (a b : UInt8) (h : b.toNat ≠ 0) : binOp .quo t (w8 a) (w8 b) = pure (w8 (a / b)) := by
 show binOp .quo t (.int .u8 _) (.int .u8 _) = _
 rw [binOp_quo];have ha := a.toNat_lt;have hb := b.toNat_lt;have hz' : ¬ (b.toNat : Int) = 0 := by omega
 unfold w8;rw [UInt8.toNat_div];have hd : a.toNat / b.toNat < 256 := Nat.lt_of_le_of_lt (Nat.div_le_self _ _) ha;simp only [Op.intDiv, if_neg hz', IntKind.wrap_u8'];congr 2
 rw [← Int.ofNat_tdiv];generalize a.toNat / b.toNat = q at hd ⊢;omega
@[go_sem] theorem Zaz (a b : UInt8) (h : b.toNat ≠ 0) : binOp .rem t (w8 a) (w8 b) = pure (w8 (a % b)) := by
 show binOp .rem t (.int .u8 _) (.int .u8 _) = _
 rw [binOp_rem];have ha := a.toNat_lt;have hz' : ¬ (b.toNat : Int) = 0 := by omega
 unfold w8;rw [UInt8.toNat_mod];have hd : a.toNat % b.toNat < 256 := Nat.lt_of_le_of_lt (Nat.mod_le _ _) ha;simp only [Op.intDiv, if_neg hz'];congr 2
@[go_sem] theorem ZhF (a : UInt8) (n : Nat) (h : n < 256) : binOp .add t (w8 a) (.int .u8 (no_index (OfNat.ofNat n))) = pure (w8 (a + (UInt8.ofNat n))) := by rw [B3 n h, WA]
@[go_sem] theorem ZhG (a : UInt8) (n : Nat) (h : n < 256) : binOp .add t (.int .u8 (no_index (OfNat.ofNat n))) (w8 a) = pure (w8 ((UInt8.ofNat n) + a)) := by rw [B3 n h, WA]
@[go_sem] theorem Zf1 (a : UInt8) (n : Nat) (h : n < 256) : binOp .sub t (w8 a) (.int .u8 (no_index (OfNat.ofNat n))) = pure (w8 (a - (UInt8.ofNat n))) := by rw [B3 n h, QO]
@[go_sem] theorem Zf2 (a : UInt8) (n : Nat) (h : n < 256) : binOp .sub t (.int .u8 (no_index (OfNat.ofNat n))) (w8 a) = pure (w8 ((UInt8.ofNat n) - a)) := by rw [B3 n h, QO]
@[go_sem] theorem ZgP (a : UInt8) (n : Nat) (h : n < 256) : binOp .mul t (w8 a) (.int .u8 (no_index (OfNat.ofNat n))) = pure (w8 (a * (UInt8.ofNat n))) := by rw [B3 n h, SU]
@[go_sem] theorem ZgQ (a : UInt8) (n : Nat) (h : n < 256) : binOp .mul t (.int .u8 (no_index (OfNat.ofNat n))) (w8 a) = pure (w8 ((UInt8.ofNat n) * a)) := by rw [B3 n h, SU]
@[go_sem] theorem Zhz (a : UInt8) (n : Nat) (h : n < 256) : binOp .and t (w8 a) (.int .u8 (no_index (OfNat.ofNat n))) = pure (w8 (a &&& (UInt8.ofNat n))) := by rw [B3 n h, Wq]
@[go_sem] theorem ZhA (a : UInt8) (n : Nat) (h : n < 256) : binOp .and t (.int .u8 (no_index (OfNat.ofNat n))) (w8 a) = pure (w8 ((UInt8.ofNat n) &&& a)) := by rw [B3 n h, Wq]
@[go_sem] theorem ZgC (a : UInt8) (n : Nat) (h : n < 256) : binOp .or t (w8 a) (.int .u8 (no_index (OfNat.ofNat n))) = pure (w8 (a ||| (UInt8.ofNat n))) := by rw [B3 n h, Sx]
@[go_sem] theorem ZgD (a : UInt8) (n : Nat) (h : n < 256) : binOp .or t (.int .u8 (no_index (OfNat.ofNat n))) (w8 a) = pure (w8 ((UInt8.ofNat n) ||| a)) := by rw [B3 n h, Sx]
@[go_sem] theorem ZfQ (a : UInt8) (n : Nat) (h : n < 256) : binOp .xor t (w8 a) (.int .u8 (no_index (OfNat.ofNat n))) = pure (w8 (a ^^^ (UInt8.ofNat n))) := by rw [B3 n h, PZ]
@[go_sem] theorem ZfR (a : UInt8) (n : Nat) (h : n < 256) : binOp .xor t (.int .u8 (no_index (OfNat.ofNat n))) (w8 a) = pure (w8 ((UInt8.ofNat n) ^^^ a)) := by rw [B3 n h, PZ]
@[go_sem] theorem Zhb (a : UInt8) (n : Nat) (h : n < 256) : binOp .eql t (w8 a) (.int .u8 (no_index (OfNat.ofNat n))) = pure (.bool (G0 a (UInt8.ofNat n))) := by rw [B3 n h, Uv]
@[go_sem] theorem Zhc (a : UInt8) (n : Nat) (h : n < 256) : binOp .eql t (.int .u8 (no_index (OfNat.ofNat n))) (w8 a) = pure (.bool (G0 (UInt8.ofNat n) a)) := by rw [B3 n h, Uv]
@[go_sem] theorem ZgJ (a : UInt8) (n : Nat) (h : n < 256) : binOp .neq t (w8 a) (.int .u8 (no_index (OfNat.ofNat n))) = pure (.bool (!G0 a (UInt8.ofNat n))) := by rw [B3 n h, SN]
@[go_sem] theorem ZgK (a : UInt8) (n : Nat) (h : n < 256) : binOp .neq t (.int .u8 (no_index (OfNat.ofNat n))) (w8 a) = pure (.bool (!G0 (UInt8.ofNat n) a)) := by rw [B3 n h, SN]
@[go_sem] theorem ZgX (a : UInt8) (n : Nat) (h : n < 256) : binOp .leq t (w8 a) (.int .u8 (no_index (OfNat.ofNat n))) = pure (.bool (GS a (UInt8.ofNat n))) := by rw [B3 n h, Tg]
@[go_sem] theorem ZgY (a : UInt8) (n : Nat) (h : n < 256) : binOp .leq t (.int .u8 (no_index (OfNat.ofNat n))) (w8 a) = pure (.bool (GS (UInt8.ofNat n) a)) := by rw [B3 n h, Tg]
@[go_sem] theorem ZgV (a : UInt8) (n : Nat) (h : n < 256) : binOp .lss t (w8 a) (.int .u8 (no_index (OfNat.ofNat n))) = pure (.bool (GR a (UInt8.ofNat n))) := by rw [B3 n h, Ta]
@[go_sem] theorem ZgW (a : UInt8) (n : Nat) (h : n < 256) : binOp .lss t (.int .u8 (no_index (OfNat.ofNat n))) (w8 a) = pure (.bool (GR (UInt8.ofNat n) a)) := by rw [B3 n h, Ta]
@[go_sem] theorem Zg7 (a : UInt8) (n : Nat) (h : n < 256) : binOp .geq t (w8 a) (.int .u8 (no_index (OfNat.ofNat n))) = pure (.bool (GS (UInt8.ofNat n) a)) := by rw [B3 n h, TO]
@[go_sem] theorem Zg8 (a : UInt8) (n : Nat) (h : n < 256) : binOp .geq t (.int .u8 (no_index (OfNat.ofNat n))) (w8 a) = pure (.bool (GS a (UInt8.ofNat n))) := by rw [B3 n h, TO]
@[go_sem] theorem Zg5 (a : UInt8) (n : Nat) (h : n < 256) : binOp .gtr t (w8 a) (.int .u8 (no_index (OfNat.ofNat n))) = pure (.bool (GR (UInt8.ofNat n) a)) := by rw [B3 n h, TN]
@[go_sem] theorem Zg6 (a : UInt8) (n : Nat) (h : n < 256) : binOp .gtr t (.int .u8 (no_index (OfNat.ofNat n))) (w8 a) = pure (.bool (GR a (UInt8.ofNat n))) := by rw [B3 n h, TN]
@[go_sem] theorem Zg2 (op : BinOp) (x y : Operand) (a : UInt8) (v : Value) : eqGuard op t x y (w8 a) v = pure () := by cases op <;> cases v <;> rfl
@[go_sem] theorem Zg1 (op : BinOp) (x y : Operand) (k : IntKind) (n : Int) (v : Value) : eqGuard op t x y (.int k n) v = pure () := by cases op <;> cases v <;> rfl
@[go_sem] theorem ZhJ (a : BitVec 32) (n : Nat) (h : n < 4294967296) : binOp .add t (Ag a) (.int .u32 (no_index (OfNat.ofNat n))) = pure (Ag (a + (BitVec.ofNat 32 n))) := by rw [Dj n h, WC]
@[go_sem] theorem ZhK (a : BitVec 32) (n : Nat) (h : n < 4294967296) : binOp .add t (.int .u32 (no_index (OfNat.ofNat n))) (Ag a) = pure (Ag ((BitVec.ofNat 32 n) + a)) := by rw [Dj n h, WC]
@[go_sem] theorem Zf5 (a : BitVec 32) (n : Nat) (h : n < 4294967296) : binOp .sub t (Ag a) (.int .u32 (no_index (OfNat.ofNat n))) = pure (Ag (a - (BitVec.ofNat 32 n))) := by rw [Dj n h, QQ]
@[go_sem] theorem Zf6 (a : BitVec 32) (n : Nat) (h : n < 4294967296) : binOp .sub t (.int .u32 (no_index (OfNat.ofNat n))) (Ag a) = pure (Ag ((BitVec.ofNat 32 n) - a)) := by rw [Dj n h, QQ]
@[go_sem] theorem ZgT (a : BitVec 32) (n : Nat) (h : n < 4294967296) : binOp .mul t (Ag a) (.int .u32 (no_index (OfNat.ofNat n))) = pure (Ag (a * (BitVec.ofNat 32 n))) := by rw [Dj n h, SX]
@[go_sem] theorem ZgU (a : BitVec 32) (n : Nat) (h : n < 4294967296) : binOp .mul t (.int .u32 (no_index (OfNat.ofNat n))) (Ag a) = pure (Ag ((BitVec.ofNat 32 n) * a)) := by rw [Dj n h, SX]
@[go_sem] theorem ZhD (a : BitVec 32) (n : Nat) (h : n < 4294967296) : binOp .and t (Ag a) (.int .u32 (no_index (OfNat.ofNat n))) = pure (Ag (a &&& (BitVec.ofNat 32 n))) := by rw [Dj n h, Ws]
@[go_sem] theorem ZhE (a : BitVec 32) (n : Nat) (h : n < 4294967296) : binOp .and t (.int .u32 (no_index (OfNat.ofNat n))) (Ag a) = pure (Ag ((BitVec.ofNat 32 n) &&& a)) := by rw [Dj n h, Ws]
@[go_sem] theorem ZgG (a : BitVec 32) (n : Nat) (h : n < 4294967296) : binOp .or t (Ag a) (.int .u32 (no_index (OfNat.ofNat n))) = pure (Ag (a ||| (BitVec.ofNat 32 n))) := by rw [Dj n h, SA]
@[go_sem] theorem ZgH (a : BitVec 32) (n : Nat) (h : n < 4294967296) : binOp .or t (.int .u32 (no_index (OfNat.ofNat n))) (Ag a) = pure (Ag ((BitVec.ofNat 32 n) ||| a)) := by rw [Dj n h, SA]
@[go_sem] theorem ZfU (a : BitVec 32) (n : Nat) (h : n < 4294967296) : binOp .xor t (Ag a) (.int .u32 (no_index (OfNat.ofNat n))) = pure (Ag (a ^^^ (BitVec.ofNat 32 n))) := by rw [Dj n h, P1]
@[go_sem] theorem ZfV (a : BitVec 32) (n : Nat) (h : n < 4294967296) : binOp .xor t (.int .u32 (no_index (OfNat.ofNat n))) (Ag a) = pure (Ag ((BitVec.ofNat 32 n) ^^^ a)) := by rw [Dj n h, P1]
@[go_sem] theorem Zhf (a : BitVec 32) (n : Nat) (h : n < 4294967296) : binOp .eql t (Ag a) (.int .u32 (no_index (OfNat.ofNat n))) = pure (.bool (ES a (BitVec.ofNat 32 n))) := by rw [Dj n h, Ux]
@[go_sem] theorem Zhg (a : BitVec 32) (n : Nat) (h : n < 4294967296) : binOp .eql t (.int .u32 (no_index (OfNat.ofNat n))) (Ag a) = pure (.bool (ES (BitVec.ofNat 32 n) a)) := by rw [Dj n h, Ux]
@[go_sem] theorem ZgN (a : BitVec 32) (n : Nat) (h : n < 4294967296) : binOp .neq t (Ag a) (.int .u32 (no_index (OfNat.ofNat n))) = pure (.bool (!ES a (BitVec.ofNat 32 n))) := by rw [Dj n h, SP]
@[go_sem] theorem ZgO (a : BitVec 32) (n : Nat) (h : n < 4294967296) : binOp .neq t (.int .u32 (no_index (OfNat.ofNat n))) (Ag a) = pure (.bool (!ES (BitVec.ofNat 32 n) a)) := by rw [Dj n h, SP]
@[go_sem] theorem Zg4 (op : BinOp) (x y : Operand) (a : BitVec 32) (v : Value) : eqGuard op t x y (Ag a) v = pure () := by cases op <;> cases v <;> rfl
@[go_sem] theorem ZhH (a : BitVec 64) (n : Nat) (h : n < 18446744073709551616) : binOp .add t (An a) (.int .u64 (no_index (OfNat.ofNat n))) = pure (An (a + (BitVec.ofNat 64 n))) := by rw [DT n h, WB]
@[go_sem] theorem ZhI (a : BitVec 64) (n : Nat) (h : n < 18446744073709551616) : binOp .add t (.int .u64 (no_index (OfNat.ofNat n))) (An a) = pure (An ((BitVec.ofNat 64 n) + a)) := by rw [DT n h, WB]
@[go_sem] theorem Zf3 (a : BitVec 64) (n : Nat) (h : n < 18446744073709551616) : binOp .sub t (An a) (.int .u64 (no_index (OfNat.ofNat n))) = pure (An (a - (BitVec.ofNat 64 n))) := by rw [DT n h, QP]
@[go_sem] theorem Zf4 (a : BitVec 64) (n : Nat) (h : n < 18446744073709551616) : binOp .sub t (.int .u64 (no_index (OfNat.ofNat n))) (An a) = pure (An ((BitVec.ofNat 64 n) - a)) := by rw [DT n h, QP]
@[go_sem] theorem ZgR (a : BitVec 64) (n : Nat) (h : n < 18446744073709551616) : binOp .mul t (An a) (.int .u64 (no_index (OfNat.ofNat n))) = pure (An (a * (BitVec.ofNat 64 n))) := by rw [DT n h, SW]
@[go_sem] theorem ZgS (a : BitVec 64) (n : Nat) (h : n < 18446744073709551616) : binOp .mul t (.int .u64 (no_index (OfNat.ofNat n))) (An a) = pure (An ((BitVec.ofNat 64 n) * a)) := by rw [DT n h, SW]
@[go_sem] theorem ZhB (a : BitVec 64) (n : Nat) (h : n < 18446744073709551616) : binOp .and t (An a) (.int .u64 (no_index (OfNat.ofNat n))) = pure (An (a &&& (BitVec.ofNat 64 n))) := by rw [DT n h, Wr]
@[go_sem] theorem ZhC (a : BitVec 64) (n : Nat) (h : n < 18446744073709551616) : binOp .and t (.int .u64 (no_index (OfNat.ofNat n))) (An a) = pure (An ((BitVec.ofNat 64 n) &&& a)) := by rw [DT n h, Wr]
@[go_sem] theorem ZgE (a : BitVec 64) (n : Nat) (h : n < 18446744073709551616) : binOp .or t (An a) (.int .u64 (no_index (OfNat.ofNat n))) = pure (An (a ||| (BitVec.ofNat 64 n))) := by rw [DT n h, Sy]
@[go_sem] theorem ZgF (a : BitVec 64) (n : Nat) (h : n < 18446744073709551616) : binOp .or t (.int .u64 (no_index (OfNat.ofNat n))) (An a) = pure (An ((BitVec.ofNat 64 n) ||| a)) := by rw [DT n h, Sy]
@[go_sem] theorem ZfS (a : BitVec 64) (n : Nat) (h : n < 18446744073709551616) : binOp .xor t (An a) (.int .u64 (no_index (OfNat.ofNat n))) = pure (An (a ^^^ (BitVec.ofNat 64 n))) := by rw [DT n h, P0]
@[go_sem] theorem ZfT (a : BitVec 64) (n : Nat) (h : n < 18446744073709551616) : binOp .xor t (.int .u64 (no_index (OfNat.ofNat n))) (An a) = pure (An ((BitVec.ofNat 64 n) ^^^ a)) := by rw [DT n h, P0]
@[go_sem] theorem Zhd (a : BitVec 64) (n : Nat) (h : n < 18446744073709551616) : binOp .eql t (An a) (.int .u64 (no_index (OfNat.ofNat n))) = pure (.bool (G1 a (BitVec.ofNat 64 n))) := by rw [DT n h, Uw]
@[go_sem] theorem Zhe (a : BitVec 64) (n : Nat) (h : n < 18446744073709551616) : binOp .eql t (.int .u64 (no_index (OfNat.ofNat n))) (An a) = pure (.bool (G1 (BitVec.ofNat 64 n) a)) := by rw [DT n h, Uw]
@[go_sem] theorem ZgL (a : BitVec 64) (n : Nat) (h : n < 18446744073709551616) : binOp .neq t (An a) (.int .u64 (no_index (OfNat.ofNat n))) = pure (.bool (!G1 a (BitVec.ofNat 64 n))) := by rw [DT n h, SO]
@[go_sem] theorem ZgM (a : BitVec 64) (n : Nat) (h : n < 18446744073709551616) : binOp .neq t (.int .u64 (no_index (OfNat.ofNat n))) (An a) = pure (.bool (!G1 (BitVec.ofNat 64 n) a)) := by rw [DT n h, SO]
@[go_sem] theorem Zg3 (op : BinOp) (x y : Operand) (a : BitVec 64) (v : Value) : eqGuard op t x y (An a) v = pure () := by cases op <;> cases v <;> rfl
@[go_sem] theorem Zf8 (a : UInt8) (n : Nat) : binOp .shr t (w8 a) (.int .u64 (no_index (OfNat.ofNat n))) = pure (w8 (IZ a n)) := L0 a .u64 _ (Int.natCast_nonneg n)
@[go_sem] theorem Zf9 (a : UInt8) (n : Nat) : binOp .shr t (w8 a) (.int .i64 (no_index (OfNat.ofNat n))) = pure (w8 (IZ a n)) := L0 a .i64 _ (Int.natCast_nonneg n)
@[go_sem] theorem Zgj (a : UInt8) (n : Nat) : binOp .shl t (w8 a) (.int .u64 (no_index (OfNat.ofNat n))) = pure (w8 (I1 a n)) := L4 a .u64 _ (Int.natCast_nonneg n)
@[go_sem] theorem Zgk (a : UInt8) (n : Nat) : binOp .shl t (w8 a) (.int .i64 (no_index (OfNat.ofNat n))) = pure (w8 (I1 a n)) := L4 a .i64 _ (Int.natCast_nonneg n)
@[go_sem] theorem Zgg (a : BitVec 32) (n : Nat) : binOp .shr t (Ag a) (.int .u64 (no_index (OfNat.ofNat n))) = pure (Ag (a >>> n)) := L2 a .u64 _ (Int.natCast_nonneg n)
@[go_sem] theorem Zgh (a : BitVec 32) (n : Nat) : binOp .shr t (Ag a) (.int .i64 (no_index (OfNat.ofNat n))) = pure (Ag (a >>> n)) := L2 a .i64 _ (Int.natCast_nonneg n)
@[go_sem] theorem Zgr (a : BitVec 32) (n : Nat) : binOp .shl t (Ag a) (.int .u64 (no_index (OfNat.ofNat n))) = pure (Ag (a <<< n)) := L6 a .u64 _ (Int.natCast_nonneg n)
@[go_sem] theorem Zgs (a : BitVec 32) (n : Nat) : binOp .shl t (Ag a) (.int .i64 (no_index (OfNat.ofNat n))) = pure (Ag (a <<< n)) := L6 a .i64 _ (Int.natCast_nonneg n)
@[go_sem] theorem Zgc (a : BitVec 64) (n : Nat) : binOp .shr t (An a) (.int .u64 (no_index (OfNat.ofNat n))) = pure (An (a >>> n)) := L1 a .u64 _ (Int.natCast_nonneg n)
@[go_sem] theorem Zgd (a : BitVec 64) (n : Nat) : binOp .shr t (An a) (.int .i64 (no_index (OfNat.ofNat n))) = pure (An (a >>> n)) := L1 a .i64 _ (Int.natCast_nonneg n)
@[go_sem] theorem Zgn (a : BitVec 64) (n : Nat) : binOp .shl t (An a) (.int .u64 (no_index (OfNat.ofNat n))) = pure (An (a <<< n)) := L5 a .u64 _ (Int.natCast_nonneg n)
@[go_sem] theorem Zgo (a : BitVec 64) (n : Nat) : binOp .shl t (An a) (.int .i64 (no_index (OfNat.ofNat n))) = pure (An (a <<< n)) := L5 a .i64 _ (Int.natCast_nonneg n)
@[go_sem] theorem Zgz (a : UInt8) (n : Nat) (h : n < 256) (h0 : 0 < n) : binOp .quo t (w8 a) (.int .u8 (no_index (OfNat.ofNat n))) = pure (w8 (a / (UInt8.ofNat n))) := by
 rw [B3 n h, Zbn]; rw [UInt8.toNat_ofNat', Nat.mod_eq_of_lt h]; omega
@[go_sem] theorem Zgx (a : UInt8) (n : Nat) (h : n < 256) (h0 : 0 < n) : binOp .rem t (w8 a) (.int .u8 (no_index (OfNat.ofNat n))) = pure (w8 (a % (UInt8.ofNat n))) := by
 rw [B3 n h, Zaz]; rw [UInt8.toNat_ofNat', Nat.mod_eq_of_lt h]; omega
@[go_sem] theorem ZfX (n : Int) : Value.int .u64 (IntKind.u64.wrap n) = An (BitVec.ofInt 64 n) := by
 unfold An; rw [IntKind.wrap_u64, BitVec.toNat_ofInt]; congr 1; omega
@[go_sem] theorem ZfY (n : Int) : Value.int .u32 (IntKind.u32.wrap n) = Ag (BitVec.ofInt 32 n) := by
 unfold Ag; rw [IntKind.wrap_u32', BitVec.toNat_ofInt]; congr 1; omega
@[go_sem] theorem ZfW (n : Int) : Value.int .u8 (IntKind.u8.wrap n) = w8 (UInt8.ofInt n) := by
 unfold w8; rw [IntKind.wrap_u8']; congr 1;have h : ((UInt8.ofInt n).toNat : Int) = n % 256 := by
  show (((UInt8.ofNat (n % 2 ^ 8).toNat).toNat : Nat) : Int) = _
  rw [UInt8.toNat_ofNat'];omega
 omega
variable (src dst : TypeId)
theorem conv (k : IntKind) (v : Value) (n : Int) (hv : v = .int k n) (kd : IntKind) (hs : (P.underlying src).isSome = true) (hd : P.underlying dst = some (.int kd)) :
  (convert src dst v).run P w = .ok (.int kd (kd.wrap n)) w := by
 have hk : P.intKind dst = kd := by
  unfold Program.intKind;rw [hd]
 subst hv;rw [run_convert_int w src dst k n hs (by rw [hk, hd]), hk]
@[go_sem] theorem Zhm (b : UInt8) (hs : (P.underlying src).isSome = true) (hd : P.underlying dst = some (.int .u32)) : (convert src dst (w8 b)).run P w = .ok (Ag (bw b)) w := by
 rw [conv w src dst .u8 (w8 b) (b.toNat : Int) rfl .u32 hs hd, P8]
 unfold Ag bw;rw [BitVec.toNat_ofNat, BitVec.toNat_setWidth]; rfl
@[go_sem] theorem Zhl (b : UInt8) (hs : (P.underlying src).isSome = true) (hd : P.underlying dst = some (.int .u64)) : (convert src dst (w8 b)).run P w = .ok (An (bq b)) w := by
 rw [conv w src dst .u8 (w8 b) (b.toNat : Int) rfl .u64 hs hd, Nt]
 unfold An bq;rw [BitVec.toNat_ofNat, BitVec.toNat_setWidth]; rfl
@[go_sem] theorem Zhk (b : UInt8) (hs : (P.underlying src).isSome = true) (hd : P.underlying dst = some (.int .i64)) : (convert src dst (w8 b)).run P w = .ok (.int .i64 (b.toNat : Int)) w := by
 have := b.toNat_lt;rw [conv w src dst .u8 (w8 b) (b.toNat : Int) rfl .i64 hs hd, IntKind.wrap_i64]
 have e : ((b.toNat : Int) + 9223372036854775808) % 18446744073709551616 - 9223372036854775808 = b.toNat := by omega
 rw [e]
@[go_sem] theorem Zhp (x : BitVec 32) (hs : (P.underlying src).isSome = true) (hd : P.underlying dst = some (.int .u8)) : (convert src dst (Ag x)).run P w = .ok (w8 (wb x)) w := by
 rw [conv w src dst .u32 (Ag x) (x.toNat : Int) rfl .u8 hs hd, Ns]
 congr 2
@[go_sem] theorem Zho (x : BitVec 64) (hs : (P.underlying src).isSome = true) (hd : P.underlying dst = some (.int .u8)) : (convert src dst (An x)).run P w = .ok (w8 (qb x)) w := by
 rw [conv w src dst .u64 (An x) (x.toNat : Int) rfl .u8 hs hd, Ns]
 congr 2
@[go_sem] theorem Zhh (n : Int) (hs : (P.underlying src).isSome = true) (hd : P.underlying dst = some (.int .u8)) : (convert src dst (.int .i64 n)).run P w = .ok (w8 (UInt8.ofInt n)) w := by
 rw [conv w src dst .i64 _ _ rfl .u8 hs hd, IntKind.wrap_u8']
 congr 2
 have h : ((UInt8.ofInt n).toNat : Int) = n % 256 := by
  show (((UInt8.ofNat (n % 2 ^ 8).toNat).toNat : Nat) : Int) = _
  rw [UInt8.toNat_ofNat'];omega
 omega
@[go_sem] theorem Zhi (n : Int) (hs : (P.underlying src).isSome = true) (hd : P.underlying dst = some (.int .u64)) : (convert src dst (.int .i64 n)).run P w = .ok (An (BitVec.ofInt 64 n)) w := by
 rw [conv w src dst .i64 _ _ rfl .u64 hs hd, IntKind.wrap_u64]
 congr 2
 rw [BitVec.toNat_ofInt];omega
@[go_sem] theorem Zhn (x : BitVec 64) (hs : (P.underlying src).isSome = true) (hd : P.underlying dst = some (.int .i64)) : (convert src dst (An x)).run P w = .ok (.int .i64 (OR x)) w := by
 rw [conv w src dst .u64 (An x) (x.toNat : Int) rfl .i64 hs hd, IntKind.wrap_i64]
 have := x.isLt;have e : ((x.toNat : Int) + 9223372036854775808) % 18446744073709551616 - 9223372036854775808 = x.toInt := by
  rw [BitVec.toInt_eq_toNat_cond];split <;> omega
 rw [e]; rfl
end
end
end
section
section
open Go Go.RowKit
theorem block_add (a : Addr) (n : Nat) : (a.add n).block = a.block := by unfold Addr.add; split <;> rfl
theorem G7 {B : Nat} {a w : World} (h : Below B a w) (n : Nat) : Below B a (w.drewN n) := ⟨h.os, h.tape, h.output, h.size, h.block⟩
def DY (P : Program) (t e : TypeId) (size bytes : Nat) : Prop :=
 P.underlying t = some (.slice e) ∧ 0 < size ∧ ∃ i z, P.info? e = some i ∧ i.zero = some z ∧ i.size = size ∧ i.bytes = bytes ∧ z.cells.size = size
theorem DY.mk' {P : Program} {t e : TypeId} {size bytes : Nat} {z : Value} (ht : P.underlying t = some (.slice e))
  (hinfo : (P.info? e).map (fun i => (i.zero, i.size, i.bytes)) = some (some z, size, bytes)) (hz : z.cells.size = size) (h0 : 0 < size) : DY P t e size bytes := by
 obtain ⟨i, hi, h1⟩ := Option.map_eq_some_iff.1 hinfo;simp only [Prod.mk.injEq] at h1;exact ⟨ht, h0, i, z, hi, h1.1, h1.2.1, h1.2.2, hz⟩
def Rd (w : World) (B size : Nat) (v : Value) (xs : List Value) : Prop :=
 ∃ A n c, v = .slice A n c ∧ n ≤ c ∧ xs.length = n * size ∧ (0 < n → ∃ ad, A = some ad ∧ ad.block < B ∧ ∀ j u, xs[j]? = some u → w.cell? (ad.add j) = some u)
section
variable {w w' : World} {B B' size : Nat} {v : Value} {xs : List Value}
theorem Rd.nil (w : World) (B size : Nat) : Rd w B size (.slice none 0 0) [] := ⟨none, 0, 0, rfl, Nat.le_refl _, by simp, fun h => absurd h (by omega)⟩
theorem Rd.keep (h : Rd w B size v xs) (hk : ∀ p : Addr, p.block < B → w'.cell? p = w.cell? p) : Rd w' B size v xs := by
 obtain ⟨A, n, c, hv, hc, hl, hr⟩ := h;refine ⟨A, n, c, hv, hc, hl, fun hn => ?_⟩
 obtain ⟨ad, e, hb, hcell⟩ := hr hn;exact ⟨ad, e, hb, fun j u hu => (hk _ (by rw [block_add]; exact hb)).trans (hcell j u hu)⟩
theorem Rd.below (h : Rd w B size v xs) (hb : Below B w w') : Rd w' B size v xs := h.keep fun _ hp => hb.cell hp
theorem Rd.alloc (h : Rd w B size v xs) (hB : B ≤ w.heap.size) (o : Obj) : Rd (w.alloc o) B size v xs := h.keep fun p hp => World.cell?_alloc_lt w o p (by omega)
theorem Rd.len (h : Rd w B 1 v xs) : ∃ A c, v = .slice A xs.length c ∧ xs.length ≤ c := by
 obtain ⟨A, n, c, hv, hc, hl, _⟩ := h;obtain rfl : xs.length = n := by omega
 exact ⟨A, c, hv, hc⟩
theorem Rd.open1 (h : Rd w B 1 v xs) : ∃ A c, v = .slice A xs.length c ∧ xs.length ≤ c ∧ ∀ k, k < xs.length → ∃ ad, A = some ad ∧ ad.block < B ∧ ∀ j u, xs[j]? = some u → w.cell? (ad.add j) = some u := by
 obtain ⟨A, n, c, hv, hc, hl, hr⟩ := h;obtain rfl : xs.length = n := by omega
 exact ⟨A, c, hv, hc, fun k hk => hr (by omega)⟩
end
def Ao (w : World) (base : Nat) (e : TypeId) (size : Nat) (v : Value) (xs : List Value) : Prop :=
 (v = .slice none 0 0 ∧ xs = []) ∨
 ∃ g n cap cur fr, v = .slice (some ⟨g, 0, none⟩) n cap ∧ base ≤ g ∧ w.heap[g]? = some (.cells cur e fr) ∧ (fr.2 ≤ fr.1 ∨ cur.size ≤ fr.1) ∧ n ≤ cap ∧ cap ≤ maxLen ∧ cur.size = cap * size ∧ xs.length = n * size ∧ cur.toList.take (n * size) = xs
section
variable {w w' : World} {base base' size : Nat} {e : TypeId} {v : Value} {xs : List Value}
theorem Ao.nil (w : World) (base : Nat) (e : TypeId) (size : Nat) : Ao w base e size (.slice none 0 0) [] := .inl ⟨rfl, rfl⟩
theorem Ao.block (h : Ao w base e size v xs) : ∀ g, v.ownBlock = some g → base ≤ g ∧ g < w.heap.size := by
 rcases h with ⟨rfl, _⟩ | ⟨g, n, cap, cur, fr, rfl, hb, hg, _⟩
 ·intro g h; cases h
 ·intro g' h
  obtain rfl : g = g' := by simpa [Value.ownBlock] using h
  exact ⟨hb, (Array.getElem?_eq_some_iff.1 hg).1⟩
theorem Ao.keep (h : Ao w base e size v xs) (hk : ∀ g, v.ownBlock = some g → w'.heap[g]? = w.heap[g]?) : Ao w' base e size v xs := by
 rcases h with h | ⟨g, n, cap, cur, fr, rfl, hb, hg, hr⟩
 ·exact .inl h
 ·exact .inr ⟨g, n, cap, cur, fr, rfl, hb, (hk g rfl).trans hg, hr⟩
theorem Ao.grown {row : Option Nat} (h : Ao w base e size v xs) (hg : w.grownBy w' row) (hne : ∀ g, v.ownBlock = some g → row ≠ some g) : Ao w' base e size v xs :=
 h.keep fun g hgb => hg.block g (h.block g hgb).2 (fun e => hne g hgb e.symm)
theorem Ao.below {B : Nat} (h : Ao w base e size v xs) (hb : Below B w w') (hB : w.heap.size ≤ B) : Ao w' base e size v xs :=
 h.keep fun g hgb => hb.block g (by have := (h.block g hgb).2; omega)
theorem Ao.drew (h : Ao w base e size v xs) : Ao w.drew base e size v xs := h
theorem Ao.drewN (h : Ao w base e size v xs) (k : Nat) : Ao (w.drewN k) base e size v xs := h
theorem Ao.alloc (h : Ao w base e size v xs) (o : Obj) : Ao (w.alloc o) base e size v xs :=
 h.keep fun g hgb => heap_alloc_old w o (h.block g hgb).2
theorem Ao.less (h : Ao w base e size v xs) (hb : base' ≤ base) : Ao w base' e size v xs := by
 rcases h with h | ⟨g, n, cap, cur, fr, rfl, hbg, hr⟩
 ·exact .inl h
 ·exact .inr ⟨g, n, cap, cur, fr, rfl, by omega, hr⟩
theorem Ao.rd (h : Ao w base e size v xs) : Rd w w.heap.size size v xs := by
 rcases h with ⟨rfl, rfl⟩ | ⟨g, n, cap, cur, fr, rfl, hb, hg, hfr, hnc, hcm, hcs, hl, htake⟩
 ·exact Rd.nil _ _ _
 ·refine ⟨_, n, cap, rfl, hnc, hl, fun _ => ⟨_, rfl, (Array.getElem?_eq_some_iff.1 hg).1, fun j u hu => ?_⟩⟩
  rw [Addr.add_lit];simp only [Nat.zero_add];have hc := cell_of_row w g j cur e fr hg;rw [hc];rw [← htake, List.getElem?_take] at hu
  split at hu
  ·simpa using hu
  ·cases hu
theorem Ao.made {cur : Array Value} {cap : Nat} (hb : base ≤ w.heap.size) (hm : cap ≤ maxLen) (hs : cur.size = cap * size) :
  Ao (w.alloc (.cells cur e)) base e size (.slice (some ⟨w.heap.size, 0, none⟩) 0 cap) [] :=
 .inr ⟨w.heap.size, 0, cap, cur, (0, 0), rfl, hb, heap_alloc_new w _, .inl (by simp), by omega, hm, hs, by simp, by simp⟩
theorem Ao.lit (w : World) (us : List Value) (n : Nat) (hb : base ≤ w.heap.size) (hm : n ≤ maxLen) (hl : us.length = n * size) :
  Ao (w.alloc (.cells us.toArray e)) base e size (.slice (some ⟨w.heap.size, 0, none⟩) n n) us :=
 .inr ⟨w.heap.size, n, n, us.toArray, (0, 0), rfl, hb, heap_alloc_new w _, .inl (by simp), Nat.le_refl _, hm, by simpa using hl, hl, by rw [← hl]; simp⟩
theorem Rd.lit (w : World) (us : List Value) (n : Nat) (hl : us.length = n * size) : Rd (w.alloc (.cells us.toArray e)) (w.heap.size + 1) size (.slice (some ⟨w.heap.size, 0, none⟩) n n) us := by
 refine ⟨_, n, n, rfl, Nat.le_refl _, hl, fun _ => ⟨_, rfl, by simp, fun j u hu => ?_⟩⟩
 rw [Addr.add_lit];simp only [Nat.zero_add];rw [cell_of_row _ _ j us.toArray e (0, 0) (heap_alloc_new w _)];simpa using hu
end
section
variable {P : Program}
theorem H4 (g o : Nat) (t : TypeId) (fr : Nat × Nat) : ∀ (vs : List Value) (i : Nat) (cur : Array Value) (w : World), w.heap[g]? = some (.cells cur t fr) → (fr.2 ≤ fr.1 ∨ cur.size ≤ fr.1) → o + i + vs.length ≤ cur.size → (∀ v ∈ vs, v.oneCell' = true) →
  (storeCells ⟨g, o, none⟩ vs i).run P w = .ok () (w.setRow g (cur.toList.take (o + i) ++ vs ++ cur.toList.drop (o + i + vs.length)).toArray)
 | [], i, cur, w, hg, _, _, _ => by
  simp only [storeCells, List.append_nil, List.length_nil, Nat.add_zero, List.take_append_drop, Array.toArray_toList];rw [setRow_self w g cur t fr hg];rfl
 | v :: rest, i, cur, w, hg, hfr, hl, h1 => by
  have hi : o + i < cur.size := by simp at hl; omega
  have hadd : (⟨g, o, none⟩ : Addr).add i = ⟨g, o + i, none⟩ := Addr.add_lit g o i;have hcell : w.cell? ⟨g, o + i, none⟩ = some cur[o + i] := by simp [World.cell?, hg, hi]
  have hfro : w.frozen? ⟨g, o + i, none⟩ = false := by
   simp only [World.frozen?, hg, Bool.and_eq_false_iff, decide_eq_false_iff_not];omega
  have hst : (store ((⟨g, o, none⟩ : Addr).add i) v).run P w = .ok () (w.setRow g (cur.setIfInBounds (o + i) v)) := by
   rw [hadd, run_store P w _ v _ (h1 v (by simp)), hcell]
   simp [hfro, setCell_eq_setRow w g (o + i) cur t fr v hg]
  have ih := H4 g o t fr rest (i + 1) (cur.setIfInBounds (o + i) v) (w.setRow g (cur.setIfInBounds (o + i) v)) (setRow_heap w g cur _ t _ hg) (by simpa using hfr) (by simp at hl ⊢; omega) (fun x hx => h1 x (by simp [hx]))
  simp only [storeCells, Sem.run_bind, hst, Result.andThen_ok, ih, setRow_setRow];congr 3
  have e := list_seg_step cur.toList (o + i) v rest (by simp at hl ⊢; omega)
  simpa [Array.toList_setIfInBounds, Nat.add_assoc] using e
theorem Zfb (w : World) (t ty e : TypeId) (i : TypeInfo) (ht : P.underlying t = some (.slice e)) (hi : P.info? e = some i)
  (g sLen sCap : Nat) (cur : Array Value) (fr : Nat × Nat) (hg : w.heap[g]? = some (.cells cur e fr)) (hfr : fr.2 ≤ fr.1 ∨ cur.size ≤ fr.1)
  (a : Addr) (m c : Nat) (news : List Value) (hl : news.length = m * i.size) (hnews : ∀ j u, news[j]? = some u → w.cell? (a.add j) = some u) (h1 : ∀ u ∈ news, u.oneCell' = true)
  (hroom : sLen + m ≤ sCap) (hfit : sLen * i.size + news.length ≤ cur.size) :
  (Builtin.append_ #[t, t] ty #[.slice (some ⟨g, 0, none⟩) sLen sCap, .slice (some a) m c]).run P w =
   .ok (.slice (some ⟨g, 0, none⟩) (sLen + m) sCap) (w.setRow g (cur.toList.take (sLen * i.size) ++ news ++ cur.toList.drop (sLen * i.size + news.length)).toArray) := by
 have hf := run_firstCells_some (P := P) w i.size m a m c news hl hnews;have hst := H4 (P := P) g (sLen * i.size) e fr news 0 cur w hg hfr (by simpa using hfit) h1
 simp only [Nat.add_zero] at hst;simp [Builtin.append_, run_underlying ht, sizeOf, typeInfo, hi, Builtin.lenOf, hroom, hf, Addr.add_lit, hst]
theorem Zfc (w : World) (t ty e : TypeId) (i : TypeInfo) (base : Nat) (ht : P.underlying t = some (.slice e)) (hi : P.info? e = some i)
  (v : Value) (xs : List Value) (hown : Ao w base e i.size v xs) (c : Nat) : (Builtin.append_ #[t, t] ty #[v, .slice none 0 c]).run P w = .ok v w := by
 rcases hown with ⟨rfl, rfl⟩ | ⟨g, n, cap, cur, fr, rfl, hb, hg, hfr, hnc, _⟩
 ·simp [Builtin.append_, run_underlying ht, sizeOf, typeInfo, hi, Builtin.lenOf, Builtin.firstCells]
 ·simp [Builtin.append_, run_underlying ht, sizeOf, typeInfo, hi, Builtin.lenOf, Builtin.firstCells, hnc, storeCells]
theorem Zfa (w : World) (ty : TypeId) {t e : TypeId} {size bytes base B : Nat} (hE : DY P t e size bytes) {v x : Value} {xs us : List Value} (hown : Ao w base e size v xs)
  (hr : Rd w B size x us) (h1 : ∀ u ∈ us, u.oneCell' = true) (hbytes : (xs.length + us.length) * bytes ≤ 140737488355328) (h63 : xs.length + us.length ≤ 140737488355328) (hbase : base ≤ w.heap.size) :
  ∃ v' w', (Builtin.append_ #[t, t] ty #[v, x]).run P w = .ok v' w' ∧ Ao w' base e size v' (xs ++ us) ∧ w.grownBy w' v.ownBlock ∧
   (v'.ownBlock = v.ownBlock ∨ v'.ownBlock = some w.heap.size) := by
 obtain ⟨ht, hsz, i, z, hi, hz, rfl, rfl, hzs⟩ := hE;obtain ⟨A, m, c, rfl, hmc, hlu, hread⟩ := hr;have hmu : m ≤ us.length := by rw [hlu]; exact Nat.le_mul_of_pos_right _ hsz
 rcases Nat.eq_zero_or_pos m with hm0 | hmp
 ·
  subst hm0;have hun : us = [] := List.eq_nil_of_length_eq_zero (by simpa using hlu)
  subst hun;refine ⟨v, w, ?_, by simpa using hown, ⟨rfl, rfl, rfl, Nat.le_refl _, fun _ _ _ => rfl⟩, .inl rfl⟩
  rcases A with _ | ad
  ·exact Zfc w t ty e i base ht hi v xs hown c
  ·rcases hown with ⟨rfl, rfl⟩ | ⟨g, n, cap, cur, fr, rfl, hb, hg, hfr, hnc, _⟩
   ·simp [Builtin.append_, run_underlying ht, sizeOf, typeInfo, hi, Builtin.lenOf, Builtin.firstCells, loadCells, loadCellsFrom]
   ·simp [Builtin.append_, run_underlying ht, sizeOf, typeInfo, hi, Builtin.lenOf, Builtin.firstCells, loadCells, loadCellsFrom, hnc, storeCells]
 obtain ⟨ad, rfl, hadB, hnews⟩ := hread hmp;have grown : ∀ (n old : Nat), xs.length = n * i.size → n + m ≤ 140737488355328 → old < n + m → ∀ (row : Option Nat),
   Ao (w.drew.alloc (.cells (xs.toArray ++ us.toArray ++ Builtin.zeroCells z.cells (grownCap w (n + m) old e - (n + m))) e)) base e i.size
    (.slice (some ⟨w.heap.size, 0, none⟩) (n + m) (grownCap w (n + m) old e)) (xs ++ us) ∧
   w.grownBy (w.drew.alloc (.cells (xs.toArray ++ us.toArray ++ Builtin.zeroCells z.cells (grownCap w (n + m) old e - (n + m))) e)) row := by
  intro n old hxl hnm ho row;have hge := grownCap_ge w (n + m) old e;have hcm : grownCap w (n + m) old e ≤ maxLen := grownCap_le_maxLen w (n + m) old e (by simp only [maxLen]; omega)
  have hlen : (xs ++ us).length = (n + m) * i.size := by rw [List.length_append, hxl, hlu, Nat.add_mul]
  refine ⟨.inr ⟨w.heap.size, n + m, _, _, (0, 0), rfl, hbase, heap_alloc_new w.drew _, .inl (by simp), hge, hcm, ?_, hlen, ?_⟩, ⟨rfl, rfl, rfl, by simp, fun k hk _ => heap_alloc_old w.drew _ hk⟩⟩
  ·simp only [Array.size_append, List.size_toArray, size_zeroCells, hzs, hxl, hlu, ← Nat.add_mul]
   congr 1
   omega
  ·simp only [Array.toList_append, List.append_assoc]
   rw [← List.append_assoc, ← hlen];exact List.take_left
 rcases hown with ⟨rfl, rfl⟩ | ⟨g, n, cap, cur, fr, rfl, hbg, hg, hfr, hnc, hcm, hcs, hxl, htake⟩
 ·have hb : m * i.bytes ≤ 140737488355328 := Nat.le_trans (Nat.mul_le_mul_right _ (by omega)) hbytes
  have hrn := run_append_nil (P := P) w t ty e i z ht hi hz ad m c us hlu hnews hmp (by simp at h63; omega) (by omega)
  have hgr := grown 0 0 (by simp) (by simp at h63; omega) (by omega) (Value.ownBlock (.slice none 0 0))
  simp only [Nat.zero_add, List.nil_append, Array.empty_append] at hgr ⊢;exact ⟨_, _, hrn, hgr.1, hgr.2, .inr rfl⟩
 ·have hnx : n ≤ xs.length := by rw [hxl]; exact Nat.le_mul_of_pos_right _ hsz
  have hlen : (xs ++ us).length = (n + m) * i.size := by rw [List.length_append, hxl, hlu, Nat.add_mul]
  by_cases hroom : n + m ≤ cap
  ·have hfit : n * i.size + us.length ≤ cur.size := by rw [hlu, hcs, ← Nat.add_mul]; exact Nat.mul_le_mul_right _ hroom
   have hrr := Zfb (P := P) w t ty e i ht hi g n cap cur fr hg hfr ad m c us hlu hnews h1 hroom hfit;refine ⟨_, _, hrr, .inr ⟨g, n + m, cap, _, fr, rfl, hbg, setRow_heap w g cur _ e _ hg, ?_, hroom, hcm, ?_, hlen, ?_⟩, ⟨rfl, rfl, rfl, by simp, fun k _ hk => setRow_other w g k _ (fun e => hk (by simp [Value.ownBlock, e]))⟩, .inl rfl⟩
   ·rcases hfr with h | h
    ·exact .inl h
    ·refine .inr ?_
     simp only [List.size_toArray, List.length_append, List.length_take, List.length_drop, Array.length_toList];omega
   ·simp only [List.size_toArray, List.length_append, List.length_take, List.length_drop, Array.length_toList]
    omega
   ·simp only [htake, ← hlen]
    exact List.take_left
  ·have holds : ∀ j u, xs[j]? = some u → w.cell? ((⟨g, 0, none⟩ : Addr).add j) = some u := by
    intro j u hu;rw [Addr.add_lit];simp only [Nat.zero_add];rw [cell_of_row w g j cur e fr hg];rw [← htake, List.getElem?_take] at hu
    split at hu
    ·simpa using hu
    ·cases hu
   have hb : (n + m) * i.bytes ≤ 140737488355328 := Nat.le_trans (Nat.mul_le_mul_right _ (by omega)) hbytes
   have hrg := run_append_grow (P := P) w t ty e i z ht hi hz ⟨g, 0, none⟩ n cap xs hxl holds ad m c us hlu hnews (by omega) (by omega) (growslice_fits (by omega) hb)
   have hgr := grown n cap hxl (by omega) (by omega) (Value.ownBlock (.slice (some ⟨g, 0, none⟩) n cap))
   exact ⟨_, _, hrg, hgr.1, hgr.2, .inr rfl⟩
theorem Qa {o : Oper} {a : Act} {K : Act → World → Prop} {Q : Exit → Act → World → Prop} (w : World) (s x : Operand) (t : TypeId)
  (ho : o.op = .call { callee := .builtin .append, args := #[s, x], argTypes := #[t, t] })
  {e : TypeId} {size bytes base B : Nat} (hE : DY P t e size bytes) {v xv : Value} {xs us : List Value} (hown : Ao w base e size v xs) (hs : a.eval s = v)
  (hr : Rd w B size xv us) (hx : a.eval x = xv) (h1 : ∀ u ∈ us, u.oneCell' = true) (hbytes : (xs.length + us.length) * bytes ≤ 140737488355328) (h63 : xs.length + us.length ≤ 140737488355328) (hbase : base ≤ w.heap.size)
  (h : ∀ v' w', Ao w' base e size v' (xs ++ us) → w.grownBy w' v.ownBlock → (v'.ownBlock = v.ownBlock ∨ v'.ownBlock = some w.heap.size) → K (a.put o.dst v') w') : o.wp P a w K Q := by
 obtain ⟨v', w', hrun, h2, h3, h4⟩ := Zfa (P := P) w o.type hE hown hr h1 hbytes h63 hbase;unfold Oper.wp execOp;simp only [ho, resolve, invoke, builtin, Sem.run_bind, Sem.run_pure, Result.andThen_ok, List.map_toArray, List.map_cons, List.map_nil, hs, hx, hrun];exact h v' w' h2 h3 h4
theorem Wp {ops : Array Oper} {rest : List Oper} {o : Oper} {a : Act} {Q : Exit → Act → World → Prop} (w : World) (hgd : o.guard = none) (s x : Operand) (t : TypeId)
  (ho : o.op = .call { callee := .builtin .append, args := #[s, x], argTypes := #[t, t] })
  {e : TypeId} {size bytes base B : Nat} (hE : DY P t e size bytes) {v xv : Value} {xs us : List Value} (hown : Ao w base e size v xs) (hs : a.eval s = v)
  (hr : Rd w B size xv us) (hx : a.eval x = xv) (h1 : ∀ u ∈ us, u.oneCell' = true) (hbytes : (xs.length + us.length) * bytes ≤ 140737488355328) (h63 : xs.length + us.length ≤ 140737488355328) (hbase : base ≤ w.heap.size)
  (h : ∀ v' w', Ao w' base e size v' (xs ++ us) → w.grownBy w' v.ownBlock → (v'.ownBlock = v.ownBlock ∨ v'.ownBlock = some w.heap.size) → wpList P ops Q rest (a.put o.dst v') w') : wpList P ops Q (o :: rest) a w :=
 wpList_plain hgd fun _ hK => Qa w s x t ho hE hown hs hr hx h1 hbytes h63 hbase fun v' w' h2 h3 h4 => hK _ _ (h v' w' h2 h3 h4)
theorem OT {w w' : World} {o : Obj} {row : Option Nat} (h : (w.alloc o).grownBy w' row) : w.grownBy w' row :=
 ⟨h.os, h.tape, h.output, Nat.le_trans (by simp) h.size, fun k hk hne => (h.block k (by simp; omega) hne).trans (heap_alloc_old w o hk)⟩
theorem G8 {ops : Array Oper} {rest : List Oper} {o : Oper} {a : Act} {Q : Exit → Act → World → Prop} (w : World) (hgd : o.guard = none) (s x : Operand) (t : TypeId)
  (ho : o.op = .call { callee := .builtin .append, args := #[s, x], argTypes := #[t, t] })
  {e T : TypeId} {bytes base : Nat} (hE : DY P t e 1 bytes) {v : Value} {xs : List Value} (us : List Value) (hown : Ao w base e 1 v xs) (hs : a.eval s = v)
  (hx : a.eval x = .slice (some ⟨w.heap.size, 0, none⟩) us.length us.length) (h1 : ∀ u ∈ us, u.oneCell' = true) (hbytes : (xs.length + us.length) * bytes ≤ 140737488355328) (h63 : xs.length + us.length ≤ 140737488355328) (hbase : base ≤ w.heap.size)
  (h : ∀ v' w', Ao w' base e 1 v' (xs ++ us) → w.grownBy w' v.ownBlock → wpList P ops Q rest (a.put o.dst v') w') : wpList P ops Q (o :: rest) a (w.alloc (.cells us.toArray T)) :=
 Wp (w.alloc (.cells us.toArray T)) hgd s x t ho hE (hown.alloc _) hs (Rd.lit w us us.length (by omega)) hx h1 hbytes h63 (by simp; omega) fun v' w' h2 h3 _ => h v' w' h2 (OT h3)
theorem FR {B : Nat} {W w w' : World} {v : Value} {base size : Nat} {e : TypeId} {xs : List Value} (h : Below B W w) (hg : w.grownBy w' v.ownBlock) (hown : Ao w base e size v xs) (hB : B ≤ base) (hbase : base ≤ w.heap.size) : Below B W w' :=
 h.grown hg (by omega) fun k hk => by have := (hown.block k hk).1; omega
theorem LX (w : World) (src dst e : TypeId) (hs : P.underlying src = some (.slice e)) (he : P.underlying e = some (.int .u8)) (hd : P.underlying dst = some .string)
  {B : Nat} {v : Value} {l : List UInt8} (h : Rd w B 1 v (l.map w8)) : (convert src dst v).run P w = .ok (.string ⟨l.toArray⟩) w := by
 obtain ⟨A, c, rfl, hc, hr⟩ := h.open1;rw [List.length_map] at hr ⊢;rcases Nat.eq_zero_or_pos l.length with h0 | hp
 ·have hl : l = [] := List.eq_nil_of_length_eq_zero h0
  subst hl;rcases A with _ | ad
  ·rw [run_convert_bytes_string w src dst e none _ c hs he hd]
   simp [Conv.bytesToString, loadCells, loadCellsFrom]
   rfl
  ·exact run_convert_bytes_back w src dst e ad c [] hs he hd (fun j hj => by simp at hj)
 ·obtain ⟨ad, rfl, _, hcell⟩ := hr 0 hp
  exact run_convert_bytes_back w src dst e ad c l hs he hd (fun j hj => hcell j _ (by simp [List.getElem?_eq_getElem hj]; rfl))
theorem ZeN (w : World) (src dst e : TypeId) (s : ByteArray) (hs : P.underlying src = some .string) (hd : P.underlying dst = some (.slice e)) (he : P.underlying e = some (.int .u8)) (hm : s.size ≤ maxLen)
  {base : Nat} (hb : base ≤ w.heap.size) :
  ∃ v w', (convert src dst (.string s)).run P w = .ok v w' ∧ Ao w' base e 1 v (s.data.toList.map w8) ∧ w.grownBy w' none ∧ v.ownBlock = some w.heap.size := by
 refine ⟨_, _, run_bytes_of_string w src dst e s hs hd he, ?_, ⟨rfl, rfl, rfl, by simp, fun k hk _ => heap_alloc_old w.drew _ hk⟩, rfl⟩
 have hge := grownCap_ge w s.size 0 e;have hle := grownCap_le_maxLen w s.size 0 e hm;refine .inr ⟨w.heap.size, s.size, grownCap w s.size 0 e, _, _, rfl, hb, heap_alloc_new w.drew _, .inr (Nat.le_refl _), hge, hle, ?_, by simp, ?_⟩
 ·simp only [bytesRow, Array.size_append, Array.size_map, Array.size_replicate, Nat.mul_one]
  have : s.data.size = s.size := rfl;omega
 ·simp only [bytesRow, Array.toList_append, Array.toList_map, Array.toList_replicate, Nat.mul_one]
  rw [List.take_append_of_le_length (by simp)]
  rw [List.take_of_length_le (by simp)]
  rfl
theorem VH {ops : Array Oper} {rest : List Oper} {o : Oper} {a : Act} {Q : Exit → Act → World → Prop} (w : World) (hgd : o.guard = none) (src dst : TypeId) (x : Operand)
  (ho : o.op = .convert src dst x) (e : TypeId) (s : ByteArray) (hx : a.eval x = .string s) (hs : P.underlying src = some .string) (hd : P.underlying dst = some (.slice e)) (he : P.underlying e = some (.int .u8)) (hm : s.size ≤ maxLen)
  {base : Nat} (hb : base ≤ w.heap.size)
  (h : ∀ v' w', Ao w' base e 1 v' (s.data.toList.map w8) → w.grownBy w' none → v'.ownBlock = some w.heap.size → wpList P ops Q rest (a.put o.dst v') w') : wpList P ops Q (o :: rest) a w :=
 wpList_plain hgd fun _ hK => by
  obtain ⟨v', w', hrun, h2, h3, h4⟩ := ZeN (P := P) w src dst e s hs hd he hm hb;unfold Oper.wp execOp;simp only [ho, hx, hrun, Sem.run_bind, Sem.run_pure, Result.andThen_ok];exact hK _ _ (h v' w' h2 h3 h4)
def Gn (d : TypeDesc) : Bool := match d with | .struct _ | .array _ _ => true | _ => false
theorem Tc (w : World) (g off : Nat) (t ty : TypeId) (cs : Array Value) (fr : Nat × Nat) (d : TypeDesc) (hg : w.heap[g]? = some (.cells cs t fr))
  (hu : P.underlying ty = some d) (hd : Gn d = true) (us : List Value) (hi : (P.info? ty).map (·.size) = some us.length) (hc : ∀ j u, us[j]? = some u → cs[off + j]? = some u) :
  (loadVar ty ⟨g, off, none⟩).run P w = .ok (.agg us.toArray) w := by
 have hl : (loadCells ⟨g, off, none⟩ us.length).run P w = .ok us.toArray w :=
  run_loadCells_list (P := P) w ⟨g, off, none⟩ us (fun j v hv => by
   rw [Addr.add_lit, cell_of_row w g (off + j) cs t fr hg];exact hc j v hv)
 obtain ⟨i, hi', hsz⟩ := Option.map_eq_some_iff.1 hi;have hagg : (Go.isAgg ty).run P w = .ok true w := by
  unfold Go.isAgg;rw [Sem.run_bind, run_underlying hu w];cases d <;> simp_all [Gn]
 simp [loadVar, Sem.run_bind, hagg, sizeOf, typeInfo, hi', hsz, hl]
theorem Tj {ops : Array Oper} {rest : List Oper} {o : Oper} {a : Act} {Q : Exit → Act → World → Prop} {w : World} (hgd : o.guard = none) (ty : TypeId) (x : Operand) (ho : o.op = .load ty x)
  (g off : Nat) (hx : a.eval x = .pointer (some ⟨g, off, none⟩)) {t : TypeId} {cs : Array Value} {fr : Nat × Nat} {d : TypeDesc} (hg : w.heap[g]? = some (.cells cs t fr))
  (hu : P.underlying ty = some d) (hd : Gn d = true) (us : List Value) (hi : (P.info? ty).map (·.size) = some us.length) (hc : ∀ j u, us[j]? = some u → cs[off + j]? = some u)
  (h : wpList P ops Q rest (a.put o.dst (.agg us.toArray)) w) : wpList P ops Q (o :: rest) a w :=
 wpList_plain hgd fun _ hK => by
  unfold Oper.wp execOp;simp only [ho, hx, Instr.loadAt, Instr.sureAddr, Sem.run_bind, Sem.run_pure, Result.andThen_ok, Tc w g off t ty cs fr d hg hu hd us hi hc];exact hK _ _ h
theorem Zch {ops : Array Oper} {rest : List Oper} {o : Oper} {a : Act} {Q : Exit → Act → World → Prop} {w : World} (hgd : o.guard = none) (ty : TypeId) (x : Operand) (ho : o.op = .load ty x)
  (g off : Nat) (hx : a.eval x = .pointer (some ⟨g, off, none⟩)) {d : TypeDesc}
  (hu : P.underlying ty = some d) (hd : Gn d = true) (us : List Value) (hi : (P.info? ty).map (·.size) = some us.length) (hc : ∀ j u, us[j]? = some u → w.cell? ⟨g, off + j, none⟩ = some u)
  (h : wpList P ops Q rest (a.put o.dst (.agg us.toArray)) w) : wpList P ops Q (o :: rest) a w :=
 wpList_plain hgd fun _ hK => by
  have hl : (loadCells ⟨g, off, none⟩ us.length).run P w = .ok us.toArray w :=
   run_loadCells_list (P := P) w ⟨g, off, none⟩ us (fun j v hv => by rw [Addr.add_lit]; exact hc j v hv)
  obtain ⟨i, hi', hsz⟩ := Option.map_eq_some_iff.1 hi;have hagg : (Go.isAgg ty).run P w = .ok true w := by
   unfold Go.isAgg;rw [Sem.run_bind, run_underlying hu w];cases d <;> simp_all [Gn]
  have hrun : (loadVar ty ⟨g, off, none⟩).run P w = .ok (.agg us.toArray) w := by simp [loadVar, Sem.run_bind, hagg, sizeOf, typeInfo, hi', hsz, hl]
  unfold Oper.wp execOp;simp only [ho, hx, Instr.loadAt, Instr.sureAddr, Sem.run_bind, Sem.run_pure, Result.andThen_ok, hrun];exact hK _ _ h
theorem YM (w : World) (g off : Nat) (t ty : TypeId) (cs : Array Value) (fr : Nat × Nat) (hg : w.heap[g]? = some (.cells cs t fr)) (hfr : fr.2 ≤ fr.1 ∨ cs.size ≤ fr.1)
  (us : List Value) (hi : (P.info? ty).map (·.size) = some us.length) (hfit : off + us.length ≤ cs.size) (h1 : ∀ u ∈ us, u.oneCell' = true) :
  (storeVar ty ⟨g, off, none⟩ (.agg us.toArray)).run P w = .ok () (w.setRow g (cs.toList.take off ++ us ++ cs.toList.drop (off + us.length)).toArray) := by
 obtain ⟨i, hi', hsz⟩ := Option.map_eq_some_iff.1 hi;have hst := H4 (P := P) g off t fr us 0 cs w hg hfr (by omega) h1
 simp only [Nat.add_zero] at hst;simp [storeVar, Value.cells, sizeOf, typeInfo, hi', hsz, hst]
theorem YQ {ops : Array Oper} {rest : List Oper} {o : Oper} {a : Act} {Q : Exit → Act → World → Prop} {w : World} (hgd : o.guard = none) (ty : TypeId) (x y : Operand) (ho : o.op = .store ty x y)
  (g off : Nat) (hx : a.eval x = .pointer (some ⟨g, off, none⟩)) (us : List Value) (hy : a.eval y = .agg us.toArray) {t : TypeId} {cs : Array Value} {fr : Nat × Nat} (hg : w.heap[g]? = some (.cells cs t fr)) (hfr : fr.2 ≤ fr.1 ∨ cs.size ≤ fr.1)
  (hi : (P.info? ty).map (·.size) = some us.length) (hfit : off + us.length ≤ cs.size) (h1 : ∀ u ∈ us, u.oneCell' = true)
  (h : wpList P ops Q rest (a.put o.dst undef) (w.setRow g (cs.toList.take off ++ us ++ cs.toList.drop (off + us.length)).toArray)) : wpList P ops Q (o :: rest) a w :=
 wpList_plain hgd fun _ hK => by
  unfold Oper.wp execOp;simp only [ho, hx, hy, Instr.storeAt, Instr.sureAddr, Sem.run_bind, Sem.run_pure, Result.andThen_ok, YM w g off t ty cs fr hg hfr us hi hfit h1];exact hK _ _ h
theorem JU {ops : Array Oper} {rest : List Oper} {o : Oper} {a : Act} {Q : Exit → Act → World → Prop} {w : World} (hgd : o.guard = none) (ty : TypeId) (x y : Operand) (ho : o.op = .store ty x y)
  (g : Nat) (hx : a.eval x = .pointer (some ⟨g, 0, none⟩)) (us : List Value) (hy : a.eval y = .agg us.toArray) {t : TypeId} {cs : Array Value} (hg : w.heap[g]? = some (.cells cs t (0, 0)))
  (hi : (P.info? ty).map (·.size) = some us.length) (hfit : us.length = cs.size) (h1 : ∀ u ∈ us, u.oneCell' = true)
  (h : wpList P ops Q rest (a.put o.dst undef) (w.setRow g us.toArray)) : wpList P ops Q (o :: rest) a w :=
 YQ hgd ty x y ho g 0 hx us hy hg (.inl (by simp)) hi (by omega) h1 (by
  have e : (cs.toList.take 0 ++ us ++ cs.toList.drop (0 + us.length)) = us := by
   rw [List.take_zero, List.nil_append, List.drop_eq_nil_of_le (by simp; omega), List.append_nil]
  rw [e];exact h)
theorem Zr (w : World) (old cs : Array Value) (t : TypeId) : (w.alloc (.cells old t)).setRow w.heap.size cs = w.alloc (.cells cs t) := by
 unfold World.setRow
 have : ∀ (a : Array Obj) (x : Obj) (f : Obj → Obj), (a.push x).modify a.size f = a.push (f x) := by
  intro a x f;apply Array.ext
  ·simp
  ·intro i h1 h2
   simp only [Array.getElem_modify, Array.getElem_push];by_cases h : a.size = i
   ·subst h
    simp
   ·have hi : i < a.size := by simp at h1; omega
    simp [h, hi]
 show ({ w.alloc (.cells old t) with heap := (w.heap.push (.cells old t)).modify w.heap.size _ } : World) = _
 rw [this];rfl
theorem QV {ops : Array Oper} {rest : List Oper} {o : Oper} {a : Act} {Q : Exit → Act → World → Prop} (w : World) (hgd : o.guard = none) (ty : TypeId) (x y : Operand) (ho : o.op = .store ty x y)
  (hx : a.eval x = .pointer (some ⟨w.heap.size, 0, none⟩)) (us : List Value) (hy : a.eval y = .agg us.toArray) {t : TypeId} {old : Array Value}
  (hi : (P.info? ty).map (·.size) = some us.length) (hfit : us.length = old.size) (h1 : ∀ u ∈ us, u.oneCell' = true)
  (h : wpList P ops Q rest (a.put o.dst undef) (w.alloc (.cells us.toArray t))) : wpList P ops Q (o :: rest) a (w.alloc (.cells old t)) :=
 JU hgd ty x y ho w.heap.size hx us hy (heap_alloc_new w _) hi hfit h1 (by rw [Zr]; exact h)
theorem M5 {B : Nat} {a w : World} (h : Below B a w) {g : Nat} (hg : B ≤ g) (cs : Array Value) : Below B a (w.setRow g cs) :=
 ⟨h.os, h.tape, h.output, by simpa using h.size, fun k hk => (setRow_other w g k cs (by omega)).trans (h.block k hk)⟩
theorem F6 {v : Value} (h : v.oneCell' = true) : ∀ u ∈ [v], u.oneCell' = true := by
 intro u hu;rw [List.mem_singleton] at hu;rw [hu]; exact h
theorem Ao.form {w : World} {base : Nat} {e : TypeId} {v : Value} {xs : List Value} (h : Ao w base e 1 v xs) (hne : 0 < xs.length) :
  ∃ g cap, v = .slice (some ⟨g, 0, none⟩) xs.length cap ∧ xs.length ≤ cap ∧ base ≤ g ∧ g < w.heap.size ∧ ∀ j u, xs[j]? = some u → w.cell? ⟨g, j, none⟩ = some u := by
 have hrd := h.rd;rcases h with ⟨rfl, rfl⟩ | ⟨g, n, cap, cur, fr, rfl, hb, hg, hfr, hnc, hcm, hcs, hl, htake⟩
 ·simp at hne
 ·obtain rfl : xs.length = n := by omega
  refine ⟨g, cap, rfl, hnc, hb, (Array.getElem?_eq_some_iff.1 hg).1, fun j u hu => ?_⟩
  rw [cell_of_row w g j cur e fr hg];rw [← htake, List.getElem?_take] at hu
  split at hu
  ·simpa using hu
  ·cases hu
theorem Ao.free {w : World} {base : Nat} {e : TypeId} {xs : List Value} {g n cap : Nat} (h : Ao w base e 1 (.slice (some ⟨g, 0, none⟩) n cap) xs) (j : Nat) (hj : j < xs.length) : w.frozen? ⟨g, j, none⟩ = false := by
 rcases h with ⟨h, _⟩ | ⟨g', n', cap', cur, fr, h, hb, hg, hfr, hnc, hcm, hcs, hl, htake⟩
 ·cases h
 ·simp only [Value.slice.injEq, Option.some.injEq, Addr.mk.injEq] at h
  obtain ⟨⟨rfl, _⟩, rfl, rfl⟩ := h;simp only [World.frozen?, hg, Bool.and_eq_false_iff, decide_eq_false_iff_not];omega
theorem Ao.set {w : World} {base : Nat} {e : TypeId} {xs : List Value} {g n cap : Nat} (h : Ao w base e 1 (.slice (some ⟨g, 0, none⟩) n cap) xs) (j : Nat) (hj : j < xs.length) (u : Value) :
  Ao (w.setCell ⟨g, j, none⟩ u) base e 1 (.slice (some ⟨g, 0, none⟩) n cap) (xs.set j u) := by
 rcases h with ⟨h, _⟩ | ⟨g', n', cap', cur, fr, h, hb, hg, hfr, hnc, hcm, hcs, hl, htake⟩
 ·cases h
 ·simp only [Value.slice.injEq, Option.some.injEq, Addr.mk.injEq] at h
  obtain ⟨⟨rfl, _⟩, rfl, rfl⟩ := h;rw [setCell_eq_setRow w g j cur e fr u hg];refine .inr ⟨g, n, cap, _, fr, rfl, hb, setRow_heap w g cur _ e _ hg, by simpa using hfr, hnc, hcm, by simpa using hcs, by simpa using hl, ?_⟩
  rw [Array.toList_setIfInBounds, List.take_set, htake]
theorem Ao.len1 {w : World} {base : Nat} {e : TypeId} {v : Value} {xs : List Value} (h : Ao w base e 1 v xs) : ∃ A c, v = .slice A xs.length c := by
 obtain ⟨A, c, h, _⟩ := h.rd.len;exact ⟨A, c, h⟩
theorem Mn (l : List UInt8) : ∀ u ∈ l.map w8, u.oneCell' = true := by
 intro u hu;obtain ⟨b, _, rfl⟩ := List.mem_map.1 hu;rfl
theorem Oi (l : List (BitVec 32)) : ∀ u ∈ l.map Ag, u.oneCell' = true := by
 intro u hu;obtain ⟨b, _, rfl⟩ := List.mem_map.1 hu;rfl
theorem YO {ops : Array Oper} {o : Oper} {a : Act} {K : Act → World → Prop} {Q : Exit → Act → World → Prop} {E : Prop} (w : World) (hgd : o.guard = none) (s x : Operand) (t : TypeId)
  (ho : o.op = .call { callee := .builtin .append, args := #[s, x], argTypes := #[t, t] })
  {e : TypeId} {size bytes base B : Nat} (hE : DY P t e size bytes) {v xv : Value} {xs us : List Value} (hown : Ao w base e size v xs) (hs : a.eval s = v)
  (hr : Rd w B size xv us) (hx : a.eval x = xv) (h1 : ∀ u ∈ us, u.oneCell' = true) (hbytes : (xs.length + us.length) * bytes ≤ 140737488355328) (h63 : xs.length + us.length ≤ 140737488355328) (hbase : base ≤ w.heap.size)
  (h : ∀ v' w', Ao w' base e size v' (xs ++ us) → w.grownBy w' v.ownBlock → (v'.ownBlock = v.ownBlock ∨ v'.ownBlock = some w.heap.size) → K (a.put o.dst v') w') : if Region.wanted o (yielded ops a.tmps) = true then Oper.wp P o a w K Q else E := by
 have hw : Region.wanted o (yielded ops a.tmps) = true := by simp [Region.wanted, hgd]
 rw [if_pos hw];exact Qa w s x t ho hE hown hs hr hx h1 hbytes h63 hbase h
theorem QU {ops : Array Oper} {o : Oper} {a : Act} {K : Act → World → Prop} {Q : Exit → Act → World → Prop} {E : Prop} (w : World) (hgd : o.guard = none) (s x : Operand) (t : TypeId)
  (ho : o.op = .call { callee := .builtin .append, args := #[s, x], argTypes := #[t, t] })
  {e T : TypeId} {bytes base : Nat} (hE : DY P t e 1 bytes) {v : Value} {xs : List Value} (us : List Value) (hown : Ao w base e 1 v xs) (hs : a.eval s = v)
  (hx : a.eval x = .slice (some ⟨w.heap.size, 0, none⟩) us.length us.length) (h1 : ∀ u ∈ us, u.oneCell' = true) (hbytes : (xs.length + us.length) * bytes ≤ 140737488355328) (h63 : xs.length + us.length ≤ 140737488355328) (hbase : base ≤ w.heap.size)
  (h : ∀ v' w', Ao w' base e 1 v' (xs ++ us) → w.grownBy w' v.ownBlock → K (a.put o.dst v') w') : if Region.wanted o (yielded ops a.tmps) = true then Oper.wp P o a (w.alloc (.cells us.toArray T)) K Q else E :=
 YO (w.alloc (.cells us.toArray T)) hgd s x t ho hE (hown.alloc _) hs (Rd.lit w us us.length (by omega)) hx h1 hbytes h63 (by simp; omega) fun v' w' h2 h3 _ => h v' w' h2 (OT h3)
theorem QT {ops : Array Oper} {o : Oper} {rest : List Oper} {a : Act} {w : World} {Q : Act → Prop} (hgd : o.guard = none) (ty : TypeId) (x : Operand) (ho : o.op = .load ty x)
  (g off : Nat) (hx : a.eval x = .pointer (some ⟨g, off, none⟩)) {t : TypeId} {cs : Array Value} {fr : Nat × Nat} {d : TypeDesc} (hg : w.heap[g]? = some (.cells cs t fr))
  (hu : P.underlying ty = some d) (hd : Gn d = true) (us : List Value) (hi : (P.info? ty).map (·.size) = some us.length) (hc : ∀ j u, us[j]? = some u → cs[off + j]? = some u)
  (h : wpStill P ops w Q rest (a.put o.dst (.agg us.toArray))) : wpStill P ops w Q (o :: rest) a :=
 wpStill_step fun K hK => by
  have hw : Region.wanted o (yielded ops a.tmps) = true := by simp [Region.wanted, hgd]
  rw [if_pos hw];unfold Oper.still execOp;simp only [ho, hx, Instr.loadAt, Instr.sureAddr, Sem.run_bind, Sem.run_pure, Result.andThen_ok, Tc w g off t ty cs fr d hg hu hd us hi hc];exact ⟨rfl, hK _ h⟩
end
end
end
end Go.Proofs.YtldohjjoicmfpaaGreatDoor
