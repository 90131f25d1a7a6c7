/- Machine words as typed values: bytes as UInt8, words of 32 and 64 bits as BitVec; the operations on them as rules of the walk. Nothing of the program. -/
import Derived.WalkKit
set_option linter.unusedSectionVars false
set_option linter.unusedVariables false
set_option linter.unusedSimpArgs false
namespace Go.Proofs.Ytjicccjpooahoaa
open Go
structure Veil (p : Prop) : Prop where
 out : p
def w8 (b : UInt8) : Value := .int .u8 (b.toNat : Int)
def w32 (x : BitVec 32) : Value := .int .u32 (x.toNat : Int)
def w64 (x : BitVec 64) : Value := .int .u64 (x.toNat : Int)
@[go_sem] theorem v8 (b : UInt8) : Value.int .u8 (b.toNat : Int) = w8 b := rfl
@[go_sem] theorem v32 (x : BitVec 32) : Value.int .u32 (x.toNat : Int) = w32 x := rfl
@[go_sem] theorem v64 (x : BitVec 64) : Value.int .u64 (x.toNat : Int) = w64 x := rfl
def bw (b : UInt8) : BitVec 32 := b.toBitVec.setWidth 32
def bq (b : UInt8) : BitVec 64 := b.toBitVec.setWidth 64
def wb (x : BitVec 32) : UInt8 := UInt8.ofBitVec (x.setWidth 8)
def i64of (x : BitVec 64) : Int := x.toInt
def qb (x : BitVec 64) : UInt8 := UInt8.ofBitVec (x.setWidth 8)
def eq32 (a b : BitVec 32) : Bool := decide (a = b)
def eq64 (a b : BitVec 64) : Bool := decide (a = b)
def eq8 (a b : UInt8) : Bool := decide (a = b)
def le8 (a b : UInt8) : Bool := decide (a.toNat ≤ b.toNat)
def lt8 (a b : UInt8) : Bool := decide (a.toNat < b.toNat)
section
variable {P : Program} (t : TypeId) (w : World)
@[go_sem] theorem run_store_w8 (a : Addr) (m : Mode) (b : UInt8) : (store a (w8 b) m).run P w = stored P w a (w8 b) m := run_store P w a _ m rfl
@[go_sem] theorem run_store_w32 (a : Addr) (m : Mode) (b : BitVec 32) : (store a (w32 b) m).run P w = stored P w a (w32 b) m := run_store P w a _ m rfl
@[go_sem] theorem run_store_w64 (a : Addr) (m : Mode) (b : BitVec 64) : (store a (w64 b) m).run P w = stored P w a (w64 b) m := run_store P w a _ m rfl
@[go_sem] theorem cells_w8 (b : UInt8) : (w8 b).cells = #[w8 b] := rfl
@[go_sem] theorem cells_w32 (b : BitVec 32) : (w32 b).cells = #[w32 b] := rfl
@[go_sem] theorem cells_w64 (b : BitVec 64) : (w64 b).cells = #[w64 b] := rfl
@[go_sem] theorem cellsm_w8 (b : UInt8) (f : Array Value → Array Value) (g : Value → Array Value) : Value.cells.match_1 (fun _ => Array Value) (w8 b) f g = g (w8 b) := rfl
@[go_sem] theorem cellsm_w32 (b : BitVec 32) (f : Array Value → Array Value) (g : Value → Array Value) : Value.cells.match_1 (fun _ => Array Value) (w32 b) f g = g (w32 b) := rfl
@[go_sem] theorem cellsm_w64 (b : BitVec 64) (f : Array Value → Array Value) (g : Value → Array Value) : Value.cells.match_1 (fun _ => Array Value) (w64 b) f g = g (w64 b) := rfl
theorem bits32 (f : BinOp) (a b : BitVec 32) (c : BitVec 32) (h : Go.bits f .u32 (a.toNat : Int) (b.toNat : Int) = (c.toNat : Int)) : binOp f t (w32 a) (w32 b) = binOp f t (.int .u32 (a.toNat : Int)) (.int .u32 (b.toNat : Int)) := rfl
theorem wrap32n (n : Nat) : IntKind.u32.wrap (n : Int) = ((BitVec.ofNat 32 n).toNat : Int) := by
 rw [IntKind.wrap_u32', BitVec.toNat_ofNat]; omega
theorem wrap64n (n : Nat) : IntKind.u64.wrap (n : Int) = ((BitVec.ofNat 64 n).toNat : Int) := by
 rw [IntKind.wrap_u64, BitVec.toNat_ofNat]; omega
theorem wrap8n (n : Nat) : IntKind.u8.wrap (n : Int) = ((UInt8.ofNat n).toNat : Int) := by
 rw [IntKind.wrap_u8', UInt8.toNat_ofNat']; omega
@[go_sem] theorem add32 (a b : BitVec 32) : binOp .add t (w32 a) (w32 b) = pure (w32 (a + b)) := by
 show binOp .add t (.int .u32 _) (.int .u32 _) = _
 rw [binOp_add]
 show pure (Value.int .u32 (IntKind.u32.wrap ((a.toNat : Int) + (b.toNat : Int)))) = _
 rw [← Int.natCast_add, wrap32n]
 congr 2
@[go_sem] theorem and32 (a b : BitVec 32) : binOp .and t (w32 a) (w32 b) = pure (w32 (a &&& b)) := by
 show binOp .and t (.int .u32 _) (.int .u32 _) = _
 rw [binOp_and, intBits_and, u32_and_nat _ _ a.isLt b.isLt, ← BitVec.toNat_and]; rfl
@[go_sem] theorem or32 (a b : BitVec 32) : binOp .or t (w32 a) (w32 b) = pure (w32 (a ||| b)) := by
 show binOp .or t (.int .u32 _) (.int .u32 _) = _
 rw [binOp_or, intBits_or, u32_or_nat _ _ a.isLt b.isLt, ← BitVec.toNat_or]; rfl
@[go_sem] theorem xor32 (a b : BitVec 32) : binOp .xor t (w32 a) (w32 b) = pure (w32 (a ^^^ b)) := by
 show binOp .xor t (.int .u32 _) (.int .u32 _) = _
 rw [binOp_xor, intBits_xor, u32_xor_nat _ _ a.isLt b.isLt, ← BitVec.toNat_xor]; rfl
theorem lit32 (n : Nat) (h : n < 4294967296) : Value.int .u32 (OfNat.ofNat n) = w32 (BitVec.ofNat 32 n) := by
 unfold w32; rw [BitVec.toNat_ofNat, Nat.mod_eq_of_lt h]; rfl
theorem lit64 (n : Nat) (h : n < 18446744073709551616) : Value.int .u64 (OfNat.ofNat n) = w64 (BitVec.ofNat 64 n) := by
 unfold w64; rw [BitVec.toNat_ofNat, Nat.mod_eq_of_lt h]; rfl
theorem lit8 (n : Nat) (h : n < 256) : Value.int .u8 (OfNat.ofNat n) = w8 (UInt8.ofNat n) := by
 unfold w8; rw [UInt8.toNat_ofNat', Nat.mod_eq_of_lt h]; rfl
@[go_sem] theorem not32 (a : BitVec 32) : Op.unary .xor (w32 a) = pure (w32 (~~~ a)) := by
 show pure (Value.int .u32 (Go.bits .xor .u32 IntKind.u32.max (a.toNat : Int))) = _
 rw [show IntKind.u32.max = (((0xffffffff#32).toNat : Nat) : Int) from rfl, u32_xor_nat _ _ (BitVec.isLt _) a.isLt, ← BitVec.toNat_xor]
 unfold w32
 congr 2
@[go_sem] theorem sub32 (a b : BitVec 32) : binOp .sub t (w32 a) (w32 b) = pure (w32 (a - b)) := by
 show binOp .sub t (.int .u32 _) (.int .u32 _) = _
 rw [binOp_sub]
 show pure (Value.int .u32 (IntKind.u32.wrap ((a.toNat : Int) - (b.toNat : Int)))) = _
 unfold w32
 rw [IntKind.wrap_u32', BitVec.toNat_sub]
 congr 2
 have := a.isLt
 have := b.isLt
 omega
@[go_sem] theorem mul32 (a b : BitVec 32) : binOp .mul t (w32 a) (w32 b) = pure (w32 (a * b)) := by
 show binOp .mul t (.int .u32 _) (.int .u32 _) = _
 rw [binOp_mul]
 show pure (Value.int .u32 (IntKind.u32.wrap ((a.toNat : Int) * (b.toNat : Int)))) = _
 unfold w32
 rw [IntKind.wrap_u32', BitVec.toNat_mul]
 congr 2
theorem min_pow (x y k : Nat) (hx : x < 2 ^ k) : x / 2 ^ min y k = x / 2 ^ y := by
 by_cases h : y ≤ k
 ·rw [Nat.min_eq_left h]
 ·have hk : k ≤ y := by omega
  rw [Nat.min_eq_right hk, Nat.div_eq_of_lt hx, Nat.div_eq_of_lt (Nat.lt_of_lt_of_le hx (Nat.pow_le_pow_right (by omega) hk))]
theorem min_mul (x y k : Nat) : x * 2 ^ min y k % 2 ^ k = x * 2 ^ y % 2 ^ k := by
 by_cases h : y ≤ k
 ·rw [Nat.min_eq_left h]
 ·have hk : k ≤ y := by omega
  rw [Nat.min_eq_right hk, Nat.mul_mod_left]
  obtain ⟨d, rfl⟩ := Nat.exists_eq_add_of_le hk
  rw [Nat.pow_add, Nat.mul_left_comm, Nat.mul_mod_right]
theorem shr32' (x : BitVec 32) (yk : IntKind) (y : Int) (h : 0 ≤ y) : Op.shift .shr .u32 (x.toNat : Int) yk y = pure (w32 (x >>> y.toNat)) := by
 rw [shift_shr_any _ _ _ _ h]
 unfold w32
 rw [BitVec.toNat_ushiftRight, Nat.shiftRight_eq_div_pow, ← min_pow _ _ 32 x.isLt]
 simp [IntKind.bits]
theorem shl32' (x : BitVec 32) (yk : IntKind) (y : Int) (h : 0 ≤ y) : Op.shift .shl .u32 (x.toNat : Int) yk y = pure (w32 (x <<< y.toNat)) := by
 rw [shift_shl_any _ _ _ _ h]
 unfold w32
 rw [IntKind.wrap_u32', BitVec.toNat_shiftLeft, Nat.shiftLeft_eq, ← min_mul]
 simp [IntKind.bits]
@[go_sem] theorem shr32 (x : BitVec 32) (y : BitVec 64) : binOp .shr t (w32 x) (w64 y) = pure (w32 (x >>> y.toNat)) := shr32' x .u64 _ (by omega)
@[go_sem] theorem shl32 (x : BitVec 32) (y : BitVec 64) : binOp .shl t (w32 x) (w64 y) = pure (w32 (x <<< y.toNat)) := shl32' x .u64 _ (by omega)
@[go_sem] theorem shr32i (x : BitVec 32) (y : Int) (h : 0 ≤ y) : binOp .shr t (w32 x) (.int .i64 y) = pure (w32 (x >>> y.toNat)) := shr32' x .i64 _ h
@[go_sem] theorem shl32i (x : BitVec 32) (y : Int) (h : 0 ≤ y) : binOp .shl t (w32 x) (.int .i64 y) = pure (w32 (x <<< y.toNat)) := shl32' x .i64 _ h
@[go_sem] theorem eql32 (a b : BitVec 32) : binOp .eql t (w32 a) (w32 b) = pure (.bool (eq32 a b)) := by
 show binOp .eql t (.int .u32 _) (.int .u32 _) = _
 rw [binOp_eql]
 congr 2
 rw [Bool.eq_iff_iff]; simp [eq32, BitVec.toNat_eq]; omega
@[go_sem] theorem neq32 (a b : BitVec 32) : binOp .neq t (w32 a) (w32 b) = pure (.bool (!eq32 a b)) := by
 show binOp .neq t (.int .u32 _) (.int .u32 _) = _
 rw [binOp_neq]
 congr 2
 rw [Bool.eq_iff_iff]; simp [eq32, BitVec.toNat_eq]; omega
@[go_sem] theorem add64 (a b : BitVec 64) : binOp .add t (w64 a) (w64 b) = pure (w64 (a + b)) := by
 show binOp .add t (.int .u64 _) (.int .u64 _) = _
 rw [binOp_add]
 show pure (Value.int .u64 (IntKind.u64.wrap ((a.toNat : Int) + (b.toNat : Int)))) = _
 rw [← Int.natCast_add, wrap64n]
 congr 2
@[go_sem] theorem sub64 (a b : BitVec 64) : binOp .sub t (w64 a) (w64 b) = pure (w64 (a - b)) := by
 show binOp .sub t (.int .u64 _) (.int .u64 _) = _
 rw [binOp_sub]
 show pure (Value.int .u64 (IntKind.u64.wrap ((a.toNat : Int) - (b.toNat : Int)))) = _
 unfold w64
 rw [IntKind.wrap_u64, BitVec.toNat_sub]
 congr 2
 have := a.isLt
 have := b.isLt
 omega
@[go_sem] theorem mul64 (a b : BitVec 64) : binOp .mul t (w64 a) (w64 b) = pure (w64 (a * b)) := by
 show binOp .mul t (.int .u64 _) (.int .u64 _) = _
 rw [binOp_mul]
 show pure (Value.int .u64 (IntKind.u64.wrap ((a.toNat : Int) * (b.toNat : Int)))) = _
 unfold w64
 rw [IntKind.wrap_u64, BitVec.toNat_mul]
 congr 2
@[go_sem] theorem and64 (a b : BitVec 64) : binOp .and t (w64 a) (w64 b) = pure (w64 (a &&& b)) := by
 show binOp .and t (.int .u64 _) (.int .u64 _) = _
 rw [binOp_and, intBits_and, u64_and_nat _ _ a.isLt b.isLt, ← BitVec.toNat_and]; rfl
@[go_sem] theorem or64 (a b : BitVec 64) : binOp .or t (w64 a) (w64 b) = pure (w64 (a ||| b)) := by
 show binOp .or t (.int .u64 _) (.int .u64 _) = _
 rw [binOp_or, intBits_or, u64_or_nat _ _ a.isLt b.isLt, ← BitVec.toNat_or]; rfl
@[go_sem] theorem xor64 (a b : BitVec 64) : binOp .xor t (w64 a) (w64 b) = pure (w64 (a ^^^ b)) := by
 show binOp .xor t (.int .u64 _) (.int .u64 _) = _
 rw [binOp_xor, intBits_xor, u64_xor_nat _ _ a.isLt b.isLt, ← BitVec.toNat_xor]; rfl
theorem shr64' (x : BitVec 64) (yk : IntKind) (y : Int) (h : 0 ≤ y) : Op.shift .shr .u64 (x.toNat : Int) yk y = pure (w64 (x >>> y.toNat)) := by
 rw [shift_shr_any _ _ _ _ h]
 unfold w64
 rw [BitVec.toNat_ushiftRight, Nat.shiftRight_eq_div_pow, ← min_pow _ _ 64 x.isLt]
 simp [IntKind.bits]
theorem shl64' (x : BitVec 64) (yk : IntKind) (y : Int) (h : 0 ≤ y) : Op.shift .shl .u64 (x.toNat : Int) yk y = pure (w64 (x <<< y.toNat)) := by
 rw [shift_shl_any _ _ _ _ h]
 unfold w64
 rw [IntKind.wrap_u64, BitVec.toNat_shiftLeft, Nat.shiftLeft_eq, ← min_mul]
 simp [IntKind.bits]
@[go_sem] theorem shr64 (x y : BitVec 64) : binOp .shr t (w64 x) (w64 y) = pure (w64 (x >>> y.toNat)) := shr64' x .u64 _ (by omega)
@[go_sem] theorem shl64 (x y : BitVec 64) : binOp .shl t (w64 x) (w64 y) = pure (w64 (x <<< y.toNat)) := shl64' x .u64 _ (by omega)
@[go_sem] theorem shr64i (x : BitVec 64) (y : Int) (h : 0 ≤ y) : binOp .shr t (w64 x) (.int .i64 y) = pure (w64 (x >>> y.toNat)) := shr64' x .i64 _ h
@[go_sem] theorem shl64i (x : BitVec 64) (y : Int) (h : 0 ≤ y) : binOp .shl t (w64 x) (.int .i64 y) = pure (w64 (x <<< y.toNat)) := shl64' x .i64 _ h
@[go_sem] theorem eql64 (a b : BitVec 64) : binOp .eql t (w64 a) (w64 b) = pure (.bool (eq64 a b)) := by
 show binOp .eql t (.int .u64 _) (.int .u64 _) = _
 rw [binOp_eql]
 congr 2
 rw [Bool.eq_iff_iff]; simp [eq64, BitVec.toNat_eq]; omega
@[go_sem] theorem neq64 (a b : BitVec 64) : binOp .neq t (w64 a) (w64 b) = pure (.bool (!eq64 a b)) := by
 show binOp .neq t (.int .u64 _) (.int .u64 _) = _
 rw [binOp_neq]
 congr 2
 rw [Bool.eq_iff_iff]; simp [eq64, BitVec.toNat_eq]; omega
@[go_sem] theorem eql8 (a b : UInt8) : binOp .eql t (w8 a) (w8 b) = pure (.bool (eq8 a b)) := by
 show binOp .eql t (.int .u8 _) (.int .u8 _) = _
 rw [binOp_eql]
 congr 2
 rw [Bool.eq_iff_iff]; simp [eq8, ← UInt8.toNat_inj]; omega
@[go_sem] theorem neq8 (a b : UInt8) : binOp .neq t (w8 a) (w8 b) = pure (.bool (!eq8 a b)) := by
 show binOp .neq t (.int .u8 _) (.int .u8 _) = _
 rw [binOp_neq]
 congr 2
 rw [Bool.eq_iff_iff]; simp [eq8, ← UInt8.toNat_inj]; omega
@[go_sem] theorem leq8 (a b : UInt8) : binOp .leq t (w8 a) (w8 b) = pure (.bool (le8 a b)) := by
 show binOp .leq t (.int .u8 _) (.int .u8 _) = _
 rw [binOp_leq]
 congr 2
 rw [Bool.eq_iff_iff]; simp [le8]
@[go_sem] theorem lss8 (a b : UInt8) : binOp .lss t (w8 a) (w8 b) = pure (.bool (lt8 a b)) := by
 show binOp .lss t (.int .u8 _) (.int .u8 _) = _
 rw [binOp_lss]
 congr 2
 rw [Bool.eq_iff_iff]; simp [lt8]
@[go_sem] theorem geq8 (a b : UInt8) : binOp .geq t (w8 a) (w8 b) = pure (.bool (le8 b a)) := by
 show binOp .geq t (.int .u8 _) (.int .u8 _) = _
 rw [binOp_geq]
 congr 2
 rw [Bool.eq_iff_iff]; simp [le8]
@[go_sem] theorem gtr8 (a b : UInt8) : binOp .gtr t (w8 a) (w8 b) = pure (.bool (lt8 b a)) := by
 show binOp .gtr t (.int .u8 _) (.int .u8 _) = _
 rw [binOp_gtr]
 congr 2
 rw [Bool.eq_iff_iff]; simp [lt8]
@[go_sem] theorem add8 (a b : UInt8) : binOp .add t (w8 a) (w8 b) = pure (w8 (a + b)) := by
 show binOp .add t (.int .u8 _) (.int .u8 _) = _
 rw [binOp_add]
 show pure (Value.int .u8 (IntKind.u8.wrap ((a.toNat : Int) + (b.toNat : Int)))) = _
 unfold w8
 rw [IntKind.wrap_u8', UInt8.toNat_add]
 congr 2
@[go_sem] theorem sub8 (a b : UInt8) : binOp .sub t (w8 a) (w8 b) = pure (w8 (a - b)) := by
 show binOp .sub t (.int .u8 _) (.int .u8 _) = _
 rw [binOp_sub]
 show pure (Value.int .u8 (IntKind.u8.wrap ((a.toNat : Int) - (b.toNat : Int)))) = _
 unfold w8
 rw [IntKind.wrap_u8', UInt8.toNat_sub]
 congr 2
 have := a.toNat_lt
 have := b.toNat_lt
 omega
@[go_sem] theorem mul8 (a b : UInt8) : binOp .mul t (w8 a) (w8 b) = pure (w8 (a * b)) := by
 show binOp .mul t (.int .u8 _) (.int .u8 _) = _
 rw [binOp_mul]
 show pure (Value.int .u8 (IntKind.u8.wrap ((a.toNat : Int) * (b.toNat : Int)))) = _
 unfold w8
 rw [IntKind.wrap_u8', UInt8.toNat_mul]
 congr 2
@[go_sem] theorem and8 (a b : UInt8) : binOp .and t (w8 a) (w8 b) = pure (w8 (a &&& b)) := by
 show binOp .and t (.int .u8 _) (.int .u8 _) = _
 rw [binOp_and, intBits_and, u8_and_nat _ _ a.toNat_lt b.toNat_lt, ← UInt8.toNat_and]; rfl
@[go_sem] theorem or8 (a b : UInt8) : binOp .or t (w8 a) (w8 b) = pure (w8 (a ||| b)) := by
 show binOp .or t (.int .u8 _) (.int .u8 _) = _
 rw [binOp_or, intBits_or, u8_or_nat _ _ a.toNat_lt b.toNat_lt, ← UInt8.toNat_or]; rfl
@[go_sem] theorem xor8 (a b : UInt8) : binOp .xor t (w8 a) (w8 b) = pure (w8 (a ^^^ b)) := by
 show binOp .xor t (.int .u8 _) (.int .u8 _) = _
 rw [binOp_xor, intBits_xor, u8_xor_nat _ _ a.toNat_lt b.toNat_lt, ← UInt8.toNat_xor]; rfl
def shrB (x : UInt8) (n : Nat) : UInt8 := UInt8.ofNat (x.toNat / 2 ^ n)
def shlB (x : UInt8) (n : Nat) : UInt8 := UInt8.ofNat (x.toNat * 2 ^ n)
theorem shr8' (x : UInt8) (yk : IntKind) (y : Int) (h : 0 ≤ y) : Op.shift .shr .u8 (x.toNat : Int) yk y = pure (w8 (shrB x y.toNat)) := by
 rw [shift_shr_any _ _ _ _ h]
 have hx := x.toNat_lt
 have hd : x.toNat / 2 ^ y.toNat < 256 := Nat.lt_of_le_of_lt (Nat.div_le_self _ _) hx
 unfold w8 shrB
 rw [UInt8.toNat_ofNat', Nat.mod_eq_of_lt hd, ← min_pow _ _ 8 hx]
 simp [IntKind.bits]
theorem shl8' (x : UInt8) (yk : IntKind) (y : Int) (h : 0 ≤ y) : Op.shift .shl .u8 (x.toNat : Int) yk y = pure (w8 (shlB x y.toNat)) := by
 rw [shift_shl_any _ _ _ _ h]
 unfold w8 shlB
 rw [IntKind.wrap_u8', UInt8.toNat_ofNat', ← min_mul]
 simp [IntKind.bits]
@[go_sem] theorem shr8 (x : UInt8) (y : BitVec 64) : binOp .shr t (w8 x) (w64 y) = pure (w8 (shrB x y.toNat)) := shr8' x .u64 _ (by omega)
@[go_sem] theorem shl8 (x : UInt8) (y : BitVec 64) : binOp .shl t (w8 x) (w64 y) = pure (w8 (shlB x y.toNat)) := shl8' x .u64 _ (by omega)
@[go_sem] theorem shr8i (x : UInt8) (y : Int) (h : 0 ≤ y) : binOp .shr t (w8 x) (.int .i64 y) = pure (w8 (shrB x y.toNat)) := shr8' x .i64 _ h
@[go_sem] theorem shl8i (x : UInt8) (y : Int) (h : 0 ≤ y) : binOp .shl t (w8 x) (.int .i64 y) = pure (w8 (shlB x y.toNat)) := shl8' x .i64 _ h
@[go_sem] theorem quo8 (a b : UInt8) (h : b.toNat ≠ 0) : binOp .quo t (w8 a) (w8 b) = pure (w8 (a / b)) := by
 show binOp .quo t (.int .u8 _) (.int .u8 _) = _
 rw [binOp_quo]
 have ha := a.toNat_lt
 have hb := b.toNat_lt
 have hz' : ¬ (b.toNat : Int) = 0 := by omega
 unfold w8
 rw [UInt8.toNat_div]
 have hd : a.toNat / b.toNat < 256 := Nat.lt_of_le_of_lt (Nat.div_le_self _ _) ha
 simp only [Op.intDiv, if_neg hz', IntKind.wrap_u8']
 congr 2
 rw [← Int.ofNat_tdiv]
 generalize a.toNat / b.toNat = q at hd ⊢
 omega
@[go_sem] theorem rem8 (a b : UInt8) (h : b.toNat ≠ 0) : binOp .rem t (w8 a) (w8 b) = pure (w8 (a % b)) := by
 show binOp .rem t (.int .u8 _) (.int .u8 _) = _
 rw [binOp_rem]
 have ha := a.toNat_lt
 have hz' : ¬ (b.toNat : Int) = 0 := by omega
 unfold w8
 rw [UInt8.toNat_mod]
 have hd : a.toNat % b.toNat < 256 := Nat.lt_of_le_of_lt (Nat.mod_le _ _) ha
 simp only [Op.intDiv, if_neg hz']
 congr 2
@[go_sem] theorem add8r (a : UInt8) (n : Nat) (h : n < 256) : binOp .add t (w8 a) (.int .u8 (no_index (OfNat.ofNat n))) = pure (w8 (a + (UInt8.ofNat n))) := by rw [lit8 n h, add8]
@[go_sem] theorem add8l (a : UInt8) (n : Nat) (h : n < 256) : binOp .add t (.int .u8 (no_index (OfNat.ofNat n))) (w8 a) = pure (w8 ((UInt8.ofNat n) + a)) := by rw [lit8 n h, add8]
@[go_sem] theorem sub8r (a : UInt8) (n : Nat) (h : n < 256) : binOp .sub t (w8 a) (.int .u8 (no_index (OfNat.ofNat n))) = pure (w8 (a - (UInt8.ofNat n))) := by rw [lit8 n h, sub8]
@[go_sem] theorem sub8l (a : UInt8) (n : Nat) (h : n < 256) : binOp .sub t (.int .u8 (no_index (OfNat.ofNat n))) (w8 a) = pure (w8 ((UInt8.ofNat n) - a)) := by rw [lit8 n h, sub8]
@[go_sem] theorem mul8r (a : UInt8) (n : Nat) (h : n < 256) : binOp .mul t (w8 a) (.int .u8 (no_index (OfNat.ofNat n))) = pure (w8 (a * (UInt8.ofNat n))) := by rw [lit8 n h, mul8]
@[go_sem] theorem mul8l (a : UInt8) (n : Nat) (h : n < 256) : binOp .mul t (.int .u8 (no_index (OfNat.ofNat n))) (w8 a) = pure (w8 ((UInt8.ofNat n) * a)) := by rw [lit8 n h, mul8]
@[go_sem] theorem and8r (a : UInt8) (n : Nat) (h : n < 256) : binOp .and t (w8 a) (.int .u8 (no_index (OfNat.ofNat n))) = pure (w8 (a &&& (UInt8.ofNat n))) := by rw [lit8 n h, and8]
@[go_sem] theorem and8l (a : UInt8) (n : Nat) (h : n < 256) : binOp .and t (.int .u8 (no_index (OfNat.ofNat n))) (w8 a) = pure (w8 ((UInt8.ofNat n) &&& a)) := by rw [lit8 n h, and8]
@[go_sem] theorem or8r (a : UInt8) (n : Nat) (h : n < 256) : binOp .or t (w8 a) (.int .u8 (no_index (OfNat.ofNat n))) = pure (w8 (a ||| (UInt8.ofNat n))) := by rw [lit8 n h, or8]
@[go_sem] theorem or8l (a : UInt8) (n : Nat) (h : n < 256) : binOp .or t (.int .u8 (no_index (OfNat.ofNat n))) (w8 a) = pure (w8 ((UInt8.ofNat n) ||| a)) := by rw [lit8 n h, or8]
@[go_sem] theorem xor8r (a : UInt8) (n : Nat) (h : n < 256) : binOp .xor t (w8 a) (.int .u8 (no_index (OfNat.ofNat n))) = pure (w8 (a ^^^ (UInt8.ofNat n))) := by rw [lit8 n h, xor8]
@[go_sem] theorem xor8l (a : UInt8) (n : Nat) (h : n < 256) : binOp .xor t (.int .u8 (no_index (OfNat.ofNat n))) (w8 a) = pure (w8 ((UInt8.ofNat n) ^^^ a)) := by rw [lit8 n h, xor8]
@[go_sem] theorem eql8r (a : UInt8) (n : Nat) (h : n < 256) : binOp .eql t (w8 a) (.int .u8 (no_index (OfNat.ofNat n))) = pure (.bool (eq8 a (UInt8.ofNat n))) := by rw [lit8 n h, eql8]
@[go_sem] theorem eql8l (a : UInt8) (n : Nat) (h : n < 256) : binOp .eql t (.int .u8 (no_index (OfNat.ofNat n))) (w8 a) = pure (.bool (eq8 (UInt8.ofNat n) a)) := by rw [lit8 n h, eql8]
@[go_sem] theorem neq8r (a : UInt8) (n : Nat) (h : n < 256) : binOp .neq t (w8 a) (.int .u8 (no_index (OfNat.ofNat n))) = pure (.bool (!eq8 a (UInt8.ofNat n))) := by rw [lit8 n h, neq8]
@[go_sem] theorem neq8l (a : UInt8) (n : Nat) (h : n < 256) : binOp .neq t (.int .u8 (no_index (OfNat.ofNat n))) (w8 a) = pure (.bool (!eq8 (UInt8.ofNat n) a)) := by rw [lit8 n h, neq8]
@[go_sem] theorem leq8r (a : UInt8) (n : Nat) (h : n < 256) : binOp .leq t (w8 a) (.int .u8 (no_index (OfNat.ofNat n))) = pure (.bool (le8 a (UInt8.ofNat n))) := by rw [lit8 n h, leq8]
@[go_sem] theorem leq8l (a : UInt8) (n : Nat) (h : n < 256) : binOp .leq t (.int .u8 (no_index (OfNat.ofNat n))) (w8 a) = pure (.bool (le8 (UInt8.ofNat n) a)) := by rw [lit8 n h, leq8]
@[go_sem] theorem lss8r (a : UInt8) (n : Nat) (h : n < 256) : binOp .lss t (w8 a) (.int .u8 (no_index (OfNat.ofNat n))) = pure (.bool (lt8 a (UInt8.ofNat n))) := by rw [lit8 n h, lss8]
@[go_sem] theorem lss8l (a : UInt8) (n : Nat) (h : n < 256) : binOp .lss t (.int .u8 (no_index (OfNat.ofNat n))) (w8 a) = pure (.bool (lt8 (UInt8.ofNat n) a)) := by rw [lit8 n h, lss8]
@[go_sem] theorem geq8r (a : UInt8) (n : Nat) (h : n < 256) : binOp .geq t (w8 a) (.int .u8 (no_index (OfNat.ofNat n))) = pure (.bool (le8 (UInt8.ofNat n) a)) := by rw [lit8 n h, geq8]
@[go_sem] theorem geq8l (a : UInt8) (n : Nat) (h : n < 256) : binOp .geq t (.int .u8 (no_index (OfNat.ofNat n))) (w8 a) = pure (.bool (le8 a (UInt8.ofNat n))) := by rw [lit8 n h, geq8]
@[go_sem] theorem gtr8r (a : UInt8) (n : Nat) (h : n < 256) : binOp .gtr t (w8 a) (.int .u8 (no_index (OfNat.ofNat n))) = pure (.bool (lt8 (UInt8.ofNat n) a)) := by rw [lit8 n h, gtr8]
@[go_sem] theorem gtr8l (a : UInt8) (n : Nat) (h : n < 256) : binOp .gtr t (.int .u8 (no_index (OfNat.ofNat n))) (w8 a) = pure (.bool (lt8 a (UInt8.ofNat n))) := by rw [lit8 n h, gtr8]
@[go_sem] theorem guard8_any (op : BinOp) (x y : Operand) (a : UInt8) (v : Value) : eqGuard op t x y (w8 a) v = pure () := by cases op <;> cases v <;> rfl
@[go_sem] theorem guard8_lit (op : BinOp) (x y : Operand) (k : IntKind) (n : Int) (v : Value) : eqGuard op t x y (.int k n) v = pure () := by cases op <;> cases v <;> rfl
@[go_sem] theorem add32r (a : BitVec 32) (n : Nat) (h : n < 4294967296) : binOp .add t (w32 a) (.int .u32 (no_index (OfNat.ofNat n))) = pure (w32 (a + (BitVec.ofNat 32 n))) := by rw [lit32 n h, add32]
@[go_sem] theorem add32l (a : BitVec 32) (n : Nat) (h : n < 4294967296) : binOp .add t (.int .u32 (no_index (OfNat.ofNat n))) (w32 a) = pure (w32 ((BitVec.ofNat 32 n) + a)) := by rw [lit32 n h, add32]
@[go_sem] theorem sub32r (a : BitVec 32) (n : Nat) (h : n < 4294967296) : binOp .sub t (w32 a) (.int .u32 (no_index (OfNat.ofNat n))) = pure (w32 (a - (BitVec.ofNat 32 n))) := by rw [lit32 n h, sub32]
@[go_sem] theorem sub32l (a : BitVec 32) (n : Nat) (h : n < 4294967296) : binOp .sub t (.int .u32 (no_index (OfNat.ofNat n))) (w32 a) = pure (w32 ((BitVec.ofNat 32 n) - a)) := by rw [lit32 n h, sub32]
@[go_sem] theorem mul32r (a : BitVec 32) (n : Nat) (h : n < 4294967296) : binOp .mul t (w32 a) (.int .u32 (no_index (OfNat.ofNat n))) = pure (w32 (a * (BitVec.ofNat 32 n))) := by rw [lit32 n h, mul32]
@[go_sem] theorem mul32l (a : BitVec 32) (n : Nat) (h : n < 4294967296) : binOp .mul t (.int .u32 (no_index (OfNat.ofNat n))) (w32 a) = pure (w32 ((BitVec.ofNat 32 n) * a)) := by rw [lit32 n h, mul32]
@[go_sem] theorem and32r (a : BitVec 32) (n : Nat) (h : n < 4294967296) : binOp .and t (w32 a) (.int .u32 (no_index (OfNat.ofNat n))) = pure (w32 (a &&& (BitVec.ofNat 32 n))) := by rw [lit32 n h, and32]
@[go_sem] theorem and32l (a : BitVec 32) (n : Nat) (h : n < 4294967296) : binOp .and t (.int .u32 (no_index (OfNat.ofNat n))) (w32 a) = pure (w32 ((BitVec.ofNat 32 n) &&& a)) := by rw [lit32 n h, and32]
@[go_sem] theorem or32r (a : BitVec 32) (n : Nat) (h : n < 4294967296) : binOp .or t (w32 a) (.int .u32 (no_index (OfNat.ofNat n))) = pure (w32 (a ||| (BitVec.ofNat 32 n))) := by rw [lit32 n h, or32]
@[go_sem] theorem or32l (a : BitVec 32) (n : Nat) (h : n < 4294967296) : binOp .or t (.int .u32 (no_index (OfNat.ofNat n))) (w32 a) = pure (w32 ((BitVec.ofNat 32 n) ||| a)) := by rw [lit32 n h, or32]
@[go_sem] theorem xor32r (a : BitVec 32) (n : Nat) (h : n < 4294967296) : binOp .xor t (w32 a) (.int .u32 (no_index (OfNat.ofNat n))) = pure (w32 (a ^^^ (BitVec.ofNat 32 n))) := by rw [lit32 n h, xor32]
@[go_sem] theorem xor32l (a : BitVec 32) (n : Nat) (h : n < 4294967296) : binOp .xor t (.int .u32 (no_index (OfNat.ofNat n))) (w32 a) = pure (w32 ((BitVec.ofNat 32 n) ^^^ a)) := by rw [lit32 n h, xor32]
@[go_sem] theorem eql32r (a : BitVec 32) (n : Nat) (h : n < 4294967296) : binOp .eql t (w32 a) (.int .u32 (no_index (OfNat.ofNat n))) = pure (.bool (eq32 a (BitVec.ofNat 32 n))) := by rw [lit32 n h, eql32]
@[go_sem] theorem eql32l (a : BitVec 32) (n : Nat) (h : n < 4294967296) : binOp .eql t (.int .u32 (no_index (OfNat.ofNat n))) (w32 a) = pure (.bool (eq32 (BitVec.ofNat 32 n) a)) := by rw [lit32 n h, eql32]
@[go_sem] theorem neq32r (a : BitVec 32) (n : Nat) (h : n < 4294967296) : binOp .neq t (w32 a) (.int .u32 (no_index (OfNat.ofNat n))) = pure (.bool (!eq32 a (BitVec.ofNat 32 n))) := by rw [lit32 n h, neq32]
@[go_sem] theorem neq32l (a : BitVec 32) (n : Nat) (h : n < 4294967296) : binOp .neq t (.int .u32 (no_index (OfNat.ofNat n))) (w32 a) = pure (.bool (!eq32 (BitVec.ofNat 32 n) a)) := by rw [lit32 n h, neq32]
@[go_sem] theorem guard32_any (op : BinOp) (x y : Operand) (a : BitVec 32) (v : Value) : eqGuard op t x y (w32 a) v = pure () := by cases op <;> cases v <;> rfl
@[go_sem] theorem add64r (a : BitVec 64) (n : Nat) (h : n < 18446744073709551616) : binOp .add t (w64 a) (.int .u64 (no_index (OfNat.ofNat n))) = pure (w64 (a + (BitVec.ofNat 64 n))) := by rw [lit64 n h, add64]
@[go_sem] theorem add64l (a : BitVec 64) (n : Nat) (h : n < 18446744073709551616) : binOp .add t (.int .u64 (no_index (OfNat.ofNat n))) (w64 a) = pure (w64 ((BitVec.ofNat 64 n) + a)) := by rw [lit64 n h, add64]
@[go_sem] theorem sub64r (a : BitVec 64) (n : Nat) (h : n < 18446744073709551616) : binOp .sub t (w64 a) (.int .u64 (no_index (OfNat.ofNat n))) = pure (w64 (a - (BitVec.ofNat 64 n))) := by rw [lit64 n h, sub64]
@[go_sem] theorem sub64l (a : BitVec 64) (n : Nat) (h : n < 18446744073709551616) : binOp .sub t (.int .u64 (no_index (OfNat.ofNat n))) (w64 a) = pure (w64 ((BitVec.ofNat 64 n) - a)) := by rw [lit64 n h, sub64]
@[go_sem] theorem mul64r (a : BitVec 64) (n : Nat) (h : n < 18446744073709551616) : binOp .mul t (w64 a) (.int .u64 (no_index (OfNat.ofNat n))) = pure (w64 (a * (BitVec.ofNat 64 n))) := by rw [lit64 n h, mul64]
@[go_sem] theorem mul64l (a : BitVec 64) (n : Nat) (h : n < 18446744073709551616) : binOp .mul t (.int .u64 (no_index (OfNat.ofNat n))) (w64 a) = pure (w64 ((BitVec.ofNat 64 n) * a)) := by rw [lit64 n h, mul64]
@[go_sem] theorem and64r (a : BitVec 64) (n : Nat) (h : n < 18446744073709551616) : binOp .and t (w64 a) (.int .u64 (no_index (OfNat.ofNat n))) = pure (w64 (a &&& (BitVec.ofNat 64 n))) := by rw [lit64 n h, and64]
@[go_sem] theorem and64l (a : BitVec 64) (n : Nat) (h : n < 18446744073709551616) : binOp .and t (.int .u64 (no_index (OfNat.ofNat n))) (w64 a) = pure (w64 ((BitVec.ofNat 64 n) &&& a)) := by rw [lit64 n h, and64]
@[go_sem] theorem or64r (a : BitVec 64) (n : Nat) (h : n < 18446744073709551616) : binOp .or t (w64 a) (.int .u64 (no_index (OfNat.ofNat n))) = pure (w64 (a ||| (BitVec.ofNat 64 n))) := by rw [lit64 n h, or64]
@[go_sem] theorem or64l (a : BitVec 64) (n : Nat) (h : n < 18446744073709551616) : binOp .or t (.int .u64 (no_index (OfNat.ofNat n))) (w64 a) = pure (w64 ((BitVec.ofNat 64 n) ||| a)) := by rw [lit64 n h, or64]
@[go_sem] theorem xor64r (a : BitVec 64) (n : Nat) (h : n < 18446744073709551616) : binOp .xor t (w64 a) (.int .u64 (no_index (OfNat.ofNat n))) = pure (w64 (a ^^^ (BitVec.ofNat 64 n))) := by rw [lit64 n h, xor64]
@[go_sem] theorem xor64l (a : BitVec 64) (n : Nat) (h : n < 18446744073709551616) : binOp .xor t (.int .u64 (no_index (OfNat.ofNat n))) (w64 a) = pure (w64 ((BitVec.ofNat 64 n) ^^^ a)) := by rw [lit64 n h, xor64]
@[go_sem] theorem eql64r (a : BitVec 64) (n : Nat) (h : n < 18446744073709551616) : binOp .eql t (w64 a) (.int .u64 (no_index (OfNat.ofNat n))) = pure (.bool (eq64 a (BitVec.ofNat 64 n))) := by rw [lit64 n h, eql64]
@[go_sem] theorem eql64l (a : BitVec 64) (n : Nat) (h : n < 18446744073709551616) : binOp .eql t (.int .u64 (no_index (OfNat.ofNat n))) (w64 a) = pure (.bool (eq64 (BitVec.ofNat 64 n) a)) := by rw [lit64 n h, eql64]
@[go_sem] theorem neq64r (a : BitVec 64) (n : Nat) (h : n < 18446744073709551616) : binOp .neq t (w64 a) (.int .u64 (no_index (OfNat.ofNat n))) = pure (.bool (!eq64 a (BitVec.ofNat 64 n))) := by rw [lit64 n h, neq64]
@[go_sem] theorem neq64l (a : BitVec 64) (n : Nat) (h : n < 18446744073709551616) : binOp .neq t (.int .u64 (no_index (OfNat.ofNat n))) (w64 a) = pure (.bool (!eq64 (BitVec.ofNat 64 n) a)) := by rw [lit64 n h, neq64]
@[go_sem] theorem guard64_any (op : BinOp) (x y : Operand) (a : BitVec 64) (v : Value) : eqGuard op t x y (w64 a) v = pure () := by cases op <;> cases v <;> rfl
@[go_sem] theorem shr8_litu64 (a : UInt8) (n : Nat) : binOp .shr t (w8 a) (.int .u64 (no_index (OfNat.ofNat n))) = pure (w8 (shrB a n)) := shr8' a .u64 _ (Int.natCast_nonneg n)
@[go_sem] theorem shr8_liti64 (a : UInt8) (n : Nat) : binOp .shr t (w8 a) (.int .i64 (no_index (OfNat.ofNat n))) = pure (w8 (shrB a n)) := shr8' a .i64 _ (Int.natCast_nonneg n)
@[go_sem] theorem shl8_litu64 (a : UInt8) (n : Nat) : binOp .shl t (w8 a) (.int .u64 (no_index (OfNat.ofNat n))) = pure (w8 (shlB a n)) := shl8' a .u64 _ (Int.natCast_nonneg n)
@[go_sem] theorem shl8_liti64 (a : UInt8) (n : Nat) : binOp .shl t (w8 a) (.int .i64 (no_index (OfNat.ofNat n))) = pure (w8 (shlB a n)) := shl8' a .i64 _ (Int.natCast_nonneg n)
@[go_sem] theorem shr32_litu64 (a : BitVec 32) (n : Nat) : binOp .shr t (w32 a) (.int .u64 (no_index (OfNat.ofNat n))) = pure (w32 (a >>> n)) := shr32' a .u64 _ (Int.natCast_nonneg n)
@[go_sem] theorem shr32_liti64 (a : BitVec 32) (n : Nat) : binOp .shr t (w32 a) (.int .i64 (no_index (OfNat.ofNat n))) = pure (w32 (a >>> n)) := shr32' a .i64 _ (Int.natCast_nonneg n)
@[go_sem] theorem shl32_litu64 (a : BitVec 32) (n : Nat) : binOp .shl t (w32 a) (.int .u64 (no_index (OfNat.ofNat n))) = pure (w32 (a <<< n)) := shl32' a .u64 _ (Int.natCast_nonneg n)
@[go_sem] theorem shl32_liti64 (a : BitVec 32) (n : Nat) : binOp .shl t (w32 a) (.int .i64 (no_index (OfNat.ofNat n))) = pure (w32 (a <<< n)) := shl32' a .i64 _ (Int.natCast_nonneg n)
@[go_sem] theorem shr64_litu64 (a : BitVec 64) (n : Nat) : binOp .shr t (w64 a) (.int .u64 (no_index (OfNat.ofNat n))) = pure (w64 (a >>> n)) := shr64' a .u64 _ (Int.natCast_nonneg n)
@[go_sem] theorem shr64_liti64 (a : BitVec 64) (n : Nat) : binOp .shr t (w64 a) (.int .i64 (no_index (OfNat.ofNat n))) = pure (w64 (a >>> n)) := shr64' a .i64 _ (Int.natCast_nonneg n)
@[go_sem] theorem shl64_litu64 (a : BitVec 64) (n : Nat) : binOp .shl t (w64 a) (.int .u64 (no_index (OfNat.ofNat n))) = pure (w64 (a <<< n)) := shl64' a .u64 _ (Int.natCast_nonneg n)
@[go_sem] theorem shl64_liti64 (a : BitVec 64) (n : Nat) : binOp .shl t (w64 a) (.int .i64 (no_index (OfNat.ofNat n))) = pure (w64 (a <<< n)) := shl64' a .i64 _ (Int.natCast_nonneg n)
@[go_sem] theorem quo8r (a : UInt8) (n : Nat) (h : n < 256) (h0 : 0 < n) : binOp .quo t (w8 a) (.int .u8 (no_index (OfNat.ofNat n))) = pure (w8 (a / (UInt8.ofNat n))) := by
 rw [lit8 n h, quo8]; rw [UInt8.toNat_ofNat', Nat.mod_eq_of_lt h]; omega
@[go_sem] theorem rem8r (a : UInt8) (n : Nat) (h : n < 256) (h0 : 0 < n) : binOp .rem t (w8 a) (.int .u8 (no_index (OfNat.ofNat n))) = pure (w8 (a % (UInt8.ofNat n))) := by
 rw [lit8 n h, rem8]; rw [UInt8.toNat_ofNat', Nat.mod_eq_of_lt h]; omega
@[go_sem] theorem vw64 (n : Int) : Value.int .u64 (IntKind.u64.wrap n) = w64 (BitVec.ofInt 64 n) := by
 unfold w64; rw [IntKind.wrap_u64, BitVec.toNat_ofInt]; congr 1; omega
@[go_sem] theorem vw32 (n : Int) : Value.int .u32 (IntKind.u32.wrap n) = w32 (BitVec.ofInt 32 n) := by
 unfold w32; rw [IntKind.wrap_u32', BitVec.toNat_ofInt]; congr 1; omega
@[go_sem] theorem vw8 (n : Int) : Value.int .u8 (IntKind.u8.wrap n) = w8 (UInt8.ofInt n) := by
 unfold w8; rw [IntKind.wrap_u8']; congr 1
 have h : ((UInt8.ofInt n).toNat : Int) = n % 256 := by
  show (((UInt8.ofNat (n % 2 ^ 8).toNat).toNat : Nat) : Int) = _
  rw [UInt8.toNat_ofNat']
  omega
 omega
variable (src dst : TypeId)
theorem conv (k : IntKind) (v : Value) (n : Int) (hv : v = .int k n) (kd : IntKind) (hs : (P.underlying src).isSome = true) (hd : P.underlying dst = some (.int kd)) :
  (convert src dst v).run P w = .ok (.int kd (kd.wrap n)) w := by
 have hk : P.intKind dst = kd := by
  unfold Program.intKind
  rw [hd]
 subst hv
 rw [run_convert_int w src dst k n hs (by rw [hk, hd]), hk]
@[go_sem] theorem conv8_32 (b : UInt8) (hs : (P.underlying src).isSome = true) (hd : P.underlying dst = some (.int .u32)) : (convert src dst (w8 b)).run P w = .ok (w32 (bw b)) w := by
 rw [conv w src dst .u8 (w8 b) (b.toNat : Int) rfl .u32 hs hd, wrap32n]
 unfold w32 bw
 rw [BitVec.toNat_ofNat, BitVec.toNat_setWidth]; rfl
@[go_sem] theorem conv8_64 (b : UInt8) (hs : (P.underlying src).isSome = true) (hd : P.underlying dst = some (.int .u64)) : (convert src dst (w8 b)).run P w = .ok (w64 (bq b)) w := by
 rw [conv w src dst .u8 (w8 b) (b.toNat : Int) rfl .u64 hs hd, wrap64n]
 unfold w64 bq
 rw [BitVec.toNat_ofNat, BitVec.toNat_setWidth]; rfl
@[go_sem] theorem conv8_i (b : UInt8) (hs : (P.underlying src).isSome = true) (hd : P.underlying dst = some (.int .i64)) : (convert src dst (w8 b)).run P w = .ok (.int .i64 (b.toNat : Int)) w := by
 have := b.toNat_lt
 rw [conv w src dst .u8 (w8 b) (b.toNat : Int) rfl .i64 hs hd, IntKind.wrap_i64]
 have e : ((b.toNat : Int) + 9223372036854775808) % 18446744073709551616 - 9223372036854775808 = b.toNat := by omega
 rw [e]
@[go_sem] theorem conv32_8 (x : BitVec 32) (hs : (P.underlying src).isSome = true) (hd : P.underlying dst = some (.int .u8)) : (convert src dst (w32 x)).run P w = .ok (w8 (wb x)) w := by
 rw [conv w src dst .u32 (w32 x) (x.toNat : Int) rfl .u8 hs hd, wrap8n]
 congr 2
@[go_sem] theorem conv64_8 (x : BitVec 64) (hs : (P.underlying src).isSome = true) (hd : P.underlying dst = some (.int .u8)) : (convert src dst (w64 x)).run P w = .ok (w8 (qb x)) w := by
 rw [conv w src dst .u64 (w64 x) (x.toNat : Int) rfl .u8 hs hd, wrap8n]
 congr 2
@[go_sem] theorem convi_8 (n : Int) (hs : (P.underlying src).isSome = true) (hd : P.underlying dst = some (.int .u8)) : (convert src dst (.int .i64 n)).run P w = .ok (w8 (UInt8.ofInt n)) w := by
 rw [conv w src dst .i64 _ _ rfl .u8 hs hd, IntKind.wrap_u8']
 congr 2
 have h : ((UInt8.ofInt n).toNat : Int) = n % 256 := by
  show (((UInt8.ofNat (n % 2 ^ 8).toNat).toNat : Nat) : Int) = _
  rw [UInt8.toNat_ofNat']
  omega
 omega
@[go_sem] theorem convi_64 (n : Int) (hs : (P.underlying src).isSome = true) (hd : P.underlying dst = some (.int .u64)) : (convert src dst (.int .i64 n)).run P w = .ok (w64 (BitVec.ofInt 64 n)) w := by
 rw [conv w src dst .i64 _ _ rfl .u64 hs hd, IntKind.wrap_u64]
 congr 2
 rw [BitVec.toNat_ofInt]
 omega
@[go_sem] theorem conv64_i (x : BitVec 64) (hs : (P.underlying src).isSome = true) (hd : P.underlying dst = some (.int .i64)) : (convert src dst (w64 x)).run P w = .ok (.int .i64 (i64of x)) w := by
 rw [conv w src dst .u64 (w64 x) (x.toNat : Int) rfl .i64 hs hd, IntKind.wrap_i64]
 have := x.isLt
 have e : ((x.toNat : Int) + 9223372036854775808) % 18446744073709551616 - 9223372036854775808 = x.toInt := by
  rw [BitVec.toInt_eq_toNat_cond]
  split <;> omega
 rw [e]; rfl
end
end Go.Proofs.Ytjicccjpooahoaa
