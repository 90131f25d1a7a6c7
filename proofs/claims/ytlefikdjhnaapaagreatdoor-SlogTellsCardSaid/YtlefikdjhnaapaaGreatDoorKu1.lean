/- Several texts of this claim in one. -/
import Derived.WalkKit
import Derived.ProofKit
import Derived.WalkSpells
import Derived.WalkLawsBesides
import Derived.Laws.OwnMore
import Derived.Laws.IdiomStrings
import Derived.Deep.Draws
import Derived.Deep.OwnRows
import Derived.StillTailTactics
import Derived.Laws.StructEq
import Derived.Laws.Strings
import Derived.Laws.PanicsMore
import Derived.Laws.Tables
set_option linter.unusedSectionVars false
set_option linter.unusedVariables false
set_option linter.unusedSimpArgs false
section
namespace Go.Proofs.YtlefikdjhnaapaaGreatDoor
open Go
structure Veil (p : Prop) : Prop where
 out : p
def w8 (b : UInt8) : Value := .int .u8 (b.toNat : Int)
def w32 (x : BitVec 32) : Value := .int .u32 (x.toNat : Int)
def w64 (x : BitVec 64) : Value := .int .u64 (x.toNat : Int)
@[go_sem] theorem v8 (b : UInt8) : Value.int .u8 (b.toNat : Int) = w8 b := rfl
@[go_sem] theorem v32 (x : BitVec 32) : Value.int .u32 (x.toNat : Int) = w32 x := rfl
@[go_sem] theorem v64 (x : BitVec 64) : Value.int .u64 (x.toNat : Int) = w64 x := rfl
def bw (b : UInt8) : BitVec 32 := b.toBitVec.setWidth 32
def bq (b : UInt8) : BitVec 64 := b.toBitVec.setWidth 64
def wb (x : BitVec 32) : UInt8 := UInt8.ofBitVec (x.setWidth 8)
def i64of (x : BitVec 64) : Int := x.toInt
def qb (x : BitVec 64) : UInt8 := UInt8.ofBitVec (x.setWidth 8)
def eq32 (a b : BitVec 32) : Bool := decide (a = b)
def eq64 (a b : BitVec 64) : Bool := decide (a = b)
def eq8 (a b : UInt8) : Bool := decide (a = b)
def le8 (a b : UInt8) : Bool := decide (a.toNat ≤ b.toNat)
def lt8 (a b : UInt8) : Bool := decide (a.toNat < b.toNat)
section
variable {P : Program} (t : TypeId) (w : World)
@[go_sem] theorem run_store_w8 (a : Addr) (m : Mode) (b : UInt8) : (store a (w8 b) m).run P w = stored P w a (w8 b) m := run_store P w a _ m rfl
@[go_sem] theorem run_store_w32 (a : Addr) (m : Mode) (b : BitVec 32) : (store a (w32 b) m).run P w = stored P w a (w32 b) m := run_store P w a _ m rfl
@[go_sem] theorem run_store_w64 (a : Addr) (m : Mode) (b : BitVec 64) : (store a (w64 b) m).run P w = stored P w a (w64 b) m := run_store P w a _ m rfl
@[go_sem] theorem cells_w8 (b : UInt8) : (w8 b).cells = #[w8 b] := rfl
@[go_sem] theorem cells_w32 (b : BitVec 32) : (w32 b).cells = #[w32 b] := rfl
@[go_sem] theorem cells_w64 (b : BitVec 64) : (w64 b).cells = #[w64 b] := rfl
@[go_sem] theorem cellsm_w8 (b : UInt8) (f : Array Value → Array Value) (g : Value → Array Value) : Value.cells.match_1 (fun _ => Array Value) (w8 b) f g = g (w8 b) := rfl
@[go_sem] theorem cellsm_w32 (b : BitVec 32) (f : Array Value → Array Value) (g : Value → Array Value) : Value.cells.match_1 (fun _ => Array Value) (w32 b) f g = g (w32 b) := rfl
@[go_sem] theorem cellsm_w64 (b : BitVec 64) (f : Array Value → Array Value) (g : Value → Array Value) : Value.cells.match_1 (fun _ => Array Value) (w64 b) f g = g (w64 b) := rfl
theorem wrap32n (n : Nat) : IntKind.u32.wrap (n : Int) = ((BitVec.ofNat 32 n).toNat : Int) := by
 rw [IntKind.wrap_u32', BitVec.toNat_ofNat]; omega
theorem wrap64n (n : Nat) : IntKind.u64.wrap (n : Int) = ((BitVec.ofNat 64 n).toNat : Int) := by
 rw [IntKind.wrap_u64, BitVec.toNat_ofNat]; omega
theorem wrap8n (n : Nat) : IntKind.u8.wrap (n : Int) = ((UInt8.ofNat n).toNat : Int) := by
 rw [IntKind.wrap_u8', UInt8.toNat_ofNat']; omega
@[go_sem] theorem add32 (a b : BitVec 32) : binOp .add t (w32 a) (w32 b) = pure (w32 (a + b)) := by
 show binOp .add t (.int .u32 _) (.int .u32 _) = _
 rw [binOp_add]
 show pure (Value.int .u32 (IntKind.u32.wrap ((a.toNat : Int) + (b.toNat : Int)))) = _
 rw [← Int.natCast_add, wrap32n]
 congr 2
@[go_sem] theorem and32 (a b : BitVec 32) : binOp .and t (w32 a) (w32 b) = pure (w32 (a &&& b)) := by
 show binOp .and t (.int .u32 _) (.int .u32 _) = _
 rw [binOp_and, intBits_and, u32_and_nat _ _ a.isLt b.isLt, ← BitVec.toNat_and]; rfl
@[go_sem] theorem or32 (a b : BitVec 32) : binOp .or t (w32 a) (w32 b) = pure (w32 (a ||| b)) := by
 show binOp .or t (.int .u32 _) (.int .u32 _) = _
 rw [binOp_or, intBits_or, u32_or_nat _ _ a.isLt b.isLt, ← BitVec.toNat_or]; rfl
@[go_sem] theorem xor32 (a b : BitVec 32) : binOp .xor t (w32 a) (w32 b) = pure (w32 (a ^^^ b)) := by
 show binOp .xor t (.int .u32 _) (.int .u32 _) = _
 rw [binOp_xor, intBits_xor, u32_xor_nat _ _ a.isLt b.isLt, ← BitVec.toNat_xor]; rfl
theorem lit32 (n : Nat) (h : n < 4294967296) : Value.int .u32 (OfNat.ofNat n) = w32 (BitVec.ofNat 32 n) := by
 unfold w32; rw [BitVec.toNat_ofNat, Nat.mod_eq_of_lt h]; rfl
theorem lit64 (n : Nat) (h : n < 18446744073709551616) : Value.int .u64 (OfNat.ofNat n) = w64 (BitVec.ofNat 64 n) := by
 unfold w64; rw [BitVec.toNat_ofNat, Nat.mod_eq_of_lt h]; rfl
theorem lit8 (n : Nat) (h : n < 256) : Value.int .u8 (OfNat.ofNat n) = w8 (UInt8.ofNat n) := by
 unfold w8; rw [UInt8.toNat_ofNat', Nat.mod_eq_of_lt h]; rfl
@[go_sem] theorem not32 (a : BitVec 32) : Op.unary .xor (w32 a) = pure (w32 (~~~ a)) := by
 show pure (Value.int .u32 (Go.bits .xor .u32 IntKind.u32.max (a.toNat : Int))) = _
 rw [show IntKind.u32.max = (((0xffffffff#32).toNat : Nat) : Int) from rfl, u32_xor_nat _ _ (BitVec.isLt _) a.isLt, ← BitVec.toNat_xor]
 unfold w32
 congr 2
@[go_sem] theorem sub32 (a b : BitVec 32) : binOp .sub t (w32 a) (w32 b) = pure (w32 (a - b)) := by
 show binOp .sub t (.int .u32 _) (.int .u32 _) = _
 rw [binOp_sub]
 show pure (Value.int .u32 (IntKind.u32.wrap ((a.toNat : Int) - (b.toNat : Int)))) = _
 unfold w32
 rw [IntKind.wrap_u32', BitVec.toNat_sub]
 congr 2
 have := a.isLt
 have := b.isLt
 omega
@[go_sem] theorem mul32 (a b : BitVec 32) : binOp .mul t (w32 a) (w32 b) = pure (w32 (a * b)) := by
 show binOp .mul t (.int .u32 _) (.int .u32 _) = _
 rw [binOp_mul]
 show pure (Value.int .u32 (IntKind.u32.wrap ((a.toNat : Int) * (b.toNat : Int)))) = _
 unfold w32
 rw [IntKind.wrap_u32', BitVec.toNat_mul]
 congr 2
theorem min_pow (x y k : Nat) (hx : x < 2 ^ k) : x / 2 ^ min y k = x / 2 ^ y := by
 by_cases h : y ≤ k
 ·rw [Nat.min_eq_left h]
 ·have hk : k ≤ y := by omega
  rw [Nat.min_eq_right hk, Nat.div_eq_of_lt hx, Nat.div_eq_of_lt (Nat.lt_of_lt_of_le hx (Nat.pow_le_pow_right (by omega) hk))]
theorem min_mul (x y k : Nat) : x * 2 ^ min y k % 2 ^ k = x * 2 ^ y % 2 ^ k := by
 by_cases h : y ≤ k
 ·rw [Nat.min_eq_left h]
 ·have hk : k ≤ y := by omega
  rw [Nat.min_eq_right hk, Nat.mul_mod_left]
  obtain ⟨d, rfl⟩ := Nat.exists_eq_add_of_le hk
  rw [Nat.pow_add, Nat.mul_left_comm, Nat.mul_mod_right]
theorem shr32' (x : BitVec 32) (yk : IntKind) (y : Int) (h : 0 ≤ y) : Op.shift .shr .u32 (x.toNat : Int) yk y = pure (w32 (x >>> y.toNat)) := by
 rw [shift_shr_any _ _ _ _ h]
 unfold w32
 rw [BitVec.toNat_ushiftRight, Nat.shiftRight_eq_div_pow, ← min_pow _ _ 32 x.isLt]
 simp [IntKind.bits]
theorem shl32' (x : BitVec 32) (yk : IntKind) (y : Int) (h : 0 ≤ y) : Op.shift .shl .u32 (x.toNat : Int) yk y = pure (w32 (x <<< y.toNat)) := by
 rw [shift_shl_any _ _ _ _ h]
 unfold w32
 rw [IntKind.wrap_u32', BitVec.toNat_shiftLeft, Nat.shiftLeft_eq, ← min_mul]
 simp [IntKind.bits]
@[go_sem] theorem shr32 (x : BitVec 32) (y : BitVec 64) : binOp .shr t (w32 x) (w64 y) = pure (w32 (x >>> y.toNat)) := shr32' x .u64 _ (by omega)
@[go_sem] theorem shl32 (x : BitVec 32) (y : BitVec 64) : binOp .shl t (w32 x) (w64 y) = pure (w32 (x <<< y.toNat)) := shl32' x .u64 _ (by omega)
@[go_sem] theorem shr32i (x : BitVec 32) (y : Int) (h : 0 ≤ y) : binOp .shr t (w32 x) (.int .i64 y) = pure (w32 (x >>> y.toNat)) := shr32' x .i64 _ h
@[go_sem] theorem shl32i (x : BitVec 32) (y : Int) (h : 0 ≤ y) : binOp .shl t (w32 x) (.int .i64 y) = pure (w32 (x <<< y.toNat)) := shl32' x .i64 _ h
@[go_sem] theorem eql32 (a b : BitVec 32) : binOp .eql t (w32 a) (w32 b) = pure (.bool (eq32 a b)) := by
 show binOp .eql t (.int .u32 _) (.int .u32 _) = _
 rw [binOp_eql]
 congr 2
 rw [Bool.eq_iff_iff]; simp [eq32, BitVec.toNat_eq]; omega
@[go_sem] theorem neq32 (a b : BitVec 32) : binOp .neq t (w32 a) (w32 b) = pure (.bool (!eq32 a b)) := by
 show binOp .neq t (.int .u32 _) (.int .u32 _) = _
 rw [binOp_neq]
 congr 2
 rw [Bool.eq_iff_iff]; simp [eq32, BitVec.toNat_eq]; omega
@[go_sem] theorem add64 (a b : BitVec 64) : binOp .add t (w64 a) (w64 b) = pure (w64 (a + b)) := by
 show binOp .add t (.int .u64 _) (.int .u64 _) = _
 rw [binOp_add]
 show pure (Value.int .u64 (IntKind.u64.wrap ((a.toNat : Int) + (b.toNat : Int)))) = _
 rw [← Int.natCast_add, wrap64n]
 congr 2
@[go_sem] theorem sub64 (a b : BitVec 64) : binOp .sub t (w64 a) (w64 b) = pure (w64 (a - b)) := by
 show binOp .sub t (.int .u64 _) (.int .u64 _) = _
 rw [binOp_sub]
 show pure (Value.int .u64 (IntKind.u64.wrap ((a.toNat : Int) - (b.toNat : Int)))) = _
 unfold w64
 rw [IntKind.wrap_u64, BitVec.toNat_sub]
 congr 2
 have := a.isLt
 have := b.isLt
 omega
@[go_sem] theorem mul64 (a b : BitVec 64) : binOp .mul t (w64 a) (w64 b) = pure (w64 (a * b)) := by
 show binOp .mul t (.int .u64 _) (.int .u64 _) = _
 rw [binOp_mul]
 show pure (Value.int .u64 (IntKind.u64.wrap ((a.toNat : Int) * (b.toNat : Int)))) = _
 unfold w64
 rw [IntKind.wrap_u64, BitVec.toNat_mul]
 congr 2
@[go_sem] theorem and64 (a b : BitVec 64) : binOp .and t (w64 a) (w64 b) = pure (w64 (a &&& b)) := by
 show binOp .and t (.int .u64 _) (.int .u64 _) = _
 rw [binOp_and, intBits_and, u64_and_nat _ _ a.isLt b.isLt, ← BitVec.toNat_and]; rfl
@[go_sem] theorem or64 (a b : BitVec 64) : binOp .or t (w64 a) (w64 b) = pure (w64 (a ||| b)) := by
 show binOp .or t (.int .u64 _) (.int .u64 _) = _
 rw [binOp_or, intBits_or, u64_or_nat _ _ a.isLt b.isLt, ← BitVec.toNat_or]; rfl
@[go_sem] theorem xor64 (a b : BitVec 64) : binOp .xor t (w64 a) (w64 b) = pure (w64 (a ^^^ b)) := by
 show binOp .xor t (.int .u64 _) (.int .u64 _) = _
 rw [binOp_xor, intBits_xor, u64_xor_nat _ _ a.isLt b.isLt, ← BitVec.toNat_xor]; rfl
theorem shr64' (x : BitVec 64) (yk : IntKind) (y : Int) (h : 0 ≤ y) : Op.shift .shr .u64 (x.toNat : Int) yk y = pure (w64 (x >>> y.toNat)) := by
 rw [shift_shr_any _ _ _ _ h]
 unfold w64
 rw [BitVec.toNat_ushiftRight, Nat.shiftRight_eq_div_pow, ← min_pow _ _ 64 x.isLt]
 simp [IntKind.bits]
theorem shl64' (x : BitVec 64) (yk : IntKind) (y : Int) (h : 0 ≤ y) : Op.shift .shl .u64 (x.toNat : Int) yk y = pure (w64 (x <<< y.toNat)) := by
 rw [shift_shl_any _ _ _ _ h]
 unfold w64
 rw [IntKind.wrap_u64, BitVec.toNat_shiftLeft, Nat.shiftLeft_eq, ← min_mul]
 simp [IntKind.bits]
@[go_sem] theorem shr64 (x y : BitVec 64) : binOp .shr t (w64 x) (w64 y) = pure (w64 (x >>> y.toNat)) := shr64' x .u64 _ (by omega)
@[go_sem] theorem shl64 (x y : BitVec 64) : binOp .shl t (w64 x) (w64 y) = pure (w64 (x <<< y.toNat)) := shl64' x .u64 _ (by omega)
@[go_sem] theorem shr64i (x : BitVec 64) (y : Int) (h : 0 ≤ y) : binOp .shr t (w64 x) (.int .i64 y) = pure (w64 (x >>> y.toNat)) := shr64' x .i64 _ h
@[go_sem] theorem shl64i (x : BitVec 64) (y : Int) (h : 0 ≤ y) : binOp .shl t (w64 x) (.int .i64 y) = pure (w64 (x <<< y.toNat)) := shl64' x .i64 _ h
@[go_sem] theorem eql64 (a b : BitVec 64) : binOp .eql t (w64 a) (w64 b) = pure (.bool (eq64 a b)) := by
 show binOp .eql t (.int .u64 _) (.int .u64 _) = _
 rw [binOp_eql]
 congr 2
 rw [Bool.eq_iff_iff]; simp [eq64, BitVec.toNat_eq]; omega
@[go_sem] theorem neq64 (a b : BitVec 64) : binOp .neq t (w64 a) (w64 b) = pure (.bool (!eq64 a b)) := by
 show binOp .neq t (.int .u64 _) (.int .u64 _) = _
 rw [binOp_neq]
 congr 2
 rw [Bool.eq_iff_iff]; simp [eq64, BitVec.toNat_eq]; omega
@[go_sem] theorem eql8 (a b : UInt8) : binOp .eql t (w8 a) (w8 b) = pure (.bool (eq8 a b)) := by
 show binOp .eql t (.int .u8 _) (.int .u8 _) = _
 rw [binOp_eql]
 congr 2
 rw [Bool.eq_iff_iff]; simp [eq8, ← UInt8.toNat_inj]; omega
@[go_sem] theorem neq8 (a b : UInt8) : binOp .neq t (w8 a) (w8 b) = pure (.bool (!eq8 a b)) := by
 show binOp .neq t (.int .u8 _) (.int .u8 _) = _
 rw [binOp_neq]
 congr 2
 rw [Bool.eq_iff_iff]; simp [eq8, ← UInt8.toNat_inj]; omega
@[go_sem] theorem leq8 (a b : UInt8) : binOp .leq t (w8 a) (w8 b) = pure (.bool (le8 a b)) := by
 show binOp .leq t (.int .u8 _) (.int .u8 _) = _
 rw [binOp_leq]
 congr 2
 rw [Bool.eq_iff_iff]; simp [le8]
@[go_sem] theorem lss8 (a b : UInt8) : binOp .lss t (w8 a) (w8 b) = pure (.bool (lt8 a b)) := by
 show binOp .lss t (.int .u8 _) (.int .u8 _) = _
 rw [binOp_lss]
 congr 2
 rw [Bool.eq_iff_iff]; simp [lt8]
@[go_sem] theorem geq8 (a b : UInt8) : binOp .geq t (w8 a) (w8 b) = pure (.bool (le8 b a)) := by
 show binOp .geq t (.int .u8 _) (.int .u8 _) = _
 rw [binOp_geq]
 congr 2
 rw [Bool.eq_iff_iff]; simp [le8]
@[go_sem] theorem gtr8 (a b : UInt8) : binOp .gtr t (w8 a) (w8 b) = pure (.bool (lt8 b a)) := by
 show binOp .gtr t (.int .u8 _) (.int .u8 _) = _
 rw [binOp_gtr]
 congr 2
 rw [Bool.eq_iff_iff]; simp [lt8]
@[go_sem] theorem add8 (a b : UInt8) : binOp .add t (w8 a) (w8 b) = pure (w8 (a + b)) := by
 show binOp .add t (.int .u8 _) (.int .u8 _) = _
 rw [binOp_add]
 show pure (Value.int .u8 (IntKind.u8.wrap ((a.toNat : Int) + (b.toNat : Int)))) = _
 unfold w8
 rw [IntKind.wrap_u8', UInt8.toNat_add]
 congr 2
@[go_sem] theorem sub8 (a b : UInt8) : binOp .sub t (w8 a) (w8 b) = pure (w8 (a - b)) := by
 show binOp .sub t (.int .u8 _) (.int .u8 _) = _
 rw [binOp_sub]
 show pure (Value.int .u8 (IntKind.u8.wrap ((a.toNat : Int) - (b.toNat : Int)))) = _
 unfold w8
 rw [IntKind.wrap_u8', UInt8.toNat_sub]
 congr 2
 have := a.toNat_lt
 have := b.toNat_lt
 omega
@[go_sem] theorem mul8 (a b : UInt8) : binOp .mul t (w8 a) (w8 b) = pure (w8 (a * b)) := by
 show binOp .mul t (.int .u8 _) (.int .u8 _) = _
 rw [binOp_mul]
 show pure (Value.int .u8 (IntKind.u8.wrap ((a.toNat : Int) * (b.toNat : Int)))) = _
 unfold w8
 rw [IntKind.wrap_u8', UInt8.toNat_mul]
 congr 2
@[go_sem] theorem and8 (a b : UInt8) : binOp .and t (w8 a) (w8 b) = pure (w8 (a &&& b)) := by
 show binOp .and t (.int .u8 _) (.int .u8 _) = _
 rw [binOp_and, intBits_and, u8_and_nat _ _ a.toNat_lt b.toNat_lt, ← UInt8.toNat_and]; rfl
@[go_sem] theorem or8 (a b : UInt8) : binOp .or t (w8 a) (w8 b) = pure (w8 (a ||| b)) := by
 show binOp .or t (.int .u8 _) (.int .u8 _) = _
 rw [binOp_or, intBits_or, u8_or_nat _ _ a.toNat_lt b.toNat_lt, ← UInt8.toNat_or]; rfl
@[go_sem] theorem xor8 (a b : UInt8) : binOp .xor t (w8 a) (w8 b) = pure (w8 (a ^^^ b)) := by
 show binOp .xor t (.int .u8 _) (.int .u8 _) = _
 rw [binOp_xor, intBits_xor, u8_xor_nat _ _ a.toNat_lt b.toNat_lt, ← UInt8.toNat_xor]; rfl
def shrB (x : UInt8) (n : Nat) : UInt8 := UInt8.ofNat (x.toNat / 2 ^ n)
def shlB (x : UInt8) (n : Nat) : UInt8 := UInt8.ofNat (x.toNat * 2 ^ n)
theorem shr8' (x : UInt8) (yk : IntKind) (y : Int) (h : 0 ≤ y) : Op.shift .shr .u8 (x.toNat : Int) yk y = pure (w8 (shrB x y.toNat)) := by
 rw [shift_shr_any _ _ _ _ h]
 have hx := x.toNat_lt
 have hd : x.toNat / 2 ^ y.toNat < 256 := Nat.lt_of_le_of_lt (Nat.div_le_self _ _) hx
 unfold w8 shrB
 rw [UInt8.toNat_ofNat', Nat.mod_eq_of_lt hd, ← min_pow _ _ 8 hx]
 simp [IntKind.bits]
theorem shl8' (x : UInt8) (yk : IntKind) (y : Int) (h : 0 ≤ y) : Op.shift .shl .u8 (x.toNat : Int) yk y = pure (w8 (shlB x y.toNat)) := by
 rw [shift_shl_any _ _ _ _ h]
 unfold w8 shlB
 rw [IntKind.wrap_u8', UInt8.toNat_ofNat', ← min_mul]
 simp [IntKind.bits]
@[go_sem] theorem shr8 (x : UInt8) (y : BitVec 64) : binOp .shr t (w8 x) (w64 y) = pure (w8 (shrB x y.toNat)) := shr8' x .u64 _ (by omega)
@[go_sem] theorem shl8 (x : UInt8) (y : BitVec 64) : binOp .shl t (w8 x) (w64 y) = pure (w8 (shlB x y.toNat)) := shl8' x .u64 _ (by omega)
@[go_sem] theorem shr8i (x : UInt8) (y : Int) (h : 0 ≤ y) : binOp .shr t (w8 x) (.int .i64 y) = pure (w8 (shrB x y.toNat)) := shr8' x .i64 _ h
@[go_sem] theorem shl8i (x : UInt8) (y : Int) (h : 0 ≤ y) : binOp .shl t (w8 x) (.int .i64 y) = pure (w8 (shlB x y.toNat)) := shl8' x .i64 _ h
@[go_sem] theorem quo8 (a b : UInt8) (h : b.toNat ≠ 0) : binOp .quo t (w8 a) (w8 b) = pure (w8 (a / b)) := by
 show binOp .quo t (.int .u8 _) (.int .u8 _) = _
 rw [binOp_quo]
 have ha := a.toNat_lt
 have hb := b.toNat_lt
 have hz' : ¬ (b.toNat : Int) = 0 := by omega
 unfold w8
 rw [UInt8.toNat_div]
 have hd : a.toNat / b.toNat < 256 := Nat.lt_of_le_of_lt (Nat.div_le_self _ _) ha
 simp only [Op.intDiv, if_neg hz', IntKind.wrap_u8']
 congr 2
 rw [← Int.ofNat_tdiv]
 generalize a.toNat / b.toNat = q at hd ⊢
 omega
@[go_sem] theorem rem8 (a b : UInt8) (h : b.toNat ≠ 0) : binOp .rem t (w8 a) (w8 b) = pure (w8 (a % b)) := by
 show binOp .rem t (.int .u8 _) (.int .u8 _) = _
 rw [binOp_rem]
 have ha := a.toNat_lt
 have hz' : ¬ (b.toNat : Int) = 0 := by omega
 unfold w8
 rw [UInt8.toNat_mod]
 have hd : a.toNat % b.toNat < 256 := Nat.lt_of_le_of_lt (Nat.mod_le _ _) ha
 simp only [Op.intDiv, if_neg hz']
 congr 2
@[go_sem] theorem add8r (a : UInt8) (n : Nat) (h : n < 256) : binOp .add t (w8 a) (.int .u8 (no_index (OfNat.ofNat n))) = pure (w8 (a + (UInt8.ofNat n))) := by rw [lit8 n h, add8]
@[go_sem] theorem add8l (a : UInt8) (n : Nat) (h : n < 256) : binOp .add t (.int .u8 (no_index (OfNat.ofNat n))) (w8 a) = pure (w8 ((UInt8.ofNat n) + a)) := by rw [lit8 n h, add8]
@[go_sem] theorem sub8r (a : UInt8) (n : Nat) (h : n < 256) : binOp .sub t (w8 a) (.int .u8 (no_index (OfNat.ofNat n))) = pure (w8 (a - (UInt8.ofNat n))) := by rw [lit8 n h, sub8]
@[go_sem] theorem sub8l (a : UInt8) (n : Nat) (h : n < 256) : binOp .sub t (.int .u8 (no_index (OfNat.ofNat n))) (w8 a) = pure (w8 ((UInt8.ofNat n) - a)) := by rw [lit8 n h, sub8]
@[go_sem] theorem mul8r (a : UInt8) (n : Nat) (h : n < 256) : binOp .mul t (w8 a) (.int .u8 (no_index (OfNat.ofNat n))) = pure (w8 (a * (UInt8.ofNat n))) := by rw [lit8 n h, mul8]
@[go_sem] theorem mul8l (a : UInt8) (n : Nat) (h : n < 256) : binOp .mul t (.int .u8 (no_index (OfNat.ofNat n))) (w8 a) = pure (w8 ((UInt8.ofNat n) * a)) := by rw [lit8 n h, mul8]
@[go_sem] theorem and8r (a : UInt8) (n : Nat) (h : n < 256) : binOp .and t (w8 a) (.int .u8 (no_index (OfNat.ofNat n))) = pure (w8 (a &&& (UInt8.ofNat n))) := by rw [lit8 n h, and8]
@[go_sem] theorem and8l (a : UInt8) (n : Nat) (h : n < 256) : binOp .and t (.int .u8 (no_index (OfNat.ofNat n))) (w8 a) = pure (w8 ((UInt8.ofNat n) &&& a)) := by rw [lit8 n h, and8]
@[go_sem] theorem or8r (a : UInt8) (n : Nat) (h : n < 256) : binOp .or t (w8 a) (.int .u8 (no_index (OfNat.ofNat n))) = pure (w8 (a ||| (UInt8.ofNat n))) := by rw [lit8 n h, or8]
@[go_sem] theorem or8l (a : UInt8) (n : Nat) (h : n < 256) : binOp .or t (.int .u8 (no_index (OfNat.ofNat n))) (w8 a) = pure (w8 ((UInt8.ofNat n) ||| a)) := by rw [lit8 n h, or8]
@[go_sem] theorem xor8r (a : UInt8) (n : Nat) (h : n < 256) : binOp .xor t (w8 a) (.int .u8 (no_index (OfNat.ofNat n))) = pure (w8 (a ^^^ (UInt8.ofNat n))) := by rw [lit8 n h, xor8]
@[go_sem] theorem xor8l (a : UInt8) (n : Nat) (h : n < 256) : binOp .xor t (.int .u8 (no_index (OfNat.ofNat n))) (w8 a) = pure (w8 ((UInt8.ofNat n) ^^^ a)) := by rw [lit8 n h, xor8]
@[go_sem] theorem eql8r (a : UInt8) (n : Nat) (h : n < 256) : binOp .eql t (w8 a) (.int .u8 (no_index (OfNat.ofNat n))) = pure (.bool (eq8 a (UInt8.ofNat n))) := by rw [lit8 n h, eql8]
@[go_sem] theorem eql8l (a : UInt8) (n : Nat) (h : n < 256) : binOp .eql t (.int .u8 (no_index (OfNat.ofNat n))) (w8 a) = pure (.bool (eq8 (UInt8.ofNat n) a)) := by rw [lit8 n h, eql8]
@[go_sem] theorem neq8r (a : UInt8) (n : Nat) (h : n < 256) : binOp .neq t (w8 a) (.int .u8 (no_index (OfNat.ofNat n))) = pure (.bool (!eq8 a (UInt8.ofNat n))) := by rw [lit8 n h, neq8]
@[go_sem] theorem neq8l (a : UInt8) (n : Nat) (h : n < 256) : binOp .neq t (.int .u8 (no_index (OfNat.ofNat n))) (w8 a) = pure (.bool (!eq8 (UInt8.ofNat n) a)) := by rw [lit8 n h, neq8]
@[go_sem] theorem leq8r (a : UInt8) (n : Nat) (h : n < 256) : binOp .leq t (w8 a) (.int .u8 (no_index (OfNat.ofNat n))) = pure (.bool (le8 a (UInt8.ofNat n))) := by rw [lit8 n h, leq8]
@[go_sem] theorem leq8l (a : UInt8) (n : Nat) (h : n < 256) : binOp .leq t (.int .u8 (no_index (OfNat.ofNat n))) (w8 a) = pure (.bool (le8 (UInt8.ofNat n) a)) := by rw [lit8 n h, leq8]
@[go_sem] theorem lss8r (a : UInt8) (n : Nat) (h : n < 256) : binOp .lss t (w8 a) (.int .u8 (no_index (OfNat.ofNat n))) = pure (.bool (lt8 a (UInt8.ofNat n))) := by rw [lit8 n h, lss8]
@[go_sem] theorem lss8l (a : UInt8) (n : Nat) (h : n < 256) : binOp .lss t (.int .u8 (no_index (OfNat.ofNat n))) (w8 a) = pure (.bool (lt8 (UInt8.ofNat n) a)) := by rw [lit8 n h, lss8]
@[go_sem] theorem geq8r (a : UInt8) (n : Nat) (h : n < 256) : binOp .geq t (w8 a) (.int .u8 (no_index (OfNat.ofNat n))) = pure (.bool (le8 (UInt8.ofNat n) a)) := by rw [lit8 n h, geq8]
@[go_sem] theorem geq8l (a : UInt8) (n : Nat) (h : n < 256) : binOp .geq t (.int .u8 (no_index (OfNat.ofNat n))) (w8 a) = pure (.bool (le8 a (UInt8.ofNat n))) := by rw [lit8 n h, geq8]
@[go_sem] theorem gtr8r (a : UInt8) (n : Nat) (h : n < 256) : binOp .gtr t (w8 a) (.int .u8 (no_index (OfNat.ofNat n))) = pure (.bool (lt8 (UInt8.ofNat n) a)) := by rw [lit8 n h, gtr8]
@[go_sem] theorem gtr8l (a : UInt8) (n : Nat) (h : n < 256) : binOp .gtr t (.int .u8 (no_index (OfNat.ofNat n))) (w8 a) = pure (.bool (lt8 a (UInt8.ofNat n))) := by rw [lit8 n h, gtr8]
@[go_sem] theorem guard8_any (op : BinOp) (x y : Operand) (a : UInt8) (v : Value) : eqGuard op t x y (w8 a) v = pure () := by cases op <;> cases v <;> rfl
@[go_sem] theorem guard8_lit (op : BinOp) (x y : Operand) (k : IntKind) (n : Int) (v : Value) : eqGuard op t x y (.int k n) v = pure () := by cases op <;> cases v <;> rfl
@[go_sem] theorem add32r (a : BitVec 32) (n : Nat) (h : n < 4294967296) : binOp .add t (w32 a) (.int .u32 (no_index (OfNat.ofNat n))) = pure (w32 (a + (BitVec.ofNat 32 n))) := by rw [lit32 n h, add32]
@[go_sem] theorem add32l (a : BitVec 32) (n : Nat) (h : n < 4294967296) : binOp .add t (.int .u32 (no_index (OfNat.ofNat n))) (w32 a) = pure (w32 ((BitVec.ofNat 32 n) + a)) := by rw [lit32 n h, add32]
@[go_sem] theorem sub32r (a : BitVec 32) (n : Nat) (h : n < 4294967296) : binOp .sub t (w32 a) (.int .u32 (no_index (OfNat.ofNat n))) = pure (w32 (a - (BitVec.ofNat 32 n))) := by rw [lit32 n h, sub32]
@[go_sem] theorem sub32l (a : BitVec 32) (n : Nat) (h : n < 4294967296) : binOp .sub t (.int .u32 (no_index (OfNat.ofNat n))) (w32 a) = pure (w32 ((BitVec.ofNat 32 n) - a)) := by rw [lit32 n h, sub32]
@[go_sem] theorem mul32r (a : BitVec 32) (n : Nat) (h : n < 4294967296) : binOp .mul t (w32 a) (.int .u32 (no_index (OfNat.ofNat n))) = pure (w32 (a * (BitVec.ofNat 32 n))) := by rw [lit32 n h, mul32]
@[go_sem] theorem mul32l (a : BitVec 32) (n : Nat) (h : n < 4294967296) : binOp .mul t (.int .u32 (no_index (OfNat.ofNat n))) (w32 a) = pure (w32 ((BitVec.ofNat 32 n) * a)) := by rw [lit32 n h, mul32]
@[go_sem] theorem and32r (a : BitVec 32) (n : Nat) (h : n < 4294967296) : binOp .and t (w32 a) (.int .u32 (no_index (OfNat.ofNat n))) = pure (w32 (a &&& (BitVec.ofNat 32 n))) := by rw [lit32 n h, and32]
@[go_sem] theorem and32l (a : BitVec 32) (n : Nat) (h : n < 4294967296) : binOp .and t (.int .u32 (no_index (OfNat.ofNat n))) (w32 a) = pure (w32 ((BitVec.ofNat 32 n) &&& a)) := by rw [lit32 n h, and32]
@[go_sem] theorem or32r (a : BitVec 32) (n : Nat) (h : n < 4294967296) : binOp .or t (w32 a) (.int .u32 (no_index (OfNat.ofNat n))) = pure (w32 (a ||| (BitVec.ofNat 32 n))) := by rw [lit32 n h, or32]
@[go_sem] theorem or32l (a : BitVec 32) (n : Nat) (h : n < 4294967296) : binOp .or t (.int .u32 (no_index (OfNat.ofNat n))) (w32 a) = pure (w32 ((BitVec.ofNat 32 n) ||| a)) := by rw [lit32 n h, or32]
@[go_sem] theorem xor32r (a : BitVec 32) (n : Nat) (h : n < 4294967296) : binOp .xor t (w32 a) (.int .u32 (no_index (OfNat.ofNat n))) = pure (w32 (a ^^^ (BitVec.ofNat 32 n))) := by rw [lit32 n h, xor32]
@[go_sem] theorem xor32l (a : BitVec 32) (n : Nat) (h : n < 4294967296) : binOp .xor t (.int .u32 (no_index (OfNat.ofNat n))) (w32 a) = pure (w32 ((BitVec.ofNat 32 n) ^^^ a)) := by rw [lit32 n h, xor32]
@[go_sem] theorem eql32r (a : BitVec 32) (n : Nat) (h : n < 4294967296) : binOp .eql t (w32 a) (.int .u32 (no_index (OfNat.ofNat n))) = pure (.bool (eq32 a (BitVec.ofNat 32 n))) := by rw [lit32 n h, eql32]
@[go_sem] theorem eql32l (a : BitVec 32) (n : Nat) (h : n < 4294967296) : binOp .eql t (.int .u32 (no_index (OfNat.ofNat n))) (w32 a) = pure (.bool (eq32 (BitVec.ofNat 32 n) a)) := by rw [lit32 n h, eql32]
@[go_sem] theorem neq32r (a : BitVec 32) (n : Nat) (h : n < 4294967296) : binOp .neq t (w32 a) (.int .u32 (no_index (OfNat.ofNat n))) = pure (.bool (!eq32 a (BitVec.ofNat 32 n))) := by rw [lit32 n h, neq32]
@[go_sem] theorem neq32l (a : BitVec 32) (n : Nat) (h : n < 4294967296) : binOp .neq t (.int .u32 (no_index (OfNat.ofNat n))) (w32 a) = pure (.bool (!eq32 (BitVec.ofNat 32 n) a)) := by rw [lit32 n h, neq32]
@[go_sem] theorem guard32_any (op : BinOp) (x y : Operand) (a : BitVec 32) (v : Value) : eqGuard op t x y (w32 a) v = pure () := by cases op <;> cases v <;> rfl
@[go_sem] theorem add64r (a : BitVec 64) (n : Nat) (h : n < 18446744073709551616) : binOp .add t (w64 a) (.int .u64 (no_index (OfNat.ofNat n))) = pure (w64 (a + (BitVec.ofNat 64 n))) := by rw [lit64 n h, add64]
@[go_sem] theorem add64l (a : BitVec 64) (n : Nat) (h : n < 18446744073709551616) : binOp .add t (.int .u64 (no_index (OfNat.ofNat n))) (w64 a) = pure (w64 ((BitVec.ofNat 64 n) + a)) := by rw [lit64 n h, add64]
@[go_sem] theorem sub64r (a : BitVec 64) (n : Nat) (h : n < 18446744073709551616) : binOp .sub t (w64 a) (.int .u64 (no_index (OfNat.ofNat n))) = pure (w64 (a - (BitVec.ofNat 64 n))) := by rw [lit64 n h, sub64]
@[go_sem] theorem sub64l (a : BitVec 64) (n : Nat) (h : n < 18446744073709551616) : binOp .sub t (.int .u64 (no_index (OfNat.ofNat n))) (w64 a) = pure (w64 ((BitVec.ofNat 64 n) - a)) := by rw [lit64 n h, sub64]
@[go_sem] theorem mul64r (a : BitVec 64) (n : Nat) (h : n < 18446744073709551616) : binOp .mul t (w64 a) (.int .u64 (no_index (OfNat.ofNat n))) = pure (w64 (a * (BitVec.ofNat 64 n))) := by rw [lit64 n h, mul64]
@[go_sem] theorem mul64l (a : BitVec 64) (n : Nat) (h : n < 18446744073709551616) : binOp .mul t (.int .u64 (no_index (OfNat.ofNat n))) (w64 a) = pure (w64 ((BitVec.ofNat 64 n) * a)) := by rw [lit64 n h, mul64]
@[go_sem] theorem and64r (a : BitVec 64) (n : Nat) (h : n < 18446744073709551616) : binOp .and t (w64 a) (.int .u64 (no_index (OfNat.ofNat n))) = pure (w64 (a &&& (BitVec.ofNat 64 n))) := by rw [lit64 n h, and64]
@[go_sem] theorem and64l (a : BitVec 64) (n : Nat) (h : n < 18446744073709551616) : binOp .and t (.int .u64 (no_index (OfNat.ofNat n))) (w64 a) = pure (w64 ((BitVec.ofNat 64 n) &&& a)) := by rw [lit64 n h, and64]
@[go_sem] theorem or64r (a : BitVec 64) (n : Nat) (h : n < 18446744073709551616) : binOp .or t (w64 a) (.int .u64 (no_index (OfNat.ofNat n))) = pure (w64 (a ||| (BitVec.ofNat 64 n))) := by rw [lit64 n h, or64]
@[go_sem] theorem or64l (a : BitVec 64) (n : Nat) (h : n < 18446744073709551616) : binOp .or t (.int .u64 (no_index (OfNat.ofNat n))) (w64 a) = pure (w64 ((BitVec.ofNat 64 n) ||| a)) := by rw [lit64 n h, or64]
@[go_sem] theorem xor64r (a : BitVec 64) (n : Nat) (h : n < 18446744073709551616) : binOp .xor t (w64 a) (.int .u64 (no_index (OfNat.ofNat n))) = pure (w64 (a ^^^ (BitVec.ofNat 64 n))) := by rw [lit64 n h, xor64]
@[go_sem] theorem xor64l (a : BitVec 64) (n : Nat) (h : n < 18446744073709551616) : binOp .xor t (.int .u64 (no_index (OfNat.ofNat n))) (w64 a) = pure (w64 ((BitVec.ofNat 64 n) ^^^ a)) := by rw [lit64 n h, xor64]
@[go_sem] theorem eql64r (a : BitVec 64) (n : Nat) (h : n < 18446744073709551616) : binOp .eql t (w64 a) (.int .u64 (no_index (OfNat.ofNat n))) = pure (.bool (eq64 a (BitVec.ofNat 64 n))) := by rw [lit64 n h, eql64]
@[go_sem] theorem eql64l (a : BitVec 64) (n : Nat) (h : n < 18446744073709551616) : binOp .eql t (.int .u64 (no_index (OfNat.ofNat n))) (w64 a) = pure (.bool (eq64 (BitVec.ofNat 64 n) a)) := by rw [lit64 n h, eql64]
@[go_sem] theorem neq64r (a : BitVec 64) (n : Nat) (h : n < 18446744073709551616) : binOp .neq t (w64 a) (.int .u64 (no_index (OfNat.ofNat n))) = pure (.bool (!eq64 a (BitVec.ofNat 64 n))) := by rw [lit64 n h, neq64]
@[go_sem] theorem neq64l (a : BitVec 64) (n : Nat) (h : n < 18446744073709551616) : binOp .neq t (.int .u64 (no_index (OfNat.ofNat n))) (w64 a) = pure (.bool (!eq64 (BitVec.ofNat 64 n) a)) := by rw [lit64 n h, neq64]
@[go_sem] theorem guard64_any (op : BinOp) (x y : Operand) (a : BitVec 64) (v : Value) : eqGuard op t x y (w64 a) v = pure () := by cases op <;> cases v <;> rfl
@[go_sem] theorem shr8_litu64 (a : UInt8) (n : Nat) : binOp .shr t (w8 a) (.int .u64 (no_index (OfNat.ofNat n))) = pure (w8 (shrB a n)) := shr8' a .u64 _ (Int.natCast_nonneg n)
@[go_sem] theorem shr8_liti64 (a : UInt8) (n : Nat) : binOp .shr t (w8 a) (.int .i64 (no_index (OfNat.ofNat n))) = pure (w8 (shrB a n)) := shr8' a .i64 _ (Int.natCast_nonneg n)
@[go_sem] theorem shl8_litu64 (a : UInt8) (n : Nat) : binOp .shl t (w8 a) (.int .u64 (no_index (OfNat.ofNat n))) = pure (w8 (shlB a n)) := shl8' a .u64 _ (Int.natCast_nonneg n)
@[go_sem] theorem shl8_liti64 (a : UInt8) (n : Nat) : binOp .shl t (w8 a) (.int .i64 (no_index (OfNat.ofNat n))) = pure (w8 (shlB a n)) := shl8' a .i64 _ (Int.natCast_nonneg n)
@[go_sem] theorem shr32_litu64 (a : BitVec 32) (n : Nat) : binOp .shr t (w32 a) (.int .u64 (no_index (OfNat.ofNat n))) = pure (w32 (a >>> n)) := shr32' a .u64 _ (Int.natCast_nonneg n)
@[go_sem] theorem shr32_liti64 (a : BitVec 32) (n : Nat) : binOp .shr t (w32 a) (.int .i64 (no_index (OfNat.ofNat n))) = pure (w32 (a >>> n)) := shr32' a .i64 _ (Int.natCast_nonneg n)
@[go_sem] theorem shl32_litu64 (a : BitVec 32) (n : Nat) : binOp .shl t (w32 a) (.int .u64 (no_index (OfNat.ofNat n))) = pure (w32 (a <<< n)) := shl32' a .u64 _ (Int.natCast_nonneg n)
@[go_sem] theorem shl32_liti64 (a : BitVec 32) (n : Nat) : binOp .shl t (w32 a) (.int .i64 (no_index (OfNat.ofNat n))) = pure (w32 (a <<< n)) := shl32' a .i64 _ (Int.natCast_nonneg n)
@[go_sem] theorem shr64_litu64 (a : BitVec 64) (n : Nat) : binOp .shr t (w64 a) (.int .u64 (no_index (OfNat.ofNat n))) = pure (w64 (a >>> n)) := shr64' a .u64 _ (Int.natCast_nonneg n)
@[go_sem] theorem shr64_liti64 (a : BitVec 64) (n : Nat) : binOp .shr t (w64 a) (.int .i64 (no_index (OfNat.ofNat n))) = pure (w64 (a >>> n)) := shr64' a .i64 _ (Int.natCast_nonneg n)
@[go_sem] theorem shl64_litu64 (a : BitVec 64) (n : Nat) : binOp .shl t (w64 a) (.int .u64 (no_index (OfNat.ofNat n))) = pure (w64 (a <<< n)) := shl64' a .u64 _ (Int.natCast_nonneg n)
@[go_sem] theorem shl64_liti64 (a : BitVec 64) (n : Nat) : binOp .shl t (w64 a) (.int .i64 (no_index (OfNat.ofNat n))) = pure (w64 (a <<< n)) := shl64' a .i64 _ (Int.natCast_nonneg n)
@[go_sem] theorem quo8r (a : UInt8) (n : Nat) (h : n < 256) (h0 : 0 < n) : binOp .quo t (w8 a) (.int .u8 (no_index (OfNat.ofNat n))) = pure (w8 (a / (UInt8.ofNat n))) := by
 rw [lit8 n h, quo8]; rw [UInt8.toNat_ofNat', Nat.mod_eq_of_lt h]; omega
@[go_sem] theorem rem8r (a : UInt8) (n : Nat) (h : n < 256) (h0 : 0 < n) : binOp .rem t (w8 a) (.int .u8 (no_index (OfNat.ofNat n))) = pure (w8 (a % (UInt8.ofNat n))) := by
 rw [lit8 n h, rem8]; rw [UInt8.toNat_ofNat', Nat.mod_eq_of_lt h]; omega
@[go_sem] theorem vw64 (n : Int) : Value.int .u64 (IntKind.u64.wrap n) = w64 (BitVec.ofInt 64 n) := by
 unfold w64; rw [IntKind.wrap_u64, BitVec.toNat_ofInt]; congr 1; omega
@[go_sem] theorem vw32 (n : Int) : Value.int .u32 (IntKind.u32.wrap n) = w32 (BitVec.ofInt 32 n) := by
 unfold w32; rw [IntKind.wrap_u32', BitVec.toNat_ofInt]; congr 1; omega
@[go_sem] theorem vw8 (n : Int) : Value.int .u8 (IntKind.u8.wrap n) = w8 (UInt8.ofInt n) := by
 unfold w8; rw [IntKind.wrap_u8']; congr 1
 have h : ((UInt8.ofInt n).toNat : Int) = n % 256 := by
  show (((UInt8.ofNat (n % 2 ^ 8).toNat).toNat : Nat) : Int) = _
  rw [UInt8.toNat_ofNat']
  omega
 omega
variable (src dst : TypeId)
theorem conv (k : IntKind) (v : Value) (n : Int) (hv : v = .int k n) (kd : IntKind) (hs : (P.underlying src).isSome = true) (hd : P.underlying dst = some (.int kd)) :
  (convert src dst v).run P w = .ok (.int kd (kd.wrap n)) w := by
 have hk : P.intKind dst = kd := by
  unfold Program.intKind
  rw [hd]
 subst hv
 rw [run_convert_int w src dst k n hs (by rw [hk, hd]), hk]
@[go_sem] theorem conv8_32 (b : UInt8) (hs : (P.underlying src).isSome = true) (hd : P.underlying dst = some (.int .u32)) : (convert src dst (w8 b)).run P w = .ok (w32 (bw b)) w := by
 rw [conv w src dst .u8 (w8 b) (b.toNat : Int) rfl .u32 hs hd, wrap32n]
 unfold w32 bw
 rw [BitVec.toNat_ofNat, BitVec.toNat_setWidth]; rfl
@[go_sem] theorem conv8_64 (b : UInt8) (hs : (P.underlying src).isSome = true) (hd : P.underlying dst = some (.int .u64)) : (convert src dst (w8 b)).run P w = .ok (w64 (bq b)) w := by
 rw [conv w src dst .u8 (w8 b) (b.toNat : Int) rfl .u64 hs hd, wrap64n]
 unfold w64 bq
 rw [BitVec.toNat_ofNat, BitVec.toNat_setWidth]; rfl
@[go_sem] theorem conv8_i (b : UInt8) (hs : (P.underlying src).isSome = true) (hd : P.underlying dst = some (.int .i64)) : (convert src dst (w8 b)).run P w = .ok (.int .i64 (b.toNat : Int)) w := by
 have := b.toNat_lt
 rw [conv w src dst .u8 (w8 b) (b.toNat : Int) rfl .i64 hs hd, IntKind.wrap_i64]
 have e : ((b.toNat : Int) + 9223372036854775808) % 18446744073709551616 - 9223372036854775808 = b.toNat := by omega
 rw [e]
@[go_sem] theorem conv32_8 (x : BitVec 32) (hs : (P.underlying src).isSome = true) (hd : P.underlying dst = some (.int .u8)) : (convert src dst (w32 x)).run P w = .ok (w8 (wb x)) w := by
 rw [conv w src dst .u32 (w32 x) (x.toNat : Int) rfl .u8 hs hd, wrap8n]
 congr 2
@[go_sem] theorem conv64_8 (x : BitVec 64) (hs : (P.underlying src).isSome = true) (hd : P.underlying dst = some (.int .u8)) : (convert src dst (w64 x)).run P w = .ok (w8 (qb x)) w := by
 rw [conv w src dst .u64 (w64 x) (x.toNat : Int) rfl .u8 hs hd, wrap8n]
 congr 2
@[go_sem] theorem convi_8 (n : Int) (hs : (P.underlying src).isSome = true) (hd : P.underlying dst = some (.int .u8)) : (convert src dst (.int .i64 n)).run P w = .ok (w8 (UInt8.ofInt n)) w := by
 rw [conv w src dst .i64 _ _ rfl .u8 hs hd, IntKind.wrap_u8']
 congr 2
 have h : ((UInt8.ofInt n).toNat : Int) = n % 256 := by
  show (((UInt8.ofNat (n % 2 ^ 8).toNat).toNat : Nat) : Int) = _
  rw [UInt8.toNat_ofNat']
  omega
 omega
@[go_sem] theorem convi_64 (n : Int) (hs : (P.underlying src).isSome = true) (hd : P.underlying dst = some (.int .u64)) : (convert src dst (.int .i64 n)).run P w = .ok (w64 (BitVec.ofInt 64 n)) w := by
 rw [conv w src dst .i64 _ _ rfl .u64 hs hd, IntKind.wrap_u64]
 congr 2
 rw [BitVec.toNat_ofInt]
 omega
@[go_sem] theorem conv64_i (x : BitVec 64) (hs : (P.underlying src).isSome = true) (hd : P.underlying dst = some (.int .i64)) : (convert src dst (w64 x)).run P w = .ok (.int .i64 (i64of x)) w := by
 rw [conv w src dst .u64 (w64 x) (x.toNat : Int) rfl .i64 hs hd, IntKind.wrap_i64]
 have := x.isLt
 have e : ((x.toNat : Int) + 9223372036854775808) % 18446744073709551616 - 9223372036854775808 = x.toInt := by
  rw [BitVec.toInt_eq_toNat_cond]
  split <;> omega
 rw [e]; rfl
end
end Go.Proofs.YtlefikdjhnaapaaGreatDoor
end
section
namespace Go.Proofs.YtlefikdjhnaapaaGreatDoor
open Go Go.RowKit
theorem block_add (a : Addr) (n : Nat) : (a.add n).block = a.block := by unfold Addr.add; split <;> rfl
theorem belowDrewN {B : Nat} {a w : World} (h : Below B a w) (n : Nat) : Below B a (w.drewN n) := ⟨h.os, h.tape, h.output, h.size, h.block⟩
def ElemOk (P : Program) (t e : TypeId) (size bytes : Nat) : Prop :=
 P.underlying t = some (.slice e) ∧ 0 < size ∧ ∃ i z, P.info? e = some i ∧ i.zero = some z ∧ i.size = size ∧ i.bytes = bytes ∧ z.cells.size = size
theorem ElemOk.mk' {P : Program} {t e : TypeId} {size bytes : Nat} {z : Value} (ht : P.underlying t = some (.slice e))
  (hinfo : (P.info? e).map (fun i => (i.zero, i.size, i.bytes)) = some (some z, size, bytes)) (hz : z.cells.size = size) (h0 : 0 < size) : ElemOk P t e size bytes := by
 obtain ⟨i, hi, h1⟩ := Option.map_eq_some_iff.1 hinfo
 simp only [Prod.mk.injEq] at h1
 exact ⟨ht, h0, i, z, hi, h1.1, h1.2.1, h1.2.2, hz⟩
def Rd (w : World) (B size : Nat) (v : Value) (xs : List Value) : Prop :=
 ∃ A n c, v = .slice A n c ∧ n ≤ c ∧ xs.length = n * size ∧ (0 < n → ∃ ad, A = some ad ∧ ad.block < B ∧ ∀ j u, xs[j]? = some u → w.cell? (ad.add j) = some u)
section
variable {w w' : World} {B B' size : Nat} {v : Value} {xs : List Value}
theorem Rd.nil (w : World) (B size : Nat) : Rd w B size (.slice none 0 0) [] := ⟨none, 0, 0, rfl, Nat.le_refl _, by simp, fun h => absurd h (by omega)⟩
theorem Rd.keep (h : Rd w B size v xs) (hk : ∀ p : Addr, p.block < B → w'.cell? p = w.cell? p) : Rd w' B size v xs := by
 obtain ⟨A, n, c, hv, hc, hl, hr⟩ := h
 refine ⟨A, n, c, hv, hc, hl, fun hn => ?_⟩
 obtain ⟨ad, e, hb, hcell⟩ := hr hn
 exact ⟨ad, e, hb, fun j u hu => (hk _ (by rw [block_add]; exact hb)).trans (hcell j u hu)⟩
theorem Rd.more (h : Rd w B size v xs) (hB : B ≤ B') : Rd w B' size v xs := by
 obtain ⟨A, n, c, hv, hc, hl, hr⟩ := h
 refine ⟨A, n, c, hv, hc, hl, fun hn => ?_⟩
 obtain ⟨ad, e, hb, hcell⟩ := hr hn
 exact ⟨ad, e, by omega, hcell⟩
theorem Rd.below (h : Rd w B size v xs) (hb : Below B w w') : Rd w' B size v xs := h.keep fun _ hp => hb.cell hp
theorem Rd.drew (h : Rd w B size v xs) : Rd w.drew B size v xs := h
theorem Rd.drewN (h : Rd w B size v xs) (k : Nat) : Rd (w.drewN k) B size v xs := h
theorem Rd.alloc (h : Rd w B size v xs) (hB : B ≤ w.heap.size) (o : Obj) : Rd (w.alloc o) B size v xs := h.keep fun p hp => World.cell?_alloc_lt w o p (by omega)
theorem Rd.setCell (h : Rd w B size v xs) {p : Addr} (hB : B ≤ p.block) (u : Value) : Rd (w.setCell p u) B size v xs :=
 h.keep fun q hq => World.cell?_setCell_other w p q u (fun e => by subst e; omega)
theorem Rd.grown (h : Rd w B size v xs) {row : Option Nat} (hg : w.grownBy w' row) (hB : B ≤ w.heap.size) (hr : ∀ g, row = some g → B ≤ g) : Rd w' B size v xs :=
 h.keep fun p hp => World.cell?_of_block (hg.block p.block (by omega) (fun e => by have := hr _ e.symm; omega))
theorem Rd.len (h : Rd w B 1 v xs) : ∃ A c, v = .slice A xs.length c ∧ xs.length ≤ c := by
 obtain ⟨A, n, c, hv, hc, hl, _⟩ := h
 obtain rfl : xs.length = n := by omega
 exact ⟨A, c, hv, hc⟩
theorem Rd.open1 (h : Rd w B 1 v xs) : ∃ A c, v = .slice A xs.length c ∧ xs.length ≤ c ∧ ∀ k, k < xs.length → ∃ ad, A = some ad ∧ ad.block < B ∧ ∀ j u, xs[j]? = some u → w.cell? (ad.add j) = some u := by
 obtain ⟨A, n, c, hv, hc, hl, hr⟩ := h
 obtain rfl : xs.length = n := by omega
 exact ⟨A, c, hv, hc, fun k hk => hr (by omega)⟩
end
def Own (w : World) (base : Nat) (e : TypeId) (size : Nat) (v : Value) (xs : List Value) : Prop :=
 (v = .slice none 0 0 ∧ xs = []) ∨
 ∃ g n cap cur fr, v = .slice (some ⟨g, 0, none⟩) n cap ∧ base ≤ g ∧ w.heap[g]? = some (.cells cur e fr) ∧ (fr.2 ≤ fr.1 ∨ cur.size ≤ fr.1) ∧ n ≤ cap ∧ cap ≤ maxLen ∧ cur.size = cap * size ∧ xs.length = n * size ∧ cur.toList.take (n * size) = xs
section
variable {w w' : World} {base base' size : Nat} {e : TypeId} {v : Value} {xs : List Value}
theorem Own.nil (w : World) (base : Nat) (e : TypeId) (size : Nat) : Own w base e size (.slice none 0 0) [] := .inl ⟨rfl, rfl⟩
theorem Own.block (h : Own w base e size v xs) : ∀ g, v.ownBlock = some g → base ≤ g ∧ g < w.heap.size := by
 rcases h with ⟨rfl, _⟩ | ⟨g, n, cap, cur, fr, rfl, hb, hg, _⟩
 ·intro g h; cases h
 ·intro g' h
  obtain rfl : g = g' := by simpa [Value.ownBlock] using h
  exact ⟨hb, (Array.getElem?_eq_some_iff.1 hg).1⟩
theorem Own.keep (h : Own w base e size v xs) (hk : ∀ g, v.ownBlock = some g → w'.heap[g]? = w.heap[g]?) : Own w' base e size v xs := by
 rcases h with h | ⟨g, n, cap, cur, fr, rfl, hb, hg, hr⟩
 ·exact .inl h
 ·exact .inr ⟨g, n, cap, cur, fr, rfl, hb, (hk g rfl).trans hg, hr⟩
theorem Own.grown {row : Option Nat} (h : Own w base e size v xs) (hg : w.grownBy w' row) (hne : ∀ g, v.ownBlock = some g → row ≠ some g) : Own w' base e size v xs :=
 h.keep fun g hgb => hg.block g (h.block g hgb).2 (fun e => hne g hgb e.symm)
theorem Own.below {B : Nat} (h : Own w base e size v xs) (hb : Below B w w') (hB : w.heap.size ≤ B) : Own w' base e size v xs :=
 h.keep fun g hgb => hb.block g (by have := (h.block g hgb).2; omega)
theorem Own.drew (h : Own w base e size v xs) : Own w.drew base e size v xs := h
theorem Own.drewN (h : Own w base e size v xs) (k : Nat) : Own (w.drewN k) base e size v xs := h
theorem Own.alloc (h : Own w base e size v xs) (o : Obj) : Own (w.alloc o) base e size v xs :=
 h.keep fun g hgb => heap_alloc_old w o (h.block g hgb).2
theorem Own.setCell (h : Own w base e size v xs) {p : Addr} (hp : v.ownBlock ≠ some p.block) (u : Value) : Own (w.setCell p u) base e size v xs :=
 h.keep fun g hgb => Below.heap_setCell w p u g (fun e => hp (by rw [hgb, e]))
theorem Own.less (h : Own w base e size v xs) (hb : base' ≤ base) : Own w base' e size v xs := by
 rcases h with h | ⟨g, n, cap, cur, fr, rfl, hbg, hr⟩
 ·exact .inl h
 ·exact .inr ⟨g, n, cap, cur, fr, rfl, by omega, hr⟩
theorem Own.rd (h : Own w base e size v xs) : Rd w w.heap.size size v xs := by
 rcases h with ⟨rfl, rfl⟩ | ⟨g, n, cap, cur, fr, rfl, hb, hg, hfr, hnc, hcm, hcs, hl, htake⟩
 ·exact Rd.nil _ _ _
 ·refine ⟨_, n, cap, rfl, hnc, hl, fun _ => ⟨_, rfl, (Array.getElem?_eq_some_iff.1 hg).1, fun j u hu => ?_⟩⟩
  rw [Addr.add_lit]
  simp only [Nat.zero_add]
  have hc := cell_of_row w g j cur e fr hg
  rw [hc]
  rw [← htake, List.getElem?_take] at hu
  split at hu
  ·simpa using hu
  ·cases hu
theorem Own.made {cur : Array Value} {cap : Nat} (hb : base ≤ w.heap.size) (hm : cap ≤ maxLen) (hs : cur.size = cap * size) :
  Own (w.alloc (.cells cur e)) base e size (.slice (some ⟨w.heap.size, 0, none⟩) 0 cap) [] :=
 .inr ⟨w.heap.size, 0, cap, cur, (0, 0), rfl, hb, heap_alloc_new w _, .inl (by simp), by omega, hm, hs, by simp, by simp⟩
theorem Own.lit (w : World) (us : List Value) (n : Nat) (hb : base ≤ w.heap.size) (hm : n ≤ maxLen) (hl : us.length = n * size) :
  Own (w.alloc (.cells us.toArray e)) base e size (.slice (some ⟨w.heap.size, 0, none⟩) n n) us :=
 .inr ⟨w.heap.size, n, n, us.toArray, (0, 0), rfl, hb, heap_alloc_new w _, .inl (by simp), Nat.le_refl _, hm, by simpa using hl, hl, by rw [← hl]; simp⟩
theorem Rd.lit (w : World) (us : List Value) (n : Nat) (hl : us.length = n * size) : Rd (w.alloc (.cells us.toArray e)) (w.heap.size + 1) size (.slice (some ⟨w.heap.size, 0, none⟩) n n) us := by
 refine ⟨_, n, n, rfl, Nat.le_refl _, hl, fun _ => ⟨_, rfl, by simp, fun j u hu => ?_⟩⟩
 rw [Addr.add_lit]
 simp only [Nat.zero_add]
 rw [cell_of_row _ _ j us.toArray e (0, 0) (heap_alloc_new w _)]
 simpa using hu
end
section
variable {P : Program}
theorem storeCells_fr (g o : Nat) (t : TypeId) (fr : Nat × Nat) : ∀ (vs : List Value) (i : Nat) (cur : Array Value) (w : World), w.heap[g]? = some (.cells cur t fr) → (fr.2 ≤ fr.1 ∨ cur.size ≤ fr.1) → o + i + vs.length ≤ cur.size → (∀ v ∈ vs, v.oneCell' = true) →
  (storeCells ⟨g, o, none⟩ vs i).run P w = .ok () (w.setRow g (cur.toList.take (o + i) ++ vs ++ cur.toList.drop (o + i + vs.length)).toArray)
 | [], i, cur, w, hg, _, _, _ => by
  simp only [storeCells, List.append_nil, List.length_nil, Nat.add_zero, List.take_append_drop, Array.toArray_toList]
  rw [setRow_self w g cur t fr hg]
  rfl
 | v :: rest, i, cur, w, hg, hfr, hl, h1 => by
  have hi : o + i < cur.size := by simp at hl; omega
  have hadd : (⟨g, o, none⟩ : Addr).add i = ⟨g, o + i, none⟩ := Addr.add_lit g o i
  have hcell : w.cell? ⟨g, o + i, none⟩ = some cur[o + i] := by simp [World.cell?, hg, hi]
  have hfro : w.frozen? ⟨g, o + i, none⟩ = false := by
   simp only [World.frozen?, hg, Bool.and_eq_false_iff, decide_eq_false_iff_not]
   omega
  have hst : (store ((⟨g, o, none⟩ : Addr).add i) v).run P w = .ok () (w.setRow g (cur.setIfInBounds (o + i) v)) := by
   rw [hadd, run_store P w _ v _ (h1 v (by simp)), hcell]
   simp [hfro, setCell_eq_setRow w g (o + i) cur t fr v hg]
  have ih := storeCells_fr g o t fr rest (i + 1) (cur.setIfInBounds (o + i) v) (w.setRow g (cur.setIfInBounds (o + i) v)) (setRow_heap w g cur _ t _ hg) (by simpa using hfr) (by simp at hl ⊢; omega) (fun x hx => h1 x (by simp [hx]))
  simp only [storeCells, Sem.run_bind, hst, Result.andThen_ok, ih, setRow_setRow]
  congr 3
  have e := list_seg_step cur.toList (o + i) v rest (by simp at hl ⊢; omega)
  simpa [Array.toList_setIfInBounds, Nat.add_assoc] using e
theorem append_room_fr (w : World) (t ty e : TypeId) (i : TypeInfo) (ht : P.underlying t = some (.slice e)) (hi : P.info? e = some i)
  (g sLen sCap : Nat) (cur : Array Value) (fr : Nat × Nat) (hg : w.heap[g]? = some (.cells cur e fr)) (hfr : fr.2 ≤ fr.1 ∨ cur.size ≤ fr.1)
  (a : Addr) (m c : Nat) (news : List Value) (hl : news.length = m * i.size) (hnews : ∀ j u, news[j]? = some u → w.cell? (a.add j) = some u) (h1 : ∀ u ∈ news, u.oneCell' = true)
  (hroom : sLen + m ≤ sCap) (hfit : sLen * i.size + news.length ≤ cur.size) :
  (Builtin.append_ #[t, t] ty #[.slice (some ⟨g, 0, none⟩) sLen sCap, .slice (some a) m c]).run P w =
   .ok (.slice (some ⟨g, 0, none⟩) (sLen + m) sCap) (w.setRow g (cur.toList.take (sLen * i.size) ++ news ++ cur.toList.drop (sLen * i.size + news.length)).toArray) := by
 have hf := run_firstCells_some (P := P) w i.size m a m c news hl hnews
 have hst := storeCells_fr (P := P) g (sLen * i.size) e fr news 0 cur w hg hfr (by simpa using hfit) h1
 simp only [Nat.add_zero] at hst
 simp [Builtin.append_, run_underlying ht, sizeOf, typeInfo, hi, Builtin.lenOf, hroom, hf, Addr.add_lit, hst]
theorem append_none (w : World) (t ty e : TypeId) (i : TypeInfo) (base : Nat) (ht : P.underlying t = some (.slice e)) (hi : P.info? e = some i)
  (v : Value) (xs : List Value) (hown : Own w base e i.size v xs) (c : Nat) : (Builtin.append_ #[t, t] ty #[v, .slice none 0 c]).run P w = .ok v w := by
 rcases hown with ⟨rfl, rfl⟩ | ⟨g, n, cap, cur, fr, rfl, hb, hg, hfr, hnc, _⟩
 ·simp [Builtin.append_, run_underlying ht, sizeOf, typeInfo, hi, Builtin.lenOf, Builtin.firstCells]
 ·simp [Builtin.append_, run_underlying ht, sizeOf, typeInfo, hi, Builtin.lenOf, Builtin.firstCells, hnc, storeCells]
theorem append_run (w : World) (ty : TypeId) {t e : TypeId} {size bytes base B : Nat} (hE : ElemOk P t e size bytes) {v x : Value} {xs us : List Value} (hown : Own w base e size v xs)
  (hr : Rd w B size x us) (h1 : ∀ u ∈ us, u.oneCell' = true) (hbytes : (xs.length + us.length) * bytes ≤ 140737488355328) (h63 : xs.length + us.length ≤ 140737488355328) (hbase : base ≤ w.heap.size) :
  ∃ v' w', (Builtin.append_ #[t, t] ty #[v, x]).run P w = .ok v' w' ∧ Own w' base e size v' (xs ++ us) ∧ w.grownBy w' v.ownBlock ∧
   (v'.ownBlock = v.ownBlock ∨ v'.ownBlock = some w.heap.size) := by
 obtain ⟨ht, hsz, i, z, hi, hz, rfl, rfl, hzs⟩ := hE
 obtain ⟨A, m, c, rfl, hmc, hlu, hread⟩ := hr
 have hmu : m ≤ us.length := by rw [hlu]; exact Nat.le_mul_of_pos_right _ hsz
 rcases Nat.eq_zero_or_pos m with hm0 | hmp
 ·
  subst hm0
  have hun : us = [] := List.eq_nil_of_length_eq_zero (by simpa using hlu)
  subst hun
  refine ⟨v, w, ?_, by simpa using hown, ⟨rfl, rfl, rfl, Nat.le_refl _, fun _ _ _ => rfl⟩, .inl rfl⟩
  rcases A with _ | ad
  ·exact append_none w t ty e i base ht hi v xs hown c
  ·rcases hown with ⟨rfl, rfl⟩ | ⟨g, n, cap, cur, fr, rfl, hb, hg, hfr, hnc, _⟩
   ·simp [Builtin.append_, run_underlying ht, sizeOf, typeInfo, hi, Builtin.lenOf, Builtin.firstCells, loadCells, loadCellsFrom]
   ·simp [Builtin.append_, run_underlying ht, sizeOf, typeInfo, hi, Builtin.lenOf, Builtin.firstCells, loadCells, loadCellsFrom, hnc, storeCells]
 obtain ⟨ad, rfl, hadB, hnews⟩ := hread hmp
 have grown : ∀ (n old : Nat), xs.length = n * i.size → n + m ≤ 140737488355328 → old < n + m → ∀ (row : Option Nat),
   Own (w.drew.alloc (.cells (xs.toArray ++ us.toArray ++ Builtin.zeroCells z.cells (grownCap w (n + m) old e - (n + m))) e)) base e i.size
    (.slice (some ⟨w.heap.size, 0, none⟩) (n + m) (grownCap w (n + m) old e)) (xs ++ us) ∧
   w.grownBy (w.drew.alloc (.cells (xs.toArray ++ us.toArray ++ Builtin.zeroCells z.cells (grownCap w (n + m) old e - (n + m))) e)) row := by
  intro n old hxl hnm ho row
  have hge := grownCap_ge w (n + m) old e
  have hcm : grownCap w (n + m) old e ≤ maxLen := grownCap_le_maxLen w (n + m) old e (by simp only [maxLen]; omega)
  have hlen : (xs ++ us).length = (n + m) * i.size := by rw [List.length_append, hxl, hlu, Nat.add_mul]
  refine ⟨.inr ⟨w.heap.size, n + m, _, _, (0, 0), rfl, hbase, heap_alloc_new w.drew _, .inl (by simp), hge, hcm, ?_, hlen, ?_⟩, ⟨rfl, rfl, rfl, by simp, fun k hk _ => heap_alloc_old w.drew _ hk⟩⟩
  ·simp only [Array.size_append, List.size_toArray, size_zeroCells, hzs, hxl, hlu, ← Nat.add_mul]
   congr 1
   omega
  ·simp only [Array.toList_append, List.append_assoc]
   rw [← List.append_assoc, ← hlen]
   exact List.take_left
 rcases hown with ⟨rfl, rfl⟩ | ⟨g, n, cap, cur, fr, rfl, hbg, hg, hfr, hnc, hcm, hcs, hxl, htake⟩
 ·have hb : m * i.bytes ≤ 140737488355328 := Nat.le_trans (Nat.mul_le_mul_right _ (by omega)) hbytes
  have hrn := run_append_nil (P := P) w t ty e i z ht hi hz ad m c us hlu hnews hmp (by simp at h63; omega) (by omega)
  have hgr := grown 0 0 (by simp) (by simp at h63; omega) (by omega) (Value.ownBlock (.slice none 0 0))
  simp only [Nat.zero_add, List.nil_append, Array.empty_append] at hgr ⊢
  exact ⟨_, _, hrn, hgr.1, hgr.2, .inr rfl⟩
 ·have hnx : n ≤ xs.length := by rw [hxl]; exact Nat.le_mul_of_pos_right _ hsz
  have hlen : (xs ++ us).length = (n + m) * i.size := by rw [List.length_append, hxl, hlu, Nat.add_mul]
  by_cases hroom : n + m ≤ cap
  ·have hfit : n * i.size + us.length ≤ cur.size := by rw [hlu, hcs, ← Nat.add_mul]; exact Nat.mul_le_mul_right _ hroom
   have hrr := append_room_fr (P := P) w t ty e i ht hi g n cap cur fr hg hfr ad m c us hlu hnews h1 hroom hfit
   refine ⟨_, _, hrr, .inr ⟨g, n + m, cap, _, fr, rfl, hbg, setRow_heap w g cur _ e _ hg, ?_, hroom, hcm, ?_, hlen, ?_⟩, ⟨rfl, rfl, rfl, by simp, fun k _ hk => setRow_other w g k _ (fun e => hk (by simp [Value.ownBlock, e]))⟩, .inl rfl⟩
   ·rcases hfr with h | h
    ·exact .inl h
    ·refine .inr ?_
     simp only [List.size_toArray, List.length_append, List.length_take, List.length_drop, Array.length_toList]
     omega
   ·simp only [List.size_toArray, List.length_append, List.length_take, List.length_drop, Array.length_toList]
    omega
   ·simp only [htake, ← hlen]
    exact List.take_left
  ·have holds : ∀ j u, xs[j]? = some u → w.cell? ((⟨g, 0, none⟩ : Addr).add j) = some u := by
    intro j u hu
    rw [Addr.add_lit]
    simp only [Nat.zero_add]
    rw [cell_of_row w g j cur e fr hg]
    rw [← htake, List.getElem?_take] at hu
    split at hu
    ·simpa using hu
    ·cases hu
   have hb : (n + m) * i.bytes ≤ 140737488355328 := Nat.le_trans (Nat.mul_le_mul_right _ (by omega)) hbytes
   have hrg := run_append_grow (P := P) w t ty e i z ht hi hz ⟨g, 0, none⟩ n cap xs hxl holds ad m c us hlu hnews (by omega) (by omega) (growslice_fits (by omega) hb)
   have hgr := grown n cap hxl (by omega) (by omega) (Value.ownBlock (.slice (some ⟨g, 0, none⟩) n cap))
   exact ⟨_, _, hrg, hgr.1, hgr.2, .inr rfl⟩
theorem wp_ap {o : Oper} {a : Act} {K : Act → World → Prop} {Q : Exit → Act → World → Prop} (w : World) (s x : Operand) (t : TypeId)
  (ho : o.op = .call { callee := .builtin .append, args := #[s, x], argTypes := #[t, t] })
  {e : TypeId} {size bytes base B : Nat} (hE : ElemOk P t e size bytes) {v xv : Value} {xs us : List Value} (hown : Own w base e size v xs) (hs : a.eval s = v)
  (hr : Rd w B size xv us) (hx : a.eval x = xv) (h1 : ∀ u ∈ us, u.oneCell' = true) (hbytes : (xs.length + us.length) * bytes ≤ 140737488355328) (h63 : xs.length + us.length ≤ 140737488355328) (hbase : base ≤ w.heap.size)
  (h : ∀ v' w', Own w' base e size v' (xs ++ us) → w.grownBy w' v.ownBlock → (v'.ownBlock = v.ownBlock ∨ v'.ownBlock = some w.heap.size) → K (a.put o.dst v') w') : o.wp P a w K Q := by
 obtain ⟨v', w', hrun, h2, h3, h4⟩ := append_run (P := P) w o.type hE hown hr h1 hbytes h63 hbase
 unfold Oper.wp execOp
 simp only [ho, resolve, invoke, builtin, Sem.run_bind, Sem.run_pure, Result.andThen_ok, List.map_toArray, List.map_cons, List.map_nil, hs, hx, hrun]
 exact h v' w' h2 h3 h4
theorem ap_any {ops : Array Oper} {rest : List Oper} {o : Oper} {a : Act} {Q : Exit → Act → World → Prop} (w : World) (hgd : o.guard = none) (s x : Operand) (t : TypeId)
  (ho : o.op = .call { callee := .builtin .append, args := #[s, x], argTypes := #[t, t] })
  {e : TypeId} {size bytes base B : Nat} (hE : ElemOk P t e size bytes) {v xv : Value} {xs us : List Value} (hown : Own w base e size v xs) (hs : a.eval s = v)
  (hr : Rd w B size xv us) (hx : a.eval x = xv) (h1 : ∀ u ∈ us, u.oneCell' = true) (hbytes : (xs.length + us.length) * bytes ≤ 140737488355328) (h63 : xs.length + us.length ≤ 140737488355328) (hbase : base ≤ w.heap.size)
  (h : ∀ v' w', Own w' base e size v' (xs ++ us) → w.grownBy w' v.ownBlock → (v'.ownBlock = v.ownBlock ∨ v'.ownBlock = some w.heap.size) → wpList P ops Q rest (a.put o.dst v') w') : wpList P ops Q (o :: rest) a w :=
 wpList_plain hgd fun _ hK => wp_ap w s x t ho hE hown hs hr hx h1 hbytes h63 hbase fun v' w' h2 h3 h4 => hK _ _ (h v' w' h2 h3 h4)
theorem grown_of_alloc {w w' : World} {o : Obj} {row : Option Nat} (h : (w.alloc o).grownBy w' row) : w.grownBy w' row :=
 ⟨h.os, h.tape, h.output, Nat.le_trans (by simp) h.size, fun k hk hne => (h.block k (by simp; omega) hne).trans (heap_alloc_old w o hk)⟩
theorem ap_lit {ops : Array Oper} {rest : List Oper} {o : Oper} {a : Act} {Q : Exit → Act → World → Prop} (w : World) (hgd : o.guard = none) (s x : Operand) (t : TypeId)
  (ho : o.op = .call { callee := .builtin .append, args := #[s, x], argTypes := #[t, t] })
  {e T : TypeId} {bytes base : Nat} (hE : ElemOk P t e 1 bytes) {v : Value} {xs : List Value} (us : List Value) (hown : Own w base e 1 v xs) (hs : a.eval s = v)
  (hx : a.eval x = .slice (some ⟨w.heap.size, 0, none⟩) us.length us.length) (h1 : ∀ u ∈ us, u.oneCell' = true) (hbytes : (xs.length + us.length) * bytes ≤ 140737488355328) (h63 : xs.length + us.length ≤ 140737488355328) (hbase : base ≤ w.heap.size)
  (h : ∀ v' w', Own w' base e 1 v' (xs ++ us) → w.grownBy w' v.ownBlock → wpList P ops Q rest (a.put o.dst v') w') : wpList P ops Q (o :: rest) a (w.alloc (.cells us.toArray T)) :=
 ap_any (w.alloc (.cells us.toArray T)) hgd s x t ho hE (hown.alloc _) hs (Rd.lit w us us.length (by omega)) hx h1 hbytes h63 (by simp; omega) fun v' w' h2 h3 _ => h v' w' h2 (grown_of_alloc h3)
theorem belowOwn {B : Nat} {W w w' : World} {v : Value} {base size : Nat} {e : TypeId} {xs : List Value} (h : Below B W w) (hg : w.grownBy w' v.ownBlock) (hown : Own w base e size v xs) (hB : B ≤ base) (hbase : base ≤ w.heap.size) : Below B W w' :=
 h.grown hg (by omega) fun k hk => by have := (hown.block k hk).1; omega
theorem str_run (w : World) (src dst e : TypeId) (hs : P.underlying src = some (.slice e)) (he : P.underlying e = some (.int .u8)) (hd : P.underlying dst = some .string)
  {B : Nat} {v : Value} {l : List UInt8} (h : Rd w B 1 v (l.map w8)) : (convert src dst v).run P w = .ok (.string ⟨l.toArray⟩) w := by
 obtain ⟨A, c, rfl, hc, hr⟩ := h.open1
 rw [List.length_map] at hr ⊢
 rcases Nat.eq_zero_or_pos l.length with h0 | hp
 ·have hl : l = [] := List.eq_nil_of_length_eq_zero h0
  subst hl
  rcases A with _ | ad
  ·rw [run_convert_bytes_string w src dst e none _ c hs he hd]
   simp [Conv.bytesToString, loadCells, loadCellsFrom]
   rfl
  ·exact run_convert_bytes_back w src dst e ad c [] hs he hd (fun j hj => by simp at hj)
 ·obtain ⟨ad, rfl, _, hcell⟩ := hr 0 hp
  exact run_convert_bytes_back w src dst e ad c l hs he hd (fun j hj => hcell j _ (by simp [List.getElem?_eq_getElem hj]; rfl))
theorem bytes_run (w : World) (src dst e : TypeId) (s : ByteArray) (hs : P.underlying src = some .string) (hd : P.underlying dst = some (.slice e)) (he : P.underlying e = some (.int .u8)) (hm : s.size ≤ maxLen)
  {base : Nat} (hb : base ≤ w.heap.size) :
  ∃ v w', (convert src dst (.string s)).run P w = .ok v w' ∧ Own w' base e 1 v (s.data.toList.map w8) ∧ w.grownBy w' none ∧ v.ownBlock = some w.heap.size := by
 refine ⟨_, _, run_bytes_of_string w src dst e s hs hd he, ?_, ⟨rfl, rfl, rfl, by simp, fun k hk _ => heap_alloc_old w.drew _ hk⟩, rfl⟩
 have hge := grownCap_ge w s.size 0 e
 have hle := grownCap_le_maxLen w s.size 0 e hm
 refine .inr ⟨w.heap.size, s.size, grownCap w s.size 0 e, _, _, rfl, hb, heap_alloc_new w.drew _, .inr (Nat.le_refl _), hge, hle, ?_, by simp, ?_⟩
 ·simp only [bytesRow, Array.size_append, Array.size_map, Array.size_replicate, Nat.mul_one]
  have : s.data.size = s.size := rfl
  omega
 ·simp only [bytesRow, Array.toList_append, Array.toList_map, Array.toList_replicate, Nat.mul_one]
  rw [List.take_append_of_le_length (by simp)]
  rw [List.take_of_length_le (by simp)]
  rfl
theorem bytes_arm {ops : Array Oper} {rest : List Oper} {o : Oper} {a : Act} {Q : Exit → Act → World → Prop} (w : World) (hgd : o.guard = none) (src dst : TypeId) (x : Operand)
  (ho : o.op = .convert src dst x) (e : TypeId) (s : ByteArray) (hx : a.eval x = .string s) (hs : P.underlying src = some .string) (hd : P.underlying dst = some (.slice e)) (he : P.underlying e = some (.int .u8)) (hm : s.size ≤ maxLen)
  {base : Nat} (hb : base ≤ w.heap.size)
  (h : ∀ v' w', Own w' base e 1 v' (s.data.toList.map w8) → w.grownBy w' none → v'.ownBlock = some w.heap.size → wpList P ops Q rest (a.put o.dst v') w') : wpList P ops Q (o :: rest) a w :=
 wpList_plain hgd fun _ hK => by
  obtain ⟨v', w', hrun, h2, h3, h4⟩ := bytes_run (P := P) w src dst e s hs hd he hm hb
  unfold Oper.wp execOp
  simp only [ho, hx, hrun, Sem.run_bind, Sem.run_pure, Result.andThen_ok]
  exact hK _ _ (h v' w' h2 h3 h4)
def aggD (d : TypeDesc) : Bool := match d with | .struct _ | .array _ _ => true | _ => false
theorem loadVar_row (w : World) (g off : Nat) (t ty : TypeId) (cs : Array Value) (fr : Nat × Nat) (d : TypeDesc) (hg : w.heap[g]? = some (.cells cs t fr))
  (hu : P.underlying ty = some d) (hd : aggD d = true) (us : List Value) (hi : (P.info? ty).map (·.size) = some us.length) (hc : ∀ j u, us[j]? = some u → cs[off + j]? = some u) :
  (loadVar ty ⟨g, off, none⟩).run P w = .ok (.agg us.toArray) w := by
 have hl : (loadCells ⟨g, off, none⟩ us.length).run P w = .ok us.toArray w :=
  run_loadCells_list (P := P) w ⟨g, off, none⟩ us (fun j v hv => by
   rw [Addr.add_lit, cell_of_row w g (off + j) cs t fr hg]
   exact hc j v hv)
 obtain ⟨i, hi', hsz⟩ := Option.map_eq_some_iff.1 hi
 have hagg : (Go.isAgg ty).run P w = .ok true w := by
  unfold Go.isAgg
  rw [Sem.run_bind, run_underlying hu w]
  cases d <;> simp_all [aggD]
 simp [loadVar, Sem.run_bind, hagg, sizeOf, typeInfo, hi', hsz, hl]
theorem ld_row {ops : Array Oper} {rest : List Oper} {o : Oper} {a : Act} {Q : Exit → Act → World → Prop} {w : World} (hgd : o.guard = none) (ty : TypeId) (x : Operand) (ho : o.op = .load ty x)
  (g off : Nat) (hx : a.eval x = .pointer (some ⟨g, off, none⟩)) {t : TypeId} {cs : Array Value} {fr : Nat × Nat} {d : TypeDesc} (hg : w.heap[g]? = some (.cells cs t fr))
  (hu : P.underlying ty = some d) (hd : aggD d = true) (us : List Value) (hi : (P.info? ty).map (·.size) = some us.length) (hc : ∀ j u, us[j]? = some u → cs[off + j]? = some u)
  (h : wpList P ops Q rest (a.put o.dst (.agg us.toArray)) w) : wpList P ops Q (o :: rest) a w :=
 wpList_plain hgd fun _ hK => by
  unfold Oper.wp execOp
  simp only [ho, hx, Instr.loadAt, Instr.sureAddr, Sem.run_bind, Sem.run_pure, Result.andThen_ok, loadVar_row w g off t ty cs fr d hg hu hd us hi hc]
  exact hK _ _ h
theorem ld_cells {ops : Array Oper} {rest : List Oper} {o : Oper} {a : Act} {Q : Exit → Act → World → Prop} {w : World} (hgd : o.guard = none) (ty : TypeId) (x : Operand) (ho : o.op = .load ty x)
  (g off : Nat) (hx : a.eval x = .pointer (some ⟨g, off, none⟩)) {d : TypeDesc}
  (hu : P.underlying ty = some d) (hd : aggD d = true) (us : List Value) (hi : (P.info? ty).map (·.size) = some us.length) (hc : ∀ j u, us[j]? = some u → w.cell? ⟨g, off + j, none⟩ = some u)
  (h : wpList P ops Q rest (a.put o.dst (.agg us.toArray)) w) : wpList P ops Q (o :: rest) a w :=
 wpList_plain hgd fun _ hK => by
  have hl : (loadCells ⟨g, off, none⟩ us.length).run P w = .ok us.toArray w :=
   run_loadCells_list (P := P) w ⟨g, off, none⟩ us (fun j v hv => by rw [Addr.add_lit]; exact hc j v hv)
  obtain ⟨i, hi', hsz⟩ := Option.map_eq_some_iff.1 hi
  have hagg : (Go.isAgg ty).run P w = .ok true w := by
   unfold Go.isAgg
   rw [Sem.run_bind, run_underlying hu w]
   cases d <;> simp_all [aggD]
  have hrun : (loadVar ty ⟨g, off, none⟩).run P w = .ok (.agg us.toArray) w := by simp [loadVar, Sem.run_bind, hagg, sizeOf, typeInfo, hi', hsz, hl]
  unfold Oper.wp execOp
  simp only [ho, hx, Instr.loadAt, Instr.sureAddr, Sem.run_bind, Sem.run_pure, Result.andThen_ok, hrun]
  exact hK _ _ h
theorem storeVar_row (w : World) (g off : Nat) (t ty : TypeId) (cs : Array Value) (fr : Nat × Nat) (hg : w.heap[g]? = some (.cells cs t fr)) (hfr : fr.2 ≤ fr.1 ∨ cs.size ≤ fr.1)
  (us : List Value) (hi : (P.info? ty).map (·.size) = some us.length) (hfit : off + us.length ≤ cs.size) (h1 : ∀ u ∈ us, u.oneCell' = true) :
  (storeVar ty ⟨g, off, none⟩ (.agg us.toArray)).run P w = .ok () (w.setRow g (cs.toList.take off ++ us ++ cs.toList.drop (off + us.length)).toArray) := by
 obtain ⟨i, hi', hsz⟩ := Option.map_eq_some_iff.1 hi
 have hst := storeCells_fr (P := P) g off t fr us 0 cs w hg hfr (by omega) h1
 simp only [Nat.add_zero] at hst
 simp [storeVar, Value.cells, sizeOf, typeInfo, hi', hsz, hst]
theorem st_row {ops : Array Oper} {rest : List Oper} {o : Oper} {a : Act} {Q : Exit → Act → World → Prop} {w : World} (hgd : o.guard = none) (ty : TypeId) (x y : Operand) (ho : o.op = .store ty x y)
  (g off : Nat) (hx : a.eval x = .pointer (some ⟨g, off, none⟩)) (us : List Value) (hy : a.eval y = .agg us.toArray) {t : TypeId} {cs : Array Value} {fr : Nat × Nat} (hg : w.heap[g]? = some (.cells cs t fr)) (hfr : fr.2 ≤ fr.1 ∨ cs.size ≤ fr.1)
  (hi : (P.info? ty).map (·.size) = some us.length) (hfit : off + us.length ≤ cs.size) (h1 : ∀ u ∈ us, u.oneCell' = true)
  (h : wpList P ops Q rest (a.put o.dst undef) (w.setRow g (cs.toList.take off ++ us ++ cs.toList.drop (off + us.length)).toArray)) : wpList P ops Q (o :: rest) a w :=
 wpList_plain hgd fun _ hK => by
  unfold Oper.wp execOp
  simp only [ho, hx, hy, Instr.storeAt, Instr.sureAddr, Sem.run_bind, Sem.run_pure, Result.andThen_ok, storeVar_row w g off t ty cs fr hg hfr us hi hfit h1]
  exact hK _ _ h
theorem st_all {ops : Array Oper} {rest : List Oper} {o : Oper} {a : Act} {Q : Exit → Act → World → Prop} {w : World} (hgd : o.guard = none) (ty : TypeId) (x y : Operand) (ho : o.op = .store ty x y)
  (g : Nat) (hx : a.eval x = .pointer (some ⟨g, 0, none⟩)) (us : List Value) (hy : a.eval y = .agg us.toArray) {t : TypeId} {cs : Array Value} (hg : w.heap[g]? = some (.cells cs t (0, 0)))
  (hi : (P.info? ty).map (·.size) = some us.length) (hfit : us.length = cs.size) (h1 : ∀ u ∈ us, u.oneCell' = true)
  (h : wpList P ops Q rest (a.put o.dst undef) (w.setRow g us.toArray)) : wpList P ops Q (o :: rest) a w :=
 st_row hgd ty x y ho g 0 hx us hy hg (.inl (by simp)) hi (by omega) h1 (by
  have e : (cs.toList.take 0 ++ us ++ cs.toList.drop (0 + us.length)) = us := by
   rw [List.take_zero, List.nil_append, List.drop_eq_nil_of_le (by simp; omega), List.append_nil]
  rw [e]
  exact h)
theorem setRow_new (w : World) (old cs : Array Value) (t : TypeId) : (w.alloc (.cells old t)).setRow w.heap.size cs = w.alloc (.cells cs t) := by
 unfold World.setRow
 have : ∀ (a : Array Obj) (x : Obj) (f : Obj → Obj), (a.push x).modify a.size f = a.push (f x) := by
  intro a x f
  apply Array.ext
  ·simp
  ·intro i h1 h2
   simp only [Array.getElem_modify, Array.getElem_push]
   by_cases h : a.size = i
   ·subst h
    simp
   ·have hi : i < a.size := by simp at h1; omega
    simp [h, hi]
 show ({ w.alloc (.cells old t) with heap := (w.heap.push (.cells old t)).modify w.heap.size _ } : World) = _
 rw [this]
 rfl
theorem st_new {ops : Array Oper} {rest : List Oper} {o : Oper} {a : Act} {Q : Exit → Act → World → Prop} (w : World) (hgd : o.guard = none) (ty : TypeId) (x y : Operand) (ho : o.op = .store ty x y)
  (hx : a.eval x = .pointer (some ⟨w.heap.size, 0, none⟩)) (us : List Value) (hy : a.eval y = .agg us.toArray) {t : TypeId} {old : Array Value}
  (hi : (P.info? ty).map (·.size) = some us.length) (hfit : us.length = old.size) (h1 : ∀ u ∈ us, u.oneCell' = true)
  (h : wpList P ops Q rest (a.put o.dst undef) (w.alloc (.cells us.toArray t))) : wpList P ops Q (o :: rest) a (w.alloc (.cells old t)) :=
 st_all hgd ty x y ho w.heap.size hx us hy (heap_alloc_new w _) hi hfit h1 (by rw [setRow_new]; exact h)
theorem belowSetRow {B : Nat} {a w : World} (h : Below B a w) {g : Nat} (hg : B ≤ g) (cs : Array Value) : Below B a (w.setRow g cs) :=
 ⟨h.os, h.tape, h.output, by simpa using h.size, fun k hk => (setRow_other w g k cs (by omega)).trans (h.block k hk)⟩
theorem one1 {v : Value} (h : v.oneCell' = true) : ∀ u ∈ [v], u.oneCell' = true := by
 intro u hu
 rw [List.mem_singleton] at hu
 rw [hu]; exact h
theorem Own.form {w : World} {base : Nat} {e : TypeId} {v : Value} {xs : List Value} (h : Own w base e 1 v xs) (hne : 0 < xs.length) :
  ∃ g cap, v = .slice (some ⟨g, 0, none⟩) xs.length cap ∧ xs.length ≤ cap ∧ base ≤ g ∧ g < w.heap.size ∧ ∀ j u, xs[j]? = some u → w.cell? ⟨g, j, none⟩ = some u := by
 have hrd := h.rd
 rcases h with ⟨rfl, rfl⟩ | ⟨g, n, cap, cur, fr, rfl, hb, hg, hfr, hnc, hcm, hcs, hl, htake⟩
 ·simp at hne
 ·obtain rfl : xs.length = n := by omega
  refine ⟨g, cap, rfl, hnc, hb, (Array.getElem?_eq_some_iff.1 hg).1, fun j u hu => ?_⟩
  rw [cell_of_row w g j cur e fr hg]
  rw [← htake, List.getElem?_take] at hu
  split at hu
  ·simpa using hu
  ·cases hu
theorem Own.free {w : World} {base : Nat} {e : TypeId} {xs : List Value} {g n cap : Nat} (h : Own w base e 1 (.slice (some ⟨g, 0, none⟩) n cap) xs) (j : Nat) (hj : j < xs.length) : w.frozen? ⟨g, j, none⟩ = false := by
 rcases h with ⟨h, _⟩ | ⟨g', n', cap', cur, fr, h, hb, hg, hfr, hnc, hcm, hcs, hl, htake⟩
 ·cases h
 ·simp only [Value.slice.injEq, Option.some.injEq, Addr.mk.injEq] at h
  obtain ⟨⟨rfl, _⟩, rfl, rfl⟩ := h
  simp only [World.frozen?, hg, Bool.and_eq_false_iff, decide_eq_false_iff_not]
  omega
theorem Own.set {w : World} {base : Nat} {e : TypeId} {xs : List Value} {g n cap : Nat} (h : Own w base e 1 (.slice (some ⟨g, 0, none⟩) n cap) xs) (j : Nat) (hj : j < xs.length) (u : Value) :
  Own (w.setCell ⟨g, j, none⟩ u) base e 1 (.slice (some ⟨g, 0, none⟩) n cap) (xs.set j u) := by
 rcases h with ⟨h, _⟩ | ⟨g', n', cap', cur, fr, h, hb, hg, hfr, hnc, hcm, hcs, hl, htake⟩
 ·cases h
 ·simp only [Value.slice.injEq, Option.some.injEq, Addr.mk.injEq] at h
  obtain ⟨⟨rfl, _⟩, rfl, rfl⟩ := h
  rw [setCell_eq_setRow w g j cur e fr u hg]
  refine .inr ⟨g, n, cap, _, fr, rfl, hb, setRow_heap w g cur _ e _ hg, by simpa using hfr, hnc, hcm, by simpa using hcs, by simpa using hl, ?_⟩
  rw [Array.toList_setIfInBounds, List.take_set, htake]
theorem Own.len1 {w : World} {base : Nat} {e : TypeId} {v : Value} {xs : List Value} (h : Own w base e 1 v xs) : ∃ A c, v = .slice A xs.length c := by
 obtain ⟨A, c, h, _⟩ := h.rd.len
 exact ⟨A, c, h⟩
theorem oneCell_map8 (l : List UInt8) : ∀ u ∈ l.map w8, u.oneCell' = true := by
 intro u hu
 obtain ⟨b, _, rfl⟩ := List.mem_map.1 hu
 rfl
theorem oneCell_map32 (l : List (BitVec 32)) : ∀ u ∈ l.map w32, u.oneCell' = true := by
 intro u hu
 obtain ⟨b, _, rfl⟩ := List.mem_map.1 hu
 rfl
theorem step_ap_any {ops : Array Oper} {o : Oper} {a : Act} {K : Act → World → Prop} {Q : Exit → Act → World → Prop} {E : Prop} (w : World) (hgd : o.guard = none) (s x : Operand) (t : TypeId)
  (ho : o.op = .call { callee := .builtin .append, args := #[s, x], argTypes := #[t, t] })
  {e : TypeId} {size bytes base B : Nat} (hE : ElemOk P t e size bytes) {v xv : Value} {xs us : List Value} (hown : Own w base e size v xs) (hs : a.eval s = v)
  (hr : Rd w B size xv us) (hx : a.eval x = xv) (h1 : ∀ u ∈ us, u.oneCell' = true) (hbytes : (xs.length + us.length) * bytes ≤ 140737488355328) (h63 : xs.length + us.length ≤ 140737488355328) (hbase : base ≤ w.heap.size)
  (h : ∀ v' w', Own w' base e size v' (xs ++ us) → w.grownBy w' v.ownBlock → (v'.ownBlock = v.ownBlock ∨ v'.ownBlock = some w.heap.size) → K (a.put o.dst v') w') : if Region.wanted o (yielded ops a.tmps) = true then Oper.wp P o a w K Q else E := by
 have hw : Region.wanted o (yielded ops a.tmps) = true := by simp [Region.wanted, hgd]
 rw [if_pos hw]
 exact wp_ap w s x t ho hE hown hs hr hx h1 hbytes h63 hbase h
theorem step_ap_lit {ops : Array Oper} {o : Oper} {a : Act} {K : Act → World → Prop} {Q : Exit → Act → World → Prop} {E : Prop} (w : World) (hgd : o.guard = none) (s x : Operand) (t : TypeId)
  (ho : o.op = .call { callee := .builtin .append, args := #[s, x], argTypes := #[t, t] })
  {e T : TypeId} {bytes base : Nat} (hE : ElemOk P t e 1 bytes) {v : Value} {xs : List Value} (us : List Value) (hown : Own w base e 1 v xs) (hs : a.eval s = v)
  (hx : a.eval x = .slice (some ⟨w.heap.size, 0, none⟩) us.length us.length) (h1 : ∀ u ∈ us, u.oneCell' = true) (hbytes : (xs.length + us.length) * bytes ≤ 140737488355328) (h63 : xs.length + us.length ≤ 140737488355328) (hbase : base ≤ w.heap.size)
  (h : ∀ v' w', Own w' base e 1 v' (xs ++ us) → w.grownBy w' v.ownBlock → K (a.put o.dst v') w') : if Region.wanted o (yielded ops a.tmps) = true then Oper.wp P o a (w.alloc (.cells us.toArray T)) K Q else E :=
 step_ap_any (w.alloc (.cells us.toArray T)) hgd s x t ho hE (hown.alloc _) hs (Rd.lit w us us.length (by omega)) hx h1 hbytes h63 (by simp; omega) fun v' w' h2 h3 _ => h v' w' h2 (grown_of_alloc h3)
theorem still_ld_row {ops : Array Oper} {o : Oper} {rest : List Oper} {a : Act} {w : World} {Q : Act → Prop} (hgd : o.guard = none) (ty : TypeId) (x : Operand) (ho : o.op = .load ty x)
  (g off : Nat) (hx : a.eval x = .pointer (some ⟨g, off, none⟩)) {t : TypeId} {cs : Array Value} {fr : Nat × Nat} {d : TypeDesc} (hg : w.heap[g]? = some (.cells cs t fr))
  (hu : P.underlying ty = some d) (hd : aggD d = true) (us : List Value) (hi : (P.info? ty).map (·.size) = some us.length) (hc : ∀ j u, us[j]? = some u → cs[off + j]? = some u)
  (h : wpStill P ops w Q rest (a.put o.dst (.agg us.toArray))) : wpStill P ops w Q (o :: rest) a :=
 wpStill_step fun K hK => by
  have hw : Region.wanted o (yielded ops a.tmps) = true := by simp [Region.wanted, hgd]
  rw [if_pos hw]
  unfold Oper.still execOp
  simp only [ho, hx, Instr.loadAt, Instr.sureAddr, Sem.run_bind, Sem.run_pure, Result.andThen_ok, loadVar_row w g off t ty cs fr d hg hu hd us hi hc]
  exact ⟨rfl, hK _ h⟩
end
end Go.Proofs.YtlefikdjhnaapaaGreatDoor
end
section
namespace Go.Proofs.YtlefikdjhnaapaaGreatDoor.Pe
open Go Go.RowKit
inductive Mode where
 | ro | full | own (l : Nat)
inductive AV where
 | bo (b : Bool) | it (k : IntKind) (n : Int) | st (l : List UInt8) | ot (v : Value)
 | sl (m : Mode) (es : List AV) | agg (cs : List AV) | tup (vs : List AV)
 | ptr (l off : Nat) | pst (e : AV) (off : Nat) | fn (f : Fn) (first caps : List AV) | mp (l : Nat) | junk
 | ws (l off n c : Nat) | fm (es : List (AV × AV)) | wr (l n : Nat) (o : Option Nat)
def AV.cells : AV → List AV
 | .agg cs => cs
 | v => [v]
def flat (es : List AV) : List AV := es.flatMap AV.cells
structure Gh where
 G : Nat → Nat
 pl : Nat → Nat
 own : Nat → Nat → Prop
 nid : Nat
 buf : Nat → Bool
 wm : Nat → Nat
 cap : Nat → Nat
def Gh.noid (g : Gh) : Gh := { g with nid := 0 }
def ModeOk (g : Gh) (m : Mode) (n : Nat) (A : Option Addr) (c : Nat) : Prop :=
 match m with
 | .ro => True
 | .full => c = n
 | .own l => l < g.nid ∧ g.buf l = true ∧ n ≤ g.wm l ∧ (n < g.wm l ∨ c = n ∨ (A = some ⟨g.pl l, 0, none⟩ ∧ c = g.cap l))
inductive Rel (w : World) : Gh → AV → Value → Prop where
 | bo (g : Gh) (b : Bool) : Rel w g (.bo b) (.bool b)
 | it (g : Gh) (k : IntKind) (n : Int) : Rel w g (.it k n) (.int k n)
 | st (g : Gh) (l : List UInt8) : Rel w g (.st l) (.string ⟨l.toArray⟩)
 | ot (g : Gh) (v : Value) (h : v.oneCell' = true) : Rel w g (.ot v) v
 | junk (g : Gh) (v : Value) : Rel w g .junk v
 | sl (g : Gh) (m : Mode) (es : List AV) (A : Option Addr) (c sz : Nat) (cu : Nat → Value)
   (hc : es.length ≤ c) (hcm : c ≤ maxLen) (hsz : ∀ e ∈ es, e.cells.length = sz)
   (hA : 0 < es.length → ∃ b o, A = some ⟨b, o, none⟩ ∧ ∀ j, j < (flat es).length → o + j < g.G b ∧ w.cell? ⟨b, o + j, none⟩ = some (cu j))
   (h1 : ∀ j, j < (flat es).length → (cu j).oneCell' = true)
   (hr : ∀ (j : Nat) (u : AV), (flat es)[j]? = some u → Rel w g.noid u (cu j))
   (hm : ModeOk g m es.length A c) : Rel w g (.sl m es) (.slice A es.length c)
 | agg (g : Gh) (cs : List AV) (arr : Array Value) (hn : arr.size = cs.length) (h1 : ∀ v ∈ arr.toList, v.oneCell' = true)
   (hr : ∀ (j : Nat) (u : AV) (v : Value), cs[j]? = some u → arr[j]? = some v → Rel w g u v) : Rel w g (.agg cs) (.agg arr)
 | tup (g : Gh) (vs : List AV) (arr : Array Value) (hn : arr.size = vs.length)
   (hr : ∀ (j : Nat) (u : AV) (v : Value), vs[j]? = some u → arr[j]? = some v → Rel w g u v) : Rel w g (.tup vs) (.tuple arr)
 | ptr (g : Gh) (l off : Nat) (hl : l < g.nid) (hb : g.buf l = false) : Rel w g (.ptr l off) (.pointer (some ⟨g.pl l, off, none⟩))
 | pst (g : Gh) (e : AV) (off b o : Nat) (cu : Nat → Value)
   (hA : ∀ j, j < e.cells.length → o + j < g.G b ∧ w.cell? ⟨b, o + j, none⟩ = some (cu j))
   (h1 : ∀ j, j < e.cells.length → (cu j).oneCell' = true)
   (hr : ∀ (j : Nat) (u : AV), e.cells[j]? = some u → Rel w g.noid u (cu j)) : Rel w g (.pst e off) (.pointer (some ⟨b, o + off, none⟩))
 | fn (g : Gh) (f : Fn) (first caps : List AV) (fa ca : Array Value) (hf : fa.size = first.length) (hc : ca.size = caps.length)
   (hrf : ∀ (j : Nat) (u : AV) (v : Value), first[j]? = some u → fa[j]? = some v → Rel w g u v)
   (hrc : ∀ (j : Nat) (u : AV) (v : Value), caps[j]? = some u → ca[j]? = some v → Rel w g u v) : Rel w g (.fn f first caps) (.func f fa ca)
 | mp (g : Gh) (l : Nat) (hl : l < g.nid) (hb : g.buf l = false) : Rel w g (.mp l) (.map (some (g.pl l)))
 | fm (g : Gh) (es : List (AV × AV)) (b : Nat) (me : Array MapEntry) (clock : Nat) (hG : 0 < g.G b) (hb : w.heap[b]? = some (.map me clock)) (hs : me.size = es.length)
   (hk : ∀ (j : Nat) (u : AV × AV) (x : MapEntry), es[j]? = some u → me[j]? = some x → Rel w g.noid u.1 x.key) (hv : ∀ (j : Nat) (u : AV × AV) (x : MapEntry), es[j]? = some u → me[j]? = some x → Rel w g.noid u.2 x.val) : Rel w g (.fm es) (.map (some b))
 | ws (g : Gh) (l off n c : Nat) (hl : l < g.nid) (hb : g.buf l = false) (hc : n ≤ c) (hm : c ≤ maxLen) : Rel w g (.ws l off n c) (.slice (some ⟨g.pl l, off, none⟩) n c)
 | wr (g : Gh) (l n c : Nat) (A : Option Addr) (hl : l < g.nid) (hb : g.buf l = true) (hw : n ≤ g.wm l) (hc : n ≤ c) (hm : c ≤ maxLen) (h0 : 0 < n → ∃ b o, A = some ⟨b, o, none⟩) (hA : n < g.wm l ∨ (c = g.cap l ∧ (0 < c → A = some ⟨g.pl l, 0, none⟩))) : Rel w g (.wr l n none) (.slice A n c)
 | wp (g : Gh) (l n off b o : Nat) (hl : l < g.nid) (hb : g.buf l = true) (hw : n ≤ g.wm l) (hA : n < g.wm l ∨ (b = g.pl l ∧ o = off)) : Rel w g (.wr l n (some off)) (.pointer (some ⟨b, o, none⟩))
structure Le (w : World) (g : Gh) (w' : World) (g' : Gh) : Prop where
 cell : ∀ b o v, o < g.G b → w.cell? ⟨b, o, none⟩ = some v → w'.cell? ⟨b, o, none⟩ = some v
 G : ∀ b o v, o < g.G b → w.cell? ⟨b, o, none⟩ = some v → o < g'.G b
 nid : g.nid ≤ g'.nid
 keep : ∀ l, l < g.nid → g'.buf l = g.buf l ∧ ((g'.pl l = g.pl l ∧ g'.wm l = g.wm l ∧ g'.cap l = g.cap l) ∨ (g.buf l = true ∧ g.wm l < g'.wm l))
 map : ∀ b me c, 0 < g.G b → w.heap[b]? = some (.map me c) → 0 < g'.G b ∧ w'.heap[b]? = some (.map me c)
theorem Le.refl (w : World) (g : Gh) : Le w g w g := ⟨fun _ _ _ _ h => h, fun _ _ _ h _ => h, Nat.le_refl _, fun _ _ => ⟨rfl, .inl ⟨rfl, rfl, rfl⟩⟩, fun _ _ _ h h' => ⟨h, h'⟩⟩
theorem Le.trans {w w' w'' : World} {g g' g'' : Gh} (h : Le w g w' g') (h' : Le w' g' w'' g'') : Le w g w'' g'' := by
 refine ⟨fun b o v hb hv => h'.cell b o v (h.G b o v hb hv) (h.cell b o v hb hv), fun b o v hb hv => h'.G b o v (h.G b o v hb hv) (h.cell b o v hb hv), Nat.le_trans h.nid h'.nid, fun l hl => ?_, fun b me c hg hm => h'.map b me c (h.map b me c hg hm).1 (h.map b me c hg hm).2⟩
 obtain ⟨h1, h2⟩ := h.keep l hl
 obtain ⟨h3, h4⟩ := h'.keep l (Nat.lt_of_lt_of_le hl h.nid)
 refine ⟨h3.trans h1, ?_⟩
 rcases h2 with ⟨a, b, c⟩ | ⟨a, b⟩ <;> rcases h4 with ⟨d, e, f⟩ | ⟨d, e⟩
 ·exact .inl ⟨d.trans a, e.trans b, f.trans c⟩
 ·exact .inr ⟨by rw [← h1]; exact d, by omega⟩
 ·exact .inr ⟨a, by omega⟩
 ·exact .inr ⟨a, by omega⟩
theorem Le.noid {w w' : World} {g g' : Gh} (h : Le w g w' g') : Le w g.noid w' g'.noid :=
 ⟨h.cell, h.G, Nat.le_refl _, fun l hl => absurd hl (Nat.not_lt_zero _), h.map⟩
theorem ModeOk.le {w w' : World} {g g' : Gh} {m : Mode} {n c : Nat} {A : Option Addr} (hm : ModeOk g m n A c) (h : Le w g w' g') : ModeOk g' m n A c := by
 cases m with
 | ro => trivial
 | full => exact hm
 | own l =>
  obtain ⟨a, b, c', d⟩ := hm
  obtain ⟨h1, h2⟩ := h.keep l a
  refine ⟨Nat.lt_of_lt_of_le a h.nid, by rw [h1]; exact b, ?_, ?_⟩
  ·rcases h2 with ⟨_, e, _⟩ | ⟨_, e⟩ <;> omega
  ·rcases h2 with ⟨e1, e2, e3⟩ | ⟨_, e⟩
   ·rw [e1, e2, e3]; exact d
   ·exact .inl (by omega)
theorem Rel.le {w w' : World} {g g' : Gh} {v : AV} {cv : Value} (h : Rel w g v cv) (hl : Le w g w' g') : Rel w' g' v cv := by
 induction h generalizing g' with
 | bo g b => exact .bo _ b
 | it g k n => exact .it _ k n
 | st g l => exact .st _ l
 | ot g v h => exact .ot _ v h
 | junk g v => exact .junk _ v
 | sl g m es A c sz cu hc hcm hsz hA h1 hr hm ih =>
  refine .sl _ m es A c sz cu hc hcm hsz (fun h0 => ?_) h1 (fun j u hu => ih j u hu hl.noid) (hm.le hl)
  obtain ⟨b, o, rfl, h⟩ := hA h0
  exact ⟨b, o, rfl, fun j hj => ⟨hl.G b _ _ (h j hj).1 (h j hj).2, hl.cell b _ _ (h j hj).1 (h j hj).2⟩⟩
 | agg g cs arr hn h1 hr ih => exact .agg _ cs arr hn h1 fun j u v hu hv => ih j u v hu hv hl
 | tup g vs arr hn hr ih => exact .tup _ vs arr hn fun j u v hu hv => ih j u v hu hv hl
 | ptr g l off h hb =>
  obtain ⟨h1, h2⟩ := hl.keep l h
  rcases h2 with ⟨e, _, _⟩ | ⟨e, _⟩
  ·rw [← e]; exact .ptr _ l off (Nat.lt_of_lt_of_le h hl.nid) (h1.trans hb)
  ·rw [hb] at e; cases e
 | pst g e off b o cu hA h1 hr ih =>
  exact .pst _ e off b o cu (fun j hj => ⟨hl.G b _ _ (hA j hj).1 (hA j hj).2, hl.cell b _ _ (hA j hj).1 (hA j hj).2⟩) h1 fun j u hu => ih j u hu hl.noid
 | fn g f first caps fa ca hf hc hrf hrc ihf ihc => exact .fn _ f first caps fa ca hf hc (fun j u v hu hv => ihf j u v hu hv hl) fun j u v hu hv => ihc j u v hu hv hl
 | mp g l h hb =>
  obtain ⟨h1, h2⟩ := hl.keep l h
  rcases h2 with ⟨e, _, _⟩ | ⟨e, _⟩
  ·rw [← e]; exact .mp _ l (Nat.lt_of_lt_of_le h hl.nid) (h1.trans hb)
  ·rw [hb] at e; cases e
 | fm g es b me clock hG hb hs hk hv ihk ihv =>
  have := hl.map b me clock hG hb
  exact .fm _ es b me clock this.1 this.2 hs (fun j u x hu hx => ihk j u x hu hx hl.noid) fun j u x hu hx => ihv j u x hu hx hl.noid
 | ws g l off n c h hb hc hm =>
  obtain ⟨h1, h2⟩ := hl.keep l h
  rcases h2 with ⟨e, _, _⟩ | ⟨e, _⟩
  ·rw [← e]; exact .ws _ l off n c (Nat.lt_of_lt_of_le h hl.nid) (h1.trans hb) hc hm
  ·rw [hb] at e; cases e
 | wr g l n c A h hb hw hc hm h0 hA =>
  obtain ⟨h1, h2⟩ := hl.keep l h
  rcases h2 with ⟨e1, e2, e3⟩ | ⟨_, e⟩
  ·exact .wr _ l n c A (Nat.lt_of_lt_of_le h hl.nid) (h1.trans hb) (by rw [e2]; exact hw) hc hm h0 (by rw [e1, e2, e3]; exact hA)
  ·exact .wr _ l n c A (Nat.lt_of_lt_of_le h hl.nid) (h1.trans hb) (by omega) hc hm h0 (.inl (by omega))
 | wp g l n off b o h hb hw hA =>
  obtain ⟨h1, h2⟩ := hl.keep l h
  rcases h2 with ⟨e1, e2, _⟩ | ⟨_, e⟩
  ·exact .wp _ l n off b o (Nat.lt_of_lt_of_le h hl.nid) (h1.trans hb) (by rw [e2]; exact hw) (by rw [e1, e2]; exact hA)
  ·exact .wp _ l n off b o (Nat.lt_of_lt_of_le h hl.nid) (h1.trans hb) (by omega) (.inl (by omega))
inductive SObj where
 | cells (cs : List AV)
 | buf (n : Nat) (e : TypeId) (sz : Nat)
 | ext (X : World → Nat → (Nat → Prop) → Prop)
 | map (es : List (AV × AV)) | siter (l : List UInt8) (pos : Nat) | dead | row (cs : List AV) (e : TypeId) (sz : Nat)
 | loop (b D : Nat) (fn : FuncId) (es : List AV) (ps : Array Tmp) (asn bdy : Code) (st : LoopState)
def EsOk (w : World) (g : Gh) (es : List (AV × AV)) (me : Array MapEntry) (clock : Nat) : Prop :=
 me.size = es.length ∧ (∀ x ∈ me.toList, x.born < clock) ∧ (me.toList.map (·.born)).Nodup ∧
 ∀ (j : Nat) u x, es[j]? = some u → me[j]? = some x → Rel w g u.1 x.key ∧ Rel w g u.2 x.val
def ObjOk (w : World) (g : Gh) (l : Nat) : SObj → Prop
 | .map es => g.buf l = false ∧ g.own l (g.pl l) ∧ g.G (g.pl l) = 0 ∧ ∃ me clock, w.heap[g.pl l]? = some (.map me clock) ∧ EsOk w g es me clock
 | .siter s pos => g.buf l = false ∧ g.own l (g.pl l) ∧ g.G (g.pl l) = 0 ∧ w.heap[g.pl l]? = some (.stringIter ⟨s.toArray⟩ pos)
 | .dead => True
 | .loop b D fn es ps asn bdy st => g.buf l = false ∧ g.own l (g.pl l) ∧ g.G (g.pl l) = 0 ∧ g.pl l = b ∧ ∃ tmps, w.heap[g.pl l]? = some (.loop { state := st, pending := none, fn, tmps, params := ps, assign := asn, body := bdy, defers := D }) ∧ tmps.size = es.length ∧ ∀ (j : Nat) u x, es[j]? = some u → tmps[j]? = some x → Rel w g u x
 | .row cs e sz => g.buf l = true ∧ (0 < sz ∧ cs.length = g.wm l * sz) ∧ ((g.cap l = 0 ∧ cs = []) ∨ (g.own l (g.pl l) ∧ g.G (g.pl l) = 0 ∧ ∃ arr, ∃ fr : Nat × Nat, w.heap[g.pl l]? = some (.cells arr e fr) ∧ fr.2 ≤ fr.1 ∧ arr.size = g.cap l * sz ∧ cs.length ≤ arr.size ∧
   (∀ (j : Nat) v, arr[j]? = some v → j < cs.length → v.oneCell' = true) ∧ ∀ (j : Nat) u v, cs[j]? = some u → arr[j]? = some v → Rel w g u v))
 | .cells cs => g.buf l = false ∧ g.own l (g.pl l) ∧ g.G (g.pl l) = 0 ∧ ∃ arr T, ∃ fr : Nat × Nat, w.heap[g.pl l]? = some (.cells arr T fr) ∧ fr.2 ≤ fr.1 ∧ arr.size = cs.length ∧
   (∀ v ∈ arr.toList, v.oneCell' = true) ∧ ∀ (j : Nat) u v, cs[j]? = some u → arr[j]? = some v → Rel w g u v
 | .buf n e sz => g.buf l = true ∧ g.wm l = n ∧ (g.cap l = 0 ∨ (g.own l (g.pl l) ∧ 0 < sz ∧ n ≤ g.cap l ∧ g.G (g.pl l) ≤ n * sz ∧
   ∃ cur, ∃ fr : Nat × Nat, w.heap[g.pl l]? = some (.cells cur e fr) ∧ (fr.2 ≤ fr.1 ∨ cur.size ≤ fr.1) ∧ cur.size = g.cap l * sz))
 | .ext X => g.buf l = false ∧ g.own l (g.pl l) ∧ (∀ b, g.own l b → g.G b = 0) ∧ ∀ w' : World, (∀ b, g.own l b → w'.heap[b]? = w.heap[b]?) → X w' (g.pl l) (g.own l)
abbrev Store := List SObj
class Tab where
 T : Nat → Nat → Option Value
def TabOk [Tab] (w : World) (g : Gh) : Prop := ∀ b i v, Tab.T b i = some v → i < g.G b ∧ w.cell? ⟨b, i, none⟩ = some v
theorem TabOk.le [Tab] {w w' : World} {g g' : Gh} (h : TabOk w g) (hl : Le w g w' g') : TabOk w' g' := fun b i v hv => ⟨hl.G b i v (h b i v hv).1 (h b i v hv).2, hl.cell b i v (h b i v hv).1 (h b i v hv).2⟩
structure WF [Tab] (w : World) (g : Gh) (S : Store) : Prop where
 nid : g.nid = S.length
 obj : ∀ l o, S[l]? = some o → ObjOk w g l o
 disj : ∀ l l' b, l < g.nid → l' < g.nid → g.own l b → g.own l' b → l = l'
 lt : ∀ l b, l < g.nid → g.own l b → b < w.heap.size
 tab : TabOk w g
structure Evo (w : World) (g : Gh) (w' : World) (g' : Gh) : Prop extends Le w g w' g' where
 os : w'.os = w.os
 tape : w'.tape = w.tape
 output : w'.output = w.output
 size : w.heap.size ≤ w'.heap.size
 old : ∀ b, b < w.heap.size → (∀ l, l < g.nid → ¬ g.own l b) → w'.heap[b]? = w.heap[b]?
 own : ∀ l b, l < g'.nid → g'.own l b → b < w.heap.size → l < g.nid ∧ g.own l b
 Gold : ∀ b, b < w.heap.size → (∀ l, l < g.nid → ¬ g.own l b) → g'.G b = g.G b
theorem Evo.refl (w : World) (g : Gh) : Evo w g w g := ⟨Le.refl w g, rfl, rfl, rfl, Nat.le_refl _, fun _ _ _ => rfl, fun _ _ hl h _ => ⟨hl, h⟩, fun _ _ _ => rfl⟩
theorem Evo.trans {w w' w'' : World} {g g' g'' : Gh} (h : Evo w g w' g') (h' : Evo w' g' w'' g'') : Evo w g w'' g'' :=
 ⟨h.toLe.trans h'.toLe, h'.os.trans h.os, h'.tape.trans h.tape, h'.output.trans h.output, Nat.le_trans h.size h'.size,
 fun b hb hn => (h'.old b (Nat.lt_of_lt_of_le hb h.size) fun l hl ho => hn l (h.own l b hl ho hb).1 (h.own l b hl ho hb).2).trans (h.old b hb hn),
 fun l b hl ho hb => by
  have h1 := h'.own l b hl ho (Nat.lt_of_lt_of_le hb h.size)
  exact h.own l b h1.1 h1.2 hb,
 fun b hb hn => (h'.Gold b (Nat.lt_of_lt_of_le hb h.size) fun l hl ho => hn l (h.own l b hl ho hb).1 (h.own l b hl ho hb).2).trans (h.Gold b hb hn)⟩
theorem Evo.draw (w : World) (g : Gh) (n : Nat) : Evo w g { w with drawn := n } g := ⟨⟨fun _ _ _ _ h => h, fun _ _ _ h _ => h, Nat.le_refl _, fun _ _ => ⟨rfl, .inl ⟨rfl, rfl, rfl⟩⟩, fun _ _ _ h h' => ⟨h, h'⟩⟩, rfl, rfl, rfl, Nat.le_refl _, fun _ _ _ => rfl, fun _ _ hl h _ => ⟨hl, h⟩, fun _ _ _ => rfl⟩
abbrev Env := Nat → AV
def upd (e : Env) (d : Nat) (v : AV) : Env := fun t => if t = d then v else e t
def put (e : Env) (d : Option Nat) (v : AV) : Env := match d with | some d => upd e d v | none => e
theorem upd_same (e : Env) (d : Nat) (v : AV) : upd e d v d = v := if_pos rfl
theorem upd_ne (e : Env) {d t : Nat} (h : t ≠ d) (v : AV) : upd e d v t = e t := if_neg h
def cst1 : Value → AV
 | .bool b => .bo b
 | .int k n => .it k n
 | .string s => .st s.data.toList
 | .slice none 0 0 => .sl .full []
 | .agg _ => .junk
 | .tuple _ => .junk
 | v => .ot v
def cst : Value → AV
 | .agg arr => if arr.toList.all (·.oneCell') then .agg (arr.toList.map cst1) else .junk
 | v => cst1 v
def ev (e : Env) : Operand → AV
 | .tmp t => e t
 | .const v => cst v
 | .global g => .ot (.pointer (some ⟨g, 0, none⟩))
 | .func f => .fn (.func f) [] []
theorem cst1_ok (w : World) (g : Gh) (v : Value) : Rel w g (cst1 v) v := by
 unfold cst1
 split
 ·exact .bo g _
 ·exact .it g _ _
 ·exact .st g _
 ·exact .sl g .full [] none 0 0 (fun _ => default) (Nat.le_refl _) (by simp) (by simp) (by simp) (by simp [flat]) (by simp [flat]) rfl
 ·exact .junk g _
 ·exact .junk g _
 ·exact .ot g _ (by cases v <;> simp_all [Value.oneCell'])
theorem cst_ok (w : World) (g : Gh) (v : Value) : Rel w g (cst v) v := by
 unfold cst
 split
 ·rename_i arr
  split
  ·rename_i h
   refine .agg g _ arr (by simp) (fun v hv => by simpa using (List.all_eq_true.1 h) v hv) fun j u v hu hv => ?_
   rw [List.getElem?_map] at hu
   have : arr.toList[j]? = some v := by simpa using hv
   rw [this] at hu
   simp only [Option.map_some, Option.some.injEq] at hu
   subst hu
   exact cst1_ok w g v
  ·exact .junk g _
 ·exact cst1_ok w g v
def ERel (w : World) (g : Gh) (e : Env) (a : Act) : Prop := ∀ t, Rel w g (e t) (a.tmps.getD t undef)
theorem ev_ok {w : World} {g : Gh} {e : Env} {a : Act} (h : ERel w g e a) (x : Operand) : Rel w g (ev e x) (a.eval x) := by
 cases x with
 | tmp t => exact h t
 | const v => exact cst_ok w g v
 | global n => exact .ot g _ rfl
 | func f => exact .fn g (.func f) [] [] #[] #[] rfl rfl (by simp) (by simp)
def szOf (P : Program) (t : TypeId) : Option (Nat × Bool) :=
 match P.info? t, P.underlying t with
 | some i, some d => some (i.size, aggD d)
 | _, _ => none
def fldOf (P : Program) (t f : Nat) : Option (Nat × Nat × Bool) :=
 match P.underlying t with
 | some (.struct fs) => match fs[f]? with
  | some fd => (szOf P fd.type).map fun s => (fd.offset, s.1, s.2)
  | none => none
 | _ => none
def sleOf (P : Program) (t : TypeId) : Option (TypeId × Nat × Bool) :=
 match P.underlying t with
 | some (.slice e) => (szOf P e).map fun s => (e, s.1, s.2)
 | _ => none
def areOf (P : Program) (t : TypeId) : Option (Nat × Nat × Bool) :=
 match P.underlying t with
 | some (.array n e) => (szOf P e).map fun s => (n, s.1, s.2)
 | _ => none
theorem szOf_spec {P : Program} {t : TypeId} {sz : Nat} {ag : Bool} (h : szOf P t = some (sz, ag)) : ∃ i d, P.info? t = some i ∧ P.underlying t = some d ∧ i.size = sz ∧ aggD d = ag := by
 unfold szOf at h
 split at h
 ·rename_i i d h1 h2
  simp only [Option.some.injEq, Prod.mk.injEq] at h
  exact ⟨i, d, h1, h2, h.1, h.2⟩
 ·cases h
theorem run_sizeOf {P : Program} {t : TypeId} {sz : Nat} {ag : Bool} (h : szOf P t = some (sz, ag)) (w : World) : (sizeOf t).run P w = .ok sz w := by
 obtain ⟨i, d, h1, h2, h3, h4⟩ := szOf_spec h
 simp [sizeOf, typeInfo, h1, h3]
theorem run_isAgg {P : Program} {t : TypeId} {sz : Nat} {ag : Bool} (h : szOf P t = some (sz, ag)) (w : World) : (Go.isAgg t).run P w = .ok ag w := by
 obtain ⟨i, d, h1, h2, h3, rfl⟩ := szOf_spec h
 unfold Go.isAgg
 rw [Sem.run_bind, run_underlying h2 w]
 cases d <;> simp_all [aggD]
theorem fldOf_spec {P : Program} {t f o sz : Nat} {ag : Bool} (h : fldOf P t f = some (o, sz, ag)) : ∃ fs fd, P.underlying t = some (.struct fs) ∧ fs[f]? = some fd ∧ fd.offset = o ∧ szOf P fd.type = some (sz, ag) := by
 unfold fldOf at h
 split at h
 ·rename_i fs h1
  split at h
  ·rename_i fd h2
   obtain ⟨⟨a, b⟩, h3, h4⟩ := Option.map_eq_some_iff.1 h
   simp only [Prod.mk.injEq] at h4
   exact ⟨fs, fd, h1, h2, h4.1, by rw [h3, h4.2.1, h4.2.2]⟩
  ·cases h
 ·cases h
theorem sleOf_spec {P : Program} {t e sz : Nat} {ag : Bool} (h : sleOf P t = some (e, sz, ag)) : P.underlying t = some (.slice e) ∧ szOf P e = some (sz, ag) := by
 unfold sleOf at h
 split at h
 ·rename_i e' h1
  obtain ⟨⟨a, b⟩, h3, h4⟩ := Option.map_eq_some_iff.1 h
  simp only [Prod.mk.injEq] at h4
  obtain ⟨rfl, rfl, rfl⟩ := h4
  exact ⟨h1, h3⟩
 ·cases h
theorem areOf_spec {P : Program} {t n sz : Nat} {ag : Bool} (h : areOf P t = some (n, sz, ag)) : ∃ e, P.underlying t = some (.array n e) ∧ szOf P e = some (sz, ag) := by
 unfold areOf at h
 split at h
 ·rename_i n' e' h1
  obtain ⟨⟨a, b⟩, h3, h4⟩ := Option.map_eq_some_iff.1 h
  simp only [Prod.mk.injEq] at h4
  obtain ⟨rfl, rfl, rfl⟩ := h4
  exact ⟨e', h1, h3⟩
 ·cases h
def apart (cs : List AV) (off sz : Nat) (ag : Bool) : Option AV :=
 if ag then (if off = 0 ∧ sz = cs.length then some (.agg cs) else if off + sz ≤ cs.length then some (.agg ((cs.drop off).take sz)) else none) else cs[off]?
theorem apart_part {w : World} {g : Gh} {cs : List AV} {arr : Array Value} (hn : arr.size = cs.length) (h1 : ∀ v ∈ arr.toList, v.oneCell' = true)
  (hr : ∀ (j : Nat) u v, cs[j]? = some u → arr[j]? = some v → Rel w g u v) {off sz : Nat} (h : off + sz ≤ cs.length) : Rel w g (.agg ((cs.drop off).take sz)) (.agg (arr.extract off (off + sz))) := by
 refine .agg g _ _ ?_ ?_ ?_
 ·simp; omega
 ·intro v hv
  refine h1 v ?_
  simp only [Array.toList_extract, List.extract_eq_take_drop] at hv
  exact List.mem_of_mem_drop (List.mem_of_mem_take hv)
 ·intro j u v hu hv
  rw [List.getElem?_take] at hu
  split at hu
  ·rw [List.getElem?_drop] at hu
   refine hr (off + j) u v hu ?_
   rw [Array.getElem?_extract] at hv
   split at hv
   ·exact hv
   ·cases hv
  ·cases hu
theorem apart_agg {w : World} {g : Gh} {cs : List AV} {arr : Array Value} (hn : arr.size = cs.length) (h1 : ∀ v ∈ arr.toList, v.oneCell' = true)
  (hr : ∀ (j : Nat) u v, cs[j]? = some u → arr[j]? = some v → Rel w g u v) {off sz : Nat} {v : AV} (h : apart cs off sz true = some v) : off + sz ≤ arr.size ∧ Rel w g v (.agg (arr.extract off (off + sz))) := by
 unfold apart at h
 simp only [if_true] at h
 split at h
 ·rename_i h0
  obtain ⟨rfl, rfl⟩ := h0
  cases h
  have := apart_part hn h1 hr (off := 0) (sz := cs.length) (by omega)
  refine ⟨by omega, ?_⟩
  rw [List.drop_zero, List.take_length] at this
  exact this
 ·split at h
  ·rename_i hle
   cases h
   exact ⟨by omega, apart_part hn h1 hr hle⟩
  ·cases h
theorem apart_ok {P : Program} {w : World} {g : Gh} {cs : List AV} {arr : Array Value} (hn : arr.size = cs.length) (h1 : ∀ v ∈ arr.toList, v.oneCell' = true)
  (hr : ∀ (j : Nat) u v, cs[j]? = some u → arr[j]? = some v → Rel w g u v) {t off sz : Nat} {ag : Bool} (ht : szOf P t = some (sz, ag)) {v : AV} (h : apart cs off sz ag = some v) :
  ∃ cv, (part t arr off).run P w = .ok cv w ∧ Rel w g v cv := by
 cases ag with
 | true => exact ⟨.agg (arr.extract off (off + sz)), by simp [part, run_isAgg ht, run_sizeOf ht], (apart_agg hn h1 hr h).2⟩
 | false =>
  simp only [apart, Bool.false_eq_true, if_false] at h
  have hlt : off < cs.length := (List.getElem?_eq_some_iff.1 h).1
  have hv : arr[off]? = some arr[off] := Array.getElem?_eq_getElem (by omega)
  exact ⟨arr[off], by simp [part, run_isAgg ht, hv], hr off v _ h hv⟩
inductive Kd where
 | int (k : IntKind) | bool | str | bytes | ptr | fun | other
 deriving DecidableEq
def kdOf (P : Program) (t : TypeId) : Kd :=
 match P.underlying t with
 | some (.int k) => .int k
 | some .bool => .bool
 | some .string => .str
 | some (.slice e) => match P.underlying e with
  | some (.int .u8) => .bytes
  | _ => .other
 | some (.pointer _) => .ptr
 | some (.func ..) => .fun
 | _ => .other
def aInt (op : BinOp) (k : IntKind) (a b : Int) : Option AV :=
 match op with
 | .add => some (.it k (k.wrap (a + b)))
 | .sub => some (.it k (k.wrap (a - b)))
 | .mul => some (.it k (k.wrap (a * b)))
 | .quo => if b = 0 then none else some (.it k (k.wrap (a.tdiv b)))
 | .rem => if b = 0 then none else some (.it k (a.tmod b))
 | .and => some (.it k (Go.bits .and k a b))
 | .or => some (.it k (Go.bits .or k a b))
 | .xor => some (.it k (Go.bits .xor k a b))
 | .andNot => some (.it k (Go.bits .andNot k a b))
 | .eql => some (.bo (a == b))
 | .neq => some (.bo (a != b))
 | .lss => some (.bo (decide (a < b)))
 | .leq => some (.bo (decide (a ≤ b)))
 | .gtr => some (.bo (decide (a > b)))
 | .geq => some (.bo (decide (a ≥ b)))
 | _ => none
def aStr (op : BinOp) (a b : List UInt8) : Option AV :=
 match op with
 | .add => if a.length + b.length ≤ 9223372036854775807 then some (.st (a ++ b)) else none
 | .eql => some (.bo (a == b))
 | .neq => some (.bo (!(a == b)))
 | .lss => some (.bo (Op.bytesLess a b))
 | .leq => some (.bo (Op.bytesLess a b || a == b))
 | .gtr => some (.bo (!(Op.bytesLess a b || a == b)))
 | .geq => some (.bo (!Op.bytesLess a b))
 | _ => none
def eqsOf (P : Program) (t : TypeId) : Option (List (TypeId × Nat × Nat × Bool)) :=
 match P.underlying t with
 | some (.struct fs) => if P.stoodInHeld t then none else fs.toList.mapM fun f => if f.name = "_" then none else (szOf P f.type).map fun s => (f.type, f.offset, s.1, s.2)
 | _ => none
def aEqF (eq : TypeId → AV → AV → Option Bool) (xs ys : List AV) : List (TypeId × Nat × Nat × Bool) → Option Bool
 | [] => some true
 | (t, off, sz, ag) :: fs =>
  match apart xs off sz ag, apart ys off sz ag with
  | some a, some b => match eq t a b, aEqF eq xs ys fs with
   | some r, some s => some (r && s)
   | _, _ => none
  | _, _ => none
def aEq (P : Program) : Nat → TypeId → AV → AV → Option Bool
 | 0, _, _, _ => none
 | d + 1, t, x, y =>
  match kdOf P t, x, y with
  | .int _, .it k a, .it k' b => if k = k' then some (a == b) else none
  | .str, .st a, .st b => some (a == b)
  | .bool, .bo a, .bo b => some (a == b)
  | _, .agg xs, .agg ys => match eqsOf P t with
   | some fs => aEqF (aEq P d) xs ys fs
   | none => none
  | _, _, _ => none
def aShl (k : IntKind) (a b : Int) : Option AV := if 0 ≤ b then some (.it k (k.wrap (a * 2 ^ (min b.toNat k.bits)))) else none
def aShr (k : IntKind) (a b : Int) : Option AV := if 0 ≤ b then some (.it k (a.fdiv (2 ^ (min b.toNat k.bits)))) else none
def aBin (P : Program) (op : BinOp) (t : TypeId) (x y : AV) : Option AV :=
 match x, y with
 | .it k a, .it k' b =>
  match op with
  | .shl => aShl k a b
  | .shr => aShr k a b
  | op => if k = k' then aInt op k a b else none
 | .st a, .st b => aStr op a b
 | .bo a, .bo b => if kdOf P t = .bool then (match op with | .eql => some (.bo (a == b)) | .neq => some (.bo (!(a == b))) | _ => none) else none
 | .agg xs, .agg ys => if P.eqGuardType P.depth t then none else
  match op with
  | .eql => (aEq P 6 t (.agg xs) (.agg ys)).map .bo
  | .neq => (aEq P 6 t (.agg xs) (.agg ys)).map fun b => .bo (!b)
  | _ => none
 | .ptr _ _, .ot (.pointer none) => if kdOf P t = .ptr then (match op with | .eql => some (.bo false) | .neq => some (.bo true) | _ => none) else none
 | .ot (.pointer none), .ot (.pointer none) => if kdOf P t = .ptr then (match op with | .eql => some (.bo true) | .neq => some (.bo false) | _ => none) else none
 | _, _ => none
section
variable {P : Program} {w : World} {g : Gh}
theorem kd_int {t : TypeId} {k : IntKind} (h : kdOf P t = .int k) : P.underlying t = some (.int k) := by
 unfold kdOf at h; split at h <;> first | (cases h; assumption) | cases h | (split at h <;> cases h)
theorem kd_bool {t : TypeId} (h : kdOf P t = .bool) : P.underlying t = some .bool := by
 unfold kdOf at h; split at h <;> first | assumption | cases h | (split at h <;> cases h)
theorem kd_str {t : TypeId} (h : kdOf P t = .str) : P.underlying t = some .string := by
 unfold kdOf at h; split at h <;> first | assumption | cases h | (split at h <;> cases h)
theorem kd_bytes {t : TypeId} (h : kdOf P t = .bytes) : ∃ e, P.underlying t = some (.slice e) ∧ P.underlying e = some (.int .u8) := by
 unfold kdOf at h
 split at h
 case h_4 e h1 =>
  split at h
  ·rename_i h2; exact ⟨e, h1, h2⟩
  ·cases h
 all_goals cases h
theorem kd_ptr {t : TypeId} (h : kdOf P t = .ptr) : ∃ e, P.underlying t = some (.pointer e) := by
 unfold kdOf at h
 split at h
 case h_5 e h1 => exact ⟨_, h1⟩
 case h_4 e h1 => split at h <;> cases h
 all_goals cases h
theorem aInt_ok {op : BinOp} {k : IntKind} {a b : Int} {v : AV} (t : TypeId) (h : aInt op k a b = some v) : ∃ cv, (binOp op t (.int k a) (.int k b)).run P w = .ok cv w ∧ Rel w g v cv := by
 cases op <;> simp only [aInt] at h <;> try (cases h; done)
 case quo =>
  by_cases h0 : b = 0
  ·simp [h0] at h
  ·rw [if_neg h0] at h
   cases h
   exact ⟨_, by simp [binOp, Op.intDiv, h0], .it g _ _⟩
 case rem =>
  by_cases h0 : b = 0
  ·simp [h0] at h
  ·rw [if_neg h0] at h
   cases h
   exact ⟨_, by simp [binOp, Op.intDiv, h0], .it g _ _⟩
 all_goals cases h
 case add => exact ⟨_, by simp [binOp, Op.intArith], .it g _ _⟩
 case sub => exact ⟨_, by simp [binOp, Op.intArith], .it g _ _⟩
 case mul => exact ⟨_, by simp [binOp, Op.intArith], .it g _ _⟩
 case and => exact ⟨_, by simp only [binOp, ne_eq, not_true_eq_false, if_false, intBits_and]; rfl, .it g _ _⟩
 case or => exact ⟨_, by simp only [binOp, ne_eq, not_true_eq_false, if_false]; rfl, .it g _ _⟩
 case xor => exact ⟨_, by simp only [binOp, ne_eq, not_true_eq_false, if_false]; rfl, .it g _ _⟩
 case andNot => exact ⟨_, by simp only [binOp, ne_eq, not_true_eq_false, if_false]; rfl, .it g _ _⟩
 all_goals exact ⟨_, by simp [binOp, Op.intCmp], .bo g _⟩
theorem aStr_ok {op : BinOp} {a b : List UInt8} {v : AV} (t : TypeId) (h : aStr op a b = some v) : ∃ cv, (binOp op t (.string ⟨a.toArray⟩) (.string ⟨b.toArray⟩)).run P w = .ok cv w ∧ Rel w g v cv := by
 cases op <;> simp only [aStr] at h <;> try (cases h; done)
 case add =>
  split at h
  ·rename_i hle
   cases h
   refine ⟨.string ⟨(a ++ b).toArray⟩, ?_, .st g _⟩
   have e : (⟨a.toArray⟩ : ByteArray) ++ ⟨b.toArray⟩ = ⟨(a ++ b).toArray⟩ := by
    apply ByteArray.ext
    simp
   have hm : IntKind.i64.max = 9223372036854775807 := by decide
   have hn : ¬ (9223372036854775807 : Int) < ((a.length + b.length : Nat) : Int) := by omega
   have s1 : (⟨a.toArray⟩ : ByteArray).size = a.length := by simp [ByteArray.size]
   have s2 : (⟨b.toArray⟩ : ByteArray).size = b.length := by simp [ByteArray.size]
   simp only [binOp, Op.stringOp, s1, s2, hm, gt_iff_lt, if_neg hn, e]
   rfl
  ·cases h
 all_goals (cases h; exact ⟨_, by simp [binOp, Op.stringOp], .bo g _⟩)
theorem eqsOf_spec {t : TypeId} {l : List (TypeId × Nat × Nat × Bool)} (h : eqsOf P t = some l) : P.underlying t = some (.struct (P.fieldsOf t)) ∧ P.stoodInHeld t = false ∧
  (P.fieldsOf t).toList.mapM (fun f : Field => if f.name = "_" then none else (szOf P f.type).map fun s => (f.type, f.offset, s.1, s.2)) = some l := by
 unfold eqsOf at h
 split at h
 ·rename_i fs h1
  split at h
  ·cases h
  ·rename_i h2
   have : P.fieldsOf t = fs := by simp [Program.fieldsOf, h1]
   rw [this]
   exact ⟨h1, by simpa using h2, h⟩
 ·cases h
theorem aEqF_ok (d : Nat) (eq : TypeId → AV → AV → Option Bool) (heq : ∀ t x y b cx cy, eq t x y = some b → Rel w g x cx → Rel w g y cy → (Op.equalIn d t cx cy).run P w = .ok b w)
  {xs ys : List AV} {ax ay : Array Value} (hx : Rel w g (.agg xs) (.agg ax)) (hy : Rel w g (.agg ys) (.agg ay)) : ∀ (fs : List Field) (l : List (TypeId × Nat × Nat × Bool)) (b : Bool),
  fs.mapM (fun f : Field => if f.name = "_" then none else (szOf P f.type).map fun s => (f.type, f.offset, s.1, s.2)) = some l → aEqF eq xs ys l = some b → (Op.eqFields d ax ay fs).run P w = .ok b w := by
 intro fs
 cases hx with | agg _ _ _ hnx h1x hrx =>
 cases hy with | agg _ _ _ hny h1y hry =>
 induction fs with
 | nil =>
  intro l b h hb
  simp at h
  subst h
  simp [aEqF] at hb
  subst hb
  simp [Op.eqFields]
 | cons f fs ih =>
  intro l b h hb
  rw [List.mapM_cons] at h
  by_cases hn : f.name = "_"
  ·simp [hn] at h
  ·simp only [hn, if_false, Option.bind_eq_bind, Option.pure_def] at h
   obtain ⟨p, hp, h⟩ := Option.bind_eq_some_iff.1 h
   obtain ⟨⟨sz, ag⟩, hs, rfl⟩ := Option.map_eq_some_iff.1 hp
   obtain ⟨l', hl', h⟩ := Option.bind_eq_some_iff.1 h
   cases h
   simp only [aEqF] at hb
   split at hb
   ·rename_i a c ha hc
    split at hb
    ·rename_i r s hr hs'
     cases hb
     obtain ⟨ca, hra, hca⟩ := apart_ok hnx h1x hrx hs ha
     obtain ⟨cc, hrc, hcc⟩ := apart_ok hny h1y hry hs hc
     have := heq _ _ _ _ _ _ hr hca hcc
     have hi := ih l' s hl' hs'
     simp only [Op.eqFields, ne_eq, hn, not_false_eq_true, if_true, Sem.run_bind, hra, hrc, this, Result.andThen_ok]
     cases r
     ·simp
     ·simpa using hi
    ·cases hb
   ·cases hb
theorem aEq_ok (m : Nat) : ∀ (d : Nat) t x y b cx cy, aEq P d t x y = some b → Rel w g x cx → Rel w g y cy → (Op.equalIn (d + m) t cx cy).run P w = .ok b w := by
 intro d
 induction d with
 | zero => intro t x y b cx cy h; simp [aEq] at h
 | succ d ih =>
  intro t x y b cx cy h hx hy
  rw [show d + 1 + m = (d + m) + 1 from by omega]
  unfold aEq at h
  split at h
  ·rename_i k0 k a k' b' hk
   cases hx; cases hy
   split at h
   ·rename_i hkk
    subst hkk
    cases h
    exact run_equalIn_int w _ t _ _ _ _ (kd_int hk)
   ·cases h
  ·rename_i hk
   cases hx; cases hy; cases h
   rw [run_equalIn_string w _ t _ _ (kd_str hk)]
   simp
  ·rename_i hk
   cases hx; cases hy; cases h
   exact run_equalIn_bool' w _ t _ _ (kd_bool hk)
  ·rename_i xs ys
   split at h
   ·rename_i fs hfs
    obtain ⟨h1, h2, h3⟩ := eqsOf_spec hfs
    have hx' := hx
    have hy' := hy
    cases hx; cases hy
    rw [run_equalIn_agg w _ t _ _ h1 h2]
    exact aEqF_ok (d + m) (aEq P d) (fun t x y b cx cy hb hx hy => ih t x y b cx cy hb hx hy) hx' hy' _ _ _ h3 h
   ·cases h
  ·cases h
theorem aBin_ok {op : BinOp} {t : TypeId} {x y v : AV} {cx cy : Value} (ox oy : Operand) (h : aBin P op t x y = some v) (hx : Rel w g x cx) (hy : Rel w g y cy) :
  ∃ cv, (do eqGuard op t ox oy cx cy; binOp op t cx cy : Sem Value).run P w = .ok cv w ∧ Rel w g v cv := by
 unfold aBin at h
 split at h
 ·cases hx; cases hy
  rename_i k a k' b
  have hg : (eqGuard op t ox oy (.int k a) (.int k' b)).run P w = .ok () w := by cases op <;> simp [eqGuard]
  simp only [Sem.run_bind, hg, Result.andThen_ok]
  split at h
  ·unfold aShl at h
   split at h
   ·rename_i h0
    cases h
    exact ⟨_, by simp [binOp, Op.shift, show ¬ b < 0 from by omega], .it g _ _⟩
   ·cases h
  ·unfold aShr at h
   split at h
   ·rename_i h0
    cases h
    exact ⟨_, by simp [binOp, Op.shift, show ¬ b < 0 from by omega], .it g _ _⟩
   ·cases h
  ·split at h
   ·rename_i hkk
    subst hkk
    exact aInt_ok t h
   ·cases h
 ·cases hx; cases hy
  rename_i a b
  have hg : (eqGuard op t ox oy (.string ⟨a.toArray⟩) (.string ⟨b.toArray⟩)).run P w = .ok () w := by cases op <;> simp [eqGuard]
  simp only [Sem.run_bind, hg, Result.andThen_ok]
  exact aStr_ok t h
 ·cases hx; cases hy
  rename_i a b
  have hg : (eqGuard op t ox oy (.bool a) (.bool b)).run P w = .ok () w := by cases op <;> simp [eqGuard]
  simp only [Sem.run_bind, hg, Result.andThen_ok]
  split at h
  ·rename_i hk
   have hu := kd_bool hk
   have he := run_equalIn_bool' w 9999 t a b hu
   split at h
   ·cases h
    exact ⟨_, by simp [binOp, Op.equal, Op.maxDepth, he], .bo g _⟩
   ·cases h
    exact ⟨_, by simp [binOp, Op.equal, Op.maxDepth, he], .bo g _⟩
   ·cases h
  ·cases h
 ·rename_i xs ys
  split at h
  ·cases h
  ·rename_i hgd
   have hx' := hx
   have hy' := hy
   cases hx; cases hy
   rename_i ax hnx h1x hrx ay hny h1y hry
   have hg := run_eqGuard_agg w op t ox oy ax ay (by simpa using hgd)
   simp only [Sem.run_bind, hg, Result.andThen_ok]
   split at h
   ·obtain ⟨b, hb, rfl⟩ := Option.map_eq_some_iff.1 h
    have := aEq_ok 9994 6 t _ _ b _ _ hb hx' hy'
    refine ⟨_, ?_, .bo g _⟩
    rw [run_eql_struct, this]
    rfl
   ·obtain ⟨b, hb, rfl⟩ := Option.map_eq_some_iff.1 h
    have := aEq_ok 9994 6 t _ _ b _ _ hb hx' hy'
    refine ⟨_, ?_, .bo g _⟩
    rw [run_neq_struct, this]
    rfl
   ·cases h
 ·cases hx; cases hy
  rename_i l off hl hb _
  have hg : (eqGuard op t ox oy (.pointer (some ⟨g.pl l, off, none⟩)) (.pointer none)).run P w = .ok () w := by cases op <;> simp [eqGuard]
  simp only [Sem.run_bind, hg, Result.andThen_ok]
  split at h
  ·rename_i hk
   obtain ⟨e, hu⟩ := kd_ptr hk
   have he0 : ∀ d, (Op.equalIn (d + 1) t (.pointer (some ⟨g.pl l, off, none⟩)) (.pointer none)).run P w = .ok false w := fun d => by simp [Op.equalIn, run_underlying hu]
   have he := he0 9999
   split at h
   ·cases h
    exact ⟨_, by simp [binOp, Op.equal, Op.maxDepth, he], .bo g _⟩
   ·cases h
    exact ⟨_, by simp [binOp, Op.equal, Op.maxDepth, he], .bo g _⟩
   ·cases h
  ·cases h
 ·cases hx; cases hy
  have hg : (eqGuard op t ox oy (.pointer none) (.pointer none)).run P w = .ok () w := by cases op <;> simp [eqGuard]
  simp only [Sem.run_bind, hg, Result.andThen_ok]
  split at h
  ·rename_i hk
   obtain ⟨e, hu⟩ := kd_ptr hk
   have he0 : ∀ d, (Op.equalIn (d + 1) t (.pointer none) (.pointer none)).run P w = .ok true w := fun d => by simp [Op.equalIn, run_underlying hu]
   have he := he0 9999
   split at h
   ·cases h
    exact ⟨_, by simp [binOp, Op.equal, Op.maxDepth, he], .bo g _⟩
   ·cases h
    exact ⟨_, by simp [binOp, Op.equal, Op.maxDepth, he], .bo g _⟩
   ·cases h
  ·cases h
 ·cases h
end
end Go.Proofs.YtlefikdjhnaapaaGreatDoor.Pe
namespace Go.Proofs.YtlefikdjhnaapaaGreatDoor.Pe
open Go Go.RowKit
def u8 (b : UInt8) : AV := .it .u8 (b.toNat : Int)
def bytesOf : List AV → Option (List UInt8)
 | [] => some []
 | v :: r => match v, bytesOf r with
  | .it .u8 n, some l => if 0 ≤ n ∧ n < 256 then some (UInt8.ofNat n.toNat :: l) else none
  | _, _ => none
theorem ofNat_u8 (b : UInt8) : UInt8.ofNat ((b.toNat : Int)).toNat = b := by simp
theorem bytesOf_map (l : List UInt8) : bytesOf (l.map u8) = some l := by
 induction l with
 | nil => rfl
 | cons b l ih =>
  have := b.toNat_lt
  simp only [List.map_cons, bytesOf, u8, ih]
  rw [if_pos (by omega), ofNat_u8]
theorem bytesOf_spec : ∀ {es : List AV} {l : List UInt8}, bytesOf es = some l → es = l.map u8
 | [], l, h => by simp [bytesOf] at h; subst h; rfl
 | v :: r, l, h => by
  simp only [bytesOf] at h
  split at h
  ·rename_i n l' hl'
   split at h
   ·rename_i h0
    cases h
    simp only [List.map_cons, u8]
    rw [bytesOf_spec hl']
    have : (UInt8.ofNat n.toNat).toNat = n.toNat := by simp; omega
    rw [this, Int.toNat_of_nonneg h0.1]
   ·cases h
  ·cases h
theorem flat_u8 (l : List UInt8) : flat (l.map u8) = l.map u8 := by
 induction l with
 | nil => rfl
 | cons b l ih => simp only [List.map_cons, flat, List.flatMap_cons, AV.cells, u8] at *; rw [ih]; rfl
def aUn (op : UnOp) (x : AV) : Option AV :=
 match op, x with
 | .not, .bo b => some (.bo (!b))
 | .neg, .it k n => some (.it k (k.wrap (0 - n)))
 | .xor, .it k n => some (.it k (Go.bits .xor k (if k.signed then -1 else k.max) n))
 | _, _ => none
def aConv (P : Program) (s d : TypeId) (x : AV) : Option AV :=
 match kdOf P d, x with
 | .int k, .it _ n => if kdOf P s = .other then none else some (.it k (k.wrap n))
 | .str, .st l => if kdOf P s = .str then some (.st l) else none
 | .str, .sl _ es => if kdOf P s = .bytes then (bytesOf es).map .st else none
 | _, _ => none
def aBound (x : Option AV) (d : Nat) : Option Nat :=
 match x with
 | none => some d
 | some (.it _ n) => if 0 ≤ n then some n.toNat else none
 | _ => none
def allSz (sz : Nat) (es : List AV) : Bool := es.all fun v => v.cells.length == sz
def modeCut (m : Mode) (full : Bool) : Mode := match m, full with | .full, true => .full | _, _ => .ro
def aSlice (P : Program) (t : TypeId) (x : AV) (lo hi mx : Option AV) : Option AV :=
 match x with
 | .st l => if kdOf P t = .str ∧ mx.isNone = true then
   match aBound lo 0, aBound hi l.length with
   | some a, some b => if a ≤ b ∧ b ≤ l.length then some (.st ((l.take b).drop a)) else none
   | _, _ => none
   else none
 | .sl m es => match sleOf P t, aBound lo 0, aBound hi es.length, mx with
  | some (_, sz, _), some a, some b, none => if a ≤ b ∧ b ≤ es.length ∧ allSz sz es = true then
    some (.sl (modeCut m (b == es.length)) ((es.take b).drop a)) else none
  | some (_, sz, _), some a, some b, some c => match hi, aBound (some c) 0 with
   | some _, some c => if a ≤ b ∧ b ≤ c ∧ c ≤ es.length ∧ allSz sz es = true then some (.sl (if c = b then .full else .ro) ((es.take b).drop a)) else none
   | _, _ => none
  | _, _, _, _ => none
 | _ => none
section
variable {P : Program} {w : World} {g : Gh}
theorem aUn_ok {op : UnOp} {x v : AV} {cx : Value} (h : aUn op x = some v) (hx : Rel w g x cx) : ∃ cv, (Op.unary op cx).run P w = .ok cv w ∧ Rel w g v cv := by
 unfold aUn at h
 split at h
 ·cases hx; cases h; exact ⟨_, by simp [Op.unary], .bo g _⟩
 ·cases hx; cases h; exact ⟨_, by simp [Op.unary, Op.intArith], .it g _ _⟩
 ·cases hx; cases h; exact ⟨_, by simp only [Op.unary]; rfl, .it g _ _⟩
 ·cases h
theorem kd_some {t : TypeId} (h : kdOf P t ≠ .other) : ∃ d, P.underlying t = some d := by
 unfold kdOf at h
 cases hd : P.underlying t with
 | none => rw [hd] at h; simp at h
 | some d => exact ⟨d, rfl⟩
theorem aConv_ok {s d : TypeId} {x v : AV} {cx : Value} (h : aConv P s d x = some v) (hx : Rel w g x cx) : ∃ cv, (convert s d cx).run P w = .ok cv w ∧ Rel w g v cv := by
 unfold aConv at h
 split at h
 ·rename_i k _ n hk
  cases hx
  split at h
  ·cases h
  ·rename_i hs
   cases h
   obtain ⟨ds, hds⟩ := kd_some hs
   exact ⟨_, by simp [convert, run_underlying hds, run_underlying (kd_int hk), Conv.intToInt], .it g _ _⟩
 ·rename_i l hk
  cases hx
  split at h
  ·rename_i hs
   cases h
   exact ⟨_, by simp [convert, run_underlying (kd_str hs), run_underlying (kd_str hk)], .st g _⟩
  ·cases h
 ·rename_i m es hk
  split at h
  ·rename_i hs
   obtain ⟨l, hl, rfl⟩ := Option.map_eq_some_iff.1 h
   obtain ⟨e, he1, he2⟩ := kd_bytes hs
   have hes := bytesOf_spec hl
   subst hes
   cases hx with
   | sl _ _ _ A c sz cu hc hcm hsz hA h1 hr hm =>
    rw [List.length_map] at *
    rw [flat_u8] at *
    have hcell : ∀ j (hj : j < l.length), cu j = .int .u8 (l[j].toNat : Int) := by
     intro j hj
     have := hr j (u8 l[j]) (by simp [List.getElem?_eq_getElem hj])
     simp only [u8] at this
     generalize cu j = z at this
     cases this
     rfl
    refine ⟨.string ⟨l.toArray⟩, ?_, .st g l⟩
    rcases Nat.eq_zero_or_pos l.length with h0 | h0
    ·have hl0 : l = [] := List.eq_nil_of_length_eq_zero h0
     subst hl0
     rcases A with _ | ad
     ·rw [run_convert_bytes_string w s d e none _ c he1 he2 (kd_str hk)]
      simp [Conv.bytesToString]
      rfl
     ·exact run_convert_bytes_back w s d e ad c [] he1 he2 (kd_str hk) (fun j hj => by simp at hj)
    ·obtain ⟨b, o, rfl, hcells⟩ := hA h0
     refine run_convert_bytes_back w s d e ⟨b, o, none⟩ c l he1 he2 (kd_str hk) (fun j hj => ?_)
     rw [Addr.add_lit, (hcells j (by simpa using hj)).2, hcell j hj]
  ·cases h
 ·cases h
theorem allSz_spec {sz : Nat} {es : List AV} (h : allSz sz es = true) : ∀ e ∈ es, e.cells.length = sz := fun e he => by simpa using (List.all_eq_true.1 h) e he
theorem flat_length {sz : Nat} {es : List AV} (h : ∀ e ∈ es, e.cells.length = sz) : (flat es).length = es.length * sz := by
 induction es with
 | nil => simp [flat]
 | cons e es ih =>
  simp only [flat, List.flatMap_cons, List.length_append, List.length_cons] at *
  rw [h e (by simp), ih (fun x hx => h x (by simp [hx])), Nat.add_mul]
  omega
theorem flat_drop {sz : Nat} {es : List AV} (h : ∀ e ∈ es, e.cells.length = sz) (a : Nat) : flat (es.drop a) = (flat es).drop (a * sz) := by
 induction es generalizing a with
 | nil => simp [flat]
 | cons e es ih =>
  cases a with
  | zero => simp
  | succ a =>
   have h1 := h e (by simp)
   rw [List.drop_succ_cons, ih (fun x hx => h x (by simp [hx]))]
   simp only [flat, List.flatMap_cons]
   rw [Nat.add_mul, Nat.one_mul, Nat.add_comm, ← List.drop_drop, List.drop_left' h1]
theorem flat_take {sz : Nat} {es : List AV} (h : ∀ e ∈ es, e.cells.length = sz) (a : Nat) : flat (es.take a) = (flat es).take (a * sz) := by
 induction es generalizing a with
 | nil => simp [flat]
 | cons e es ih =>
  cases a with
  | zero => simp [flat]
  | succ a =>
   have h1 := h e (by simp)
   rw [List.take_succ_cons]
   have := ih (fun x hx => h x (by simp [hx])) a
   simp only [flat, List.flatMap_cons] at *
   rw [this, Nat.add_mul, Nat.one_mul, Nat.add_comm, ← h1, List.take_length_add_append]
theorem flat_append (xs ys : List AV) : flat (xs ++ ys) = flat xs ++ flat ys := by simp [flat]
theorem run_bound {k : IntKind} {i : Int} {y : Nat} {code : BoundsCode} (h0 : 0 ≤ i) (h1 : i.toNat ≤ y) : (Instr.sliceBound (.int k i) y code).run P w = .ok i.toNat w := by
 have : 0 ≤ i ∧ i ≤ y := by omega
 simp [Instr.sliceBound, asIntOf, this]
def BRel (w : World) (g : Gh) : Option AV → Option Value → Prop
 | none, none => True
 | some v, some cv => Rel w g v cv
 | _, _ => False
theorem aBound_some {x : AV} {cx : Value} {d n : Nat} (h : aBound (some x) d = some n) (hx : Rel w g x cx) : ∃ k i, cx = .int k i ∧ 0 ≤ i ∧ n = i.toNat := by
 unfold aBound at h
 split at h
 ·rename_i heq; cases heq
 ·rename_i k m heq
  cases heq
  cases hx
  split at h
  ·rename_i h0
   cases h
   exact ⟨_, _, rfl, h0, rfl⟩
  ·cases h
 ·cases h
theorem bounds_none {isS : Bool} {len cap a b : Nat} {lo hi : Option AV} {clo chi : Option Value} (ha : aBound lo 0 = some a) (hb : aBound hi len = some b) (hl : BRel w g lo clo) (hh : BRel w g hi chi)
  (h1 : a ≤ b) (h2 : b ≤ cap) : (Instr.sliceBounds isS len cap clo chi none).run P w = .ok (a, b, cap) w := by
 cases lo <;> cases clo <;> simp only [BRel] at hl <;> cases hi <;> cases chi <;> simp only [BRel] at hh
 ·simp only [aBound, Option.some.injEq] at ha hb
  subst ha; subst hb
  simp [Instr.sliceBounds]
 ·simp only [aBound, Option.some.injEq] at ha
  obtain ⟨k, i, rfl, h0, rfl⟩ := aBound_some hb hh
  subst ha
  simp [Instr.sliceBounds, run_bound h0 h2]
 ·simp only [aBound, Option.some.injEq] at hb
  obtain ⟨k, i, rfl, h0, rfl⟩ := aBound_some ha hl
  subst hb
  simp [Instr.sliceBounds, run_bound h0 h1]
 ·obtain ⟨k, i, rfl, h0, rfl⟩ := aBound_some ha hl
  obtain ⟨k', i', rfl, h0', rfl⟩ := aBound_some hb hh
  simp [Instr.sliceBounds, run_bound h0 h1, run_bound h0' h2]
theorem bounds_max {isS : Bool} {len cap a b c : Nat} {lo : Option AV} {hi mx : AV} {clo : Option Value} {chi cmx : Value} (ha : aBound lo 0 = some a) (hb : aBound (some hi) len = some b) (hc : aBound (some mx) 0 = some c)
  (hl : BRel w g lo clo) (hh : Rel w g hi chi) (hm : Rel w g mx cmx) (h1 : a ≤ b) (h2 : b ≤ c) (h3 : c ≤ cap) : (Instr.sliceBounds isS len cap clo (some chi) (some cmx)).run P w = .ok (a, b, c) w := by
 obtain ⟨k, i, rfl, h0, rfl⟩ := aBound_some hb hh
 obtain ⟨k', i', rfl, h0', rfl⟩ := aBound_some hc hm
 cases lo <;> cases clo <;> simp only [BRel] at hl
 ·simp only [aBound, Option.some.injEq] at ha
  subst ha
  simp [Instr.sliceBounds, run_bound h0 h2, run_bound h0' h3]
 ·obtain ⟨k2, i2, rfl, h02, rfl⟩ := aBound_some ha hl
  simp [Instr.sliceBounds, run_bound h0 h2, run_bound h0' h3, run_bound h02 h1]
theorem Rel.sub {m m' : Mode} {es : List AV} {A : Option Addr} {c sz a b c' : Nat} (h : Rel w g (.sl m es) (.slice A es.length c)) (hs : allSz sz es = true) (h1 : a ≤ b) (h2 : b ≤ es.length) (h3 : b ≤ c') (h4 : c' ≤ c)
  (hm : m' = .ro ∨ (m' = .full ∧ c' = b)) : Rel w g (.sl m' ((es.take b).drop a)) (.slice (if c' = a then A else A.map (·.add (a * sz))) (b - a) (c' - a)) := by
 have hsz' := allSz_spec hs
 cases h with
 | sl _ _ _ _ _ sz0 cu hc hcm hsz hA h1' hr hm' =>
  have hlen : ((es.take b).drop a).length = b - a := by rw [List.length_drop, List.length_take, Nat.min_eq_left h2]
  have hfl : flat ((es.take b).drop a) = ((flat es).take (b * sz)).drop (a * sz) := by
   rw [flat_drop (fun e he => hsz' e (List.mem_of_mem_take he)), flat_take hsz']
  have hget : ∀ j u, (flat ((es.take b).drop a))[j]? = some u → (flat es)[a * sz + j]? = some u := by
   intro j u hu
   rw [hfl, List.getElem?_drop, List.getElem?_take] at hu
   split at hu
   ·exact hu
   ·cases hu
  have hlt : ∀ j, j < (flat ((es.take b).drop a)).length → a * sz + j < (flat es).length := by
   intro j hj
   have := hget j _ (List.getElem?_eq_getElem hj)
   exact (List.getElem?_eq_some_iff.1 this).1
  rw [← hlen]
  refine .sl g m' _ _ _ sz (fun j => cu (a * sz + j)) (by omega) (by omega) (fun e he => hsz' e (List.mem_of_mem_take (List.mem_of_mem_drop he))) (fun h0 => ?_) (fun j hj => h1' _ (hlt j hj)) (fun j u hu => hr _ u (hget j u hu)) ?_
  ·obtain ⟨bk, o, rfl, hcells⟩ := hA (by omega)
   refine ⟨bk, o + a * sz, ?_, fun j hj => ?_⟩
   ·rw [if_neg (by omega)]
    simp [Addr.add_lit]
   ·have := hcells _ (hlt j hj)
    rw [Nat.add_assoc]
    exact this
  ·rcases hm with rfl | ⟨rfl, rfl⟩
   ·trivial
   ·exact hlen.symm
theorem aSlice_ok {t : TypeId} {x v : AV} {lo hi mx : Option AV} {cx : Value} {clo chi cmx : Option Value} (h : aSlice P t x lo hi mx = some v) (hx : Rel w g x cx) (hl : BRel w g lo clo) (hh : BRel w g hi chi) (hm : BRel w g mx cmx) :
  ∃ cv, (Instr.sliceAt t cx clo chi cmx).run P w = .ok cv w ∧ Rel w g v cv := by
 unfold aSlice at h
 split at h
 ·rename_i l
  cases hx
  split at h
  ·rename_i hk
   obtain ⟨hk, hmx⟩ := hk
   have hmx : mx = none := by simpa using hmx
   subst hmx
   cases cmx <;> simp only [BRel] at hm
   split at h
   ·rename_i a b ha hb
    split at h
    ·rename_i hab
     cases h
     have hs : (⟨l.toArray⟩ : ByteArray).size = l.length := by simp [ByteArray.size]
     have := bounds_none (P := P) (isS := false) (cap := l.length) ha hb hl hh hab.1 hab.2
     refine ⟨.string ⟨((l.take b).drop a).toArray⟩, ?_, .st g _⟩
     have e : (⟨l.toArray⟩ : ByteArray).extract a b = ⟨((l.take b).drop a).toArray⟩ := by
      apply ByteArray.ext
      simp [ByteArray.data_extract, List.drop_take]
     simp [Instr.sliceAt, Instr.slice, run_underlying (kd_str hk), hs, this, e]
    ·cases h
   ·cases h
  ·cases h
 ·rename_i m es
  split at h
  ·rename_i ty sz ag a b h1 h2 h3
   split at h
   ·rename_i hab
    cases h
    obtain ⟨hu, hse⟩ := sleOf_spec h1
    cases cmx <;> simp only [BRel] at hm
    have hx' := hx
    cases hx with
    | sl _ _ _ A c sz0 cu hc hcm hsz hA h1' hr hm' =>
     have := bounds_none (P := P) (isS := true) (cap := c) h2 h3 hl hh hab.1 (by omega)
     have hr := Rel.sub (m' := modeCut m (b == es.length)) (c' := c) hx' hab.2.2 hab.1 hab.2.1 (by omega) (Nat.le_refl _) (by
      cases m with
      | full =>
       by_cases hb : b = es.length
       ·subst hb
        exact .inr ⟨by simp [modeCut], hm'⟩
       ·exact .inl (by simp [modeCut, hb])
      | ro => exact .inl rfl
      | own l => exact .inl rfl)
     refine ⟨_, ?_, hr⟩
     simp [Instr.sliceAt, Instr.slice, run_underlying hu, this, run_sizeOf hse]
   ·cases h
  ·rename_i ty sz ag a b c h1 h2 h3
   split at h
   ·rename_i hi' c' hc'
    split at h
    ·rename_i hab
     cases h
     obtain ⟨hu, hse⟩ := sleOf_spec h1
     cases cmx <;> simp only [BRel] at hm
     cases chi <;> simp only [BRel] at hh
     have hx' := hx
     cases hx with
     | sl _ _ _ A cap sz0 cu hc hcm hsz hA h1' hr hm' =>
      have := bounds_max (P := P) (isS := true) (cap := cap) h2 h3 hc' hl hh hm hab.1 hab.2.1 (by omega)
      have hr := Rel.sub (m' := if c' = b then .full else .ro) (c' := c') hx' hab.2.2.2 hab.1 (by omega) hab.2.1 (by omega) (by
       split
       ·exact .inr ⟨rfl, by assumption⟩
       ·exact .inl rfl)
      refine ⟨_, ?_, hr⟩
      simp [Instr.sliceAt, Instr.slice, run_underlying hu, this, run_sizeOf hse]
    ·cases h
   ·cases h
  ·cases h
 ·cases h
end
end Go.Proofs.YtlefikdjhnaapaaGreatDoor.Pe
namespace Go.Proofs.YtlefikdjhnaapaaGreatDoor.Pe
open Go Go.RowKit
def AV.solid : AV → Bool
 | .junk => false
 | .tup _ => false
 | _ => true
def CellsRel (w : World) (g : Gh) (cs : List AV) (arr : Array Value) : Prop :=
 arr.size = cs.length ∧ (∀ v ∈ arr.toList, v.oneCell' = true) ∧ ∀ (j : Nat) u v, cs[j]? = some u → arr[j]? = some v → Rel w g u v
theorem CellsRel.le {w w' : World} {g g' : Gh} {cs : List AV} {arr : Array Value} (h : CellsRel w g cs arr) (hl : Le w g w' g') : CellsRel w' g' cs arr :=
 ⟨h.1, h.2.1, fun j u v hu hv => (h.2.2 j u v hu hv).le hl⟩
theorem Rel.one {w : World} {g : Gh} {v : AV} {cv : Value} (h : Rel w g v cv) (hs : v.solid = true) (hc : ∀ cs, v ≠ .agg cs) : cv.oneCell' = true ∧ v.cells = [v] ∧ cv.cells = #[cv] := by
 cases h <;> first | (exact ⟨rfl, rfl, rfl⟩) | (simp [AV.solid] at hs; done) | (exact absurd rfl (hc _)) | skip
 rename_i h
 refine ⟨h, rfl, ?_⟩
 cases cv <;> first | rfl | (simp [Value.oneCell'] at h)
theorem cells_of_rel {w : World} {g : Gh} {v : AV} {cv : Value} (h : Rel w g v cv) (hs : v.solid = true) : CellsRel w g v.cells cv.cells := by
 by_cases hc : ∃ cs, v = .agg cs
 ·obtain ⟨cs, rfl⟩ := hc
  cases h with | agg _ _ arr hn h1 hr => exact ⟨hn, h1, hr⟩
 ·obtain ⟨h1, h2, h3⟩ := h.one hs (fun cs e => hc ⟨cs, e⟩)
  rw [h2, h3]
  refine ⟨rfl, fun u hu => ?_, fun j u z hu hz => ?_⟩
  ·simp only [List.mem_cons, List.not_mem_nil, or_false] at hu
   rw [hu]; exact h1
  ·cases j with
   | zero => simp at hu hz; rw [← hu, ← hz]; exact h
   | succ j => simp at hu
theorem agg_of_cells {w : World} {g : Gh} {cs : List AV} {arr : Array Value} (h : CellsRel w g cs arr) : Rel w g (.agg cs) (.agg arr) := .agg g cs arr h.1 h.2.1 h.2.2
def aSet (cs : List AV) (off : Nat) (us : List AV) : List AV := cs.take off ++ us ++ cs.drop (off + us.length)
theorem aSet_length {cs us : List AV} {off : Nat} (h : off + us.length ≤ cs.length) : (aSet cs off us).length = cs.length := by
 simp only [aSet, List.length_append, List.length_take, List.length_drop]; omega
theorem aSet_get {cs us : List AV} {off j : Nat} (h : off + us.length ≤ cs.length) : (aSet cs off us)[j]? = if off ≤ j ∧ j < off + us.length then us[j - off]? else cs[j]? := by
 have hl : (cs.take off).length = off := by simp; omega
 unfold aSet
 rw [List.append_assoc]
 by_cases h1 : j < off
 ·rw [List.getElem?_append_left (by omega), List.getElem?_take_of_lt h1, if_neg (by omega)]
 ·rw [List.getElem?_append_right (by omega), hl]
  by_cases h2 : j < off + us.length
  ·rw [List.getElem?_append_left (by omega), if_pos ⟨by omega, h2⟩]
  ·rw [List.getElem?_append_right (by omega), if_neg (by omega), List.getElem?_drop]
   congr 1
   omega
theorem foldl_set (off : Nat) : ∀ (vs : List Value) (k : Nat) (arr : Array Value), off + k + vs.length ≤ arr.size →
  let r := (vs.zipIdx k).foldl (fun cs (p : Value × Nat) => cs.setIfInBounds (off + p.2) p.1) arr
  r.size = arr.size ∧ ∀ j : Nat, r[j]? = if off + k ≤ j ∧ j < off + k + vs.length then vs[j - (off + k)]? else arr[j]?
 | [], k, arr, h => by
  refine ⟨rfl, fun j => ?_⟩
  rw [if_neg (by simp)]
  rfl
 | v :: vs, k, arr, h => by
  have hlt : off + k < arr.size := by simp at h; omega
  obtain ⟨h1, h2⟩ := foldl_set off vs (k + 1) (arr.setIfInBounds (off + k) v) (by simp at h ⊢; omega)
  simp only [List.zipIdx_cons, List.foldl_cons]
  refine ⟨by rw [h1]; simp, fun j => ?_⟩
  rw [h2 j]
  simp only [List.length_cons]
  by_cases hj : j = off + k
  ·subst hj
   rw [if_neg (by omega), if_pos (by omega)]
   simp [hlt]
  ·by_cases hj2 : off + (k + 1) ≤ j ∧ j < off + (k + 1) + vs.length
   ·rw [if_pos hj2, if_pos (by omega), show j - (off + k) = (j - (off + (k + 1))) + 1 from by omega]
    simp
   ·rw [if_neg hj2, if_neg (by omega), Array.getElem?_setIfInBounds_ne (by omega)]
theorem set_cells {w : World} {g : Gh} {cs us : List AV} {arr ua : Array Value} (h : CellsRel w g cs arr) (hu : CellsRel w g us ua) {off : Nat} (hle : off + us.length ≤ cs.length) :
  CellsRel w g (aSet cs off us) (ua.zipIdx.foldl (fun cs (p : Value × Nat) => cs.setIfInBounds (off + p.2) p.1) arr) := by
 rw [← Array.foldl_toList, Array.toList_zipIdx]
 have hul : ua.toList.length = us.length := by simpa using hu.1
 obtain ⟨h1, h2⟩ := foldl_set off ua.toList 0 arr (by rw [hul, h.1]; omega)
 generalize List.foldl (fun cs (p : Value × Nat) => cs.setIfInBounds (off + p.2) p.1) arr (ua.toList.zipIdx 0) = r at *
 have hg : ∀ j : Nat, r[j]? = if off ≤ j ∧ j < off + us.length then ua[j - off]? else arr[j]? := by
  intro j
  have := h2 j
  rw [hul] at this
  simpa using this
 refine ⟨by rw [h1, h.1, aSet_length hle], fun v hv => ?_, fun j u v hju hjv => ?_⟩
 ·obtain ⟨j, hj⟩ := List.mem_iff_getElem?.1 hv
  have hj' : r[j]? = some v := by simpa using hj
  rw [hg j] at hj'
  split at hj'
  ·exact hu.2.1 v (List.mem_iff_getElem?.2 ⟨_, by simpa using hj'⟩)
  ·exact h.2.1 v (List.mem_iff_getElem?.2 ⟨_, by simpa using hj'⟩)
 ·rw [aSet_get hle] at hju
  rw [hg j] at hjv
  split at hju
  ·rename_i hc
   rw [if_pos hc] at hjv
   exact hu.2.2 _ u v hju hjv
  ·rename_i hc
   rw [if_neg hc] at hjv
   exact h.2.2 _ u v hju hjv
def aFill (pl : List (Nat × Nat)) (cs : List AV) : List (Nat × AV) → Option (List AV)
 | [] => some cs
 | (i, v) :: rest =>
  match pl[i]? with
  | some (off, sz) => if v.solid = true ∧ v.cells.length = sz ∧ off + sz ≤ cs.length then aFill pl (aSet cs off v.cells) rest else none
  | none => none
theorem aFill_ok {w : World} {g : Gh} (pl : List (Nat × Nat)) (place : Nat → Option (Nat × Nat)) (hpl : ∀ (i : Nat) p, pl[i]? = some p → place i = some p) :
  ∀ (ops : List (Nat × Operand)) (e : Env) (ρ : Operand → Value) (cs cs' : List AV) (arr : Array Value), CellsRel w g cs arr → (∀ p ∈ ops, Rel w g (ev e p.2) (ρ p.2)) →
  aFill pl cs (ops.map fun p => (p.1, ev e p.2)) = some cs' → ∃ arr', Instr.fill place arr (ops.map fun p => (p.1, ρ p.2)) = some arr' ∧ CellsRel w g cs' arr'
 | [], e, ρ, cs, cs', arr, hc, hr, h => by
  simp only [List.map_nil, aFill, Option.some.injEq] at h
  subst h
  exact ⟨arr, rfl, hc⟩
 | (i, x) :: rest, e, ρ, cs, cs', arr, hc, hr, h => by
  simp only [List.map_cons, aFill] at h
  split at h
  ·rename_i off sz hi
   split at h
   ·rename_i hcond
    obtain ⟨h1, h2, h3⟩ := hcond
    have hu := cells_of_rel (hr (i, x) (by simp)) h1
    have hs := set_cells hc hu (off := off) (by have h2' : (ev e (i, x).2).cells.length = sz := h2; omega)
    obtain ⟨arr', h4, h5⟩ := aFill_ok pl place hpl rest e ρ _ cs' _ hs (fun p hp => hr p (by simp [hp])) h
    refine ⟨arr', ?_, h5⟩
    have e1 : (ρ x).cells.size = sz := by rw [hu.1, h2]
    have e2 : arr.size = cs.length := hc.1
    simp only [List.map_cons, Instr.fill, hpl i _ hi, e1, ne_eq, not_true_eq_false, decide_false, Bool.false_or, e2, gt_iff_lt, decide_eq_true_eq]
    rw [if_neg (by omega)]
    exact h4
   ·cases h
  ·cases h
def zerOf (P : Program) (t : TypeId) : Option (List AV) :=
 match P.info? t with
 | some i => match i.zero with
  | some z => if z.cells.toList.all (·.oneCell') then some (z.cells.toList.map cst1) else none
  | none => none
 | none => none
theorem zerOf_spec {P : Program} {t : TypeId} {cs : List AV} (h : zerOf P t = some cs) : ∃ i z, P.info? t = some i ∧ i.zero = some z ∧ (∀ v ∈ z.cells.toList, v.oneCell' = true) ∧ cs = z.cells.toList.map cst1 := by
 unfold zerOf at h
 split at h
 ·rename_i i h1
  split at h
  ·rename_i z h2
   split at h
   ·rename_i h3
    cases h
    exact ⟨i, z, h1, h2, fun v hv => by simpa using (List.all_eq_true.1 h3) v hv, rfl⟩
   ·cases h
  ·cases h
 ·cases h
theorem cst1_cells (w : World) (g : Gh) (arr : Array Value) (h : ∀ v ∈ arr.toList, v.oneCell' = true) : CellsRel w g (arr.toList.map cst1) arr := by
 refine ⟨by simp, h, fun j u v hu hv => ?_⟩
 rw [List.getElem?_map] at hu
 have : arr.toList[j]? = some v := by simpa using hv
 rw [this] at hu
 simp only [Option.map_some, Option.some.injEq] at hu
 subst hu
 exact cst1_ok w g v
def strOf (P : Program) (t : TypeId) : Option (List (Nat × Nat) × List AV) :=
 match P.underlying t, zerOf P t with
 | some (.struct fs), some z => (fs.toList.mapM fun f => (P.info? f.type).map fun i => (f.offset, i.size)).map fun pl => (pl, z)
 | some (.array n e), some z => (P.info? e).map fun i => ((List.range n).map fun k => (k * i.size, i.size), z)
 | _, _ => none
theorem aBuild_ok {P : Program} {w : World} {g : Gh} {t : TypeId} {pl : List (Nat × Nat)} {z cs : List AV} (hs : strOf P t = some (pl, z)) (parts : Array (Nat × Operand)) (e : Env) (ρ : Operand → Value)
  (hr : ∀ p ∈ parts.toList, Rel w g (ev e p.2) (ρ p.2)) (h : aFill pl z (parts.toList.map fun p => (p.1, ev e p.2)) = some cs) :
  ∃ cv, (Instr.build t (parts.map fun (i, x) => (i, ρ x))).run P w = .ok cv w ∧ Rel w g (.agg cs) cv := by
 unfold strOf at hs
 split at hs
 ·rename_i fs z' hu hz
  obtain ⟨pl', hpl, hp⟩ := Option.map_eq_some_iff.1 hs
  cases hp
  obtain ⟨i, zv, h1, h2, h3, rfl⟩ := zerOf_spec hz
  obtain ⟨arr', h4, h5⟩ := aFill_ok pl (pl.toArray[·]?) (fun i p hp => by simpa using hp) parts.toList e ρ _ cs zv.cells (cst1_cells w g _ h3) hr h
  refine ⟨.agg arr', run_build w t _ arr' ?_, agg_of_cells h5⟩
  simp only [Program.built, h1, hu, h2, hpl]
  rw [← h4]
  simp
 ·rename_i n el z' hu hz
  obtain ⟨ie, hie, hp⟩ := Option.map_eq_some_iff.1 hs
  cases hp
  obtain ⟨i, zv, h1, h2, h3, rfl⟩ := zerOf_spec hz
  obtain ⟨arr', h4, h5⟩ := aFill_ok _ (fun k => some (k * ie.size, ie.size)) (fun k p hp => by
   rw [List.getElem?_map] at hp
   obtain ⟨a, ha, rfl⟩ := Option.map_eq_some_iff.1 hp
   have := (List.getElem?_eq_some_iff.1 ha)
   obtain ⟨hlt, he⟩ := this
   simp at he
   rw [he]) parts.toList e ρ _ cs zv.cells (cst1_cells w g _ h3) hr h
  refine ⟨.agg arr', run_build w t _ arr' ?_, agg_of_cells h5⟩
  simp only [Program.built, h1, hu, h2, hie]
  rw [← h4]
  simp
 ·cases hs
def aNil (x : AV) : Option AV :=
 match x with
 | .ptr l o => some (.ptr l o)
 | .pst v o => some (.pst v o)
 | .wr l n (some o) => some (.wr l n (some o))
 | .fn (.method _) _ _ => none
 | .fn f a b => some (.fn f a b)
 | _ => none
def aFldAddr (f : Option (Nat × Nat × Bool)) (x : AV) : Option AV :=
 match f, x with
 | some (o, sz, _), .ptr l off => if sz = 0 then none else some (.ptr l (off + o))
 | some (o, sz, _), .pst v off => if sz = 0 then none else some (.pst v (off + o))
 | some (o, sz, _), .wr l n (some off) => if sz = 0 then none else some (.wr l n (some (off + o)))
 | _, _ => none
def aFld (f : Option (Nat × Nat × Bool)) (x : AV) : Option AV :=
 match f, x with
 | some (o, sz, ag), .agg cs => apart cs o sz ag
 | _, _ => none
def aIdxAddr (P : Program) (t : TypeId) (x i : AV) : Option AV :=
 match x, i with
 | .sl _ es, .it _ n => match sleOf P t with
  | some (_, sz, _) => if 0 ≤ n then (match es[n.toNat]? with | some v => if allSz sz es = true then some (.pst v 0) else none | none => none) else none
  | none => none
 | .ptr l off, .it _ n => match areOf P t with
  | some (len, sz, _) => if 0 ≤ n ∧ n < len then some (.ptr l (off + n.toNat * sz)) else none
  | none => none
 | .pst v off, .it _ n => match areOf P t with
  | some (len, sz, _) => if 0 ≤ n ∧ n < len then some (.pst v (off + n.toNat * sz)) else none
  | none => none
 | .ws l off m _, .it _ n => match sleOf P t with
  | some (_, sz, _) => if 0 ≤ n ∧ n < m then some (.ptr l (off + n.toNat * sz)) else none
  | none => none
 | .wr l m none, .it _ n => match sleOf P t with
  | some (_, sz, _) => if 0 ≤ n ∧ n < m then some (.wr l m (some (n.toNat * sz))) else none
  | none => none
 | _, _ => none
def aIdx (P : Program) (t : TypeId) (x i : AV) : Option AV :=
 match x, i with
 | .st l, .it _ n => if kdOf P t = .str ∧ 0 ≤ n then (l[n.toNat]?).map u8 else none
 | .agg cs, .it _ n => match areOf P t with
  | some (len, sz, ag) => if 0 ≤ n ∧ n < len then apart cs (n.toNat * sz) sz ag else none
  | none => none
 | _, _ => none
def aBui (P : Program) (b : Builtin) (ts : Array TypeId) (args : List AV) : Option AV :=
 match b, args with
 | .len, [.st l] => match ts[0]? with
  | some t => if kdOf P t = .str then some (.it .i64 l.length) else none
  | none => none
 | .len, [.sl _ es] => match ts[0]? with
  | some t => match sleOf P t with
   | some _ => some (.it .i64 es.length)
   | none => none
  | none => none
 | .len, [.ws _ _ n _] => match ts[0]? with
  | some t => match sleOf P t with
   | some _ => some (.it .i64 n)
   | none => none
  | none => none
 | .len, [.wr _ n none] => match ts[0]? with
  | some t => match sleOf P t with
   | some _ => some (.it .i64 n)
   | none => none
  | none => none
 | .min, [.it k a, .it _ b] => some (.it k (if b < a then b else a))
 | .max, [.it k a, .it _ b] => some (.it k (if b > a then b else a))
 | _, _ => none
def aval (P : Program) (e : Env) : Op → Option AV
 | .move x => some (ev e x)
 | .assign x => some (ev e x)
 | .pick c a b => match ev e c with
  | .bo t => some (if t then ev e a else ev e b)
  | _ => none
 | .nilCheck x => aNil (ev e x)
 | .binOp op t x y _ => aBin P op t (ev e x) (ev e y)
 | .unOp op _ x => aUn op (ev e x)
 | .convert s d x => aConv P s d (ev e x)
 | .makeFunc f a b => some (.fn f (a.toList.map (ev e)) (b.toList.map (ev e)))
 | .slice t x lo hi mx => aSlice P t (ev e x) (lo.map (ev e)) (hi.map (ev e)) (mx.map (ev e))
 | .fieldAddr t x f => aFldAddr (fldOf P t f) (ev e x)
 | .field t x f => aFld (fldOf P t f) (ev e x)
 | .indexAddr t x i => aIdxAddr P t (ev e x) (ev e i)
 | .index t x i => aIdx P t (ev e x) (ev e i)
 | .extract t i => match ev e t with
  | .tup vs => vs[i]?
  | _ => none
 | .build t parts => match strOf P t with
  | some (pl, z) => (aFill pl z (parts.toList.map fun p => (p.1, ev e p.2))).map .agg
  | none => none
 | .call c => match c.callee with
  | .builtin b => aBui P b c.argTypes (c.args.toList.map (ev e))
  | _ => none
 | _ => none
section
variable {P : Program} {w : World} {g : Gh}
def NilOk : Value → Prop
 | .pointer none => False
 | .nilIface => False
 | .nilFunc => False
 | .func (.method _) _ _ => False
 | _ => True
theorem aNil_ok {x v : AV} {cx : Value} (h : aNil x = some v) (hx : Rel w g x cx) : v = x ∧ NilOk cx := by
 unfold aNil at h
 split at h
 ·cases h; cases hx; exact ⟨rfl, trivial⟩
 ·cases h; cases hx; exact ⟨rfl, trivial⟩
 ·cases h; cases hx; exact ⟨rfl, trivial⟩
 ·cases h
 ·rename_i f a b hne
  cases h
  cases hx with
  | fn _ _ _ _ fa ca hf hc hrf hrc =>
   refine ⟨rfl, ?_⟩
   cases f with
   | method nm => exact (hne _ rfl).elim
   | _ => trivial
 ·cases h
theorem map_one {α β : Type} {f : α → β} {l : List α} {b : β} (h : l.map f = [b]) : ∃ x, l = [x] ∧ f x = b := by
 match l, h with
 | [x], h => exact ⟨x, rfl, by simpa using h⟩
theorem map_two {α β : Type} {f : α → β} {l : List α} {b c : β} (h : l.map f = [b, c]) : ∃ x y, l = [x, y] ∧ f x = b ∧ f y = c := by
 match l, h with
 | [x, y], h => exact ⟨x, y, rfl, by simpa using h⟩
theorem add_lit' (b o n : Nat) : (⟨b, o, none⟩ : Addr).add n = ⟨b, o + n, none⟩ := Addr.add_lit b o n
theorem aFldAddr_ok {t f : Nat} {x v : AV} {cx : Value} (h : aFldAddr (fldOf P t f) x = some v) (hx : Rel w g x cx) : ∃ cv, (Instr.fieldAt t cx f).run P w = .ok cv w ∧ Rel w g v cv := by
 unfold aFldAddr at h
 split at h
 ·rename_i o sz ag l off hf
  obtain ⟨fs, fd, h1, h2, h3, h4⟩ := fldOf_spec hf
  cases hx
  rename_i hl hb
  split at h
  ·cases h
  ·rename_i h0
   cases h
   refine ⟨_, ?_, .ptr g l (off + o) hl hb⟩
   simp [Instr.fieldAt, run_underlying h1, h2, Instr.sureAddr, fieldPlace, run_sizeOf h4, h0, add_lit', h3]
 ·rename_i o sz ag x' off hf
  obtain ⟨fs, fd, h1, h2, h3, h4⟩ := fldOf_spec hf
  cases hx with
  | pst _ _ _ b o' cu hA h1' hr =>
   split at h
   ·cases h
   ·rename_i h0
    cases h
    refine ⟨_, ?_, .pst g x' (off + o) b o' cu hA h1' hr⟩
    simp [Instr.fieldAt, run_underlying h1, h2, Instr.sureAddr, fieldPlace, run_sizeOf h4, h0, add_lit', h3, Nat.add_assoc]
 ·rename_i o sz ag l n off hf
  obtain ⟨fs, fd, h1, h2, h3, h4⟩ := fldOf_spec hf
  cases hx with
  | wp _ _ _ _ b o' hl hb hw hA =>
   split at h
   ·cases h
   ·rename_i h0
    cases h
    refine ⟨_, ?_, .wp g l n (off + o) b (o' + o) hl hb hw ?_⟩
    ·simp [Instr.fieldAt, run_underlying h1, h2, Instr.sureAddr, fieldPlace, run_sizeOf h4, h0, add_lit', h3]
    ·rcases hA with hA | ⟨rfl, rfl⟩
     ·exact .inl hA
     ·exact .inr ⟨rfl, rfl⟩
 ·cases h
theorem aFld_ok {t f : Nat} {x v : AV} {cx : Value} (h : aFld (fldOf P t f) x = some v) (hx : Rel w g x cx) : ∃ cv, (Instr.field t cx f).run P w = .ok cv w ∧ Rel w g v cv := by
 unfold aFld at h
 split at h
 ·rename_i o sz ag cs hf
  obtain ⟨fs, fd, h1, h2, h3, h4⟩ := fldOf_spec hf
  cases hx with | agg _ _ arr hn h1' hr =>
  obtain ⟨cv, hcv, hrel⟩ := apart_ok hn h1' hr h4 h
  refine ⟨cv, ?_, hrel⟩
  simp [Instr.field, run_underlying h1, h2, asAgg, h3, hcv]
 ·cases h
theorem flat_at {sz : Nat} {es : List AV} (h : ∀ e ∈ es, e.cells.length = sz) {i : Nat} {v : AV} (hv : es[i]? = some v) {j : Nat} {u : AV} (hu : v.cells[j]? = some u) : (flat es)[i * sz + j]? = some u := by
 have h1 := flat_drop h i
 have hi := (List.getElem?_eq_some_iff.1 hv).1
 rw [← List.getElem?_drop, ← h1]
 have : es.drop i = v :: es.drop (i + 1) := by
  rw [List.drop_eq_getElem_cons hi]
  rw [(List.getElem?_eq_some_iff.1 hv).2]
 rw [this]
 simp only [flat, List.flatMap_cons]
 rw [List.getElem?_append_left (List.getElem?_eq_some_iff.1 hu).1]
 exact hu
theorem aIdxAddr_ok {t : TypeId} {x i v : AV} {cx ci : Value} (h : aIdxAddr P t x i = some v) (hx : Rel w g x cx) (hi : Rel w g i ci) : ∃ cv, (Instr.indexAt t cx ci).run P w = .ok cv w ∧ Rel w g v cv := by
 unfold aIdxAddr at h
 split at h
 ·rename_i m es k n
  split at h
  ·rename_i e sz ag hs
   obtain ⟨hu, hse⟩ := sleOf_spec hs
   split at h
   ·rename_i h0
    split at h
    ·rename_i v' hv
     split at h
     ·rename_i hall
      cases h
      cases hi
      have hlt := (List.getElem?_eq_some_iff.1 hv).1
      have hmem := List.mem_iff_getElem?.2 ⟨_, hv⟩
      have hsz' := allSz_spec hall
      cases hx with
      | sl _ _ _ A c sz0 cu hc hcm hsz hA h1 hr hm =>
       obtain ⟨b, o, rfl, hcell⟩ := hA (by omega)
       have hat : ∀ j, j < v'.cells.length → n.toNat * sz + j < (flat es).length := by
        intro j hj
        have := flat_at hsz' hv (List.getElem?_eq_getElem hj)
        exact (List.getElem?_eq_some_iff.1 this).1
       refine ⟨.pointer (some ⟨b, o + n.toNat * sz + 0, none⟩), ?_, .pst g v' 0 b (o + n.toNat * sz) (fun j => cu (n.toNat * sz + j)) (fun j hj => ?_) (fun j hj => h1 _ (hat j hj)) (fun j u hju => hr _ u (flat_at hsz' hv hju))⟩
       ·have hn : 0 ≤ n ∧ n < (es.length : Int) := by omega
        simp [Instr.indexAt, asIntOf, run_underlying hu, hn, run_sizeOf hse, add_lit']
       ·have := hcell _ (hat j hj)
        rw [Nat.add_assoc]
        exact this
     ·cases h
    ·cases h
   ·cases h
  ·cases h
 ·rename_i l off k n
  split at h
  ·rename_i len sz ag hs
   obtain ⟨e, hu, hse⟩ := areOf_spec hs
   split at h
   ·rename_i hn
    cases h
    cases hx; cases hi
    rename_i hl hb
    refine ⟨_, ?_, .ptr g l (off + n.toNat * sz) hl hb⟩
    simp [Instr.indexAt, asIntOf, run_underlying hu, Instr.sureAddr, hn, run_sizeOf hse, add_lit']
   ·cases h
  ·cases h
 ·rename_i x' off k n
  split at h
  ·rename_i len sz ag hs
   obtain ⟨e, hu, hse⟩ := areOf_spec hs
   split at h
   ·rename_i hn
    cases h
    cases hi
    cases hx with
    | pst _ _ _ b o' cu hA h1' hr =>
     refine ⟨_, ?_, .pst g x' (off + n.toNat * sz) b o' cu hA h1' hr⟩
     simp [Instr.indexAt, asIntOf, run_underlying hu, Instr.sureAddr, hn, run_sizeOf hse, add_lit', Nat.add_assoc]
   ·cases h
  ·cases h
 ·rename_i l off m c k n
  split at h
  ·rename_i e sz ag hs
   obtain ⟨hu, hse⟩ := sleOf_spec hs
   split at h
   ·rename_i hn
    cases h
    cases hx; cases hi
    rename_i hl hb hc hm
    refine ⟨_, ?_, .ptr g l (off + n.toNat * sz) hl hb⟩
    simp [Instr.indexAt, asIntOf, run_underlying hu, hn, run_sizeOf hse, add_lit']
   ·cases h
  ·cases h
 ·rename_i l m k n
  split at h
  ·rename_i e sz ag hs
   obtain ⟨hu, hse⟩ := sleOf_spec hs
   split at h
   ·rename_i hn
    cases h
    cases hi
    cases hx with
    | wr _ _ _ c A hl hb hw hc hm h0 hA =>
     obtain ⟨b, o, rfl⟩ := h0 (by omega)
     refine ⟨.pointer (some ⟨b, o + n.toNat * sz, none⟩), ?_, .wp g l m (n.toNat * sz) _ _ hl hb hw ?_⟩
     ·simp [Instr.indexAt, asIntOf, run_underlying hu, hn, run_sizeOf hse, add_lit']
     ·rcases hA with hA | ⟨rfl, hA⟩
      ·exact .inl hA
      ·have := hA (by omega)
       simp only [Option.some.injEq, Addr.mk.injEq] at this
       exact .inr ⟨this.1, by rw [this.2.1, Nat.zero_add]⟩
   ·cases h
  ·cases h
 ·cases h
theorem aIdx_ok {t : TypeId} {x i v : AV} {cx ci : Value} (h : aIdx P t x i = some v) (hx : Rel w g x cx) (hi : Rel w g i ci) : ∃ cv, (Instr.index t cx ci).run P w = .ok cv w ∧ Rel w g v cv := by
 unfold aIdx at h
 split at h
 ·rename_i l k n
  split at h
  ·rename_i hk
   obtain ⟨hk, h0⟩ := hk
   obtain ⟨b, hb, rfl⟩ := Option.map_eq_some_iff.1 h
   cases hx; cases hi
   refine ⟨.int .u8 (b.toNat : Int), ?_, .it g _ _⟩
   have hlt := (List.getElem?_eq_some_iff.1 hb).1
   have e : (⟨l.toArray⟩ : ByteArray)[n.toNat]? = some b := by
    rw [getElem?_pos _ _ (by show n.toNat < ByteArray.size _; simpa [ByteArray.size] using hlt)]
    rw [← hb, List.getElem?_eq_getElem hlt]
    rfl
   simp [Instr.index, asIntOf, run_underlying (kd_str hk), h0, e]
  ·cases h
 ·rename_i cs k n
  split at h
  ·rename_i len sz ag hs
   obtain ⟨e, hu, hse⟩ := areOf_spec hs
   split at h
   ·rename_i hn
    cases hi
    cases hx with | agg _ _ arr hn' h1' hr =>
    obtain ⟨cv, hcv, hrel⟩ := apart_ok hn' h1' hr hse h
    refine ⟨cv, ?_, hrel⟩
    simp [Instr.index, asIntOf, run_underlying hu, hn, run_sizeOf hse, hcv]
   ·cases h
  ·cases h
 ·cases h
theorem aBui_ok {b : Builtin} {ts : Array TypeId} (ty : TypeId) (cn : Array Bool) {args : List Operand} {e : Env} {ρ : Operand → Value} {v : AV} (h : aBui P b ts (args.map (ev e)) = some v) (hr : ∀ x ∈ args, Rel w g (ev e x) (ρ x)) :
  ∃ cv, (builtin b ts ty cn (args.map ρ).toArray).run P w = .ok (.value cv) w ∧ Rel w g v cv := by
 unfold aBui at h
 split at h
 ·rename_i l hargs
  split at h
  ·rename_i t ht
   split at h
   ·rename_i hk
    cases h
    obtain ⟨x, rfl, hx1⟩ := map_one hargs
    have hx := hr x (by simp)
    rw [hx1] at hx
    generalize hc : ρ x = cx at hx
    cases hx
    have hs : (⟨l.toArray⟩ : ByteArray).size = l.length := by simp [ByteArray.size]
    refine ⟨.int .i64 (l.length : Int), ?_, .it g _ _⟩
    simp only [builtin, Builtin.len_, ht, hc, List.map_cons, List.map_nil, List.getElem?_toArray, List.getElem?_cons_zero, Sem.run_bind, run_underlying (kd_str hk), Result.andThen_ok, goInt, hs, Sem.run_pure]
   ·cases h
  ·cases h
 ·rename_i m es hargs
  split at h
  ·rename_i t ht
   split at h
   ·rename_i p hk
    obtain ⟨e', sz, ag⟩ := p
    cases h
    obtain ⟨hu, hse⟩ := sleOf_spec hk
    obtain ⟨x, rfl, hx1⟩ := map_one hargs
    have hx := hr x (by simp)
    rw [hx1] at hx
    generalize hc : ρ x = cx at hx
    cases hx
    refine ⟨.int .i64 (es.length : Int), ?_, .it g _ _⟩
    simp only [builtin, Builtin.len_, ht, hc, List.map_cons, List.map_nil, List.getElem?_toArray, List.getElem?_cons_zero, Sem.run_bind, run_underlying hu, Result.andThen_ok, goInt, Sem.run_pure]
   ·cases h
  ·cases h
 ·rename_i l off n c hargs
  split at h
  ·rename_i t ht
   split at h
   ·rename_i p hk
    obtain ⟨e', sz, ag⟩ := p
    cases h
    obtain ⟨hu, hse⟩ := sleOf_spec hk
    obtain ⟨x, rfl, hx1⟩ := map_one hargs
    have hx := hr x (by simp)
    rw [hx1] at hx
    generalize hc : ρ x = cx at hx
    cases hx
    refine ⟨.int .i64 (n : Int), ?_, .it g _ _⟩
    simp only [builtin, Builtin.len_, ht, hc, List.map_cons, List.map_nil, List.getElem?_toArray, List.getElem?_cons_zero, Sem.run_bind, run_underlying hu, Result.andThen_ok, goInt, Sem.run_pure]
   ·cases h
  ·cases h
 ·rename_i l n hargs
  split at h
  ·rename_i t ht
   split at h
   ·rename_i p hk
    obtain ⟨e', sz, ag⟩ := p
    cases h
    obtain ⟨hu, hse⟩ := sleOf_spec hk
    obtain ⟨x, rfl, hx1⟩ := map_one hargs
    have hx := hr x (by simp)
    rw [hx1] at hx
    generalize hc : ρ x = cx at hx
    cases hx
    refine ⟨.int .i64 (n : Int), ?_, .it g _ _⟩
    simp only [builtin, Builtin.len_, ht, hc, List.map_cons, List.map_nil, List.getElem?_toArray, List.getElem?_cons_zero, Sem.run_bind, run_underlying hu, Result.andThen_ok, goInt, Sem.run_pure]
   ·cases h
  ·cases h
 ·rename_i k a k' b hargs
  cases h
  obtain ⟨x, y, rfl, hargs1, hargs2⟩ := map_two hargs
  have hx := hr x (by simp)
  have hy := hr y (by simp)
  rw [hargs1] at hx
  rw [hargs2] at hy
  generalize hc : ρ x = cx at hx
  generalize hd : ρ y = cy at hy
  cases hx; cases hy
  refine ⟨_, ?_, .it g _ _⟩
  simp [builtin, Builtin.min_, Builtin.min2, hc, hd]
 ·rename_i k a k' b hargs
  cases h
  obtain ⟨x, y, rfl, hargs1, hargs2⟩ := map_two hargs
  have hx := hr x (by simp)
  have hy := hr y (by simp)
  rw [hargs1] at hx
  rw [hargs2] at hy
  generalize hc : ρ x = cx at hx
  generalize hd : ρ y = cy at hy
  cases hx; cases hy
  refine ⟨_, ?_, .it g _ _⟩
  simp [builtin, Builtin.max_, Builtin.max2, hc, hd]
 ·cases h
theorem BRel_map {e : Env} {ρ : Operand → Value} {x : Option Operand} (h : ∀ y, x = some y → Rel w g (ev e y) (ρ y)) : BRel w g (x.map (ev e)) (x.map ρ) := by
 cases x with
 | none => trivial
 | some y => exact h y rfl
theorem aval_ok {o : Oper} {e : Env} {ρ : Operand → Value} {v : AV} (h : aval P e o.op = some v) (hr : ∀ x, x ∈ o.op.operands.toList → Rel w g (ev e x) (ρ x)) :
  ∃ cv, (execOp ρ o).run P w = .ok (.value cv) w ∧ Rel w g v cv := by
 unfold execOp
 cases ho : o.op <;> rw [ho] at h hr <;> simp only [aval] at h <;> try (cases h; done)
 case move x => cases h; exact ⟨_, by simp, hr x (by simp [Op.operands])⟩
 case assign x => cases h; exact ⟨_, by simp, hr x (by simp [Op.operands])⟩
 case pick c a b =>
  split at h
  ·rename_i t hc
   cases h
   have h1 := hr c (by simp [Op.operands])
   rw [hc] at h1
   generalize hcc : ρ c = cc at h1
   cases h1
   cases t
   ·exact ⟨ρ b, by simp [hcc, asBool], hr b (by simp [Op.operands])⟩
   ·exact ⟨ρ a, by simp [hcc, asBool], hr a (by simp [Op.operands])⟩
  ·cases h
 case nilCheck x =>
  have hx := hr x (by simp [Op.operands])
  obtain ⟨rfl, h2⟩ := aNil_ok h hx
  refine ⟨ρ x, ?_, hx⟩
  dsimp only
  generalize ρ x = cx at h2 ⊢
  cases cx with
  | pointer a => cases a with
   | none => exact False.elim h2
   | some a => rfl
  | func f b c => cases f with
   | method nm => exact False.elim h2
   | _ => rfl
  | nilIface => exact False.elim h2
  | nilFunc => exact False.elim h2
  | _ => rfl
 case binOp op t x y yt =>
  obtain ⟨cv, h1, h2⟩ := aBin_ok (P := P) x y h (hr x (by simp [Op.operands])) (hr y (by simp [Op.operands]))
  exact ⟨cv, by rw [Sem.run_bind, h1]; rfl, h2⟩
 case unOp op t x =>
  obtain ⟨cv, h1, h2⟩ := aUn_ok (P := P) h (hr x (by simp [Op.operands]))
  exact ⟨cv, by simp [h1], h2⟩
 case convert s d x =>
  obtain ⟨cv, h1, h2⟩ := aConv_ok h (hr x (by simp [Op.operands]))
  exact ⟨cv, by simp [h1], h2⟩
 case makeFunc f a b =>
  cases h
  refine ⟨.func f (a.map ρ) (b.map ρ), by simp [Instr.makeFunc], .fn g f _ _ _ _ (by simp) (by simp) (fun j u v hu hv => ?_) (fun j u v hu hv => ?_)⟩
  ·rw [List.getElem?_map] at hu
   obtain ⟨x, hx, rfl⟩ := Option.map_eq_some_iff.1 hu
   have hx' : a[j]? = some x := by simpa using hx
   rw [Array.getElem?_map, hx'] at hv
   cases hv
   refine hr x ?_
   simp only [Op.operands, Array.toList_append, List.mem_append]
   exact .inl (List.mem_iff_getElem?.2 ⟨j, hx⟩)
  ·rw [List.getElem?_map] at hu
   obtain ⟨x, hx, rfl⟩ := Option.map_eq_some_iff.1 hu
   have hx' : b[j]? = some x := by simpa using hx
   rw [Array.getElem?_map, hx'] at hv
   cases hv
   refine hr x ?_
   simp only [Op.operands, Array.toList_append, List.mem_append]
   exact .inr (List.mem_iff_getElem?.2 ⟨j, hx⟩)
 case slice t x lo hi mx =>
  obtain ⟨cv, h1, h2⟩ := aSlice_ok (P := P) h (hr x (by simp [Op.operands])) (BRel_map fun y hy => hr y (by subst hy; simp [Op.operands])) (BRel_map fun y hy => hr y (by subst hy; simp [Op.operands])) (BRel_map fun y hy => hr y (by subst hy; simp [Op.operands]))
  exact ⟨cv, by simp [h1], h2⟩
 case fieldAddr t x f =>
  obtain ⟨cv, h1, h2⟩ := aFldAddr_ok h (hr x (by simp [Op.operands]))
  exact ⟨cv, by simp [h1], h2⟩
 case field t x f =>
  obtain ⟨cv, h1, h2⟩ := aFld_ok h (hr x (by simp [Op.operands]))
  exact ⟨cv, by simp [h1], h2⟩
 case indexAddr t x i =>
  obtain ⟨cv, h1, h2⟩ := aIdxAddr_ok h (hr x (by simp [Op.operands])) (hr i (by simp [Op.operands]))
  exact ⟨cv, by simp [h1], h2⟩
 case index t x i =>
  obtain ⟨cv, h1, h2⟩ := aIdx_ok h (hr x (by simp [Op.operands])) (hr i (by simp [Op.operands]))
  exact ⟨cv, by simp [h1], h2⟩
 case extract t i =>
  split at h
  ·rename_i vs ht
   have hx := hr t (by simp [Op.operands])
   rw [ht] at hx
   generalize hct : ρ t = ct at hx
   cases hx with | tup _ _ arr hn hr' =>
   have hlt := (List.getElem?_eq_some_iff.1 h).1
   have hv : arr[i]? = some arr[i] := Array.getElem?_eq_getElem (by omega)
   exact ⟨arr[i], by simp [Instr.extract, hct, hv], hr' i v _ h hv⟩
  ·cases h
 case build t parts =>
  split at h
  ·rename_i pl z hs
   obtain ⟨cs, h1, rfl⟩ := Option.map_eq_some_iff.1 h
   obtain ⟨cv, h2, h3⟩ := aBuild_ok hs parts e ρ (fun p hp => hr p.2 (by simp only [Op.operands]; exact List.mem_map.2 ⟨p, hp, rfl⟩)) h1
   exact ⟨cv, by simp [h2], h3⟩
  ·cases h
 case call c =>
  split at h
  ·rename_i b hb
   obtain ⟨cv, h1, h2⟩ := aBui_ok o.type (c.args.map fun | .const _ => true | _ => false) h (fun x hx => hr x (by simp [Op.operands, Call.operands, hb, hx]))
   refine ⟨cv, ?_, h2⟩
   have e1 : (c.args.toList.map ρ).toArray = c.args.map ρ := by rw [← Array.toList_map, Array.toArray_toList]
   rw [e1] at h1
   show Sem.run P (do let d ← resolve ρ c o.type; invoke d.target d.args) w = _
   simp only [resolve, hb, Sem.run_bind, Sem.run_pure, Result.andThen_ok, invoke]
   exact h1
  ·cases h
end
end Go.Proofs.YtlefikdjhnaapaaGreatDoor.Pe
end
