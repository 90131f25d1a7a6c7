import Derived.WalkKit
set_option linter.unusedSectionVars false
set_option linter.unusedVariables false
set_option linter.unusedSimpArgs false
namespace Go.Proofs.YtipfggegddlgdaaGreatDoor
section
section
open Go
structure Veil(p:Prop):Prop where
 out:p
def w8(b:UInt8):Value:=.int .u8 (b.toNat:Int)
def Ag(x:BitVec 32):Value:=.int .u32 (x.toNat:Int)
def Aq(x:BitVec 64):Value:=.int .u64 (x.toNat:Int)
@[go_sem] theorem v8(b:UInt8):Value.int .u8 (b.toNat:Int)=w8 b:=rfl
@[go_sem] theorem v32(x:BitVec 32):Value.int .u32 (x.toNat:Int)=Ag x:=rfl
@[go_sem] theorem v64(x:BitVec 64):Value.int .u64 (x.toNat:Int)=Aq x:=rfl
def bw(b:UInt8):BitVec 32:=b.toBitVec.setWidth 32
def bq(b:UInt8):BitVec 64:=b.toBitVec.setWidth 64
def wb(x:BitVec 32):UInt8:=UInt8.ofBitVec (x.setWidth 8)
def Qy(x:BitVec 64):Int:=x.toInt
def qb(x:BitVec 64):UInt8:=UInt8.ofBitVec (x.setWidth 8)
def Hq(a b:BitVec 32):Bool:=decide (a=b)
def Io(a b:BitVec 64):Bool:=decide (a=b)
def Im(a b:UInt8):Bool:=decide (a=b)
def FU(a b:UInt8):Bool:=decide (a.toNat≤b.toNat)
def Ib(a b:UInt8):Bool:=decide (a.toNat<b.toNat)
section
variable {P:Program} (t:TypeId) (w:World)
@[go_sem] theorem ZjG(a:Addr)(m:Mode)(b:UInt8):(store a (w8 b) m).run P w=stored P w a (w8 b) m:=run_store P w a _ m rfl
@[go_sem] theorem ZjI(a:Addr)(m:Mode)(b:BitVec 32):(store a (Ag b) m).run P w=stored P w a (Ag b) m:=run_store P w a _ m rfl
@[go_sem] theorem ZjH(a:Addr)(m:Mode)(b:BitVec 64):(store a (Aq b) m).run P w=stored P w a (Aq b) m:=run_store P w a _ m rfl
@[go_sem] theorem ZkH(b:UInt8):(w8 b).cells = #[w8 b]:=rfl
@[go_sem] theorem ZkJ(b:BitVec 32):(Ag b).cells = #[Ag b]:=rfl
@[go_sem] theorem ZkI(b:BitVec 64):(Aq b).cells = #[Aq b]:=rfl
@[go_sem] theorem ZkE(b:UInt8)(f:Array Value→Array Value)(g:Value→Array Value):Value.cells.match_1 (fun _=>Array Value) (w8 b) f g=g (w8 b):=rfl
@[go_sem] theorem ZkG(b:BitVec 32)(f:Array Value→Array Value)(g:Value→Array Value):Value.cells.match_1 (fun _=>Array Value) (Ag b) f g=g (Ag b):=rfl
@[go_sem] theorem ZkF(b:BitVec 64)(f:Array Value→Array Value)(g:Value→Array Value):Value.cells.match_1 (fun _=>Array Value) (Aq b) f g=g (Aq b):=rfl
theorem R9(n:Nat):IntKind.u32.wrap (n:Int)=((BitVec.ofNat 32 n).toNat:Int):=by
 rw[IntKind.wrap_u32',BitVec.toNat_ofNat];omega
theorem R8(n:Nat):IntKind.u64.wrap (n:Int)=((BitVec.ofNat 64 n).toNat:Int):=by
 rw[IntKind.wrap_u64,BitVec.toNat_ofNat];omega
theorem O3(n:Nat):IntKind.u8.wrap (n:Int)=((UInt8.ofNat n).toNat:Int):=by
 rw[IntKind.wrap_u8',UInt8.toNat_ofNat'];omega
@[go_sem] theorem YL(a b:BitVec 32):binOp .add t (Ag a) (Ag b)=pure (Ag (a+b)):=by
 show binOp .add t (.int .u32 _) (.int .u32 _)=_
 rw[binOp_add];show pure (Value.int .u32 (IntKind.u32.wrap ((a.toNat:Int)+(b.toNat:Int))))=_
 rw[←Int.natCast_add,R9];congr 2
@[go_sem] theorem Yx(a b:BitVec 32):binOp .and t (Ag a) (Ag b)=pure (Ag (a&&&b)):=by
 show binOp .and t (.int .u32 _) (.int .u32 _)=_
 rw[binOp_and,intBits_and,u32_and_nat _ _ a.isLt b.isLt,←BitVec.toNat_and];rfl
@[go_sem] theorem Uj(a b:BitVec 32):binOp .or t (Ag a) (Ag b)=pure (Ag (a|||b)):=by
 show binOp .or t (.int .u32 _) (.int .u32 _)=_
 rw[binOp_or,intBits_or,u32_or_nat _ _ a.isLt b.isLt,←BitVec.toNat_or];rfl
@[go_sem] theorem RX(a b:BitVec 32):binOp .xor t (Ag a) (Ag b)=pure (Ag (a^^^b)):=by
 show binOp .xor t (.int .u32 _) (.int .u32 _)=_
 rw[binOp_xor,intBits_xor,u32_xor_nat _ _ a.isLt b.isLt,←BitVec.toNat_xor];rfl
theorem DW(n:Nat)(h:n<4294967296):Value.int .u32 (OfNat.ofNat n)=Ag (BitVec.ofNat 32 n):=by
 unfold Ag;rw[BitVec.toNat_ofNat,Nat.mod_eq_of_lt h];rfl
theorem Es(n:Nat)(h:n<18446744073709551616):Value.int .u64 (OfNat.ofNat n)=Aq (BitVec.ofNat 64 n):=by
 unfold Aq;rw[BitVec.toNat_ofNat,Nat.mod_eq_of_lt h];rfl
theorem Ci(n:Nat)(h:n<256):Value.int .u8 (OfNat.ofNat n)=w8 (UInt8.ofNat n):=by
 unfold w8;rw[UInt8.toNat_ofNat',Nat.mod_eq_of_lt h];rfl
@[go_sem] theorem ZjU(a:BitVec 32):Op.unary .xor (Ag a)=pure (Ag (~~~ a)):=by
 show pure (Value.int .u32 (Go.bits .xor .u32 IntKind.u32.max (a.toNat:Int)))=_
 rw[show IntKind.u32.max=(((0xffffffff#32).toNat:Nat):Int)from rfl,u32_xor_nat _ _ (BitVec.isLt _) a.isLt,←BitVec.toNat_xor]
 unfold Ag;congr 2
@[go_sem] theorem SP(a b:BitVec 32):binOp .sub t (Ag a) (Ag b)=pure (Ag (a-b)):=by
 show binOp .sub t (.int .u32 _) (.int .u32 _)=_
 rw[binOp_sub];show pure (Value.int .u32 (IntKind.u32.wrap ((a.toNat:Int)-(b.toNat:Int))))=_
 unfold Ag;rw[IntKind.wrap_u32',BitVec.toNat_sub];congr 2
 have :=a.isLt;have :=b.isLt;omega
@[go_sem] theorem UJ(a b:BitVec 32):binOp .mul t (Ag a) (Ag b)=pure (Ag (a*b)):=by
 show binOp .mul t (.int .u32 _) (.int .u32 _)=_
 rw[binOp_mul];show pure (Value.int .u32 (IntKind.u32.wrap ((a.toNat:Int)*(b.toNat:Int))))=_
 unfold Ag;rw[IntKind.wrap_u32',BitVec.toNat_mul];congr 2
theorem Qc(x y k:Nat)(hx:x<2^k):x / 2^min y k=x / 2^y:=by
 by_cases h:y≤k
 ·rw[Nat.min_eq_left h]
 ·have hk:k≤y:=by omega
  rw[Nat.min_eq_right hk,Nat.div_eq_of_lt hx,Nat.div_eq_of_lt (Nat.lt_of_lt_of_le hx (Nat.pow_le_pow_right (by omega) hk))]
theorem Qd(x y k:Nat):x*2^min y k % 2^k=x*2^y % 2^k:=by
 by_cases h:y≤k
 ·rw[Nat.min_eq_left h]
 ·have hk:k≤y:=by omega
  rw[Nat.min_eq_right hk,Nat.mul_mod_left];obtain⟨d,rfl⟩:=Nat.exists_eq_add_of_le hk;rw[Nat.pow_add,Nat.mul_left_comm,Nat.mul_mod_right]
theorem Nt(x:BitVec 32)(yk:IntKind)(y:Int)(h:0≤y):Op.shift .shr .u32 (x.toNat:Int) yk y=pure (Ag (x>>>y.toNat)):=by
 rw[shift_shr_any _ _ _ _ h];unfold Ag;rw[BitVec.toNat_ushiftRight,Nat.shiftRight_eq_div_pow,←Qc _ _ 32 x.isLt];simp[IntKind.bits]
theorem Ny(x:BitVec 32)(yk:IntKind)(y:Int)(h:0≤y):Op.shift .shl .u32 (x.toNat:Int) yk y=pure (Ag (x<<<y.toNat)):=by
 rw[shift_shl_any _ _ _ _ h];unfold Ag;rw[IntKind.wrap_u32',BitVec.toNat_shiftLeft,Nat.shiftLeft_eq,←Qd];simp[IntKind.bits]
@[go_sem] theorem Zjt(x:BitVec 32)(y:BitVec 64):binOp .shr t (Ag x) (Aq y)=pure (Ag (x>>>y.toNat)):=Nt x .u64 _ (by omega)
@[go_sem] theorem ZjF(x:BitVec 32)(y:BitVec 64):binOp .shl t (Ag x) (Aq y)=pure (Ag (x<<<y.toNat)):=Ny x .u64 _ (by omega)
@[go_sem] theorem Zjq(x:BitVec 32)(y:Int)(h:0≤y):binOp .shr t (Ag x) (.int .i64 y)=pure (Ag (x>>>y.toNat)):=Nt x .i64 _ h
@[go_sem] theorem ZjC(x:BitVec 32)(y:Int)(h:0≤y):binOp .shl t (Ag x) (.int .i64 y)=pure (Ag (x<<<y.toNat)):=Ny x .i64 _ h
@[go_sem] theorem WK(a b:BitVec 32):binOp .eql t (Ag a) (Ag b)=pure (.bool (Hq a b)):=by
 show binOp .eql t (.int .u32 _) (.int .u32 _)=_
 rw[binOp_eql];congr 2
 rw[Bool.eq_iff_iff];simp[Hq,BitVec.toNat_eq];omega
@[go_sem] theorem Uz(a b:BitVec 32):binOp .neq t (Ag a) (Ag b)=pure (.bool (!Hq a b)):=by
 show binOp .neq t (.int .u32 _) (.int .u32 _)=_
 rw[binOp_neq];congr 2
 rw[Bool.eq_iff_iff];simp[Hq,BitVec.toNat_eq];omega
@[go_sem] theorem YK(a b:BitVec 64):binOp .add t (Aq a) (Aq b)=pure (Aq (a+b)):=by
 show binOp .add t (.int .u64 _) (.int .u64 _)=_
 rw[binOp_add];show pure (Value.int .u64 (IntKind.u64.wrap ((a.toNat:Int)+(b.toNat:Int))))=_
 rw[←Int.natCast_add,R8];congr 2
@[go_sem] theorem SO(a b:BitVec 64):binOp .sub t (Aq a) (Aq b)=pure (Aq (a-b)):=by
 show binOp .sub t (.int .u64 _) (.int .u64 _)=_
 rw[binOp_sub];show pure (Value.int .u64 (IntKind.u64.wrap ((a.toNat:Int)-(b.toNat:Int))))=_
 unfold Aq;rw[IntKind.wrap_u64,BitVec.toNat_sub];congr 2
 have :=a.isLt;have :=b.isLt;omega
@[go_sem] theorem UI(a b:BitVec 64):binOp .mul t (Aq a) (Aq b)=pure (Aq (a*b)):=by
 show binOp .mul t (.int .u64 _) (.int .u64 _)=_
 rw[binOp_mul];show pure (Value.int .u64 (IntKind.u64.wrap ((a.toNat:Int)*(b.toNat:Int))))=_
 unfold Aq;rw[IntKind.wrap_u64,BitVec.toNat_mul];congr 2
@[go_sem] theorem Yw(a b:BitVec 64):binOp .and t (Aq a) (Aq b)=pure (Aq (a&&&b)):=by
 show binOp .and t (.int .u64 _) (.int .u64 _)=_
 rw[binOp_and,intBits_and,u64_and_nat _ _ a.isLt b.isLt,←BitVec.toNat_and];rfl
@[go_sem] theorem Ui(a b:BitVec 64):binOp .or t (Aq a) (Aq b)=pure (Aq (a|||b)):=by
 show binOp .or t (.int .u64 _) (.int .u64 _)=_
 rw[binOp_or,intBits_or,u64_or_nat _ _ a.isLt b.isLt,←BitVec.toNat_or];rfl
@[go_sem] theorem RV(a b:BitVec 64):binOp .xor t (Aq a) (Aq b)=pure (Aq (a^^^b)):=by
 show binOp .xor t (.int .u64 _) (.int .u64 _)=_
 rw[binOp_xor,intBits_xor,u64_xor_nat _ _ a.isLt b.isLt,←BitVec.toNat_xor];rfl
theorem Ns(x:BitVec 64)(yk:IntKind)(y:Int)(h:0≤y):Op.shift .shr .u64 (x.toNat:Int) yk y=pure (Aq (x>>>y.toNat)):=by
 rw[shift_shr_any _ _ _ _ h];unfold Aq;rw[BitVec.toNat_ushiftRight,Nat.shiftRight_eq_div_pow,←Qc _ _ 64 x.isLt];simp[IntKind.bits]
theorem Nx(x:BitVec 64)(yk:IntKind)(y:Int)(h:0≤y):Op.shift .shl .u64 (x.toNat:Int) yk y=pure (Aq (x<<<y.toNat)):=by
 rw[shift_shl_any _ _ _ _ h];unfold Aq;rw[IntKind.wrap_u64,BitVec.toNat_shiftLeft,Nat.shiftLeft_eq,←Qd];simp[IntKind.bits]
@[go_sem] theorem Zjp(x y:BitVec 64):binOp .shr t (Aq x) (Aq y)=pure (Aq (x>>>y.toNat)):=Ns x .u64 _ (by omega)
@[go_sem] theorem ZjB(x y:BitVec 64):binOp .shl t (Aq x) (Aq y)=pure (Aq (x<<<y.toNat)):=Nx x .u64 _ (by omega)
@[go_sem] theorem Zjm(x:BitVec 64)(y:Int)(h:0≤y):binOp .shr t (Aq x) (.int .i64 y)=pure (Aq (x>>>y.toNat)):=Ns x .i64 _ h
@[go_sem] theorem Zjy(x:BitVec 64)(y:Int)(h:0≤y):binOp .shl t (Aq x) (.int .i64 y)=pure (Aq (x<<<y.toNat)):=Nx x .i64 _ h
@[go_sem] theorem WJ(a b:BitVec 64):binOp .eql t (Aq a) (Aq b)=pure (.bool (Io a b)):=by
 show binOp .eql t (.int .u64 _) (.int .u64 _)=_
 rw[binOp_eql];congr 2
 rw[Bool.eq_iff_iff];simp[Io,BitVec.toNat_eq];omega
@[go_sem] theorem Uy(a b:BitVec 64):binOp .neq t (Aq a) (Aq b)=pure (.bool (!Io a b)):=by
 show binOp .neq t (.int .u64 _) (.int .u64 _)=_
 rw[binOp_neq];congr 2
 rw[Bool.eq_iff_iff];simp[Io,BitVec.toNat_eq];omega
@[go_sem] theorem WI(a b:UInt8):binOp .eql t (w8 a) (w8 b)=pure (.bool (Im a b)):=by
 show binOp .eql t (.int .u8 _) (.int .u8 _)=_
 rw[binOp_eql];congr 2
 rw[Bool.eq_iff_iff];simp[Im,←UInt8.toNat_inj];omega
@[go_sem] theorem Ux(a b:UInt8):binOp .neq t (w8 a) (w8 b)=pure (.bool (!Im a b)):=by
 show binOp .neq t (.int .u8 _) (.int .u8 _)=_
 rw[binOp_neq];congr 2
 rw[Bool.eq_iff_iff];simp[Im,←UInt8.toNat_inj];omega
@[go_sem] theorem UZ(a b:UInt8):binOp .leq t (w8 a) (w8 b)=pure (.bool (FU a b)):=by
 show binOp .leq t (.int .u8 _) (.int .u8 _)=_
 rw[binOp_leq];congr 2
 rw[Bool.eq_iff_iff];simp[FU]
@[go_sem] theorem UV(a b:UInt8):binOp .lss t (w8 a) (w8 b)=pure (.bool (Ib a b)):=by
 show binOp .lss t (.int .u8 _) (.int .u8 _)=_
 rw[binOp_lss];congr 2
 rw[Bool.eq_iff_iff];simp[Ib]
@[go_sem] theorem VV(a b:UInt8):binOp .geq t (w8 a) (w8 b)=pure (.bool (FU b a)):=by
 show binOp .geq t (.int .u8 _) (.int .u8 _)=_
 rw[binOp_geq];congr 2
 rw[Bool.eq_iff_iff];simp[FU]
@[go_sem] theorem VL(a b:UInt8):binOp .gtr t (w8 a) (w8 b)=pure (.bool (Ib b a)):=by
 show binOp .gtr t (.int .u8 _) (.int .u8 _)=_
 rw[binOp_gtr];congr 2
 rw[Bool.eq_iff_iff];simp[Ib]
@[go_sem] theorem YJ(a b:UInt8):binOp .add t (w8 a) (w8 b)=pure (w8 (a+b)):=by
 show binOp .add t (.int .u8 _) (.int .u8 _)=_
 rw[binOp_add];show pure (Value.int .u8 (IntKind.u8.wrap ((a.toNat:Int)+(b.toNat:Int))))=_
 unfold w8;rw[IntKind.wrap_u8',UInt8.toNat_add];congr 2
@[go_sem] theorem SN(a b:UInt8):binOp .sub t (w8 a) (w8 b)=pure (w8 (a-b)):=by
 show binOp .sub t (.int .u8 _) (.int .u8 _)=_
 rw[binOp_sub];show pure (Value.int .u8 (IntKind.u8.wrap ((a.toNat:Int)-(b.toNat:Int))))=_
 unfold w8;rw[IntKind.wrap_u8',UInt8.toNat_sub];congr 2
 have :=a.toNat_lt;have :=b.toNat_lt;omega
@[go_sem] theorem UH(a b:UInt8):binOp .mul t (w8 a) (w8 b)=pure (w8 (a*b)):=by
 show binOp .mul t (.int .u8 _) (.int .u8 _)=_
 rw[binOp_mul];show pure (Value.int .u8 (IntKind.u8.wrap ((a.toNat:Int)*(b.toNat:Int))))=_
 unfold w8;rw[IntKind.wrap_u8',UInt8.toNat_mul];congr 2
@[go_sem] theorem Yv(a b:UInt8):binOp .and t (w8 a) (w8 b)=pure (w8 (a&&&b)):=by
 show binOp .and t (.int .u8 _) (.int .u8 _)=_
 rw[binOp_and,intBits_and,u8_and_nat _ _ a.toNat_lt b.toNat_lt,←UInt8.toNat_and];rfl
@[go_sem] theorem Uh(a b:UInt8):binOp .or t (w8 a) (w8 b)=pure (w8 (a|||b)):=by
 show binOp .or t (.int .u8 _) (.int .u8 _)=_
 rw[binOp_or,intBits_or,u8_or_nat _ _ a.toNat_lt b.toNat_lt,←UInt8.toNat_or];rfl
@[go_sem] theorem RU(a b:UInt8):binOp .xor t (w8 a) (w8 b)=pure (w8 (a^^^b)):=by
 show binOp .xor t (.int .u8 _) (.int .u8 _)=_
 rw[binOp_xor,intBits_xor,u8_xor_nat _ _ a.toNat_lt b.toNat_lt,←UInt8.toNat_xor];rfl
def Gd(x:UInt8)(n:Nat):UInt8:=UInt8.ofNat (x.toNat / 2^n)
def J2(x:UInt8)(n:Nat):UInt8:=UInt8.ofNat (x.toNat*2^n)
theorem Nr(x:UInt8)(yk:IntKind)(y:Int)(h:0≤y):Op.shift .shr .u8 (x.toNat:Int) yk y=pure (w8 (Gd x y.toNat)):=by
 rw[shift_shr_any _ _ _ _ h];have hx:=x.toNat_lt;have hd:x.toNat / 2^y.toNat<256:=Nat.lt_of_le_of_lt (Nat.div_le_self _ _) hx;unfold w8 Gd;rw[UInt8.toNat_ofNat',Nat.mod_eq_of_lt hd,←Qc _ _ 8 hx];simp[IntKind.bits]
theorem Nw(x:UInt8)(yk:IntKind)(y:Int)(h:0≤y):Op.shift .shl .u8 (x.toNat:Int) yk y=pure (w8 (J2 x y.toNat)):=by
 rw[shift_shl_any _ _ _ _ h];unfold w8 J2;rw[IntKind.wrap_u8',UInt8.toNat_ofNat',←Qd];simp[IntKind.bits]
@[go_sem] theorem Zjl(x:UInt8)(y:BitVec 64):binOp .shr t (w8 x) (Aq y)=pure (w8 (Gd x y.toNat)):=Nr x .u64 _ (by omega)
@[go_sem] theorem Zjx(x:UInt8)(y:BitVec 64):binOp .shl t (w8 x) (Aq y)=pure (w8 (J2 x y.toNat)):=Nw x .u64 _ (by omega)
@[go_sem] theorem Zji(x:UInt8)(y:Int)(h:0≤y):binOp .shr t (w8 x) (.int .i64 y)=pure (w8 (Gd x y.toNat)):=Nr x .i64 _ h
@[go_sem] theorem Zju(x:UInt8)(y:Int)(h:0≤y):binOp .shl t (w8 x) (.int .i64 y)=pure (w8 (J2 x y.toNat)):=Nw x .i64 _ h
@[go_sem] theorem ZcM(a b:UInt8)(h:b.toNat≠0):binOp .quo t (w8 a) (w8 b)=pure (w8 (a / b)):=by
 show binOp .quo t (.int .u8 _) (.int .u8 _)=_
 rw[binOp_quo];have ha:=a.toNat_lt;have hb:=b.toNat_lt;have hz':¬(b.toNat:Int)=0:=by omega
 unfold w8;rw[UInt8.toNat_div];have hd:a.toNat / b.toNat<256:=Nat.lt_of_le_of_lt (Nat.div_le_self _ _) ha;simp only[Op.intDiv,if_neg hz',IntKind.wrap_u8'];congr 2
 rw[←Int.ofNat_tdiv];generalize a.toNat / b.toNat=q at hd ⊢;omega
@[go_sem] theorem Zct(a b:UInt8)(h:b.toNat≠0):binOp .rem t (w8 a) (w8 b)=pure (w8 (a % b)):=by
 show binOp .rem t (.int .u8 _) (.int .u8 _)=_
 rw[binOp_rem];have ha:=a.toNat_lt;have hz':¬(b.toNat:Int)=0:=by omega
 unfold w8;rw[UInt8.toNat_mod];have hd:a.toNat % b.toNat<256:=Nat.lt_of_le_of_lt (Nat.mod_le _ _) ha;simp only[Op.intDiv,if_neg hz'];congr 2
@[go_sem] theorem ZkS(a:UInt8)(n:Nat)(h:n<256):binOp .add t (w8 a) (.int .u8 (no_index (OfNat.ofNat n)))=pure (w8 (a+(UInt8.ofNat n))):=by rw[Ci n h,YJ]
@[go_sem] theorem ZkT(a:UInt8)(n:Nat)(h:n<256):binOp .add t (.int .u8 (no_index (OfNat.ofNat n))) (w8 a)=pure (w8 ((UInt8.ofNat n)+a)):=by rw[Ci n h,YJ]
@[go_sem] theorem Zjc(a:UInt8)(n:Nat)(h:n<256):binOp .sub t (w8 a) (.int .u8 (no_index (OfNat.ofNat n)))=pure (w8 (a-(UInt8.ofNat n))):=by rw[Ci n h,SN]
@[go_sem] theorem Zjd(a:UInt8)(n:Nat)(h:n<256):binOp .sub t (.int .u8 (no_index (OfNat.ofNat n))) (w8 a)=pure (w8 ((UInt8.ofNat n)-a)):=by rw[Ci n h,SN]
@[go_sem] theorem Zj1(a:UInt8)(n:Nat)(h:n<256):binOp .mul t (w8 a) (.int .u8 (no_index (OfNat.ofNat n)))=pure (w8 (a*(UInt8.ofNat n))):=by rw[Ci n h,UH]
@[go_sem] theorem Zj2(a:UInt8)(n:Nat)(h:n<256):binOp .mul t (.int .u8 (no_index (OfNat.ofNat n))) (w8 a)=pure (w8 ((UInt8.ofNat n)*a)):=by rw[Ci n h,UH]
@[go_sem] theorem ZkM(a:UInt8)(n:Nat)(h:n<256):binOp .and t (w8 a) (.int .u8 (no_index (OfNat.ofNat n)))=pure (w8 (a&&&(UInt8.ofNat n))):=by rw[Ci n h,Yv]
@[go_sem] theorem ZkN(a:UInt8)(n:Nat)(h:n<256):binOp .and t (.int .u8 (no_index (OfNat.ofNat n))) (w8 a)=pure (w8 ((UInt8.ofNat n)&&&a)):=by rw[Ci n h,Yv]
@[go_sem] theorem ZjN(a:UInt8)(n:Nat)(h:n<256):binOp .or t (w8 a) (.int .u8 (no_index (OfNat.ofNat n)))=pure (w8 (a|||(UInt8.ofNat n))):=by rw[Ci n h,Uh]
@[go_sem] theorem ZjO(a:UInt8)(n:Nat)(h:n<256):binOp .or t (.int .u8 (no_index (OfNat.ofNat n))) (w8 a)=pure (w8 ((UInt8.ofNat n)|||a)):=by rw[Ci n h,Uh]
@[go_sem] theorem Zi2(a:UInt8)(n:Nat)(h:n<256):binOp .xor t (w8 a) (.int .u8 (no_index (OfNat.ofNat n)))=pure (w8 (a^^^(UInt8.ofNat n))):=by rw[Ci n h,RU]
@[go_sem] theorem Zi3(a:UInt8)(n:Nat)(h:n<256):binOp .xor t (.int .u8 (no_index (OfNat.ofNat n))) (w8 a)=pure (w8 ((UInt8.ofNat n)^^^a)):=by rw[Ci n h,RU]
@[go_sem] theorem Zkm(a:UInt8)(n:Nat)(h:n<256):binOp .eql t (w8 a) (.int .u8 (no_index (OfNat.ofNat n)))=pure (.bool (Im a (UInt8.ofNat n))):=by rw[Ci n h,WI]
@[go_sem] theorem Zkn(a:UInt8)(n:Nat)(h:n<256):binOp .eql t (.int .u8 (no_index (OfNat.ofNat n))) (w8 a)=pure (.bool (Im (UInt8.ofNat n) a)):=by rw[Ci n h,WI]
@[go_sem] theorem ZjV(a:UInt8)(n:Nat)(h:n<256):binOp .neq t (w8 a) (.int .u8 (no_index (OfNat.ofNat n)))=pure (.bool (!Im a (UInt8.ofNat n))):=by rw[Ci n h,Ux]
@[go_sem] theorem ZjW(a:UInt8)(n:Nat)(h:n<256):binOp .neq t (.int .u8 (no_index (OfNat.ofNat n))) (w8 a)=pure (.bool (!Im (UInt8.ofNat n) a)):=by rw[Ci n h,Ux]
@[go_sem] theorem Zj9(a:UInt8)(n:Nat)(h:n<256):binOp .leq t (w8 a) (.int .u8 (no_index (OfNat.ofNat n)))=pure (.bool (FU a (UInt8.ofNat n))):=by rw[Ci n h,UZ]
@[go_sem] theorem Zka(a:UInt8)(n:Nat)(h:n<256):binOp .leq t (.int .u8 (no_index (OfNat.ofNat n))) (w8 a)=pure (.bool (FU (UInt8.ofNat n) a)):=by rw[Ci n h,UZ]
@[go_sem] theorem Zj7(a:UInt8)(n:Nat)(h:n<256):binOp .lss t (w8 a) (.int .u8 (no_index (OfNat.ofNat n)))=pure (.bool (Ib a (UInt8.ofNat n))):=by rw[Ci n h,UV]
@[go_sem] theorem Zj8(a:UInt8)(n:Nat)(h:n<256):binOp .lss t (.int .u8 (no_index (OfNat.ofNat n))) (w8 a)=pure (.bool (Ib (UInt8.ofNat n) a)):=by rw[Ci n h,UV]
@[go_sem] theorem Zki(a:UInt8)(n:Nat)(h:n<256):binOp .geq t (w8 a) (.int .u8 (no_index (OfNat.ofNat n)))=pure (.bool (FU (UInt8.ofNat n) a)):=by rw[Ci n h,VV]
@[go_sem] theorem Zkj(a:UInt8)(n:Nat)(h:n<256):binOp .geq t (.int .u8 (no_index (OfNat.ofNat n))) (w8 a)=pure (.bool (FU a (UInt8.ofNat n))):=by rw[Ci n h,VV]
@[go_sem] theorem Zkg(a:UInt8)(n:Nat)(h:n<256):binOp .gtr t (w8 a) (.int .u8 (no_index (OfNat.ofNat n)))=pure (.bool (Ib (UInt8.ofNat n) a)):=by rw[Ci n h,VL]
@[go_sem] theorem Zkh(a:UInt8)(n:Nat)(h:n<256):binOp .gtr t (.int .u8 (no_index (OfNat.ofNat n))) (w8 a)=pure (.bool (Ib a (UInt8.ofNat n))):=by rw[Ci n h,VL]
@[go_sem] theorem Zkd(op:BinOp)(x y:Operand)(a:UInt8)(v:Value):eqGuard op t x y (w8 a) v=pure ():=by cases op<;>cases v<;>rfl
@[go_sem] theorem Zkc(op:BinOp)(x y:Operand)(k:IntKind)(n:Int)(v:Value):eqGuard op t x y (.int k n) v=pure ():=by cases op<;>cases v<;>rfl
@[go_sem] theorem ZkW(a:BitVec 32)(n:Nat)(h:n<4294967296):binOp .add t (Ag a) (.int .u32 (no_index (OfNat.ofNat n)))=pure (Ag (a+(BitVec.ofNat 32 n))):=by rw[DW n h,YL]
@[go_sem] theorem ZkX(a:BitVec 32)(n:Nat)(h:n<4294967296):binOp .add t (.int .u32 (no_index (OfNat.ofNat n))) (Ag a)=pure (Ag ((BitVec.ofNat 32 n)+a)):=by rw[DW n h,YL]
@[go_sem] theorem Zjg(a:BitVec 32)(n:Nat)(h:n<4294967296):binOp .sub t (Ag a) (.int .u32 (no_index (OfNat.ofNat n)))=pure (Ag (a-(BitVec.ofNat 32 n))):=by rw[DW n h,SP]
@[go_sem] theorem Zjh(a:BitVec 32)(n:Nat)(h:n<4294967296):binOp .sub t (.int .u32 (no_index (OfNat.ofNat n))) (Ag a)=pure (Ag ((BitVec.ofNat 32 n)-a)):=by rw[DW n h,SP]
@[go_sem] theorem Zj5(a:BitVec 32)(n:Nat)(h:n<4294967296):binOp .mul t (Ag a) (.int .u32 (no_index (OfNat.ofNat n)))=pure (Ag (a*(BitVec.ofNat 32 n))):=by rw[DW n h,UJ]
@[go_sem] theorem Zj6(a:BitVec 32)(n:Nat)(h:n<4294967296):binOp .mul t (.int .u32 (no_index (OfNat.ofNat n))) (Ag a)=pure (Ag ((BitVec.ofNat 32 n)*a)):=by rw[DW n h,UJ]
@[go_sem] theorem ZkQ(a:BitVec 32)(n:Nat)(h:n<4294967296):binOp .and t (Ag a) (.int .u32 (no_index (OfNat.ofNat n)))=pure (Ag (a&&&(BitVec.ofNat 32 n))):=by rw[DW n h,Yx]
@[go_sem] theorem ZkR(a:BitVec 32)(n:Nat)(h:n<4294967296):binOp .and t (.int .u32 (no_index (OfNat.ofNat n))) (Ag a)=pure (Ag ((BitVec.ofNat 32 n)&&&a)):=by rw[DW n h,Yx]
@[go_sem] theorem ZjR(a:BitVec 32)(n:Nat)(h:n<4294967296):binOp .or t (Ag a) (.int .u32 (no_index (OfNat.ofNat n)))=pure (Ag (a|||(BitVec.ofNat 32 n))):=by rw[DW n h,Uj]
@[go_sem] theorem ZjS(a:BitVec 32)(n:Nat)(h:n<4294967296):binOp .or t (.int .u32 (no_index (OfNat.ofNat n))) (Ag a)=pure (Ag ((BitVec.ofNat 32 n)|||a)):=by rw[DW n h,Uj]
@[go_sem] theorem Zi6(a:BitVec 32)(n:Nat)(h:n<4294967296):binOp .xor t (Ag a) (.int .u32 (no_index (OfNat.ofNat n)))=pure (Ag (a^^^(BitVec.ofNat 32 n))):=by rw[DW n h,RX]
@[go_sem] theorem Zi7(a:BitVec 32)(n:Nat)(h:n<4294967296):binOp .xor t (.int .u32 (no_index (OfNat.ofNat n))) (Ag a)=pure (Ag ((BitVec.ofNat 32 n)^^^a)):=by rw[DW n h,RX]
@[go_sem] theorem Zkq(a:BitVec 32)(n:Nat)(h:n<4294967296):binOp .eql t (Ag a) (.int .u32 (no_index (OfNat.ofNat n)))=pure (.bool (Hq a (BitVec.ofNat 32 n))):=by rw[DW n h,WK]
@[go_sem] theorem Zkr(a:BitVec 32)(n:Nat)(h:n<4294967296):binOp .eql t (.int .u32 (no_index (OfNat.ofNat n))) (Ag a)=pure (.bool (Hq (BitVec.ofNat 32 n) a)):=by rw[DW n h,WK]
@[go_sem] theorem ZjZ(a:BitVec 32)(n:Nat)(h:n<4294967296):binOp .neq t (Ag a) (.int .u32 (no_index (OfNat.ofNat n)))=pure (.bool (!Hq a (BitVec.ofNat 32 n))):=by rw[DW n h,Uz]
@[go_sem] theorem Zj0(a:BitVec 32)(n:Nat)(h:n<4294967296):binOp .neq t (.int .u32 (no_index (OfNat.ofNat n))) (Ag a)=pure (.bool (!Hq (BitVec.ofNat 32 n) a)):=by rw[DW n h,Uz]
@[go_sem] theorem Zkf(op:BinOp)(x y:Operand)(a:BitVec 32)(v:Value):eqGuard op t x y (Ag a) v=pure ():=by cases op<;>cases v<;>rfl
@[go_sem] theorem ZkU(a:BitVec 64)(n:Nat)(h:n<18446744073709551616):binOp .add t (Aq a) (.int .u64 (no_index (OfNat.ofNat n)))=pure (Aq (a+(BitVec.ofNat 64 n))):=by rw[Es n h,YK]
@[go_sem] theorem ZkV(a:BitVec 64)(n:Nat)(h:n<18446744073709551616):binOp .add t (.int .u64 (no_index (OfNat.ofNat n))) (Aq a)=pure (Aq ((BitVec.ofNat 64 n)+a)):=by rw[Es n h,YK]
@[go_sem] theorem Zje(a:BitVec 64)(n:Nat)(h:n<18446744073709551616):binOp .sub t (Aq a) (.int .u64 (no_index (OfNat.ofNat n)))=pure (Aq (a-(BitVec.ofNat 64 n))):=by rw[Es n h,SO]
@[go_sem] theorem Zjf(a:BitVec 64)(n:Nat)(h:n<18446744073709551616):binOp .sub t (.int .u64 (no_index (OfNat.ofNat n))) (Aq a)=pure (Aq ((BitVec.ofNat 64 n)-a)):=by rw[Es n h,SO]
@[go_sem] theorem Zj3(a:BitVec 64)(n:Nat)(h:n<18446744073709551616):binOp .mul t (Aq a) (.int .u64 (no_index (OfNat.ofNat n)))=pure (Aq (a*(BitVec.ofNat 64 n))):=by rw[Es n h,UI]
@[go_sem] theorem Zj4(a:BitVec 64)(n:Nat)(h:n<18446744073709551616):binOp .mul t (.int .u64 (no_index (OfNat.ofNat n))) (Aq a)=pure (Aq ((BitVec.ofNat 64 n)*a)):=by rw[Es n h,UI]
@[go_sem] theorem ZkO(a:BitVec 64)(n:Nat)(h:n<18446744073709551616):binOp .and t (Aq a) (.int .u64 (no_index (OfNat.ofNat n)))=pure (Aq (a&&&(BitVec.ofNat 64 n))):=by rw[Es n h,Yw]
@[go_sem] theorem ZkP(a:BitVec 64)(n:Nat)(h:n<18446744073709551616):binOp .and t (.int .u64 (no_index (OfNat.ofNat n))) (Aq a)=pure (Aq ((BitVec.ofNat 64 n)&&&a)):=by rw[Es n h,Yw]
@[go_sem] theorem ZjP(a:BitVec 64)(n:Nat)(h:n<18446744073709551616):binOp .or t (Aq a) (.int .u64 (no_index (OfNat.ofNat n)))=pure (Aq (a|||(BitVec.ofNat 64 n))):=by rw[Es n h,Ui]
@[go_sem] theorem ZjQ(a:BitVec 64)(n:Nat)(h:n<18446744073709551616):binOp .or t (.int .u64 (no_index (OfNat.ofNat n))) (Aq a)=pure (Aq ((BitVec.ofNat 64 n)|||a)):=by rw[Es n h,Ui]
@[go_sem] theorem Zi4(a:BitVec 64)(n:Nat)(h:n<18446744073709551616):binOp .xor t (Aq a) (.int .u64 (no_index (OfNat.ofNat n)))=pure (Aq (a^^^(BitVec.ofNat 64 n))):=by rw[Es n h,RV]
@[go_sem] theorem Zi5(a:BitVec 64)(n:Nat)(h:n<18446744073709551616):binOp .xor t (.int .u64 (no_index (OfNat.ofNat n))) (Aq a)=pure (Aq ((BitVec.ofNat 64 n)^^^a)):=by rw[Es n h,RV]
@[go_sem] theorem Zko(a:BitVec 64)(n:Nat)(h:n<18446744073709551616):binOp .eql t (Aq a) (.int .u64 (no_index (OfNat.ofNat n)))=pure (.bool (Io a (BitVec.ofNat 64 n))):=by rw[Es n h,WJ]
@[go_sem] theorem Zkp(a:BitVec 64)(n:Nat)(h:n<18446744073709551616):binOp .eql t (.int .u64 (no_index (OfNat.ofNat n))) (Aq a)=pure (.bool (Io (BitVec.ofNat 64 n) a)):=by rw[Es n h,WJ]
@[go_sem] theorem ZjX(a:BitVec 64)(n:Nat)(h:n<18446744073709551616):binOp .neq t (Aq a) (.int .u64 (no_index (OfNat.ofNat n)))=pure (.bool (!Io a (BitVec.ofNat 64 n))):=by rw[Es n h,Uy]
@[go_sem] theorem ZjY(a:BitVec 64)(n:Nat)(h:n<18446744073709551616):binOp .neq t (.int .u64 (no_index (OfNat.ofNat n))) (Aq a)=pure (.bool (!Io (BitVec.ofNat 64 n) a)):=by rw[Es n h,Uy]
@[go_sem] theorem Zke(op:BinOp)(x y:Operand)(a:BitVec 64)(v:Value):eqGuard op t x y (Aq a) v=pure ():=by cases op<;>cases v<;>rfl
@[go_sem] theorem Zjj(a:UInt8)(n:Nat):binOp .shr t (w8 a) (.int .u64 (no_index (OfNat.ofNat n)))=pure (w8 (Gd a n)):=Nr a .u64 _ (Int.natCast_nonneg n)
@[go_sem] theorem Zjk(a:UInt8)(n:Nat):binOp .shr t (w8 a) (.int .i64 (no_index (OfNat.ofNat n)))=pure (w8 (Gd a n)):=Nr a .i64 _ (Int.natCast_nonneg n)
@[go_sem] theorem Zjv(a:UInt8)(n:Nat):binOp .shl t (w8 a) (.int .u64 (no_index (OfNat.ofNat n)))=pure (w8 (J2 a n)):=Nw a .u64 _ (Int.natCast_nonneg n)
@[go_sem] theorem Zjw(a:UInt8)(n:Nat):binOp .shl t (w8 a) (.int .i64 (no_index (OfNat.ofNat n)))=pure (w8 (J2 a n)):=Nw a .i64 _ (Int.natCast_nonneg n)
@[go_sem] theorem Zjr(a:BitVec 32)(n:Nat):binOp .shr t (Ag a) (.int .u64 (no_index (OfNat.ofNat n)))=pure (Ag (a>>>n)):=Nt a .u64 _ (Int.natCast_nonneg n)
@[go_sem] theorem Zjs(a:BitVec 32)(n:Nat):binOp .shr t (Ag a) (.int .i64 (no_index (OfNat.ofNat n)))=pure (Ag (a>>>n)):=Nt a .i64 _ (Int.natCast_nonneg n)
@[go_sem] theorem ZjD(a:BitVec 32)(n:Nat):binOp .shl t (Ag a) (.int .u64 (no_index (OfNat.ofNat n)))=pure (Ag (a<<<n)):=Ny a .u64 _ (Int.natCast_nonneg n)
@[go_sem] theorem ZjE(a:BitVec 32)(n:Nat):binOp .shl t (Ag a) (.int .i64 (no_index (OfNat.ofNat n)))=pure (Ag (a<<<n)):=Ny a .i64 _ (Int.natCast_nonneg n)
@[go_sem] theorem Zjn(a:BitVec 64)(n:Nat):binOp .shr t (Aq a) (.int .u64 (no_index (OfNat.ofNat n)))=pure (Aq (a>>>n)):=Ns a .u64 _ (Int.natCast_nonneg n)
@[go_sem] theorem Zjo(a:BitVec 64)(n:Nat):binOp .shr t (Aq a) (.int .i64 (no_index (OfNat.ofNat n)))=pure (Aq (a>>>n)):=Ns a .i64 _ (Int.natCast_nonneg n)
@[go_sem] theorem Zjz(a:BitVec 64)(n:Nat):binOp .shl t (Aq a) (.int .u64 (no_index (OfNat.ofNat n)))=pure (Aq (a<<<n)):=Nx a .u64 _ (Int.natCast_nonneg n)
@[go_sem] theorem ZjA(a:BitVec 64)(n:Nat):binOp .shl t (Aq a) (.int .i64 (no_index (OfNat.ofNat n)))=pure (Aq (a<<<n)):=Nx a .i64 _ (Int.natCast_nonneg n)
@[go_sem] theorem ZjL(a:UInt8)(n:Nat)(h:n<256)(h0:0<n):binOp .quo t (w8 a) (.int .u8 (no_index (OfNat.ofNat n)))=pure (w8 (a / (UInt8.ofNat n))):=by
 rw[Ci n h,ZcM];rw[UInt8.toNat_ofNat',Nat.mod_eq_of_lt h];omega
@[go_sem] theorem ZjJ(a:UInt8)(n:Nat)(h:n<256)(h0:0<n):binOp .rem t (w8 a) (.int .u8 (no_index (OfNat.ofNat n)))=pure (w8 (a % (UInt8.ofNat n))):=by
 rw[Ci n h,Zct];rw[UInt8.toNat_ofNat',Nat.mod_eq_of_lt h];omega
@[go_sem] theorem Zi9(n:Int):Value.int .u64 (IntKind.u64.wrap n)=Aq (BitVec.ofInt 64 n):=by
 unfold Aq;rw[IntKind.wrap_u64,BitVec.toNat_ofInt];congr 1;omega
@[go_sem] theorem Zja(n:Int):Value.int .u32 (IntKind.u32.wrap n)=Ag (BitVec.ofInt 32 n):=by
 unfold Ag;rw[IntKind.wrap_u32',BitVec.toNat_ofInt];congr 1;omega
@[go_sem] theorem Zi8(n:Int):Value.int .u8 (IntKind.u8.wrap n)=w8 (UInt8.ofInt n):=by
 unfold w8;rw[IntKind.wrap_u8'];congr 1;have h:((UInt8.ofInt n).toNat:Int)=n % 256:=by
  show(((UInt8.ofNat (n % 2^8).toNat).toNat:Nat):Int)=_
  rw[UInt8.toNat_ofNat'];omega
 omega
variable (src dst:TypeId)
theorem conv(k:IntKind)(v:Value)(n:Int)(hv:v=.int k n)(kd:IntKind)(hs:(P.underlying src).isSome=true)(hd:P.underlying dst=some (.int kd)):
  (convert src dst v).run P w=.ok (.int kd (kd.wrap n)) w:=by
 have hk:P.intKind dst=kd:=by
  unfold Program.intKind;rw[hd]
 subst hv;rw[run_convert_int w src dst k n hs (by rw[hk,hd]),hk]
@[go_sem] theorem Zkz(b:UInt8)(hs:(P.underlying src).isSome=true)(hd:P.underlying dst=some (.int .u32)):(convert src dst (w8 b)).run P w=.ok (Ag (bw b)) w:=by
 rw[conv w src dst .u8 (w8 b) (b.toNat:Int) rfl .u32 hs hd,R9]
 unfold Ag bw;rw[BitVec.toNat_ofNat,BitVec.toNat_setWidth];rfl
@[go_sem] theorem Zky(b:UInt8)(hs:(P.underlying src).isSome=true)(hd:P.underlying dst=some (.int .u64)):(convert src dst (w8 b)).run P w=.ok (Aq (bq b)) w:=by
 rw[conv w src dst .u8 (w8 b) (b.toNat:Int) rfl .u64 hs hd,R8]
 unfold Aq bq;rw[BitVec.toNat_ofNat,BitVec.toNat_setWidth];rfl
@[go_sem] theorem Zkx(b:UInt8)(hs:(P.underlying src).isSome=true)(hd:P.underlying dst=some (.int .i64)):(convert src dst (w8 b)).run P w=.ok (.int .i64 (b.toNat:Int)) w:=by
 have :=b.toNat_lt;rw[conv w src dst .u8 (w8 b) (b.toNat:Int) rfl .i64 hs hd,IntKind.wrap_i64]
 have e:((b.toNat:Int)+9223372036854775808) % 18446744073709551616-9223372036854775808=b.toNat:=by omega
 rw[e]
@[go_sem] theorem ZkC(x:BitVec 32)(hs:(P.underlying src).isSome=true)(hd:P.underlying dst=some (.int .u8)):(convert src dst (Ag x)).run P w=.ok (w8 (wb x)) w:=by
 rw[conv w src dst .u32 (Ag x) (x.toNat:Int) rfl .u8 hs hd,O3]
 congr 2
@[go_sem] theorem ZkB(x:BitVec 64)(hs:(P.underlying src).isSome=true)(hd:P.underlying dst=some (.int .u8)):(convert src dst (Aq x)).run P w=.ok (w8 (qb x)) w:=by
 rw[conv w src dst .u64 (Aq x) (x.toNat:Int) rfl .u8 hs hd,O3]
 congr 2
@[go_sem] theorem Zku(n:Int)(hs:(P.underlying src).isSome=true)(hd:P.underlying dst=some (.int .u8)):(convert src dst (.int .i64 n)).run P w=.ok (w8 (UInt8.ofInt n)) w:=by
 rw[conv w src dst .i64 _ _ rfl .u8 hs hd,IntKind.wrap_u8']
 congr 2
 have h:((UInt8.ofInt n).toNat:Int)=n % 256:=by
  show(((UInt8.ofNat (n % 2^8).toNat).toNat:Nat):Int)=_
  rw[UInt8.toNat_ofNat'];omega
 omega
@[go_sem] theorem Zkv(n:Int)(hs:(P.underlying src).isSome=true)(hd:P.underlying dst=some (.int .u64)):(convert src dst (.int .i64 n)).run P w=.ok (Aq (BitVec.ofInt 64 n)) w:=by
 rw[conv w src dst .i64 _ _ rfl .u64 hs hd,IntKind.wrap_u64]
 congr 2
 rw[BitVec.toNat_ofInt];omega
@[go_sem] theorem ZkA(x:BitVec 64)(hs:(P.underlying src).isSome=true)(hd:P.underlying dst=some (.int .i64)):(convert src dst (Aq x)).run P w=.ok (.int .i64 (Qy x)) w:=by
 rw[conv w src dst .u64 (Aq x) (x.toNat:Int) rfl .i64 hs hd,IntKind.wrap_i64]
 have :=x.isLt;have e:((x.toNat:Int)+9223372036854775808) % 18446744073709551616-9223372036854775808=x.toInt:=by
  rw[BitVec.toInt_eq_toNat_cond];split<;>omega
 rw[e];rfl
end
end
end
end Go.Proofs.YtipfggegddlgdaaGreatDoor
