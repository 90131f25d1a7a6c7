import Derived.WalkKit
set_option linter.unusedSectionVars false
set_option linter.unusedVariables false
set_option linter.unusedSimpArgs false
namespace Go.Proofs.YtchpmmjmimaigaaGreatDoor
section
section
open Go
structure Veil(p:Prop):Prop where
 out:p
def w8(b:UInt8):Value:=.int .u8 (b.toNat:Int)
def Ag(x:BitVec 32):Value:=.int .u32 (x.toNat:Int)
def Av(x:BitVec 64):Value:=.int .u64 (x.toNat:Int)
@[go_sem] theorem v8(b:UInt8):Value.int .u8 (b.toNat:Int)=w8 b:=rfl
@[go_sem] theorem v32(x:BitVec 32):Value.int .u32 (x.toNat:Int)=Ag x:=rfl
@[go_sem] theorem v64(x:BitVec 64):Value.int .u64 (x.toNat:Int)=Av x:=rfl
def bw(b:UInt8):BitVec 32:=b.toBitVec.setWidth 32
def bq(b:UInt8):BitVec 64:=b.toBitVec.setWidth 64
def wb(x:BitVec 32):UInt8:=UInt8.ofBitVec (x.setWidth 8)
def Sw(x:BitVec 64):Int:=x.toInt
def qb(x:BitVec 64):UInt8:=UInt8.ofBitVec (x.setWidth 8)
def Io(a b:BitVec 32):Bool:=decide (a=b)
def Ji(a b:BitVec 64):Bool:=decide (a=b)
def Jh(a b:UInt8):Bool:=decide (a=b)
def Gf(a b:UInt8):Bool:=decide (a.toNat≤b.toNat)
def I7(a b:UInt8):Bool:=decide (a.toNat<b.toNat)
section
variable {P:Program} (t:TypeId) (w:World)
@[go_sem] theorem ZlU(a:Addr)(m:Mode)(b:UInt8):(store a (w8 b) m).run P w=stored P w a (w8 b) m:=run_store P w a _ m rfl
@[go_sem] theorem ZlW(a:Addr)(m:Mode)(b:BitVec 32):(store a (Ag b) m).run P w=stored P w a (Ag b) m:=run_store P w a _ m rfl
@[go_sem] theorem ZlV(a:Addr)(m:Mode)(b:BitVec 64):(store a (Av b) m).run P w=stored P w a (Av b) m:=run_store P w a _ m rfl
@[go_sem] theorem ZmZ(b:UInt8):(w8 b).cells = #[w8 b]:=rfl
@[go_sem] theorem Zm1(b:BitVec 32):(Ag b).cells = #[Ag b]:=rfl
@[go_sem] theorem Zm0(b:BitVec 64):(Av b).cells = #[Av b]:=rfl
@[go_sem] theorem ZmW(b:UInt8)(f:Array Value→Array Value)(g:Value→Array Value):Value.cells.match_1 (fun _=>Array Value) (w8 b) f g=g (w8 b):=rfl
@[go_sem] theorem ZmY(b:BitVec 32)(f:Array Value→Array Value)(g:Value→Array Value):Value.cells.match_1 (fun _=>Array Value) (Ag b) f g=g (Ag b):=rfl
@[go_sem] theorem ZmX(b:BitVec 64)(f:Array Value→Array Value)(g:Value→Array Value):Value.cells.match_1 (fun _=>Array Value) (Av b) f g=g (Av b):=rfl
theorem Uh(n:Nat):IntKind.u32.wrap (n:Int)=((BitVec.ofNat 32 n).toNat:Int):=by
 rw[IntKind.wrap_u32',BitVec.toNat_ofNat];omega
theorem Ug(n:Nat):IntKind.u64.wrap (n:Int)=((BitVec.ofNat 64 n).toNat:Int):=by
 rw[IntKind.wrap_u64,BitVec.toNat_ofNat];omega
theorem Qh(n:Nat):IntKind.u8.wrap (n:Int)=((UInt8.ofNat n).toNat:Int):=by
 rw[IntKind.wrap_u8',UInt8.toNat_ofNat'];omega
@[go_sem] theorem ZaG(a b:BitVec 32):binOp .add t (Ag a) (Ag b)=pure (Ag (a+b)):=by
 show binOp .add t (.int .u32 _) (.int .u32 _)=_
 rw[binOp_add];show pure (Value.int .u32 (IntKind.u32.wrap ((a.toNat:Int)+(b.toNat:Int))))=_
 rw[←Int.natCast_add,Uh];congr 2
@[go_sem] theorem Zaq(a b:BitVec 32):binOp .and t (Ag a) (Ag b)=pure (Ag (a&&&b)):=by
 show binOp .and t (.int .u32 _) (.int .u32 _)=_
 rw[binOp_and,intBits_and,u32_and_nat _ _ a.isLt b.isLt,←BitVec.toNat_and];rfl
@[go_sem] theorem Wo(a b:BitVec 32):binOp .or t (Ag a) (Ag b)=pure (Ag (a|||b)):=by
 show binOp .or t (.int .u32 _) (.int .u32 _)=_
 rw[binOp_or,intBits_or,u32_or_nat _ _ a.isLt b.isLt,←BitVec.toNat_or];rfl
@[go_sem] theorem T7(a b:BitVec 32):binOp .xor t (Ag a) (Ag b)=pure (Ag (a^^^b)):=by
 show binOp .xor t (.int .u32 _) (.int .u32 _)=_
 rw[binOp_xor,intBits_xor,u32_xor_nat _ _ a.isLt b.isLt,←BitVec.toNat_xor];rfl
theorem Ed(n:Nat)(h:n<4294967296):Value.int .u32 (OfNat.ofNat n)=Ag (BitVec.ofNat 32 n):=by
 unfold Ag;rw[BitVec.toNat_ofNat,Nat.mod_eq_of_lt h];rfl
theorem EN(n:Nat)(h:n<18446744073709551616):Value.int .u64 (OfNat.ofNat n)=Av (BitVec.ofNat 64 n):=by
 unfold Av;rw[BitVec.toNat_ofNat,Nat.mod_eq_of_lt h];rfl
theorem Cx(n:Nat)(h:n<256):Value.int .u8 (OfNat.ofNat n)=w8 (UInt8.ofNat n):=by
 unfold w8;rw[UInt8.toNat_ofNat',Nat.mod_eq_of_lt h];rfl
@[go_sem] theorem Zl8(a:BitVec 32):Op.unary .xor (Ag a)=pure (Ag (~~~ a)):=by
 show pure (Value.int .u32 (Go.bits .xor .u32 IntKind.u32.max (a.toNat:Int)))=_
 rw[show IntKind.u32.max=(((0xffffffff#32).toNat:Nat):Int)from rfl,u32_xor_nat _ _ (BitVec.isLt _) a.isLt,←BitVec.toNat_xor]
 unfold Ag;congr 2
@[go_sem] theorem US(a b:BitVec 32):binOp .sub t (Ag a) (Ag b)=pure (Ag (a-b)):=by
 show binOp .sub t (.int .u32 _) (.int .u32 _)=_
 rw[binOp_sub];show pure (Value.int .u32 (IntKind.u32.wrap ((a.toNat:Int)-(b.toNat:Int))))=_
 unfold Ag;rw[IntKind.wrap_u32',BitVec.toNat_sub];congr 2
 have :=a.isLt;have :=b.isLt;omega
@[go_sem] theorem WV(a b:BitVec 32):binOp .mul t (Ag a) (Ag b)=pure (Ag (a*b)):=by
 show binOp .mul t (.int .u32 _) (.int .u32 _)=_
 rw[binOp_mul];show pure (Value.int .u32 (IntKind.u32.wrap ((a.toNat:Int)*(b.toNat:Int))))=_
 unfold Ag;rw[IntKind.wrap_u32',BitVec.toNat_mul];congr 2
theorem RV(x y k:Nat)(hx:x<2^k):x / 2^min y k=x / 2^y:=by
 by_cases h:y≤k
 ·rw[Nat.min_eq_left h]
 ·have hk:k≤y:=by omega
  rw[Nat.min_eq_right hk,Nat.div_eq_of_lt hx,Nat.div_eq_of_lt (Nat.lt_of_lt_of_le hx (Nat.pow_le_pow_right (by omega) hk))]
theorem RX(x y k:Nat):x*2^min y k % 2^k=x*2^y % 2^k:=by
 by_cases h:y≤k
 ·rw[Nat.min_eq_left h]
 ·have hk:k≤y:=by omega
  rw[Nat.min_eq_right hk,Nat.mul_mod_left];obtain⟨d,rfl⟩:=Nat.exists_eq_add_of_le hk;rw[Nat.pow_add,Nat.mul_left_comm,Nat.mul_mod_right]
theorem Oy(x:BitVec 32)(yk:IntKind)(y:Int)(h:0≤y):Op.shift .shr .u32 (x.toNat:Int) yk y=pure (Ag (x>>>y.toNat)):=by
 rw[shift_shr_any _ _ _ _ h];unfold Ag;rw[BitVec.toNat_ushiftRight,Nat.shiftRight_eq_div_pow,←RV _ _ 32 x.isLt];simp[IntKind.bits]
theorem OC(x:BitVec 32)(yk:IntKind)(y:Int)(h:0≤y):Op.shift .shl .u32 (x.toNat:Int) yk y=pure (Ag (x<<<y.toNat)):=by
 rw[shift_shl_any _ _ _ _ h];unfold Ag;rw[IntKind.wrap_u32',BitVec.toNat_shiftLeft,Nat.shiftLeft_eq,←RX];simp[IntKind.bits]
@[go_sem] theorem ZlH(x:BitVec 32)(y:BitVec 64):binOp .shr t (Ag x) (Av y)=pure (Ag (x>>>y.toNat)):=Oy x .u64 _ (by omega)
@[go_sem] theorem ZlT(x:BitVec 32)(y:BitVec 64):binOp .shl t (Ag x) (Av y)=pure (Ag (x<<<y.toNat)):=OC x .u64 _ (by omega)
@[go_sem] theorem ZlE(x:BitVec 32)(y:Int)(h:0≤y):binOp .shr t (Ag x) (.int .i64 y)=pure (Ag (x>>>y.toNat)):=Oy x .i64 _ h
@[go_sem] theorem ZlQ(x:BitVec 32)(y:Int)(h:0≤y):binOp .shl t (Ag x) (.int .i64 y)=pure (Ag (x<<<y.toNat)):=OC x .i64 _ h
@[go_sem] theorem Yv(a b:BitVec 32):binOp .eql t (Ag a) (Ag b)=pure (.bool (Io a b)):=by
 show binOp .eql t (.int .u32 _) (.int .u32 _)=_
 rw[binOp_eql];congr 2
 rw[Bool.eq_iff_iff];simp[Io,BitVec.toNat_eq];omega
@[go_sem] theorem WK(a b:BitVec 32):binOp .neq t (Ag a) (Ag b)=pure (.bool (!Io a b)):=by
 show binOp .neq t (.int .u32 _) (.int .u32 _)=_
 rw[binOp_neq];congr 2
 rw[Bool.eq_iff_iff];simp[Io,BitVec.toNat_eq];omega
@[go_sem] theorem ZaF(a b:BitVec 64):binOp .add t (Av a) (Av b)=pure (Av (a+b)):=by
 show binOp .add t (.int .u64 _) (.int .u64 _)=_
 rw[binOp_add];show pure (Value.int .u64 (IntKind.u64.wrap ((a.toNat:Int)+(b.toNat:Int))))=_
 rw[←Int.natCast_add,Ug];congr 2
@[go_sem] theorem UR(a b:BitVec 64):binOp .sub t (Av a) (Av b)=pure (Av (a-b)):=by
 show binOp .sub t (.int .u64 _) (.int .u64 _)=_
 rw[binOp_sub];show pure (Value.int .u64 (IntKind.u64.wrap ((a.toNat:Int)-(b.toNat:Int))))=_
 unfold Av;rw[IntKind.wrap_u64,BitVec.toNat_sub];congr 2
 have :=a.isLt;have :=b.isLt;omega
@[go_sem] theorem WU(a b:BitVec 64):binOp .mul t (Av a) (Av b)=pure (Av (a*b)):=by
 show binOp .mul t (.int .u64 _) (.int .u64 _)=_
 rw[binOp_mul];show pure (Value.int .u64 (IntKind.u64.wrap ((a.toNat:Int)*(b.toNat:Int))))=_
 unfold Av;rw[IntKind.wrap_u64,BitVec.toNat_mul];congr 2
@[go_sem] theorem Zap(a b:BitVec 64):binOp .and t (Av a) (Av b)=pure (Av (a&&&b)):=by
 show binOp .and t (.int .u64 _) (.int .u64 _)=_
 rw[binOp_and,intBits_and,u64_and_nat _ _ a.isLt b.isLt,←BitVec.toNat_and];rfl
@[go_sem] theorem Wn(a b:BitVec 64):binOp .or t (Av a) (Av b)=pure (Av (a|||b)):=by
 show binOp .or t (.int .u64 _) (.int .u64 _)=_
 rw[binOp_or,intBits_or,u64_or_nat _ _ a.isLt b.isLt,←BitVec.toNat_or];rfl
@[go_sem] theorem T6(a b:BitVec 64):binOp .xor t (Av a) (Av b)=pure (Av (a^^^b)):=by
 show binOp .xor t (.int .u64 _) (.int .u64 _)=_
 rw[binOp_xor,intBits_xor,u64_xor_nat _ _ a.isLt b.isLt,←BitVec.toNat_xor];rfl
theorem Ox(x:BitVec 64)(yk:IntKind)(y:Int)(h:0≤y):Op.shift .shr .u64 (x.toNat:Int) yk y=pure (Av (x>>>y.toNat)):=by
 rw[shift_shr_any _ _ _ _ h];unfold Av;rw[BitVec.toNat_ushiftRight,Nat.shiftRight_eq_div_pow,←RV _ _ 64 x.isLt];simp[IntKind.bits]
theorem OB(x:BitVec 64)(yk:IntKind)(y:Int)(h:0≤y):Op.shift .shl .u64 (x.toNat:Int) yk y=pure (Av (x<<<y.toNat)):=by
 rw[shift_shl_any _ _ _ _ h];unfold Av;rw[IntKind.wrap_u64,BitVec.toNat_shiftLeft,Nat.shiftLeft_eq,←RX];simp[IntKind.bits]
@[go_sem] theorem ZlD(x y:BitVec 64):binOp .shr t (Av x) (Av y)=pure (Av (x>>>y.toNat)):=Ox x .u64 _ (by omega)
@[go_sem] theorem ZlP(x y:BitVec 64):binOp .shl t (Av x) (Av y)=pure (Av (x<<<y.toNat)):=OB x .u64 _ (by omega)
@[go_sem] theorem ZlA(x:BitVec 64)(y:Int)(h:0≤y):binOp .shr t (Av x) (.int .i64 y)=pure (Av (x>>>y.toNat)):=Ox x .i64 _ h
@[go_sem] theorem ZlM(x:BitVec 64)(y:Int)(h:0≤y):binOp .shl t (Av x) (.int .i64 y)=pure (Av (x<<<y.toNat)):=OB x .i64 _ h
@[go_sem] theorem Yu(a b:BitVec 64):binOp .eql t (Av a) (Av b)=pure (.bool (Ji a b)):=by
 show binOp .eql t (.int .u64 _) (.int .u64 _)=_
 rw[binOp_eql];congr 2
 rw[Bool.eq_iff_iff];simp[Ji,BitVec.toNat_eq];omega
@[go_sem] theorem WJ(a b:BitVec 64):binOp .neq t (Av a) (Av b)=pure (.bool (!Ji a b)):=by
 show binOp .neq t (.int .u64 _) (.int .u64 _)=_
 rw[binOp_neq];congr 2
 rw[Bool.eq_iff_iff];simp[Ji,BitVec.toNat_eq];omega
@[go_sem] theorem Yt(a b:UInt8):binOp .eql t (w8 a) (w8 b)=pure (.bool (Jh a b)):=by
 show binOp .eql t (.int .u8 _) (.int .u8 _)=_
 rw[binOp_eql];congr 2
 rw[Bool.eq_iff_iff];simp[Jh,←UInt8.toNat_inj];omega
@[go_sem] theorem WI(a b:UInt8):binOp .neq t (w8 a) (w8 b)=pure (.bool (!Jh a b)):=by
 show binOp .neq t (.int .u8 _) (.int .u8 _)=_
 rw[binOp_neq];congr 2
 rw[Bool.eq_iff_iff];simp[Jh,←UInt8.toNat_inj];omega
@[go_sem] theorem W7(a b:UInt8):binOp .leq t (w8 a) (w8 b)=pure (.bool (Gf a b)):=by
 show binOp .leq t (.int .u8 _) (.int .u8 _)=_
 rw[binOp_leq];congr 2
 rw[Bool.eq_iff_iff];simp[Gf]
@[go_sem] theorem W3(a b:UInt8):binOp .lss t (w8 a) (w8 b)=pure (.bool (I7 a b)):=by
 show binOp .lss t (.int .u8 _) (.int .u8 _)=_
 rw[binOp_lss];congr 2
 rw[Bool.eq_iff_iff];simp[I7]
@[go_sem] theorem XX(a b:UInt8):binOp .geq t (w8 a) (w8 b)=pure (.bool (Gf b a)):=by
 show binOp .geq t (.int .u8 _) (.int .u8 _)=_
 rw[binOp_geq];congr 2
 rw[Bool.eq_iff_iff];simp[Gf]
@[go_sem] theorem XT(a b:UInt8):binOp .gtr t (w8 a) (w8 b)=pure (.bool (I7 b a)):=by
 show binOp .gtr t (.int .u8 _) (.int .u8 _)=_
 rw[binOp_gtr];congr 2
 rw[Bool.eq_iff_iff];simp[I7]
@[go_sem] theorem ZaE(a b:UInt8):binOp .add t (w8 a) (w8 b)=pure (w8 (a+b)):=by
 show binOp .add t (.int .u8 _) (.int .u8 _)=_
 rw[binOp_add];show pure (Value.int .u8 (IntKind.u8.wrap ((a.toNat:Int)+(b.toNat:Int))))=_
 unfold w8;rw[IntKind.wrap_u8',UInt8.toNat_add];congr 2
@[go_sem] theorem UQ(a b:UInt8):binOp .sub t (w8 a) (w8 b)=pure (w8 (a-b)):=by
 show binOp .sub t (.int .u8 _) (.int .u8 _)=_
 rw[binOp_sub];show pure (Value.int .u8 (IntKind.u8.wrap ((a.toNat:Int)-(b.toNat:Int))))=_
 unfold w8;rw[IntKind.wrap_u8',UInt8.toNat_sub];congr 2
 have :=a.toNat_lt;have :=b.toNat_lt;omega
@[go_sem] theorem WS(a b:UInt8):binOp .mul t (w8 a) (w8 b)=pure (w8 (a*b)):=by
 show binOp .mul t (.int .u8 _) (.int .u8 _)=_
 rw[binOp_mul];show pure (Value.int .u8 (IntKind.u8.wrap ((a.toNat:Int)*(b.toNat:Int))))=_
 unfold w8;rw[IntKind.wrap_u8',UInt8.toNat_mul];congr 2
@[go_sem] theorem Zao(a b:UInt8):binOp .and t (w8 a) (w8 b)=pure (w8 (a&&&b)):=by
 show binOp .and t (.int .u8 _) (.int .u8 _)=_
 rw[binOp_and,intBits_and,u8_and_nat _ _ a.toNat_lt b.toNat_lt,←UInt8.toNat_and];rfl
@[go_sem] theorem Wm(a b:UInt8):binOp .or t (w8 a) (w8 b)=pure (w8 (a|||b)):=by
 show binOp .or t (.int .u8 _) (.int .u8 _)=_
 rw[binOp_or,intBits_or,u8_or_nat _ _ a.toNat_lt b.toNat_lt,←UInt8.toNat_or];rfl
@[go_sem] theorem T5(a b:UInt8):binOp .xor t (w8 a) (w8 b)=pure (w8 (a^^^b)):=by
 show binOp .xor t (.int .u8 _) (.int .u8 _)=_
 rw[binOp_xor,intBits_xor,u8_xor_nat _ _ a.toNat_lt b.toNat_lt,←UInt8.toNat_xor];rfl
def GL(x:UInt8)(n:Nat):UInt8:=UInt8.ofNat (x.toNat / 2^n)
def LC(x:UInt8)(n:Nat):UInt8:=UInt8.ofNat (x.toNat*2^n)
theorem Ow(x:UInt8)(yk:IntKind)(y:Int)(h:0≤y):Op.shift .shr .u8 (x.toNat:Int) yk y=pure (w8 (GL x y.toNat)):=by
 rw[shift_shr_any _ _ _ _ h];have hx:=x.toNat_lt;have hd:x.toNat / 2^y.toNat<256:=Nat.lt_of_le_of_lt (Nat.div_le_self _ _) hx;unfold w8 GL;rw[UInt8.toNat_ofNat',Nat.mod_eq_of_lt hd,←RV _ _ 8 hx];simp[IntKind.bits]
theorem OA(x:UInt8)(yk:IntKind)(y:Int)(h:0≤y):Op.shift .shl .u8 (x.toNat:Int) yk y=pure (w8 (LC x y.toNat)):=by
 rw[shift_shl_any _ _ _ _ h];unfold w8 LC;rw[IntKind.wrap_u8',UInt8.toNat_ofNat',←RX];simp[IntKind.bits]
@[go_sem] theorem Zlz(x:UInt8)(y:BitVec 64):binOp .shr t (w8 x) (Av y)=pure (w8 (GL x y.toNat)):=Ow x .u64 _ (by omega)
@[go_sem] theorem ZlL(x:UInt8)(y:BitVec 64):binOp .shl t (w8 x) (Av y)=pure (w8 (LC x y.toNat)):=OA x .u64 _ (by omega)
@[go_sem] theorem Zlw(x:UInt8)(y:Int)(h:0≤y):binOp .shr t (w8 x) (.int .i64 y)=pure (w8 (GL x y.toNat)):=Ow x .i64 _ h
@[go_sem] theorem ZlI(x:UInt8)(y:Int)(h:0≤y):binOp .shl t (w8 x) (.int .i64 y)=pure (w8 (LC x y.toNat)):=OA x .i64 _ h
@[go_sem] theorem Zff(a b:UInt8)(h:b.toNat≠0):binOp .quo t (w8 a) (w8 b)=pure (w8 (a / b)):=by
 show binOp .quo t (.int .u8 _) (.int .u8 _)=_
 rw[binOp_quo];have ha:=a.toNat_lt;have hb:=b.toNat_lt;have hz':¬(b.toNat:Int)=0:=by omega
 unfold w8;rw[UInt8.toNat_div];have hd:a.toNat / b.toNat<256:=Nat.lt_of_le_of_lt (Nat.div_le_self _ _) ha;simp only[Op.intDiv,if_neg hz',IntKind.wrap_u8'];congr 2
 rw[←Int.ofNat_tdiv];generalize a.toNat / b.toNat=q at hd ⊢;omega
@[go_sem] theorem ZeT(a b:UInt8)(h:b.toNat≠0):binOp .rem t (w8 a) (w8 b)=pure (w8 (a % b)):=by
 show binOp .rem t (.int .u8 _) (.int .u8 _)=_
 rw[binOp_rem];have ha:=a.toNat_lt;have hz':¬(b.toNat:Int)=0:=by omega
 unfold w8;rw[UInt8.toNat_mod];have hd:a.toNat % b.toNat<256:=Nat.lt_of_le_of_lt (Nat.mod_le _ _) ha;simp only[Op.intDiv,if_neg hz'];congr 2
@[go_sem] theorem Zna(a:UInt8)(n:Nat)(h:n<256):binOp .add t (w8 a) (.int .u8 (no_index (OfNat.ofNat n)))=pure (w8 (a+(UInt8.ofNat n))):=by rw[Cx n h,ZaE]
@[go_sem] theorem Znb(a:UInt8)(n:Nat)(h:n<256):binOp .add t (.int .u8 (no_index (OfNat.ofNat n))) (w8 a)=pure (w8 ((UInt8.ofNat n)+a)):=by rw[Cx n h,ZaE]
@[go_sem] theorem Zlp(a:UInt8)(n:Nat)(h:n<256):binOp .sub t (w8 a) (.int .u8 (no_index (OfNat.ofNat n)))=pure (w8 (a-(UInt8.ofNat n))):=by rw[Cx n h,UQ]
@[go_sem] theorem Zlq(a:UInt8)(n:Nat)(h:n<256):binOp .sub t (.int .u8 (no_index (OfNat.ofNat n))) (w8 a)=pure (w8 ((UInt8.ofNat n)-a)):=by rw[Cx n h,UQ]
@[go_sem] theorem Zmf(a:UInt8)(n:Nat)(h:n<256):binOp .mul t (w8 a) (.int .u8 (no_index (OfNat.ofNat n)))=pure (w8 (a*(UInt8.ofNat n))):=by rw[Cx n h,WS]
@[go_sem] theorem Zmg(a:UInt8)(n:Nat)(h:n<256):binOp .mul t (.int .u8 (no_index (OfNat.ofNat n))) (w8 a)=pure (w8 ((UInt8.ofNat n)*a)):=by rw[Cx n h,WS]
@[go_sem] theorem Zm4(a:UInt8)(n:Nat)(h:n<256):binOp .and t (w8 a) (.int .u8 (no_index (OfNat.ofNat n)))=pure (w8 (a&&&(UInt8.ofNat n))):=by rw[Cx n h,Zao]
@[go_sem] theorem Zm5(a:UInt8)(n:Nat)(h:n<256):binOp .and t (.int .u8 (no_index (OfNat.ofNat n))) (w8 a)=pure (w8 ((UInt8.ofNat n)&&&a)):=by rw[Cx n h,Zao]
@[go_sem] theorem Zl1(a:UInt8)(n:Nat)(h:n<256):binOp .or t (w8 a) (.int .u8 (no_index (OfNat.ofNat n)))=pure (w8 (a|||(UInt8.ofNat n))):=by rw[Cx n h,Wm]
@[go_sem] theorem Zl2(a:UInt8)(n:Nat)(h:n<256):binOp .or t (.int .u8 (no_index (OfNat.ofNat n))) (w8 a)=pure (w8 ((UInt8.ofNat n)|||a)):=by rw[Cx n h,Wm]
@[go_sem] theorem Zlf(a:UInt8)(n:Nat)(h:n<256):binOp .xor t (w8 a) (.int .u8 (no_index (OfNat.ofNat n)))=pure (w8 (a^^^(UInt8.ofNat n))):=by rw[Cx n h,T5]
@[go_sem] theorem Zlg(a:UInt8)(n:Nat)(h:n<256):binOp .xor t (.int .u8 (no_index (OfNat.ofNat n))) (w8 a)=pure (w8 ((UInt8.ofNat n)^^^a)):=by rw[Cx n h,T5]
@[go_sem] theorem ZmD(a:UInt8)(n:Nat)(h:n<256):binOp .eql t (w8 a) (.int .u8 (no_index (OfNat.ofNat n)))=pure (.bool (Jh a (UInt8.ofNat n))):=by rw[Cx n h,Yt]
@[go_sem] theorem ZmE(a:UInt8)(n:Nat)(h:n<256):binOp .eql t (.int .u8 (no_index (OfNat.ofNat n))) (w8 a)=pure (.bool (Jh (UInt8.ofNat n) a)):=by rw[Cx n h,Yt]
@[go_sem] theorem Zl9(a:UInt8)(n:Nat)(h:n<256):binOp .neq t (w8 a) (.int .u8 (no_index (OfNat.ofNat n)))=pure (.bool (!Jh a (UInt8.ofNat n))):=by rw[Cx n h,WI]
@[go_sem] theorem Zma(a:UInt8)(n:Nat)(h:n<256):binOp .neq t (.int .u8 (no_index (OfNat.ofNat n))) (w8 a)=pure (.bool (!Jh (UInt8.ofNat n) a)):=by rw[Cx n h,WI]
@[go_sem] theorem Zmp(a:UInt8)(n:Nat)(h:n<256):binOp .leq t (w8 a) (.int .u8 (no_index (OfNat.ofNat n)))=pure (.bool (Gf a (UInt8.ofNat n))):=by rw[Cx n h,W7]
@[go_sem] theorem Zmq(a:UInt8)(n:Nat)(h:n<256):binOp .leq t (.int .u8 (no_index (OfNat.ofNat n))) (w8 a)=pure (.bool (Gf (UInt8.ofNat n) a)):=by rw[Cx n h,W7]
@[go_sem] theorem Zmn(a:UInt8)(n:Nat)(h:n<256):binOp .lss t (w8 a) (.int .u8 (no_index (OfNat.ofNat n)))=pure (.bool (I7 a (UInt8.ofNat n))):=by rw[Cx n h,W3]
@[go_sem] theorem Zmo(a:UInt8)(n:Nat)(h:n<256):binOp .lss t (.int .u8 (no_index (OfNat.ofNat n))) (w8 a)=pure (.bool (I7 (UInt8.ofNat n) a)):=by rw[Cx n h,W3]
@[go_sem] theorem Zmy(a:UInt8)(n:Nat)(h:n<256):binOp .geq t (w8 a) (.int .u8 (no_index (OfNat.ofNat n)))=pure (.bool (Gf (UInt8.ofNat n) a)):=by rw[Cx n h,XX]
@[go_sem] theorem Zmz(a:UInt8)(n:Nat)(h:n<256):binOp .geq t (.int .u8 (no_index (OfNat.ofNat n))) (w8 a)=pure (.bool (Gf a (UInt8.ofNat n))):=by rw[Cx n h,XX]
@[go_sem] theorem Zmw(a:UInt8)(n:Nat)(h:n<256):binOp .gtr t (w8 a) (.int .u8 (no_index (OfNat.ofNat n)))=pure (.bool (I7 (UInt8.ofNat n) a)):=by rw[Cx n h,XT]
@[go_sem] theorem Zmx(a:UInt8)(n:Nat)(h:n<256):binOp .gtr t (.int .u8 (no_index (OfNat.ofNat n))) (w8 a)=pure (.bool (I7 a (UInt8.ofNat n))):=by rw[Cx n h,XT]
@[go_sem] theorem Zmt(op:BinOp)(x y:Operand)(a:UInt8)(v:Value):eqGuard op t x y (w8 a) v=pure ():=by cases op<;>cases v<;>rfl
@[go_sem] theorem Zms(op:BinOp)(x y:Operand)(k:IntKind)(n:Int)(v:Value):eqGuard op t x y (.int k n) v=pure ():=by cases op<;>cases v<;>rfl
@[go_sem] theorem Zne(a:BitVec 32)(n:Nat)(h:n<4294967296):binOp .add t (Ag a) (.int .u32 (no_index (OfNat.ofNat n)))=pure (Ag (a+(BitVec.ofNat 32 n))):=by rw[Ed n h,ZaG]
@[go_sem] theorem Znf(a:BitVec 32)(n:Nat)(h:n<4294967296):binOp .add t (.int .u32 (no_index (OfNat.ofNat n))) (Ag a)=pure (Ag ((BitVec.ofNat 32 n)+a)):=by rw[Ed n h,ZaG]
@[go_sem] theorem Zlt(a:BitVec 32)(n:Nat)(h:n<4294967296):binOp .sub t (Ag a) (.int .u32 (no_index (OfNat.ofNat n)))=pure (Ag (a-(BitVec.ofNat 32 n))):=by rw[Ed n h,US]
@[go_sem] theorem Zlu(a:BitVec 32)(n:Nat)(h:n<4294967296):binOp .sub t (.int .u32 (no_index (OfNat.ofNat n))) (Ag a)=pure (Ag ((BitVec.ofNat 32 n)-a)):=by rw[Ed n h,US]
@[go_sem] theorem Zmj(a:BitVec 32)(n:Nat)(h:n<4294967296):binOp .mul t (Ag a) (.int .u32 (no_index (OfNat.ofNat n)))=pure (Ag (a*(BitVec.ofNat 32 n))):=by rw[Ed n h,WV]
@[go_sem] theorem Zmk(a:BitVec 32)(n:Nat)(h:n<4294967296):binOp .mul t (.int .u32 (no_index (OfNat.ofNat n))) (Ag a)=pure (Ag ((BitVec.ofNat 32 n)*a)):=by rw[Ed n h,WV]
@[go_sem] theorem Zm8(a:BitVec 32)(n:Nat)(h:n<4294967296):binOp .and t (Ag a) (.int .u32 (no_index (OfNat.ofNat n)))=pure (Ag (a&&&(BitVec.ofNat 32 n))):=by rw[Ed n h,Zaq]
@[go_sem] theorem Zm9(a:BitVec 32)(n:Nat)(h:n<4294967296):binOp .and t (.int .u32 (no_index (OfNat.ofNat n))) (Ag a)=pure (Ag ((BitVec.ofNat 32 n)&&&a)):=by rw[Ed n h,Zaq]
@[go_sem] theorem Zl5(a:BitVec 32)(n:Nat)(h:n<4294967296):binOp .or t (Ag a) (.int .u32 (no_index (OfNat.ofNat n)))=pure (Ag (a|||(BitVec.ofNat 32 n))):=by rw[Ed n h,Wo]
@[go_sem] theorem Zl6(a:BitVec 32)(n:Nat)(h:n<4294967296):binOp .or t (.int .u32 (no_index (OfNat.ofNat n))) (Ag a)=pure (Ag ((BitVec.ofNat 32 n)|||a)):=by rw[Ed n h,Wo]
@[go_sem] theorem Zlj(a:BitVec 32)(n:Nat)(h:n<4294967296):binOp .xor t (Ag a) (.int .u32 (no_index (OfNat.ofNat n)))=pure (Ag (a^^^(BitVec.ofNat 32 n))):=by rw[Ed n h,T7]
@[go_sem] theorem Zlk(a:BitVec 32)(n:Nat)(h:n<4294967296):binOp .xor t (.int .u32 (no_index (OfNat.ofNat n))) (Ag a)=pure (Ag ((BitVec.ofNat 32 n)^^^a)):=by rw[Ed n h,T7]
@[go_sem] theorem ZmH(a:BitVec 32)(n:Nat)(h:n<4294967296):binOp .eql t (Ag a) (.int .u32 (no_index (OfNat.ofNat n)))=pure (.bool (Io a (BitVec.ofNat 32 n))):=by rw[Ed n h,Yv]
@[go_sem] theorem ZmI(a:BitVec 32)(n:Nat)(h:n<4294967296):binOp .eql t (.int .u32 (no_index (OfNat.ofNat n))) (Ag a)=pure (.bool (Io (BitVec.ofNat 32 n) a)):=by rw[Ed n h,Yv]
@[go_sem] theorem Zmd(a:BitVec 32)(n:Nat)(h:n<4294967296):binOp .neq t (Ag a) (.int .u32 (no_index (OfNat.ofNat n)))=pure (.bool (!Io a (BitVec.ofNat 32 n))):=by rw[Ed n h,WK]
@[go_sem] theorem Zme(a:BitVec 32)(n:Nat)(h:n<4294967296):binOp .neq t (.int .u32 (no_index (OfNat.ofNat n))) (Ag a)=pure (.bool (!Io (BitVec.ofNat 32 n) a)):=by rw[Ed n h,WK]
@[go_sem] theorem Zmv(op:BinOp)(x y:Operand)(a:BitVec 32)(v:Value):eqGuard op t x y (Ag a) v=pure ():=by cases op<;>cases v<;>rfl
@[go_sem] theorem Znc(a:BitVec 64)(n:Nat)(h:n<18446744073709551616):binOp .add t (Av a) (.int .u64 (no_index (OfNat.ofNat n)))=pure (Av (a+(BitVec.ofNat 64 n))):=by rw[EN n h,ZaF]
@[go_sem] theorem Znd(a:BitVec 64)(n:Nat)(h:n<18446744073709551616):binOp .add t (.int .u64 (no_index (OfNat.ofNat n))) (Av a)=pure (Av ((BitVec.ofNat 64 n)+a)):=by rw[EN n h,ZaF]
@[go_sem] theorem Zlr(a:BitVec 64)(n:Nat)(h:n<18446744073709551616):binOp .sub t (Av a) (.int .u64 (no_index (OfNat.ofNat n)))=pure (Av (a-(BitVec.ofNat 64 n))):=by rw[EN n h,UR]
@[go_sem] theorem Zls(a:BitVec 64)(n:Nat)(h:n<18446744073709551616):binOp .sub t (.int .u64 (no_index (OfNat.ofNat n))) (Av a)=pure (Av ((BitVec.ofNat 64 n)-a)):=by rw[EN n h,UR]
@[go_sem] theorem Zmh(a:BitVec 64)(n:Nat)(h:n<18446744073709551616):binOp .mul t (Av a) (.int .u64 (no_index (OfNat.ofNat n)))=pure (Av (a*(BitVec.ofNat 64 n))):=by rw[EN n h,WU]
@[go_sem] theorem Zmi(a:BitVec 64)(n:Nat)(h:n<18446744073709551616):binOp .mul t (.int .u64 (no_index (OfNat.ofNat n))) (Av a)=pure (Av ((BitVec.ofNat 64 n)*a)):=by rw[EN n h,WU]
@[go_sem] theorem Zm6(a:BitVec 64)(n:Nat)(h:n<18446744073709551616):binOp .and t (Av a) (.int .u64 (no_index (OfNat.ofNat n)))=pure (Av (a&&&(BitVec.ofNat 64 n))):=by rw[EN n h,Zap]
@[go_sem] theorem Zm7(a:BitVec 64)(n:Nat)(h:n<18446744073709551616):binOp .and t (.int .u64 (no_index (OfNat.ofNat n))) (Av a)=pure (Av ((BitVec.ofNat 64 n)&&&a)):=by rw[EN n h,Zap]
@[go_sem] theorem Zl3(a:BitVec 64)(n:Nat)(h:n<18446744073709551616):binOp .or t (Av a) (.int .u64 (no_index (OfNat.ofNat n)))=pure (Av (a|||(BitVec.ofNat 64 n))):=by rw[EN n h,Wn]
@[go_sem] theorem Zl4(a:BitVec 64)(n:Nat)(h:n<18446744073709551616):binOp .or t (.int .u64 (no_index (OfNat.ofNat n))) (Av a)=pure (Av ((BitVec.ofNat 64 n)|||a)):=by rw[EN n h,Wn]
@[go_sem] theorem Zlh(a:BitVec 64)(n:Nat)(h:n<18446744073709551616):binOp .xor t (Av a) (.int .u64 (no_index (OfNat.ofNat n)))=pure (Av (a^^^(BitVec.ofNat 64 n))):=by rw[EN n h,T6]
@[go_sem] theorem Zli(a:BitVec 64)(n:Nat)(h:n<18446744073709551616):binOp .xor t (.int .u64 (no_index (OfNat.ofNat n))) (Av a)=pure (Av ((BitVec.ofNat 64 n)^^^a)):=by rw[EN n h,T6]
@[go_sem] theorem ZmF(a:BitVec 64)(n:Nat)(h:n<18446744073709551616):binOp .eql t (Av a) (.int .u64 (no_index (OfNat.ofNat n)))=pure (.bool (Ji a (BitVec.ofNat 64 n))):=by rw[EN n h,Yu]
@[go_sem] theorem ZmG(a:BitVec 64)(n:Nat)(h:n<18446744073709551616):binOp .eql t (.int .u64 (no_index (OfNat.ofNat n))) (Av a)=pure (.bool (Ji (BitVec.ofNat 64 n) a)):=by rw[EN n h,Yu]
@[go_sem] theorem Zmb(a:BitVec 64)(n:Nat)(h:n<18446744073709551616):binOp .neq t (Av a) (.int .u64 (no_index (OfNat.ofNat n)))=pure (.bool (!Ji a (BitVec.ofNat 64 n))):=by rw[EN n h,WJ]
@[go_sem] theorem Zmc(a:BitVec 64)(n:Nat)(h:n<18446744073709551616):binOp .neq t (.int .u64 (no_index (OfNat.ofNat n))) (Av a)=pure (.bool (!Ji (BitVec.ofNat 64 n) a)):=by rw[EN n h,WJ]
@[go_sem] theorem Zmu(op:BinOp)(x y:Operand)(a:BitVec 64)(v:Value):eqGuard op t x y (Av a) v=pure ():=by cases op<;>cases v<;>rfl
@[go_sem] theorem Zlx(a:UInt8)(n:Nat):binOp .shr t (w8 a) (.int .u64 (no_index (OfNat.ofNat n)))=pure (w8 (GL a n)):=Ow a .u64 _ (Int.natCast_nonneg n)
@[go_sem] theorem Zly(a:UInt8)(n:Nat):binOp .shr t (w8 a) (.int .i64 (no_index (OfNat.ofNat n)))=pure (w8 (GL a n)):=Ow a .i64 _ (Int.natCast_nonneg n)
@[go_sem] theorem ZlJ(a:UInt8)(n:Nat):binOp .shl t (w8 a) (.int .u64 (no_index (OfNat.ofNat n)))=pure (w8 (LC a n)):=OA a .u64 _ (Int.natCast_nonneg n)
@[go_sem] theorem ZlK(a:UInt8)(n:Nat):binOp .shl t (w8 a) (.int .i64 (no_index (OfNat.ofNat n)))=pure (w8 (LC a n)):=OA a .i64 _ (Int.natCast_nonneg n)
@[go_sem] theorem ZlF(a:BitVec 32)(n:Nat):binOp .shr t (Ag a) (.int .u64 (no_index (OfNat.ofNat n)))=pure (Ag (a>>>n)):=Oy a .u64 _ (Int.natCast_nonneg n)
@[go_sem] theorem ZlG(a:BitVec 32)(n:Nat):binOp .shr t (Ag a) (.int .i64 (no_index (OfNat.ofNat n)))=pure (Ag (a>>>n)):=Oy a .i64 _ (Int.natCast_nonneg n)
@[go_sem] theorem ZlR(a:BitVec 32)(n:Nat):binOp .shl t (Ag a) (.int .u64 (no_index (OfNat.ofNat n)))=pure (Ag (a<<<n)):=OC a .u64 _ (Int.natCast_nonneg n)
@[go_sem] theorem ZlS(a:BitVec 32)(n:Nat):binOp .shl t (Ag a) (.int .i64 (no_index (OfNat.ofNat n)))=pure (Ag (a<<<n)):=OC a .i64 _ (Int.natCast_nonneg n)
@[go_sem] theorem ZlB(a:BitVec 64)(n:Nat):binOp .shr t (Av a) (.int .u64 (no_index (OfNat.ofNat n)))=pure (Av (a>>>n)):=Ox a .u64 _ (Int.natCast_nonneg n)
@[go_sem] theorem ZlC(a:BitVec 64)(n:Nat):binOp .shr t (Av a) (.int .i64 (no_index (OfNat.ofNat n)))=pure (Av (a>>>n)):=Ox a .i64 _ (Int.natCast_nonneg n)
@[go_sem] theorem ZlN(a:BitVec 64)(n:Nat):binOp .shl t (Av a) (.int .u64 (no_index (OfNat.ofNat n)))=pure (Av (a<<<n)):=OB a .u64 _ (Int.natCast_nonneg n)
@[go_sem] theorem ZlO(a:BitVec 64)(n:Nat):binOp .shl t (Av a) (.int .i64 (no_index (OfNat.ofNat n)))=pure (Av (a<<<n)):=OB a .i64 _ (Int.natCast_nonneg n)
@[go_sem] theorem ZlZ(a:UInt8)(n:Nat)(h:n<256)(h0:0<n):binOp .quo t (w8 a) (.int .u8 (no_index (OfNat.ofNat n)))=pure (w8 (a / (UInt8.ofNat n))):=by
 rw[Cx n h,Zff];rw[UInt8.toNat_ofNat',Nat.mod_eq_of_lt h];omega
@[go_sem] theorem ZlX(a:UInt8)(n:Nat)(h:n<256)(h0:0<n):binOp .rem t (w8 a) (.int .u8 (no_index (OfNat.ofNat n)))=pure (w8 (a % (UInt8.ofNat n))):=by
 rw[Cx n h,ZeT];rw[UInt8.toNat_ofNat',Nat.mod_eq_of_lt h];omega
@[go_sem] theorem Zlm(n:Int):Value.int .u64 (IntKind.u64.wrap n)=Av (BitVec.ofInt 64 n):=by
 unfold Av;rw[IntKind.wrap_u64,BitVec.toNat_ofInt];congr 1;omega
@[go_sem] theorem Zln(n:Int):Value.int .u32 (IntKind.u32.wrap n)=Ag (BitVec.ofInt 32 n):=by
 unfold Ag;rw[IntKind.wrap_u32',BitVec.toNat_ofInt];congr 1;omega
@[go_sem] theorem Zll(n:Int):Value.int .u8 (IntKind.u8.wrap n)=w8 (UInt8.ofInt n):=by
 unfold w8;rw[IntKind.wrap_u8'];congr 1;have h:((UInt8.ofInt n).toNat:Int)=n % 256:=by
  show(((UInt8.ofNat (n % 2^8).toNat).toNat:Nat):Int)=_
  rw[UInt8.toNat_ofNat'];omega
 omega
variable (src dst:TypeId)
theorem conv(k:IntKind)(v:Value)(n:Int)(hv:v=.int k n)(kd:IntKind)(hs:(P.underlying src).isSome=true)(hd:P.underlying dst=some (.int kd)):
  (convert src dst v).run P w=.ok (.int kd (kd.wrap n)) w:=by
 have hk:P.intKind dst=kd:=by
  unfold Program.intKind;rw[hd]
 subst hv;rw[run_convert_int w src dst k n hs (by rw[hk,hd]),hk]
@[go_sem] theorem ZmR(b:UInt8)(hs:(P.underlying src).isSome=true)(hd:P.underlying dst=some (.int .u32)):(convert src dst (w8 b)).run P w=.ok (Ag (bw b)) w:=by
 rw[conv w src dst .u8 (w8 b) (b.toNat:Int) rfl .u32 hs hd,Uh]
 unfold Ag bw;rw[BitVec.toNat_ofNat,BitVec.toNat_setWidth];rfl
@[go_sem] theorem ZmQ(b:UInt8)(hs:(P.underlying src).isSome=true)(hd:P.underlying dst=some (.int .u64)):(convert src dst (w8 b)).run P w=.ok (Av (bq b)) w:=by
 rw[conv w src dst .u8 (w8 b) (b.toNat:Int) rfl .u64 hs hd,Ug]
 unfold Av bq;rw[BitVec.toNat_ofNat,BitVec.toNat_setWidth];rfl
@[go_sem] theorem ZmP(b:UInt8)(hs:(P.underlying src).isSome=true)(hd:P.underlying dst=some (.int .i64)):(convert src dst (w8 b)).run P w=.ok (.int .i64 (b.toNat:Int)) w:=by
 have :=b.toNat_lt;rw[conv w src dst .u8 (w8 b) (b.toNat:Int) rfl .i64 hs hd,IntKind.wrap_i64]
 have e:((b.toNat:Int)+9223372036854775808) % 18446744073709551616-9223372036854775808=b.toNat:=by omega
 rw[e]
@[go_sem] theorem ZmU(x:BitVec 32)(hs:(P.underlying src).isSome=true)(hd:P.underlying dst=some (.int .u8)):(convert src dst (Ag x)).run P w=.ok (w8 (wb x)) w:=by
 rw[conv w src dst .u32 (Ag x) (x.toNat:Int) rfl .u8 hs hd,Qh]
 congr 2
@[go_sem] theorem ZmT(x:BitVec 64)(hs:(P.underlying src).isSome=true)(hd:P.underlying dst=some (.int .u8)):(convert src dst (Av x)).run P w=.ok (w8 (qb x)) w:=by
 rw[conv w src dst .u64 (Av x) (x.toNat:Int) rfl .u8 hs hd,Qh]
 congr 2
@[go_sem] theorem ZmM(n:Int)(hs:(P.underlying src).isSome=true)(hd:P.underlying dst=some (.int .u8)):(convert src dst (.int .i64 n)).run P w=.ok (w8 (UInt8.ofInt n)) w:=by
 rw[conv w src dst .i64 _ _ rfl .u8 hs hd,IntKind.wrap_u8']
 congr 2
 have h:((UInt8.ofInt n).toNat:Int)=n % 256:=by
  show(((UInt8.ofNat (n % 2^8).toNat).toNat:Nat):Int)=_
  rw[UInt8.toNat_ofNat'];omega
 omega
@[go_sem] theorem ZmN(n:Int)(hs:(P.underlying src).isSome=true)(hd:P.underlying dst=some (.int .u64)):(convert src dst (.int .i64 n)).run P w=.ok (Av (BitVec.ofInt 64 n)) w:=by
 rw[conv w src dst .i64 _ _ rfl .u64 hs hd,IntKind.wrap_u64]
 congr 2
 rw[BitVec.toNat_ofInt];omega
@[go_sem] theorem ZmS(x:BitVec 64)(hs:(P.underlying src).isSome=true)(hd:P.underlying dst=some (.int .i64)):(convert src dst (Av x)).run P w=.ok (.int .i64 (Sw x)) w:=by
 rw[conv w src dst .u64 (Av x) (x.toNat:Int) rfl .i64 hs hd,IntKind.wrap_i64]
 have :=x.isLt;have e:((x.toNat:Int)+9223372036854775808) % 18446744073709551616-9223372036854775808=x.toInt:=by
  rw[BitVec.toInt_eq_toNat_cond];split<;>omega
 rw[e];rfl
end
end
end
end Go.Proofs.YtchpmmjmimaigaaGreatDoor
