/- What the operations on plain values ask of this program's types: kinds, sizes, fields, zero values. Printed by wip/tools/mkfacts.sh; each line is proved by the kernel. -/
import Derived.Test.YthnolonphjfoeaaDoorPeP
import Derived.Test.YthnolonphjfoeaaDoorProg
import Derived.KernelRfl
namespace Go.Proofs.YthnolonphjfoeaaDoor.Pe
open Go
set_option maxRecDepth 100000
theorem tf0 :
    (kdOf Tryd.prog 0 = Kd.other) ∧
    (szOf Tryd.prog 0 = some ((1, false))) ∧
    (kdOf Tryd.prog 1 = Kd.fun) ∧
    (szOf Tryd.prog 1 = some ((1, false))) ∧
    (zerOf Tryd.prog 1 = some (((AV.ot Value.nilFunc) :: []))) ∧
    (kdOf Tryd.prog 2 = (Kd.int IntKind.i64)) ∧
    (szOf Tryd.prog 2 = some ((1, false))) ∧
    (zerOf Tryd.prog 2 = some (((AV.it IntKind.i64 0) :: []))) ∧
    (kdOf Tryd.prog 3 = (Kd.int IntKind.i64)) ∧
    (szOf Tryd.prog 3 = some ((1, false))) ∧
    (zerOf Tryd.prog 3 = some (((AV.it IntKind.i64 0) :: []))) ∧
    (kdOf Tryd.prog 4 = Kd.bool) ∧
    (szOf Tryd.prog 4 = some ((1, false))) ∧
    (zerOf Tryd.prog 4 = some (((AV.bo false) :: []))) ∧
    (kdOf Tryd.prog 5 = (Kd.int IntKind.u8)) ∧
    (szOf Tryd.prog 5 = some ((1, false))) ∧
    (zerOf Tryd.prog 5 = some (((AV.it IntKind.u8 0) :: []))) ∧
    (kdOf Tryd.prog 6 = (Kd.int IntKind.u8)) ∧
    (szOf Tryd.prog 6 = some ((1, false))) ∧
    (zerOf Tryd.prog 6 = some (((AV.it IntKind.u8 0) :: []))) ∧
    (kdOf Tryd.prog 7 = Kd.other) ∧
    (szOf Tryd.prog 7 = some ((4, true))) ∧
    (zerOf Tryd.prog 7 = some (((AV.it IntKind.i64 0) :: ((AV.it IntKind.i64 0) :: ((AV.bo false) :: ((AV.it IntKind.u8 0) :: [])))))) ∧
    (strOf Tryd.prog 7 = some ((((0, 1) :: ((1, 1) :: ((2, 1) :: ((3, 1) :: [])))), ((AV.it IntKind.i64 0) :: ((AV.it IntKind.i64 0) :: ((AV.bo false) :: ((AV.it IntKind.u8 0) :: []))))))) ∧
    (fldOf Tryd.prog 7 0 = some ((0, (1, false)))) ∧
    (fldOf Tryd.prog 7 1 = some ((1, (1, false)))) ∧
    (fldOf Tryd.prog 7 2 = some ((2, (1, false)))) ∧
    (fldOf Tryd.prog 7 3 = some ((3, (1, false)))) ∧
    (eqsOf Tryd.prog 7 = some (((2, (0, (1, false))) :: ((3, (1, (1, false))) :: ((4, (2, (1, false))) :: ((6, (3, (1, false))) :: [])))))) ∧
    (Program.eqGuardType Tryd.prog (Program.depth Tryd.prog) 7 = false) ∧
    (kdOf Tryd.prog 8 = Kd.other) ∧
    (szOf Tryd.prog 8 = some ((4, true))) ∧
    (zerOf Tryd.prog 8 = some (((AV.it IntKind.i64 0) :: ((AV.it IntKind.i64 0) :: ((AV.bo false) :: ((AV.it IntKind.u8 0) :: [])))))) ∧
    (strOf Tryd.prog 8 = some ((((0, 1) :: ((1, 1) :: ((2, 1) :: ((3, 1) :: [])))), ((AV.it IntKind.i64 0) :: ((AV.it IntKind.i64 0) :: ((AV.bo false) :: ((AV.it IntKind.u8 0) :: []))))))) ∧
    (fldOf Tryd.prog 8 0 = some ((0, (1, false)))) ∧
    (fldOf Tryd.prog 8 1 = some ((1, (1, false)))) ∧
    (fldOf Tryd.prog 8 2 = some ((2, (1, false)))) ∧
    (fldOf Tryd.prog 8 3 = some ((3, (1, false)))) ∧
    (eqsOf Tryd.prog 8 = some (((2, (0, (1, false))) :: ((3, (1, (1, false))) :: ((4, (2, (1, false))) :: ((6, (3, (1, false))) :: [])))))) ∧
    (Program.eqGuardType Tryd.prog (Program.depth Tryd.prog) 8 = false) :=
  ⟨by kernel_rfl, by kernel_rfl, by kernel_rfl, by kernel_rfl, by kernel_rfl, by kernel_rfl, by kernel_rfl, by kernel_rfl, by kernel_rfl, by kernel_rfl, by kernel_rfl, by kernel_rfl, by kernel_rfl, by kernel_rfl, by kernel_rfl, by kernel_rfl, by kernel_rfl, by kernel_rfl, by kernel_rfl, by kernel_rfl, by kernel_rfl, by kernel_rfl, by kernel_rfl, by kernel_rfl, by kernel_rfl, by kernel_rfl, by kernel_rfl, by kernel_rfl, by kernel_rfl, by kernel_rfl, by kernel_rfl, by kernel_rfl, by kernel_rfl, by kernel_rfl, by kernel_rfl, by kernel_rfl, by kernel_rfl, by kernel_rfl, by kernel_rfl, by kernel_rfl⟩
theorem tf1 :
    (kdOf Tryd.prog 9 = Kd.str) ∧
    (szOf Tryd.prog 9 = some ((1, false))) ∧
    (zerOf Tryd.prog 9 = some (((AV.st []) :: []))) ∧
    (kdOf Tryd.prog 10 = Kd.str) ∧
    (szOf Tryd.prog 10 = some ((1, false))) ∧
    (zerOf Tryd.prog 10 = some (((AV.st []) :: []))) ∧
    (kdOf Tryd.prog 11 = Kd.str) ∧
    (szOf Tryd.prog 11 = some ((1, false))) ∧
    (zerOf Tryd.prog 11 = some (((AV.st []) :: []))) ∧
    (kdOf Tryd.prog 12 = (Kd.int IntKind.u64)) ∧
    (szOf Tryd.prog 12 = some ((1, false))) ∧
    (zerOf Tryd.prog 12 = some (((AV.it IntKind.u64 0) :: []))) ∧
    (kdOf Tryd.prog 13 = Kd.other) ∧
    (szOf Tryd.prog 13 = some ((2, true))) ∧
    (zerOf Tryd.prog 13 = some (((AV.st []) :: ((AV.it IntKind.u64 0) :: [])))) ∧
    (strOf Tryd.prog 13 = some ((((0, 1) :: ((1, 1) :: [])), ((AV.st []) :: ((AV.it IntKind.u64 0) :: []))))) ∧
    (fldOf Tryd.prog 13 0 = some ((0, (1, false)))) ∧
    (fldOf Tryd.prog 13 1 = some ((1, (1, false)))) ∧
    (kdOf Tryd.prog 14 = Kd.other) ∧
    (szOf Tryd.prog 14 = some ((2, true))) ∧
    (zerOf Tryd.prog 14 = some (((AV.st []) :: ((AV.it IntKind.u64 0) :: [])))) ∧
    (strOf Tryd.prog 14 = some ((((0, 1) :: ((1, 1) :: [])), ((AV.st []) :: ((AV.it IntKind.u64 0) :: []))))) ∧
    (fldOf Tryd.prog 14 0 = some ((0, (1, false)))) ∧
    (fldOf Tryd.prog 14 1 = some ((1, (1, false)))) ∧
    (kdOf Tryd.prog 15 = Kd.ptr) ∧
    (szOf Tryd.prog 15 = some ((1, false))) ∧
    (zerOf Tryd.prog 15 = some (((AV.ot (Value.pointer none)) :: []))) ∧
    (kdOf Tryd.prog 16 = Kd.ptr) ∧
    (szOf Tryd.prog 16 = some ((1, false))) ∧
    (zerOf Tryd.prog 16 = some (((AV.ot (Value.pointer none)) :: []))) ∧
    (kdOf Tryd.prog 17 = Kd.ptr) ∧
    (szOf Tryd.prog 17 = some ((1, false))) ∧
    (zerOf Tryd.prog 17 = some (((AV.ot (Value.pointer none)) :: []))) ∧
    (kdOf Tryd.prog 18 = Kd.other) ∧
    (szOf Tryd.prog 18 = some ((1, true))) ∧
    (zerOf Tryd.prog 18 = some (((AV.ot (Value.pointer none)) :: []))) ∧
    (strOf Tryd.prog 18 = some ((((0, 1) :: []), ((AV.ot (Value.pointer none)) :: [])))) ∧
    (fldOf Tryd.prog 18 0 = some ((0, (1, false)))) ∧
    (kdOf Tryd.prog 19 = Kd.other) ∧
    (szOf Tryd.prog 19 = some ((1, true))) :=
  ⟨by kernel_rfl, by kernel_rfl, by kernel_rfl, by kernel_rfl, by kernel_rfl, by kernel_rfl, by kernel_rfl, by kernel_rfl, by kernel_rfl, by kernel_rfl, by kernel_rfl, by kernel_rfl, by kernel_rfl, by kernel_rfl, by kernel_rfl, by kernel_rfl, by kernel_rfl, by kernel_rfl, by kernel_rfl, by kernel_rfl, by kernel_rfl, by kernel_rfl, by kernel_rfl, by kernel_rfl, by kernel_rfl, by kernel_rfl, by kernel_rfl, by kernel_rfl, by kernel_rfl, by kernel_rfl, by kernel_rfl, by kernel_rfl, by kernel_rfl, by kernel_rfl, by kernel_rfl, by kernel_rfl, by kernel_rfl, by kernel_rfl, by kernel_rfl, by kernel_rfl⟩
theorem tf2 :
    (zerOf Tryd.prog 19 = some (((AV.ot (Value.pointer none)) :: []))) ∧
    (strOf Tryd.prog 19 = some ((((0, 1) :: []), ((AV.ot (Value.pointer none)) :: [])))) ∧
    (fldOf Tryd.prog 19 0 = some ((0, (1, false)))) ∧
    (kdOf Tryd.prog 20 = Kd.other) ∧
    (szOf Tryd.prog 20 = some ((1, false))) ∧
    (zerOf Tryd.prog 20 = some (((AV.ot Value.nilIface) :: []))) ∧
    (kdOf Tryd.prog 21 = (Kd.int IntKind.i32)) ∧
    (szOf Tryd.prog 21 = some ((1, false))) ∧
    (zerOf Tryd.prog 21 = some (((AV.it IntKind.i32 0) :: []))) ∧
    (kdOf Tryd.prog 22 = Kd.other) ∧
    (szOf Tryd.prog 22 = some ((1, false))) ∧
    (sleOf Tryd.prog 22 = some ((9, (1, false)))) ∧
    (appOf Tryd.prog 22 = some ((9, (1, 16)))) ∧
    (zerOf Tryd.prog 22 = some (((AV.sl Mode.full []) :: []))) ∧
    (kdOf Tryd.prog 23 = Kd.fun) ∧
    (szOf Tryd.prog 23 = some ((1, false))) ∧
    (zerOf Tryd.prog 23 = some (((AV.ot Value.nilFunc) :: []))) ∧
    (kdOf Tryd.prog 24 = Kd.fun) ∧
    (szOf Tryd.prog 24 = some ((1, false))) ∧
    (zerOf Tryd.prog 24 = some (((AV.ot Value.nilFunc) :: []))) ∧
    (kdOf Tryd.prog 25 = Kd.fun) ∧
    (szOf Tryd.prog 25 = some ((1, false))) ∧
    (zerOf Tryd.prog 25 = some (((AV.ot Value.nilFunc) :: []))) ∧
    (kdOf Tryd.prog 26 = Kd.other) ∧
    (szOf Tryd.prog 26 = some ((1, false))) ∧
    (kdOf Tryd.prog 27 = Kd.fun) ∧
    (szOf Tryd.prog 27 = some ((1, false))) ∧
    (zerOf Tryd.prog 27 = some (((AV.ot Value.nilFunc) :: []))) ∧
    (kdOf Tryd.prog 28 = Kd.fun) ∧
    (szOf Tryd.prog 28 = some ((1, false))) ∧
    (zerOf Tryd.prog 28 = some (((AV.ot Value.nilFunc) :: []))) ∧
    (kdOf Tryd.prog 29 = Kd.fun) ∧
    (szOf Tryd.prog 29 = some ((1, false))) ∧
    (zerOf Tryd.prog 29 = some (((AV.ot Value.nilFunc) :: []))) ∧
    (kdOf Tryd.prog 30 = Kd.fun) ∧
    (szOf Tryd.prog 30 = some ((1, false))) ∧
    (zerOf Tryd.prog 30 = some (((AV.ot Value.nilFunc) :: []))) ∧
    (kdOf Tryd.prog 31 = Kd.fun) ∧
    (szOf Tryd.prog 31 = some ((1, false))) ∧
    (zerOf Tryd.prog 31 = some (((AV.ot Value.nilFunc) :: []))) :=
  ⟨by kernel_rfl, by kernel_rfl, by kernel_rfl, by kernel_rfl, by kernel_rfl, by kernel_rfl, by kernel_rfl, by kernel_rfl, by kernel_rfl, by kernel_rfl, by kernel_rfl, by kernel_rfl, by kernel_rfl, by kernel_rfl, by kernel_rfl, by kernel_rfl, by kernel_rfl, by kernel_rfl, by kernel_rfl, by kernel_rfl, by kernel_rfl, by kernel_rfl, by kernel_rfl, by kernel_rfl, by kernel_rfl, by kernel_rfl, by kernel_rfl, by kernel_rfl, by kernel_rfl, by kernel_rfl, by kernel_rfl, by kernel_rfl, by kernel_rfl, by kernel_rfl, by kernel_rfl, by kernel_rfl, by kernel_rfl, by kernel_rfl, by kernel_rfl, by kernel_rfl⟩
theorem tf3 :
    (kdOf Tryd.prog 32 = Kd.fun) ∧
    (szOf Tryd.prog 32 = some ((1, false))) ∧
    (zerOf Tryd.prog 32 = some (((AV.ot Value.nilFunc) :: []))) ∧
    (kdOf Tryd.prog 33 = Kd.fun) ∧
    (szOf Tryd.prog 33 = some ((1, false))) ∧
    (zerOf Tryd.prog 33 = some (((AV.ot Value.nilFunc) :: []))) ∧
    (kdOf Tryd.prog 34 = Kd.fun) ∧
    (szOf Tryd.prog 34 = some ((1, false))) ∧
    (zerOf Tryd.prog 34 = some (((AV.ot Value.nilFunc) :: []))) ∧
    (kdOf Tryd.prog 35 = Kd.fun) ∧
    (szOf Tryd.prog 35 = some ((1, false))) ∧
    (zerOf Tryd.prog 35 = some (((AV.ot Value.nilFunc) :: []))) ∧
    (kdOf Tryd.prog 36 = Kd.other) ∧
    (szOf Tryd.prog 36 = some ((1, false))) ∧
    (kdOf Tryd.prog 37 = Kd.fun) ∧
    (szOf Tryd.prog 37 = some ((1, false))) ∧
    (zerOf Tryd.prog 37 = some (((AV.ot Value.nilFunc) :: []))) ∧
    (kdOf Tryd.prog 38 = Kd.fun) ∧
    (szOf Tryd.prog 38 = some ((1, false))) ∧
    (zerOf Tryd.prog 38 = some (((AV.ot Value.nilFunc) :: []))) ∧
    (kdOf Tryd.prog 39 = Kd.fun) ∧
    (szOf Tryd.prog 39 = some ((1, false))) ∧
    (zerOf Tryd.prog 39 = some (((AV.ot Value.nilFunc) :: []))) ∧
    (kdOf Tryd.prog 40 = Kd.other) ∧
    (szOf Tryd.prog 40 = some ((1, false))) ∧
    (kdOf Tryd.prog 41 = Kd.fun) ∧
    (szOf Tryd.prog 41 = some ((1, false))) ∧
    (zerOf Tryd.prog 41 = some (((AV.ot Value.nilFunc) :: []))) ∧
    (kdOf Tryd.prog 42 = Kd.fun) ∧
    (szOf Tryd.prog 42 = some ((1, false))) ∧
    (zerOf Tryd.prog 42 = some (((AV.ot Value.nilFunc) :: []))) ∧
    (kdOf Tryd.prog 43 = Kd.fun) ∧
    (szOf Tryd.prog 43 = some ((1, false))) ∧
    (zerOf Tryd.prog 43 = some (((AV.ot Value.nilFunc) :: []))) ∧
    (kdOf Tryd.prog 44 = Kd.other) ∧
    (szOf Tryd.prog 44 = some ((1, false))) ∧
    (kdOf Tryd.prog 45 = Kd.fun) ∧
    (szOf Tryd.prog 45 = some ((1, false))) ∧
    (zerOf Tryd.prog 45 = some (((AV.ot Value.nilFunc) :: []))) ∧
    (kdOf Tryd.prog 46 = Kd.fun) :=
  ⟨by kernel_rfl, by kernel_rfl, by kernel_rfl, by kernel_rfl, by kernel_rfl, by kernel_rfl, by kernel_rfl, by kernel_rfl, by kernel_rfl, by kernel_rfl, by kernel_rfl, by kernel_rfl, by kernel_rfl, by kernel_rfl, by kernel_rfl, by kernel_rfl, by kernel_rfl, by kernel_rfl, by kernel_rfl, by kernel_rfl, by kernel_rfl, by kernel_rfl, by kernel_rfl, by kernel_rfl, by kernel_rfl, by kernel_rfl, by kernel_rfl, by kernel_rfl, by kernel_rfl, by kernel_rfl, by kernel_rfl, by kernel_rfl, by kernel_rfl, by kernel_rfl, by kernel_rfl, by kernel_rfl, by kernel_rfl, by kernel_rfl, by kernel_rfl, by kernel_rfl⟩
theorem tf4 :
    (szOf Tryd.prog 46 = some ((1, false))) ∧
    (zerOf Tryd.prog 46 = some (((AV.ot Value.nilFunc) :: []))) ∧
    (kdOf Tryd.prog 47 = Kd.fun) ∧
    (szOf Tryd.prog 47 = some ((1, false))) ∧
    (zerOf Tryd.prog 47 = some (((AV.ot Value.nilFunc) :: []))) ∧
    (kdOf Tryd.prog 48 = Kd.fun) ∧
    (szOf Tryd.prog 48 = some ((1, false))) ∧
    (zerOf Tryd.prog 48 = some (((AV.ot Value.nilFunc) :: []))) ∧
    (kdOf Tryd.prog 49 = Kd.fun) ∧
    (szOf Tryd.prog 49 = some ((1, false))) ∧
    (zerOf Tryd.prog 49 = some (((AV.ot Value.nilFunc) :: []))) ∧
    (kdOf Tryd.prog 50 = Kd.other) ∧
    (szOf Tryd.prog 50 = some ((1, false))) ∧
    (kdOf Tryd.prog 51 = Kd.fun) ∧
    (szOf Tryd.prog 51 = some ((1, false))) ∧
    (zerOf Tryd.prog 51 = some (((AV.ot Value.nilFunc) :: []))) ∧
    (kdOf Tryd.prog 52 = Kd.other) ∧
    (szOf Tryd.prog 52 = some ((1, false))) ∧
    (kdOf Tryd.prog 53 = Kd.fun) ∧
    (szOf Tryd.prog 53 = some ((1, false))) ∧
    (zerOf Tryd.prog 53 = some (((AV.ot Value.nilFunc) :: []))) ∧
    (kdOf Tryd.prog 54 = (Kd.int IntKind.u32)) ∧
    (szOf Tryd.prog 54 = some ((1, false))) ∧
    (zerOf Tryd.prog 54 = some (((AV.it IntKind.u32 0) :: []))) ∧
    (kdOf Tryd.prog 55 = Kd.other) ∧
    (szOf Tryd.prog 55 = some ((8, true))) ∧
    (areOf Tryd.prog 55 = some ((8, (1, false)))) ∧
    (zerOf Tryd.prog 55 = some (((AV.it IntKind.u32 0) :: ((AV.it IntKind.u32 0) :: ((AV.it IntKind.u32 0) :: ((AV.it IntKind.u32 0) :: ((AV.it IntKind.u32 0) :: ((AV.it IntKind.u32 0) :: ((AV.it IntKind.u32 0) :: ((AV.it IntKind.u32 0) :: [])))))))))) ∧
    (strOf Tryd.prog 55 = some ((((0, 1) :: ((1, 1) :: ((2, 1) :: ((3, 1) :: ((4, 1) :: ((5, 1) :: ((6, 1) :: ((7, 1) :: [])))))))), ((AV.it IntKind.u32 0) :: ((AV.it IntKind.u32 0) :: ((AV.it IntKind.u32 0) :: ((AV.it IntKind.u32 0) :: ((AV.it IntKind.u32 0) :: ((AV.it IntKind.u32 0) :: ((AV.it IntKind.u32 0) :: ((AV.it IntKind.u32 0) :: []))))))))))) ∧
    (kdOf Tryd.prog 56 = Kd.fun) ∧
    (szOf Tryd.prog 56 = some ((1, false))) ∧
    (zerOf Tryd.prog 56 = some (((AV.ot Value.nilFunc) :: []))) ∧
    (kdOf Tryd.prog 57 = Kd.fun) ∧
    (szOf Tryd.prog 57 = some ((1, false))) ∧
    (zerOf Tryd.prog 57 = some (((AV.ot Value.nilFunc) :: []))) ∧
    (kdOf Tryd.prog 58 = Kd.bytes) ∧
    (szOf Tryd.prog 58 = some ((1, false))) ∧
    (sleOf Tryd.prog 58 = some ((5, (1, false)))) ∧
    (appOf Tryd.prog 58 = some ((5, (1, 1)))) ∧
    (bytOf Tryd.prog 58 = some (5)) :=
  ⟨by kernel_rfl, by kernel_rfl, by kernel_rfl, by kernel_rfl, by kernel_rfl, by kernel_rfl, by kernel_rfl, by kernel_rfl, by kernel_rfl, by kernel_rfl, by kernel_rfl, by kernel_rfl, by kernel_rfl, by kernel_rfl, by kernel_rfl, by kernel_rfl, by kernel_rfl, by kernel_rfl, by kernel_rfl, by kernel_rfl, by kernel_rfl, by kernel_rfl, by kernel_rfl, by kernel_rfl, by kernel_rfl, by kernel_rfl, by kernel_rfl, by kernel_rfl, by kernel_rfl, by kernel_rfl, by kernel_rfl, by kernel_rfl, by kernel_rfl, by kernel_rfl, by kernel_rfl, by kernel_rfl, by kernel_rfl, by kernel_rfl, by kernel_rfl, by kernel_rfl⟩
theorem tf5 :
    (zerOf Tryd.prog 58 = some (((AV.sl Mode.full []) :: []))) ∧
    (kdOf Tryd.prog 59 = (Kd.int IntKind.u64)) ∧
    (szOf Tryd.prog 59 = some ((1, false))) ∧
    (zerOf Tryd.prog 59 = some (((AV.it IntKind.u64 0) :: []))) ∧
    (kdOf Tryd.prog 60 = (Kd.int IntKind.u64)) ∧
    (szOf Tryd.prog 60 = some ((1, false))) ∧
    (zerOf Tryd.prog 60 = some (((AV.it IntKind.u64 0) :: []))) ∧
    (kdOf Tryd.prog 61 = Kd.other) ∧
    (szOf Tryd.prog 61 = some ((1, false))) ∧
    (sleOf Tryd.prog 61 = some ((54, (1, false)))) ∧
    (appOf Tryd.prog 61 = some ((54, (1, 4)))) ∧
    (zerOf Tryd.prog 61 = some (((AV.sl Mode.full []) :: []))) ∧
    (kdOf Tryd.prog 62 = Kd.fun) ∧
    (szOf Tryd.prog 62 = some ((1, false))) ∧
    (zerOf Tryd.prog 62 = some (((AV.ot Value.nilFunc) :: []))) ∧
    (kdOf Tryd.prog 63 = Kd.fun) ∧
    (szOf Tryd.prog 63 = some ((1, false))) ∧
    (zerOf Tryd.prog 63 = some (((AV.ot Value.nilFunc) :: []))) ∧
    (kdOf Tryd.prog 64 = Kd.other) ∧
    (szOf Tryd.prog 64 = some ((64, true))) ∧
    (areOf Tryd.prog 64 = some ((64, (1, false)))) ∧
    (zerOf Tryd.prog 64 = some (((AV.it IntKind.u32 0) :: ((AV.it IntKind.u32 0) :: ((AV.it IntKind.u32 0) :: ((AV.it IntKind.u32 0) :: ((AV.it IntKind.u32 0) :: ((AV.it IntKind.u32 0) :: ((AV.it IntKind.u32 0) :: ((AV.it IntKind.u32 0) :: ((AV.it IntKind.u32 0) :: ((AV.it IntKind.u32 0) :: ((AV.it IntKind.u32 0) :: ((AV.it IntKind.u32 0) :: ((AV.it IntKind.u32 0) :: ((AV.it IntKind.u32 0) :: ((AV.it IntKind.u32 0) :: ((AV.it IntKind.u32 0) :: ((AV.it IntKind.u32 0) :: ((AV.it IntKind.u32 0) :: ((AV.it IntKind.u32 0) :: ((AV.it IntKind.u32 0) :: ((AV.it IntKind.u32 0) :: ((AV.it IntKind.u32 0) :: ((AV.it IntKind.u32 0) :: ((AV.it IntKind.u32 0) :: ((AV.it IntKind.u32 0) :: ((AV.it IntKind.u32 0) :: ((AV.it IntKind.u32 0) :: ((AV.it IntKind.u32 0) :: ((AV.it IntKind.u32 0) :: ((AV.it IntKind.u32 0) :: ((AV.it IntKind.u32 0) :: ((AV.it IntKind.u32 0) :: ((AV.it IntKind.u32 0) :: ((AV.it IntKind.u32 0) :: ((AV.it IntKind.u32 0) :: ((AV.it IntKind.u32 0) :: ((AV.it IntKind.u32 0) :: ((AV.it IntKind.u32 0) :: ((AV.it IntKind.u32 0) :: ((AV.it IntKind.u32 0) :: ((AV.it IntKind.u32 0) :: ((AV.it IntKind.u32 0) :: ((AV.it IntKind.u32 0) :: ((AV.it IntKind.u32 0) :: ((AV.it IntKind.u32 0) :: ((AV.it IntKind.u32 0) :: ((AV.it IntKind.u32 0) :: ((AV.it IntKind.u32 0) :: ((AV.it IntKind.u32 0) :: ((AV.it IntKind.u32 0) :: ((AV.it IntKind.u32 0) :: ((AV.it IntKind.u32 0) :: ((AV.it IntKind.u32 0) :: ((AV.it IntKind.u32 0) :: ((AV.it IntKind.u32 0) :: ((AV.it IntKind.u32 0) :: ((AV.it IntKind.u32 0) :: ((AV.it IntKind.u32 0) :: ((AV.it IntKind.u32 0) :: ((AV.it IntKind.u32 0) :: ((AV.it IntKind.u32 0) :: ((AV.it IntKind.u32 0) :: ((AV.it IntKind.u32 0) :: ((AV.it IntKind.u32 0) :: [])))))))))))))))))))))))))))))))))))))))))))))))))))))))))))))))))) ∧
    (strOf Tryd.prog 64 = some ((((0, 1) :: ((1, 1) :: ((2, 1) :: ((3, 1) :: ((4, 1) :: ((5, 1) :: ((6, 1) :: ((7, 1) :: ((8, 1) :: ((9, 1) :: ((10, 1) :: ((11, 1) :: ((12, 1) :: ((13, 1) :: ((14, 1) :: ((15, 1) :: ((16, 1) :: ((17, 1) :: ((18, 1) :: ((19, 1) :: ((20, 1) :: ((21, 1) :: ((22, 1) :: ((23, 1) :: ((24, 1) :: ((25, 1) :: ((26, 1) :: ((27, 1) :: ((28, 1) :: ((29, 1) :: ((30, 1) :: ((31, 1) :: ((32, 1) :: ((33, 1) :: ((34, 1) :: ((35, 1) :: ((36, 1) :: ((37, 1) :: ((38, 1) :: ((39, 1) :: ((40, 1) :: ((41, 1) :: ((42, 1) :: ((43, 1) :: ((44, 1) :: ((45, 1) :: ((46, 1) :: ((47, 1) :: ((48, 1) :: ((49, 1) :: ((50, 1) :: ((51, 1) :: ((52, 1) :: ((53, 1) :: ((54, 1) :: ((55, 1) :: ((56, 1) :: ((57, 1) :: ((58, 1) :: ((59, 1) :: ((60, 1) :: ((61, 1) :: ((62, 1) :: ((63, 1) :: [])))))))))))))))))))))))))))))))))))))))))))))))))))))))))))))))), ((AV.it IntKind.u32 0) :: ((AV.it IntKind.u32 0) :: ((AV.it IntKind.u32 0) :: ((AV.it IntKind.u32 0) :: ((AV.it IntKind.u32 0) :: ((AV.it IntKind.u32 0) :: ((AV.it IntKind.u32 0) :: ((AV.it IntKind.u32 0) :: ((AV.it IntKind.u32 0) :: ((AV.it IntKind.u32 0) :: ((AV.it IntKind.u32 0) :: ((AV.it IntKind.u32 0) :: ((AV.it IntKind.u32 0) :: ((AV.it IntKind.u32 0) :: ((AV.it IntKind.u32 0) :: ((AV.it IntKind.u32 0) :: ((AV.it IntKind.u32 0) :: ((AV.it IntKind.u32 0) :: ((AV.it IntKind.u32 0) :: ((AV.it IntKind.u32 0) :: ((AV.it IntKind.u32 0) :: ((AV.it IntKind.u32 0) :: ((AV.it IntKind.u32 0) :: ((AV.it IntKind.u32 0) :: ((AV.it IntKind.u32 0) :: ((AV.it IntKind.u32 0) :: ((AV.it IntKind.u32 0) :: ((AV.it IntKind.u32 0) :: ((AV.it IntKind.u32 0) :: ((AV.it IntKind.u32 0) :: ((AV.it IntKind.u32 0) :: ((AV.it IntKind.u32 0) :: ((AV.it IntKind.u32 0) :: ((AV.it IntKind.u32 0) :: ((AV.it IntKind.u32 0) :: ((AV.it IntKind.u32 0) :: ((AV.it IntKind.u32 0) :: ((AV.it IntKind.u32 0) :: ((AV.it IntKind.u32 0) :: ((AV.it IntKind.u32 0) :: ((AV.it IntKind.u32 0) :: ((AV.it IntKind.u32 0) :: ((AV.it IntKind.u32 0) :: ((AV.it IntKind.u32 0) :: ((AV.it IntKind.u32 0) :: ((AV.it IntKind.u32 0) :: ((AV.it IntKind.u32 0) :: ((AV.it IntKind.u32 0) :: ((AV.it IntKind.u32 0) :: ((AV.it IntKind.u32 0) :: ((AV.it IntKind.u32 0) :: ((AV.it IntKind.u32 0) :: ((AV.it IntKind.u32 0) :: ((AV.it IntKind.u32 0) :: ((AV.it IntKind.u32 0) :: ((AV.it IntKind.u32 0) :: ((AV.it IntKind.u32 0) :: ((AV.it IntKind.u32 0) :: ((AV.it IntKind.u32 0) :: ((AV.it IntKind.u32 0) :: ((AV.it IntKind.u32 0) :: ((AV.it IntKind.u32 0) :: ((AV.it IntKind.u32 0) :: ((AV.it IntKind.u32 0) :: []))))))))))))))))))))))))))))))))))))))))))))))))))))))))))))))))))) ∧
    (kdOf Tryd.prog 65 = Kd.fun) ∧
    (szOf Tryd.prog 65 = some ((1, false))) ∧
    (zerOf Tryd.prog 65 = some (((AV.ot Value.nilFunc) :: []))) ∧
    (kdOf Tryd.prog 66 = Kd.fun) ∧
    (szOf Tryd.prog 66 = some ((1, false))) ∧
    (zerOf Tryd.prog 66 = some (((AV.ot Value.nilFunc) :: []))) ∧
    (kdOf Tryd.prog 67 = Kd.fun) ∧
    (szOf Tryd.prog 67 = some ((1, false))) ∧
    (zerOf Tryd.prog 67 = some (((AV.ot Value.nilFunc) :: []))) ∧
    (kdOf Tryd.prog 68 = Kd.fun) ∧
    (szOf Tryd.prog 68 = some ((1, false))) ∧
    (zerOf Tryd.prog 68 = some (((AV.ot Value.nilFunc) :: []))) ∧
    (kdOf Tryd.prog 69 = Kd.fun) ∧
    (szOf Tryd.prog 69 = some ((1, false))) ∧
    (zerOf Tryd.prog 69 = some (((AV.ot Value.nilFunc) :: []))) ∧
    (kdOf Tryd.prog 70 = Kd.other) ∧
    (szOf Tryd.prog 70 = some ((4, true))) :=
  ⟨by kernel_rfl, by kernel_rfl, by kernel_rfl, by kernel_rfl, by kernel_rfl, by kernel_rfl, by kernel_rfl, by kernel_rfl, by kernel_rfl, by kernel_rfl, by kernel_rfl, by kernel_rfl, by kernel_rfl, by kernel_rfl, by kernel_rfl, by kernel_rfl, by kernel_rfl, by kernel_rfl, by kernel_rfl, by kernel_rfl, by kernel_rfl, by kernel_rfl, by kernel_rfl, by kernel_rfl, by kernel_rfl, by kernel_rfl, by kernel_rfl, by kernel_rfl, by kernel_rfl, by kernel_rfl, by kernel_rfl, by kernel_rfl, by kernel_rfl, by kernel_rfl, by kernel_rfl, by kernel_rfl, by kernel_rfl, by kernel_rfl, by kernel_rfl, by kernel_rfl⟩
theorem tf6 :
    (zerOf Tryd.prog 70 = some (((AV.ot (Value.pointer none)) :: ((AV.ot (Value.pointer none)) :: ((AV.ot (Value.pointer none)) :: ((AV.st []) :: [])))))) ∧
    (strOf Tryd.prog 70 = some ((((0, 1) :: ((1, 1) :: ((2, 1) :: ((3, 1) :: [])))), ((AV.ot (Value.pointer none)) :: ((AV.ot (Value.pointer none)) :: ((AV.ot (Value.pointer none)) :: ((AV.st []) :: []))))))) ∧
    (fldOf Tryd.prog 70 0 = some ((0, (1, false)))) ∧
    (fldOf Tryd.prog 70 1 = some ((1, (1, false)))) ∧
    (fldOf Tryd.prog 70 2 = some ((2, (1, false)))) ∧
    (fldOf Tryd.prog 70 3 = some ((3, (1, false)))) ∧
    (kdOf Tryd.prog 71 = Kd.other) ∧
    (szOf Tryd.prog 71 = some ((4, true))) ∧
    (zerOf Tryd.prog 71 = some (((AV.ot (Value.pointer none)) :: ((AV.ot (Value.pointer none)) :: ((AV.ot (Value.pointer none)) :: ((AV.st []) :: [])))))) ∧
    (strOf Tryd.prog 71 = some ((((0, 1) :: ((1, 1) :: ((2, 1) :: ((3, 1) :: [])))), ((AV.ot (Value.pointer none)) :: ((AV.ot (Value.pointer none)) :: ((AV.ot (Value.pointer none)) :: ((AV.st []) :: []))))))) ∧
    (fldOf Tryd.prog 71 0 = some ((0, (1, false)))) ∧
    (fldOf Tryd.prog 71 1 = some ((1, (1, false)))) ∧
    (fldOf Tryd.prog 71 2 = some ((2, (1, false)))) ∧
    (fldOf Tryd.prog 71 3 = some ((3, (1, false)))) ∧
    (kdOf Tryd.prog 72 = Kd.other) ∧
    (szOf Tryd.prog 72 = some ((0, true))) ∧
    (areOf Tryd.prog 72 = some ((0, (1, false)))) ∧
    (zerOf Tryd.prog 72 = some ([])) ∧
    (strOf Tryd.prog 72 = some (([], []))) ∧
    (kdOf Tryd.prog 73 = Kd.other) ∧
    (szOf Tryd.prog 73 = some ((0, true))) ∧
    (zerOf Tryd.prog 73 = some ([])) ∧
    (strOf Tryd.prog 73 = some ((((0, 0) :: []), []))) ∧
    (fldOf Tryd.prog 73 0 = some ((0, (0, true)))) ∧
    (kdOf Tryd.prog 74 = Kd.other) ∧
    (szOf Tryd.prog 74 = some ((0, true))) ∧
    (zerOf Tryd.prog 74 = some ([])) ∧
    (strOf Tryd.prog 74 = some ((((0, 0) :: []), []))) ∧
    (fldOf Tryd.prog 74 0 = some ((0, (0, true)))) ∧
    (kdOf Tryd.prog 75 = Kd.fun) ∧
    (szOf Tryd.prog 75 = some ((1, false))) ∧
    (zerOf Tryd.prog 75 = some (((AV.ot Value.nilFunc) :: []))) ∧
    (kdOf Tryd.prog 76 = (Kd.int IntKind.u8)) ∧
    (szOf Tryd.prog 76 = some ((1, false))) ∧
    (zerOf Tryd.prog 76 = some (((AV.it IntKind.u8 0) :: []))) ∧
    (kdOf Tryd.prog 77 = (Kd.int IntKind.u8)) ∧
    (szOf Tryd.prog 77 = some ((1, false))) ∧
    (zerOf Tryd.prog 77 = some (((AV.it IntKind.u8 0) :: []))) ∧
    (kdOf Tryd.prog 78 = Kd.fun) ∧
    (szOf Tryd.prog 78 = some ((1, false))) :=
  ⟨by kernel_rfl, by kernel_rfl, by kernel_rfl, by kernel_rfl, by kernel_rfl, by kernel_rfl, by kernel_rfl, by kernel_rfl, by kernel_rfl, by kernel_rfl, by kernel_rfl, by kernel_rfl, by kernel_rfl, by kernel_rfl, by kernel_rfl, by kernel_rfl, by kernel_rfl, by kernel_rfl, by kernel_rfl, by kernel_rfl, by kernel_rfl, by kernel_rfl, by kernel_rfl, by kernel_rfl, by kernel_rfl, by kernel_rfl, by kernel_rfl, by kernel_rfl, by kernel_rfl, by kernel_rfl, by kernel_rfl, by kernel_rfl, by kernel_rfl, by kernel_rfl, by kernel_rfl, by kernel_rfl, by kernel_rfl, by kernel_rfl, by kernel_rfl, by kernel_rfl⟩
theorem tf7 :
    (zerOf Tryd.prog 78 = some (((AV.ot Value.nilFunc) :: []))) ∧
    (kdOf Tryd.prog 79 = Kd.ptr) ∧
    (szOf Tryd.prog 79 = some ((1, false))) ∧
    (zerOf Tryd.prog 79 = some (((AV.ot (Value.pointer none)) :: []))) ∧
    (kdOf Tryd.prog 80 = (Kd.int IntKind.i32)) ∧
    (szOf Tryd.prog 80 = some ((1, false))) ∧
    (zerOf Tryd.prog 80 = some (((AV.it IntKind.i32 0) :: []))) ∧
    (kdOf Tryd.prog 81 = (Kd.int IntKind.i32)) ∧
    (szOf Tryd.prog 81 = some ((1, false))) ∧
    (zerOf Tryd.prog 81 = some (((AV.it IntKind.i32 0) :: []))) ∧
    (kdOf Tryd.prog 82 = Kd.other) ∧
    (szOf Tryd.prog 82 = some ((11, true))) ∧
    (zerOf Tryd.prog 82 = some (((AV.it IntKind.u64 0) :: ((AV.it IntKind.u64 0) :: ((AV.it IntKind.u32 0) :: ((AV.it IntKind.u8 0) :: ((AV.it IntKind.u8 0) :: ((AV.it IntKind.u8 0) :: ((AV.it IntKind.u8 0) :: ((AV.ot Value.nilFunc) :: ((AV.ot (Value.pointer none)) :: ((AV.it IntKind.i32 0) :: ((AV.it IntKind.i32 0) :: []))))))))))))) ∧
    (strOf Tryd.prog 82 = some ((((0, 1) :: ((1, 1) :: ((2, 1) :: ((3, 1) :: ((4, 1) :: ((5, 1) :: ((6, 1) :: ((7, 1) :: ((8, 1) :: ((9, 1) :: ((10, 1) :: []))))))))))), ((AV.it IntKind.u64 0) :: ((AV.it IntKind.u64 0) :: ((AV.it IntKind.u32 0) :: ((AV.it IntKind.u8 0) :: ((AV.it IntKind.u8 0) :: ((AV.it IntKind.u8 0) :: ((AV.it IntKind.u8 0) :: ((AV.ot Value.nilFunc) :: ((AV.ot (Value.pointer none)) :: ((AV.it IntKind.i32 0) :: ((AV.it IntKind.i32 0) :: [])))))))))))))) ∧
    (fldOf Tryd.prog 82 0 = some ((0, (1, false)))) ∧
    (fldOf Tryd.prog 82 1 = some ((1, (1, false)))) ∧
    (fldOf Tryd.prog 82 2 = some ((2, (1, false)))) ∧
    (fldOf Tryd.prog 82 3 = some ((3, (1, false)))) ∧
    (fldOf Tryd.prog 82 4 = some ((4, (1, false)))) ∧
    (fldOf Tryd.prog 82 5 = some ((5, (1, false)))) ∧
    (fldOf Tryd.prog 82 6 = some ((6, (1, false)))) ∧
    (fldOf Tryd.prog 82 7 = some ((7, (1, false)))) ∧
    (fldOf Tryd.prog 82 8 = some ((8, (1, false)))) ∧
    (fldOf Tryd.prog 82 9 = some ((9, (1, false)))) ∧
    (fldOf Tryd.prog 82 10 = some ((10, (1, false)))) ∧
    (kdOf Tryd.prog 83 = Kd.other) ∧
    (szOf Tryd.prog 83 = some ((11, true))) ∧
    (zerOf Tryd.prog 83 = some (((AV.it IntKind.u64 0) :: ((AV.it IntKind.u64 0) :: ((AV.it IntKind.u32 0) :: ((AV.it IntKind.u8 0) :: ((AV.it IntKind.u8 0) :: ((AV.it IntKind.u8 0) :: ((AV.it IntKind.u8 0) :: ((AV.ot Value.nilFunc) :: ((AV.ot (Value.pointer none)) :: ((AV.it IntKind.i32 0) :: ((AV.it IntKind.i32 0) :: []))))))))))))) ∧
    (strOf Tryd.prog 83 = some ((((0, 1) :: ((1, 1) :: ((2, 1) :: ((3, 1) :: ((4, 1) :: ((5, 1) :: ((6, 1) :: ((7, 1) :: ((8, 1) :: ((9, 1) :: ((10, 1) :: []))))))))))), ((AV.it IntKind.u64 0) :: ((AV.it IntKind.u64 0) :: ((AV.it IntKind.u32 0) :: ((AV.it IntKind.u8 0) :: ((AV.it IntKind.u8 0) :: ((AV.it IntKind.u8 0) :: ((AV.it IntKind.u8 0) :: ((AV.ot Value.nilFunc) :: ((AV.ot (Value.pointer none)) :: ((AV.it IntKind.i32 0) :: ((AV.it IntKind.i32 0) :: [])))))))))))))) ∧
    (fldOf Tryd.prog 83 0 = some ((0, (1, false)))) ∧
    (fldOf Tryd.prog 83 1 = some ((1, (1, false)))) ∧
    (fldOf Tryd.prog 83 2 = some ((2, (1, false)))) ∧
    (fldOf Tryd.prog 83 3 = some ((3, (1, false)))) ∧
    (fldOf Tryd.prog 83 4 = some ((4, (1, false)))) ∧
    (fldOf Tryd.prog 83 5 = some ((5, (1, false)))) ∧
    (fldOf Tryd.prog 83 6 = some ((6, (1, false)))) ∧
    (fldOf Tryd.prog 83 7 = some ((7, (1, false)))) ∧
    (fldOf Tryd.prog 83 8 = some ((8, (1, false)))) ∧
    (fldOf Tryd.prog 83 9 = some ((9, (1, false)))) ∧
    (fldOf Tryd.prog 83 10 = some ((10, (1, false)))) :=
  ⟨by kernel_rfl, by kernel_rfl, by kernel_rfl, by kernel_rfl, by kernel_rfl, by kernel_rfl, by kernel_rfl, by kernel_rfl, by kernel_rfl, by kernel_rfl, by kernel_rfl, by kernel_rfl, by kernel_rfl, by kernel_rfl, by kernel_rfl, by kernel_rfl, by kernel_rfl, by kernel_rfl, by kernel_rfl, by kernel_rfl, by kernel_rfl, by kernel_rfl, by kernel_rfl, by kernel_rfl, by kernel_rfl, by kernel_rfl, by kernel_rfl, by kernel_rfl, by kernel_rfl, by kernel_rfl, by kernel_rfl, by kernel_rfl, by kernel_rfl, by kernel_rfl, by kernel_rfl, by kernel_rfl, by kernel_rfl, by kernel_rfl, by kernel_rfl, by kernel_rfl⟩
theorem tf8 :
    (kdOf Tryd.prog 84 = Kd.other) ∧
    (szOf Tryd.prog 84 = some ((1, false))) ∧
    (zerOf Tryd.prog 84 = some (((AV.ot (Value.pointer none)) :: []))) :=
  ⟨by kernel_rfl, by kernel_rfl, by kernel_rfl⟩
end Go.Proofs.YthnolonphjfoeaaDoor.Pe
