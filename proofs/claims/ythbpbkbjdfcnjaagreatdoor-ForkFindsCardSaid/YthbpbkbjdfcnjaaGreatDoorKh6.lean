/- Several texts in one, without what this claim does not use (tools/shake.py). -/
import Derived.Test.YthbpbkbjdfcnjaaGreatDoorKh1
import Derived.Test.YthbpbkbjdfcnjaaGreatDoorKh2
import Derived.Test.YthbpbkbjdfcnjaaGreatDoorKh3
import Derived.Test.YthbpbkbjdfcnjaaGreatDoorKh4
import Derived.Test.YthbpbkbjdfcnjaaGreatDoorKh5
import Derived.Test.YthbpbkbjdfcnjaaGreatDoorProg
import Derived.KernelRfl
set_option linter.unusedSectionVars false
set_option linter.unusedVariables false
set_option linter.unusedSimpArgs false
section
namespace Go.Proofs.YthbpbkbjdfcnjaaGreatDoor.Pe
open Go
set_option maxRecDepth 100000
theorem tf0 :
 kdOf Tryz.prog 0 = .other ∧
 szOf Tryz.prog 0 = some (1, false) ∧
 kdOf Tryz.prog 1 = .fun ∧
 szOf Tryz.prog 1 = some (1, false) ∧
 zerOf Tryz.prog 1 = some [.ot .nilFunc] ∧
 kdOf Tryz.prog 2 = (.int .i64) ∧
 szOf Tryz.prog 2 = some (1, false) ∧
 zerOf Tryz.prog 2 = some [.it .i64 0] ∧
 kdOf Tryz.prog 3 = (.int .i64) ∧
 szOf Tryz.prog 3 = some (1, false) ∧
 zerOf Tryz.prog 3 = some [.it .i64 0] ∧
 kdOf Tryz.prog 4 = .bool ∧
 szOf Tryz.prog 4 = some (1, false) ∧
 zerOf Tryz.prog 4 = some [.bo false] ∧
 kdOf Tryz.prog 5 = (.int .u8) ∧
 szOf Tryz.prog 5 = some (1, false) ∧
 zerOf Tryz.prog 5 = some [.it .u8 0] ∧
 kdOf Tryz.prog 6 = (.int .u8) ∧
 szOf Tryz.prog 6 = some (1, false) ∧
 zerOf Tryz.prog 6 = some [.it .u8 0] ∧
 kdOf Tryz.prog 7 = .other ∧
 szOf Tryz.prog 7 = some (4, true) ∧
 zerOf Tryz.prog 7 = some [.it .i64 0, .it .i64 0, .bo false, .it .u8 0] ∧
 strOf Tryz.prog 7 = some ([(0, 1), (1, 1), (2, 1), (3, 1)], [.it .i64 0, .it .i64 0, .bo false, .it .u8 0]) ∧
 fldOf Tryz.prog 7 0 = some (0, 1, false) ∧
 fldOf Tryz.prog 7 1 = some (1, 1, false) ∧
 fldOf Tryz.prog 7 2 = some (2, 1, false) ∧
 fldOf Tryz.prog 7 3 = some (3, 1, false) ∧
 eqsOf Tryz.prog 7 = some [(2, 0, 1, false), (3, 1, 1, false), (4, 2, 1, false), (6, 3, 1, false)] ∧
 Program.eqGuardType Tryz.prog (Program.depth Tryz.prog) 7 = false ∧
 kdOf Tryz.prog 8 = .other ∧
 szOf Tryz.prog 8 = some (4, true) ∧
 zerOf Tryz.prog 8 = some [.it .i64 0, .it .i64 0, .bo false, .it .u8 0] ∧
 strOf Tryz.prog 8 = some ([(0, 1), (1, 1), (2, 1), (3, 1)], [.it .i64 0, .it .i64 0, .bo false, .it .u8 0]) ∧
 fldOf Tryz.prog 8 0 = some (0, 1, false) ∧
 fldOf Tryz.prog 8 1 = some (1, 1, false) ∧
 fldOf Tryz.prog 8 2 = some (2, 1, false) ∧
 fldOf Tryz.prog 8 3 = some (3, 1, false) ∧
 eqsOf Tryz.prog 8 = some [(2, 0, 1, false), (3, 1, 1, false), (4, 2, 1, false), (6, 3, 1, false)] ∧
 Program.eqGuardType Tryz.prog (Program.depth Tryz.prog) 8 = false := by and_intros <;> kernel_rfl
theorem tf1 :
 kdOf Tryz.prog 9 = .str ∧
 szOf Tryz.prog 9 = some (1, false) ∧
 zerOf Tryz.prog 9 = some [(.st [])] ∧
 kdOf Tryz.prog 10 = .str ∧
 szOf Tryz.prog 10 = some (1, false) ∧
 zerOf Tryz.prog 10 = some [(.st [])] ∧
 kdOf Tryz.prog 11 = .str ∧
 szOf Tryz.prog 11 = some (1, false) ∧
 zerOf Tryz.prog 11 = some [(.st [])] ∧
 kdOf Tryz.prog 12 = (.int .u64) ∧
 szOf Tryz.prog 12 = some (1, false) ∧
 zerOf Tryz.prog 12 = some [.it .u64 0] ∧
 kdOf Tryz.prog 13 = .other ∧
 szOf Tryz.prog 13 = some (2, true) ∧
 zerOf Tryz.prog 13 = some [(.st []), .it .u64 0] ∧
 strOf Tryz.prog 13 = some ([(0, 1), (1, 1)], [(.st []), .it .u64 0]) ∧
 fldOf Tryz.prog 13 0 = some (0, 1, false) ∧
 fldOf Tryz.prog 13 1 = some (1, 1, false) ∧
 kdOf Tryz.prog 14 = .other ∧
 szOf Tryz.prog 14 = some (2, true) ∧
 zerOf Tryz.prog 14 = some [(.st []), .it .u64 0] ∧
 strOf Tryz.prog 14 = some ([(0, 1), (1, 1)], [(.st []), .it .u64 0]) ∧
 fldOf Tryz.prog 14 0 = some (0, 1, false) ∧
 fldOf Tryz.prog 14 1 = some (1, 1, false) ∧
 kdOf Tryz.prog 15 = .ptr ∧
 szOf Tryz.prog 15 = some (1, false) ∧
 zerOf Tryz.prog 15 = some [(.ot (.pointer none))] ∧
 kdOf Tryz.prog 16 = .ptr ∧
 szOf Tryz.prog 16 = some (1, false) ∧
 zerOf Tryz.prog 16 = some [(.ot (.pointer none))] ∧
 kdOf Tryz.prog 17 = .ptr ∧
 szOf Tryz.prog 17 = some (1, false) ∧
 zerOf Tryz.prog 17 = some [(.ot (.pointer none))] ∧
 kdOf Tryz.prog 18 = .other ∧
 szOf Tryz.prog 18 = some (1, true) ∧
 zerOf Tryz.prog 18 = some [(.ot (.pointer none))] ∧
 strOf Tryz.prog 18 = some ([(0, 1)], [(.ot (.pointer none))]) ∧
 fldOf Tryz.prog 18 0 = some (0, 1, false) ∧
 kdOf Tryz.prog 19 = .other ∧
 szOf Tryz.prog 19 = some (1, true) := by and_intros <;> kernel_rfl
theorem tf2 :
 zerOf Tryz.prog 19 = some [(.ot (.pointer none))] ∧
 strOf Tryz.prog 19 = some ([(0, 1)], [(.ot (.pointer none))]) ∧
 fldOf Tryz.prog 19 0 = some (0, 1, false) ∧
 kdOf Tryz.prog 20 = .other ∧
 szOf Tryz.prog 20 = some (1, false) ∧
 zerOf Tryz.prog 20 = some [.ot .nilIface] ∧
 kdOf Tryz.prog 21 = (.int .i32) ∧
 szOf Tryz.prog 21 = some (1, false) ∧
 zerOf Tryz.prog 21 = some [.it .i32 0] ∧
 kdOf Tryz.prog 22 = .other ∧
 szOf Tryz.prog 22 = some (1, false) ∧
 sleOf Tryz.prog 22 = some (3, 1, false) ∧
 appOf Tryz.prog 22 = some (3, 1, 8) ∧
 zerOf Tryz.prog 22 = some [(.sl Mode.full [])] ∧
 kdOf Tryz.prog 23 = .other ∧
 szOf Tryz.prog 23 = some (2, true) ∧
 zerOf Tryz.prog 23 = some [.it .i64 0, .it .i64 0] ∧
 strOf Tryz.prog 23 = some ([(0, 1), (1, 1)], [.it .i64 0, .it .i64 0]) ∧
 fldOf Tryz.prog 23 0 = some (0, 1, false) ∧
 fldOf Tryz.prog 23 1 = some (1, 1, false) ∧
 eqsOf Tryz.prog 23 = some [(3, 0, 1, false), (3, 1, 1, false)] ∧
 Program.eqGuardType Tryz.prog (Program.depth Tryz.prog) 23 = false ∧
 kdOf Tryz.prog 24 = .other ∧
 szOf Tryz.prog 24 = some (2, true) ∧
 zerOf Tryz.prog 24 = some [.it .i64 0, .it .i64 0] ∧
 strOf Tryz.prog 24 = some ([(0, 1), (1, 1)], [.it .i64 0, .it .i64 0]) ∧
 fldOf Tryz.prog 24 0 = some (0, 1, false) ∧
 fldOf Tryz.prog 24 1 = some (1, 1, false) ∧
 eqsOf Tryz.prog 24 = some [(3, 0, 1, false), (3, 1, 1, false)] ∧
 Program.eqGuardType Tryz.prog (Program.depth Tryz.prog) 24 = false ∧
 kdOf Tryz.prog 25 = .other ∧
 szOf Tryz.prog 25 = some (1, false) ∧
 sleOf Tryz.prog 25 = some (71, 50, true) ∧
 appOf Tryz.prog 25 = some (71, 50, 576) ∧
 zerOf Tryz.prog 25 = some [(.sl Mode.full [])] ∧
 kdOf Tryz.prog 26 = .other ∧
 szOf Tryz.prog 26 = some (1, false) ∧
 sleOf Tryz.prog 26 = some (44, 2, true) ∧
 appOf Tryz.prog 26 = some (44, 2, 16) ∧
 zerOf Tryz.prog 26 = some [(.sl Mode.full [])] := by and_intros <;> kernel_rfl
theorem tf3 :
 kdOf Tryz.prog 27 = .fun ∧
 szOf Tryz.prog 27 = some (1, false) ∧
 zerOf Tryz.prog 27 = some [.ot .nilFunc] ∧
 kdOf Tryz.prog 28 = .fun ∧
 szOf Tryz.prog 28 = some (1, false) ∧
 zerOf Tryz.prog 28 = some [.ot .nilFunc] ∧
 kdOf Tryz.prog 29 = .fun ∧
 szOf Tryz.prog 29 = some (1, false) ∧
 zerOf Tryz.prog 29 = some [.ot .nilFunc] ∧
 kdOf Tryz.prog 30 = .fun ∧
 szOf Tryz.prog 30 = some (1, false) ∧
 zerOf Tryz.prog 30 = some [.ot .nilFunc] ∧
 kdOf Tryz.prog 31 = .other ∧
 szOf Tryz.prog 31 = some (1, false) ∧
 sleOf Tryz.prog 31 = some (38, 6, true) ∧
 appOf Tryz.prog 31 = some (38, 6, 56) ∧
 zerOf Tryz.prog 31 = some [(.sl Mode.full [])] ∧
 kdOf Tryz.prog 32 = .other ∧
 szOf Tryz.prog 32 = some (3, true) ∧
 zerOf Tryz.prog 32 = some [.it .i64 0, (.sl Mode.full []), (.sl Mode.full [])] ∧
 strOf Tryz.prog 32 = some ([(0, 1), (1, 1), (2, 1)], [.it .i64 0, (.sl Mode.full []), (.sl Mode.full [])]) ∧
 fldOf Tryz.prog 32 0 = some (0, 1, false) ∧
 fldOf Tryz.prog 32 1 = some (1, 1, false) ∧
 fldOf Tryz.prog 32 2 = some (2, 1, false) ∧
 eqsOf Tryz.prog 32 = some [(3, 0, 1, false), (25, 1, 1, false), (31, 2, 1, false)] ∧
 Program.eqGuardType Tryz.prog (Program.depth Tryz.prog) 32 = false ∧
 kdOf Tryz.prog 33 = .other ∧
 szOf Tryz.prog 33 = some (3, true) ∧
 zerOf Tryz.prog 33 = some [.it .i64 0, (.sl Mode.full []), (.sl Mode.full [])] ∧
 strOf Tryz.prog 33 = some ([(0, 1), (1, 1), (2, 1)], [.it .i64 0, (.sl Mode.full []), (.sl Mode.full [])]) ∧
 fldOf Tryz.prog 33 0 = some (0, 1, false) ∧
 fldOf Tryz.prog 33 1 = some (1, 1, false) ∧
 fldOf Tryz.prog 33 2 = some (2, 1, false) ∧
 eqsOf Tryz.prog 33 = some [(3, 0, 1, false), (25, 1, 1, false), (31, 2, 1, false)] ∧
 Program.eqGuardType Tryz.prog (Program.depth Tryz.prog) 33 = false ∧
 kdOf Tryz.prog 34 = .fun ∧
 szOf Tryz.prog 34 = some (1, false) ∧
 zerOf Tryz.prog 34 = some [.ot .nilFunc] ∧
 kdOf Tryz.prog 35 = .other ∧
 szOf Tryz.prog 35 = some (2, true) := by and_intros <;> kernel_rfl
theorem tf4 :
 zerOf Tryz.prog 35 = some [.it .i64 0, .it .i64 0] ∧
 strOf Tryz.prog 35 = some ([(0, 1), (1, 1)], [.it .i64 0, .it .i64 0]) ∧
 fldOf Tryz.prog 35 0 = some (0, 1, false) ∧
 fldOf Tryz.prog 35 1 = some (1, 1, false) ∧
 eqsOf Tryz.prog 35 = some [(3, 0, 1, false), (3, 1, 1, false)] ∧
 Program.eqGuardType Tryz.prog (Program.depth Tryz.prog) 35 = false ∧
 kdOf Tryz.prog 36 = .other ∧
 szOf Tryz.prog 36 = some (2, true) ∧
 zerOf Tryz.prog 36 = some [.it .i64 0, .it .i64 0] ∧
 strOf Tryz.prog 36 = some ([(0, 1), (1, 1)], [.it .i64 0, .it .i64 0]) ∧
 fldOf Tryz.prog 36 0 = some (0, 1, false) ∧
 fldOf Tryz.prog 36 1 = some (1, 1, false) ∧
 eqsOf Tryz.prog 36 = some [(3, 0, 1, false), (3, 1, 1, false)] ∧
 Program.eqGuardType Tryz.prog (Program.depth Tryz.prog) 36 = false ∧
 kdOf Tryz.prog 37 = .other ∧
 szOf Tryz.prog 37 = some (6, true) ∧
 zerOf Tryz.prog 37 = some [.it .i64 0, .it .i64 0, (.st []), .it .i64 0, .it .i64 0, .it .i64 0] ∧
 strOf Tryz.prog 37 = some ([(0, 1), (1, 1), (2, 1), (3, 1), (4, 2)], [.it .i64 0, .it .i64 0, (.st []), .it .i64 0, .it .i64 0, .it .i64 0]) ∧
 fldOf Tryz.prog 37 0 = some (0, 1, false) ∧
 fldOf Tryz.prog 37 1 = some (1, 1, false) ∧
 fldOf Tryz.prog 37 2 = some (2, 1, false) ∧
 fldOf Tryz.prog 37 3 = some (3, 1, false) ∧
 fldOf Tryz.prog 37 4 = some (4, 2, true) ∧
 eqsOf Tryz.prog 37 = some [(3, 0, 1, false), (3, 1, 1, false), (9, 2, 1, false), (3, 3, 1, false), (36, 4, 2, true)] ∧
 Program.eqGuardType Tryz.prog (Program.depth Tryz.prog) 37 = false ∧
 kdOf Tryz.prog 38 = .other ∧
 szOf Tryz.prog 38 = some (6, true) ∧
 zerOf Tryz.prog 38 = some [.it .i64 0, .it .i64 0, (.st []), .it .i64 0, .it .i64 0, .it .i64 0] ∧
 strOf Tryz.prog 38 = some ([(0, 1), (1, 1), (2, 1), (3, 1), (4, 2)], [.it .i64 0, .it .i64 0, (.st []), .it .i64 0, .it .i64 0, .it .i64 0]) ∧
 fldOf Tryz.prog 38 0 = some (0, 1, false) ∧
 fldOf Tryz.prog 38 1 = some (1, 1, false) ∧
 fldOf Tryz.prog 38 2 = some (2, 1, false) ∧
 fldOf Tryz.prog 38 3 = some (3, 1, false) ∧
 fldOf Tryz.prog 38 4 = some (4, 2, true) ∧
 eqsOf Tryz.prog 38 = some [(3, 0, 1, false), (3, 1, 1, false), (9, 2, 1, false), (3, 3, 1, false), (36, 4, 2, true)] ∧
 Program.eqGuardType Tryz.prog (Program.depth Tryz.prog) 38 = false ∧
 kdOf Tryz.prog 39 = .other ∧
 szOf Tryz.prog 39 = some (8, true) ∧
 zerOf Tryz.prog 39 = some [.it .i64 0, .it .i64 0, (.st []), .it .i64 0, .it .i64 0, .it .i64 0, .it .i64 0, (.sl Mode.full [])] ∧
 strOf Tryz.prog 39 = some ([(0, 6), (6, 1), (7, 1)], [.it .i64 0, .it .i64 0, (.st []), .it .i64 0, .it .i64 0, .it .i64 0, .it .i64 0, (.sl Mode.full [])]) := by and_intros <;> kernel_rfl
theorem tf5 :
 fldOf Tryz.prog 39 0 = some (0, 6, true) ∧
 fldOf Tryz.prog 39 1 = some (6, 1, false) ∧
 fldOf Tryz.prog 39 2 = some (7, 1, false) ∧
 eqsOf Tryz.prog 39 = some [(38, 0, 6, true), (3, 6, 1, false), (25, 7, 1, false)] ∧
 Program.eqGuardType Tryz.prog (Program.depth Tryz.prog) 39 = false ∧
 kdOf Tryz.prog 40 = .other ∧
 szOf Tryz.prog 40 = some (8, true) ∧
 zerOf Tryz.prog 40 = some [.it .i64 0, .it .i64 0, (.st []), .it .i64 0, .it .i64 0, .it .i64 0, .it .i64 0, (.sl Mode.full [])] ∧
 strOf Tryz.prog 40 = some ([(0, 6), (6, 1), (7, 1)], [.it .i64 0, .it .i64 0, (.st []), .it .i64 0, .it .i64 0, .it .i64 0, .it .i64 0, (.sl Mode.full [])]) ∧
 fldOf Tryz.prog 40 0 = some (0, 6, true) ∧
 fldOf Tryz.prog 40 1 = some (6, 1, false) ∧
 fldOf Tryz.prog 40 2 = some (7, 1, false) ∧
 eqsOf Tryz.prog 40 = some [(38, 0, 6, true), (3, 6, 1, false), (25, 7, 1, false)] ∧
 Program.eqGuardType Tryz.prog (Program.depth Tryz.prog) 40 = false ∧
 kdOf Tryz.prog 41 = .other ∧
 szOf Tryz.prog 41 = some (1, false) ∧
 kdOf Tryz.prog 42 = .fun ∧
 szOf Tryz.prog 42 = some (1, false) ∧
 zerOf Tryz.prog 42 = some [.ot .nilFunc] ∧
 kdOf Tryz.prog 43 = .other ∧
 szOf Tryz.prog 43 = some (2, true) ∧
 zerOf Tryz.prog 43 = some [.it .i64 0, .it .i64 0] ∧
 strOf Tryz.prog 43 = some ([(0, 1), (1, 1)], [.it .i64 0, .it .i64 0]) ∧
 fldOf Tryz.prog 43 0 = some (0, 1, false) ∧
 fldOf Tryz.prog 43 1 = some (1, 1, false) ∧
 eqsOf Tryz.prog 43 = some [(3, 0, 1, false), (3, 1, 1, false)] ∧
 Program.eqGuardType Tryz.prog (Program.depth Tryz.prog) 43 = false ∧
 kdOf Tryz.prog 44 = .other ∧
 szOf Tryz.prog 44 = some (2, true) ∧
 zerOf Tryz.prog 44 = some [.it .i64 0, .it .i64 0] ∧
 strOf Tryz.prog 44 = some ([(0, 1), (1, 1)], [.it .i64 0, .it .i64 0]) ∧
 fldOf Tryz.prog 44 0 = some (0, 1, false) ∧
 fldOf Tryz.prog 44 1 = some (1, 1, false) ∧
 eqsOf Tryz.prog 44 = some [(3, 0, 1, false), (3, 1, 1, false)] ∧
 Program.eqGuardType Tryz.prog (Program.depth Tryz.prog) 44 = false ∧
 kdOf Tryz.prog 45 = (.int .i64) ∧
 szOf Tryz.prog 45 = some (1, false) ∧
 zerOf Tryz.prog 45 = some [.it .i64 0] ∧
 kdOf Tryz.prog 46 = .other ∧
 szOf Tryz.prog 46 = some (1, false) := by and_intros <;> kernel_rfl
theorem tf6 :
 kdOf Tryz.prog 47 = .fun ∧
 szOf Tryz.prog 47 = some (1, false) ∧
 zerOf Tryz.prog 47 = some [.ot .nilFunc] ∧
 kdOf Tryz.prog 48 = .fun ∧
 szOf Tryz.prog 48 = some (1, false) ∧
 zerOf Tryz.prog 48 = some [.ot .nilFunc] ∧
 kdOf Tryz.prog 49 = .fun ∧
 szOf Tryz.prog 49 = some (1, false) ∧
 zerOf Tryz.prog 49 = some [.ot .nilFunc] ∧
 kdOf Tryz.prog 50 = .other ∧
 szOf Tryz.prog 50 = some (3, true) ∧
 zerOf Tryz.prog 50 = some [.it .i64 0, (.sl Mode.full []), (.sl Mode.full [])] ∧
 strOf Tryz.prog 50 = some ([(0, 1), (1, 1), (2, 1)], [.it .i64 0, (.sl Mode.full []), (.sl Mode.full [])]) ∧
 fldOf Tryz.prog 50 0 = some (0, 1, false) ∧
 fldOf Tryz.prog 50 1 = some (1, 1, false) ∧
 fldOf Tryz.prog 50 2 = some (2, 1, false) ∧
 eqsOf Tryz.prog 50 = some [(3, 0, 1, false), (25, 1, 1, false), (31, 2, 1, false)] ∧
 Program.eqGuardType Tryz.prog (Program.depth Tryz.prog) 50 = false ∧
 kdOf Tryz.prog 51 = .fun ∧
 szOf Tryz.prog 51 = some (1, false) ∧
 zerOf Tryz.prog 51 = some [.ot .nilFunc] ∧
 kdOf Tryz.prog 52 = .fun ∧
 szOf Tryz.prog 52 = some (1, false) ∧
 zerOf Tryz.prog 52 = some [.ot .nilFunc] ∧
 kdOf Tryz.prog 53 = .fun ∧
 szOf Tryz.prog 53 = some (1, false) ∧
 zerOf Tryz.prog 53 = some [.ot .nilFunc] ∧
 kdOf Tryz.prog 54 = .fun ∧
 szOf Tryz.prog 54 = some (1, false) ∧
 zerOf Tryz.prog 54 = some [.ot .nilFunc] ∧
 kdOf Tryz.prog 55 = .fun ∧
 szOf Tryz.prog 55 = some (1, false) ∧
 zerOf Tryz.prog 55 = some [.ot .nilFunc] ∧
 kdOf Tryz.prog 56 = .other ∧
 szOf Tryz.prog 56 = some (1, false) ∧
 sleOf Tryz.prog 56 = some (9, 1, false) ∧
 appOf Tryz.prog 56 = some (9, 1, 16) ∧
 zerOf Tryz.prog 56 = some [(.sl Mode.full [])] ∧
 kdOf Tryz.prog 57 = .other ∧
 szOf Tryz.prog 57 = some (3, true) := by and_intros <;> kernel_rfl
theorem tf7 :
 zerOf Tryz.prog 57 = some [(.st []), (.st []), (.st [])] ∧
 strOf Tryz.prog 57 = some ([(0, 1), (1, 1), (2, 1)], [(.st []), (.st []), (.st [])]) ∧
 fldOf Tryz.prog 57 0 = some (0, 1, false) ∧
 fldOf Tryz.prog 57 1 = some (1, 1, false) ∧
 fldOf Tryz.prog 57 2 = some (2, 1, false) ∧
 eqsOf Tryz.prog 57 = some [(9, 0, 1, false), (9, 1, 1, false), (9, 2, 1, false)] ∧
 Program.eqGuardType Tryz.prog (Program.depth Tryz.prog) 57 = false ∧
 kdOf Tryz.prog 58 = .other ∧
 szOf Tryz.prog 58 = some (3, true) ∧
 zerOf Tryz.prog 58 = some [(.st []), (.st []), (.st [])] ∧
 strOf Tryz.prog 58 = some ([(0, 1), (1, 1), (2, 1)], [(.st []), (.st []), (.st [])]) ∧
 fldOf Tryz.prog 58 0 = some (0, 1, false) ∧
 fldOf Tryz.prog 58 1 = some (1, 1, false) ∧
 fldOf Tryz.prog 58 2 = some (2, 1, false) ∧
 eqsOf Tryz.prog 58 = some [(9, 0, 1, false), (9, 1, 1, false), (9, 2, 1, false)] ∧
 Program.eqGuardType Tryz.prog (Program.depth Tryz.prog) 58 = false ∧
 kdOf Tryz.prog 59 = .other ∧
 szOf Tryz.prog 59 = some (1, false) ∧
 sleOf Tryz.prog 59 = some (181, 5, true) ∧
 appOf Tryz.prog 59 = some (181, 5, 64) ∧
 zerOf Tryz.prog 59 = some [(.sl Mode.full [])] ∧
 kdOf Tryz.prog 60 = .other ∧
 szOf Tryz.prog 60 = some (20, true) ∧
 zerOf Tryz.prog 60 = some [(.st []), .it .i64 0, (.st []), .it .i64 0, .it .i64 0, (.st []), (.st []), .it .i64 0, (.st []), (.sl Mode.full []), (.st []), (.st []), (.st []), (.st []), .it .i64 0, (.sl Mode.full []), .it .i64 0, .it .i64 0, .it .i64 0, .it .i64 0] ∧
 strOf Tryz.prog 60 = some ([(0, 1), (1, 1), (2, 1), (3, 1), (4, 1), (5, 1), (6, 1), (7, 1), (8, 1), (9, 1), (10, 1), (11, 3), (14, 1), (15, 1), (16, 1), (17, 1), (18, 2)], [(.st []), .it .i64 0, (.st []), .it .i64 0, .it .i64 0, (.st []), (.st []), .it .i64 0, (.st []), (.sl Mode.full []), (.st []), (.st []), (.st []), (.st []), .it .i64 0, (.sl Mode.full []), .it .i64 0, .it .i64 0, .it .i64 0, .it .i64 0]) ∧
 fldOf Tryz.prog 60 0 = some (0, 1, false) ∧
 fldOf Tryz.prog 60 1 = some (1, 1, false) ∧
 fldOf Tryz.prog 60 2 = some (2, 1, false) ∧
 fldOf Tryz.prog 60 3 = some (3, 1, false) ∧
 fldOf Tryz.prog 60 4 = some (4, 1, false) ∧
 fldOf Tryz.prog 60 5 = some (5, 1, false) ∧
 fldOf Tryz.prog 60 6 = some (6, 1, false) ∧
 fldOf Tryz.prog 60 7 = some (7, 1, false) ∧
 fldOf Tryz.prog 60 8 = some (8, 1, false) ∧
 fldOf Tryz.prog 60 9 = some (9, 1, false) ∧
 fldOf Tryz.prog 60 10 = some (10, 1, false) ∧
 fldOf Tryz.prog 60 11 = some (11, 3, true) ∧
 fldOf Tryz.prog 60 12 = some (14, 1, false) ∧
 fldOf Tryz.prog 60 13 = some (15, 1, false) ∧
 fldOf Tryz.prog 60 14 = some (16, 1, false) := by and_intros <;> kernel_rfl
theorem tf8 :
 fldOf Tryz.prog 60 15 = some (17, 1, false) ∧
 fldOf Tryz.prog 60 16 = some (18, 2, true) ∧
 eqsOf Tryz.prog 60 = some [(9, 0, 1, false), (3, 1, 1, false), (9, 2, 1, false), (3, 3, 1, false), (3, 4, 1, false), (9, 5, 1, false), (9, 6, 1, false), (3, 7, 1, false), (9, 8, 1, false), (56, 9, 1, false), (9, 10, 1, false), (58, 11, 3, true), (3, 14, 1, false), (59, 15, 1, false), (3, 16, 1, false), (3, 17, 1, false), (36, 18, 2, true)] ∧
 Program.eqGuardType Tryz.prog (Program.depth Tryz.prog) 60 = false ∧
 kdOf Tryz.prog 61 = .other ∧
 szOf Tryz.prog 61 = some (20, true) ∧
 zerOf Tryz.prog 61 = some [(.st []), .it .i64 0, (.st []), .it .i64 0, .it .i64 0, (.st []), (.st []), .it .i64 0, (.st []), (.sl Mode.full []), (.st []), (.st []), (.st []), (.st []), .it .i64 0, (.sl Mode.full []), .it .i64 0, .it .i64 0, .it .i64 0, .it .i64 0] ∧
 strOf Tryz.prog 61 = some ([(0, 1), (1, 1), (2, 1), (3, 1), (4, 1), (5, 1), (6, 1), (7, 1), (8, 1), (9, 1), (10, 1), (11, 3), (14, 1), (15, 1), (16, 1), (17, 1), (18, 2)], [(.st []), .it .i64 0, (.st []), .it .i64 0, .it .i64 0, (.st []), (.st []), .it .i64 0, (.st []), (.sl Mode.full []), (.st []), (.st []), (.st []), (.st []), .it .i64 0, (.sl Mode.full []), .it .i64 0, .it .i64 0, .it .i64 0, .it .i64 0]) ∧
 fldOf Tryz.prog 61 0 = some (0, 1, false) ∧
 fldOf Tryz.prog 61 1 = some (1, 1, false) ∧
 fldOf Tryz.prog 61 2 = some (2, 1, false) ∧
 fldOf Tryz.prog 61 3 = some (3, 1, false) ∧
 fldOf Tryz.prog 61 4 = some (4, 1, false) ∧
 fldOf Tryz.prog 61 5 = some (5, 1, false) ∧
 fldOf Tryz.prog 61 6 = some (6, 1, false) ∧
 fldOf Tryz.prog 61 7 = some (7, 1, false) ∧
 fldOf Tryz.prog 61 8 = some (8, 1, false) ∧
 fldOf Tryz.prog 61 9 = some (9, 1, false) ∧
 fldOf Tryz.prog 61 10 = some (10, 1, false) ∧
 fldOf Tryz.prog 61 11 = some (11, 3, true) ∧
 fldOf Tryz.prog 61 12 = some (14, 1, false) ∧
 fldOf Tryz.prog 61 13 = some (15, 1, false) ∧
 fldOf Tryz.prog 61 14 = some (16, 1, false) ∧
 fldOf Tryz.prog 61 15 = some (17, 1, false) ∧
 fldOf Tryz.prog 61 16 = some (18, 2, true) ∧
 eqsOf Tryz.prog 61 = some [(9, 0, 1, false), (3, 1, 1, false), (9, 2, 1, false), (3, 3, 1, false), (3, 4, 1, false), (9, 5, 1, false), (9, 6, 1, false), (3, 7, 1, false), (9, 8, 1, false), (56, 9, 1, false), (9, 10, 1, false), (58, 11, 3, true), (3, 14, 1, false), (59, 15, 1, false), (3, 16, 1, false), (3, 17, 1, false), (36, 18, 2, true)] ∧
 Program.eqGuardType Tryz.prog (Program.depth Tryz.prog) 61 = false ∧
 kdOf Tryz.prog 62 = .other ∧
 szOf Tryz.prog 62 = some (9, true) ∧
 zerOf Tryz.prog 62 = some [(.st []), .it .i64 0, (.st []), .it .i64 0, .it .i64 0, .it .i64 0, .it .i64 0, .it .i64 0, .it .i64 0] ∧
 strOf Tryz.prog 62 = some ([(0, 1), (1, 1), (2, 1), (3, 1), (4, 1), (5, 1), (6, 1), (7, 2)], [(.st []), .it .i64 0, (.st []), .it .i64 0, .it .i64 0, .it .i64 0, .it .i64 0, .it .i64 0, .it .i64 0]) ∧
 fldOf Tryz.prog 62 0 = some (0, 1, false) ∧
 fldOf Tryz.prog 62 1 = some (1, 1, false) ∧
 fldOf Tryz.prog 62 2 = some (2, 1, false) ∧
 fldOf Tryz.prog 62 3 = some (3, 1, false) ∧
 fldOf Tryz.prog 62 4 = some (4, 1, false) ∧
 fldOf Tryz.prog 62 5 = some (5, 1, false) ∧
 fldOf Tryz.prog 62 6 = some (6, 1, false) ∧
 fldOf Tryz.prog 62 7 = some (7, 2, true) ∧
 eqsOf Tryz.prog 62 = some [(9, 0, 1, false), (3, 1, 1, false), (9, 2, 1, false), (3, 3, 1, false), (3, 4, 1, false), (3, 5, 1, false), (3, 6, 1, false), (36, 7, 2, true)] := by and_intros <;> kernel_rfl
theorem tf9 :
 Program.eqGuardType Tryz.prog (Program.depth Tryz.prog) 62 = false ∧
 kdOf Tryz.prog 63 = .other ∧
 szOf Tryz.prog 63 = some (9, true) ∧
 zerOf Tryz.prog 63 = some [(.st []), .it .i64 0, (.st []), .it .i64 0, .it .i64 0, .it .i64 0, .it .i64 0, .it .i64 0, .it .i64 0] ∧
 strOf Tryz.prog 63 = some ([(0, 1), (1, 1), (2, 1), (3, 1), (4, 1), (5, 1), (6, 1), (7, 2)], [(.st []), .it .i64 0, (.st []), .it .i64 0, .it .i64 0, .it .i64 0, .it .i64 0, .it .i64 0, .it .i64 0]) ∧
 fldOf Tryz.prog 63 0 = some (0, 1, false) ∧
 fldOf Tryz.prog 63 1 = some (1, 1, false) ∧
 fldOf Tryz.prog 63 2 = some (2, 1, false) ∧
 fldOf Tryz.prog 63 3 = some (3, 1, false) ∧
 fldOf Tryz.prog 63 4 = some (4, 1, false) ∧
 fldOf Tryz.prog 63 5 = some (5, 1, false) ∧
 fldOf Tryz.prog 63 6 = some (6, 1, false) ∧
 fldOf Tryz.prog 63 7 = some (7, 2, true) ∧
 eqsOf Tryz.prog 63 = some [(9, 0, 1, false), (3, 1, 1, false), (9, 2, 1, false), (3, 3, 1, false), (3, 4, 1, false), (3, 5, 1, false), (3, 6, 1, false), (36, 7, 2, true)] ∧
 Program.eqGuardType Tryz.prog (Program.depth Tryz.prog) 63 = false ∧
 kdOf Tryz.prog 64 = .other ∧
 szOf Tryz.prog 64 = some (7, true) ∧
 zerOf Tryz.prog 64 = some [.it .i64 0, (.st []), .it .i64 0, (.st []), .it .i64 0, .it .i64 0, .it .i64 0] ∧
 strOf Tryz.prog 64 = some ([(0, 1), (1, 1), (2, 1), (3, 1), (4, 1), (5, 2)], [.it .i64 0, (.st []), .it .i64 0, (.st []), .it .i64 0, .it .i64 0, .it .i64 0]) ∧
 fldOf Tryz.prog 64 0 = some (0, 1, false) ∧
 fldOf Tryz.prog 64 1 = some (1, 1, false) ∧
 fldOf Tryz.prog 64 2 = some (2, 1, false) ∧
 fldOf Tryz.prog 64 3 = some (3, 1, false) ∧
 fldOf Tryz.prog 64 4 = some (4, 1, false) ∧
 fldOf Tryz.prog 64 5 = some (5, 2, true) ∧
 eqsOf Tryz.prog 64 = some [(3, 0, 1, false), (9, 1, 1, false), (3, 2, 1, false), (9, 3, 1, false), (3, 4, 1, false), (36, 5, 2, true)] ∧
 Program.eqGuardType Tryz.prog (Program.depth Tryz.prog) 64 = false ∧
 kdOf Tryz.prog 65 = .other ∧
 szOf Tryz.prog 65 = some (7, true) ∧
 zerOf Tryz.prog 65 = some [.it .i64 0, (.st []), .it .i64 0, (.st []), .it .i64 0, .it .i64 0, .it .i64 0] ∧
 strOf Tryz.prog 65 = some ([(0, 1), (1, 1), (2, 1), (3, 1), (4, 1), (5, 2)], [.it .i64 0, (.st []), .it .i64 0, (.st []), .it .i64 0, .it .i64 0, .it .i64 0]) ∧
 fldOf Tryz.prog 65 0 = some (0, 1, false) ∧
 fldOf Tryz.prog 65 1 = some (1, 1, false) ∧
 fldOf Tryz.prog 65 2 = some (2, 1, false) ∧
 fldOf Tryz.prog 65 3 = some (3, 1, false) ∧
 fldOf Tryz.prog 65 4 = some (4, 1, false) ∧
 fldOf Tryz.prog 65 5 = some (5, 2, true) ∧
 eqsOf Tryz.prog 65 = some [(3, 0, 1, false), (9, 1, 1, false), (3, 2, 1, false), (9, 3, 1, false), (3, 4, 1, false), (36, 5, 2, true)] ∧
 Program.eqGuardType Tryz.prog (Program.depth Tryz.prog) 65 = false ∧
 kdOf Tryz.prog 66 = .other := by and_intros <;> kernel_rfl
theorem tf10 :
 szOf Tryz.prog 66 = some (12, true) ∧
 zerOf Tryz.prog 66 = some [.it .i64 0, .it .i64 0, .it .i64 0, (.st []), (.st []), (.st []), (.sl Mode.full []), .it .i64 0, .it .i64 0, .it .i64 0, .it .i64 0, .it .i64 0] ∧
 strOf Tryz.prog 66 = some ([(0, 1), (1, 1), (2, 1), (3, 1), (4, 1), (5, 1), (6, 1), (7, 1), (8, 1), (9, 1), (10, 2)], [.it .i64 0, .it .i64 0, .it .i64 0, (.st []), (.st []), (.st []), (.sl Mode.full []), .it .i64 0, .it .i64 0, .it .i64 0, .it .i64 0, .it .i64 0]) ∧
 fldOf Tryz.prog 66 0 = some (0, 1, false) ∧
 fldOf Tryz.prog 66 1 = some (1, 1, false) ∧
 fldOf Tryz.prog 66 2 = some (2, 1, false) ∧
 fldOf Tryz.prog 66 3 = some (3, 1, false) ∧
 fldOf Tryz.prog 66 4 = some (4, 1, false) ∧
 fldOf Tryz.prog 66 5 = some (5, 1, false) ∧
 fldOf Tryz.prog 66 6 = some (6, 1, false) ∧
 fldOf Tryz.prog 66 7 = some (7, 1, false) ∧
 fldOf Tryz.prog 66 8 = some (8, 1, false) ∧
 fldOf Tryz.prog 66 9 = some (9, 1, false) ∧
 fldOf Tryz.prog 66 10 = some (10, 2, true) ∧
 eqsOf Tryz.prog 66 = some [(3, 0, 1, false), (3, 1, 1, false), (3, 2, 1, false), (9, 3, 1, false), (9, 4, 1, false), (9, 5, 1, false), (56, 6, 1, false), (3, 7, 1, false), (3, 8, 1, false), (3, 9, 1, false), (36, 10, 2, true)] ∧
 Program.eqGuardType Tryz.prog (Program.depth Tryz.prog) 66 = false ∧
 kdOf Tryz.prog 67 = .other ∧
 szOf Tryz.prog 67 = some (12, true) ∧
 zerOf Tryz.prog 67 = some [.it .i64 0, .it .i64 0, .it .i64 0, (.st []), (.st []), (.st []), (.sl Mode.full []), .it .i64 0, .it .i64 0, .it .i64 0, .it .i64 0, .it .i64 0] ∧
 strOf Tryz.prog 67 = some ([(0, 1), (1, 1), (2, 1), (3, 1), (4, 1), (5, 1), (6, 1), (7, 1), (8, 1), (9, 1), (10, 2)], [.it .i64 0, .it .i64 0, .it .i64 0, (.st []), (.st []), (.st []), (.sl Mode.full []), .it .i64 0, .it .i64 0, .it .i64 0, .it .i64 0, .it .i64 0]) ∧
 fldOf Tryz.prog 67 0 = some (0, 1, false) ∧
 fldOf Tryz.prog 67 1 = some (1, 1, false) ∧
 fldOf Tryz.prog 67 2 = some (2, 1, false) ∧
 fldOf Tryz.prog 67 3 = some (3, 1, false) ∧
 fldOf Tryz.prog 67 4 = some (4, 1, false) ∧
 fldOf Tryz.prog 67 5 = some (5, 1, false) ∧
 fldOf Tryz.prog 67 6 = some (6, 1, false) ∧
 fldOf Tryz.prog 67 7 = some (7, 1, false) ∧
 fldOf Tryz.prog 67 8 = some (8, 1, false) ∧
 fldOf Tryz.prog 67 9 = some (9, 1, false) ∧
 fldOf Tryz.prog 67 10 = some (10, 2, true) ∧
 eqsOf Tryz.prog 67 = some [(3, 0, 1, false), (3, 1, 1, false), (3, 2, 1, false), (9, 3, 1, false), (9, 4, 1, false), (9, 5, 1, false), (56, 6, 1, false), (3, 7, 1, false), (3, 8, 1, false), (3, 9, 1, false), (36, 10, 2, true)] ∧
 Program.eqGuardType Tryz.prog (Program.depth Tryz.prog) 67 = false ∧
 kdOf Tryz.prog 68 = .other ∧
 szOf Tryz.prog 68 = some (49, true) ∧
 zerOf Tryz.prog 68 = some [.it .i64 0, (.st []), .it .i64 0, (.st []), .it .i64 0, .it .i64 0, (.st []), (.st []), .it .i64 0, (.st []), (.sl Mode.full []), (.st []), (.st []), (.st []), (.st []), .it .i64 0, (.sl Mode.full []), .it .i64 0, .it .i64 0, .it .i64 0, .it .i64 0, (.st []), .it .i64 0, (.st []), .it .i64 0, .it .i64 0, .it .i64 0, .it .i64 0, .it .i64 0, .it .i64 0, .it .i64 0, (.st []), .it .i64 0, (.st []), .it .i64 0, .it .i64 0, .it .i64 0, .it .i64 0, .it .i64 0, .it .i64 0, (.st []), (.st []), (.st []), (.sl Mode.full []), .it .i64 0, .it .i64 0, .it .i64 0, .it .i64 0, .it .i64 0] ∧
 strOf Tryz.prog 68 = some ([(0, 1), (1, 20), (21, 9), (30, 7), (37, 12)], [.it .i64 0, (.st []), .it .i64 0, (.st []), .it .i64 0, .it .i64 0, (.st []), (.st []), .it .i64 0, (.st []), (.sl Mode.full []), (.st []), (.st []), (.st []), (.st []), .it .i64 0, (.sl Mode.full []), .it .i64 0, .it .i64 0, .it .i64 0, .it .i64 0, (.st []), .it .i64 0, (.st []), .it .i64 0, .it .i64 0, .it .i64 0, .it .i64 0, .it .i64 0, .it .i64 0, .it .i64 0, (.st []), .it .i64 0, (.st []), .it .i64 0, .it .i64 0, .it .i64 0, .it .i64 0, .it .i64 0, .it .i64 0, (.st []), (.st []), (.st []), (.sl Mode.full []), .it .i64 0, .it .i64 0, .it .i64 0, .it .i64 0, .it .i64 0]) ∧
 fldOf Tryz.prog 68 0 = some (0, 1, false) ∧
 fldOf Tryz.prog 68 1 = some (1, 20, true) ∧
 fldOf Tryz.prog 68 2 = some (21, 9, true) := by and_intros <;> kernel_rfl
theorem tf11 :
 fldOf Tryz.prog 68 3 = some (30, 7, true) ∧
 fldOf Tryz.prog 68 4 = some (37, 12, true) ∧
 eqsOf Tryz.prog 68 = some [(3, 0, 1, false), (61, 1, 20, true), (63, 21, 9, true), (65, 30, 7, true), (67, 37, 12, true)] ∧
 Program.eqGuardType Tryz.prog (Program.depth Tryz.prog) 68 = false ∧
 kdOf Tryz.prog 69 = .other ∧
 szOf Tryz.prog 69 = some (49, true) ∧
 zerOf Tryz.prog 69 = some [.it .i64 0, (.st []), .it .i64 0, (.st []), .it .i64 0, .it .i64 0, (.st []), (.st []), .it .i64 0, (.st []), (.sl Mode.full []), (.st []), (.st []), (.st []), (.st []), .it .i64 0, (.sl Mode.full []), .it .i64 0, .it .i64 0, .it .i64 0, .it .i64 0, (.st []), .it .i64 0, (.st []), .it .i64 0, .it .i64 0, .it .i64 0, .it .i64 0, .it .i64 0, .it .i64 0, .it .i64 0, (.st []), .it .i64 0, (.st []), .it .i64 0, .it .i64 0, .it .i64 0, .it .i64 0, .it .i64 0, .it .i64 0, (.st []), (.st []), (.st []), (.sl Mode.full []), .it .i64 0, .it .i64 0, .it .i64 0, .it .i64 0, .it .i64 0] ∧
 strOf Tryz.prog 69 = some ([(0, 1), (1, 20), (21, 9), (30, 7), (37, 12)], [.it .i64 0, (.st []), .it .i64 0, (.st []), .it .i64 0, .it .i64 0, (.st []), (.st []), .it .i64 0, (.st []), (.sl Mode.full []), (.st []), (.st []), (.st []), (.st []), .it .i64 0, (.sl Mode.full []), .it .i64 0, .it .i64 0, .it .i64 0, .it .i64 0, (.st []), .it .i64 0, (.st []), .it .i64 0, .it .i64 0, .it .i64 0, .it .i64 0, .it .i64 0, .it .i64 0, .it .i64 0, (.st []), .it .i64 0, (.st []), .it .i64 0, .it .i64 0, .it .i64 0, .it .i64 0, .it .i64 0, .it .i64 0, (.st []), (.st []), (.st []), (.sl Mode.full []), .it .i64 0, .it .i64 0, .it .i64 0, .it .i64 0, .it .i64 0]) ∧
 fldOf Tryz.prog 69 0 = some (0, 1, false) ∧
 fldOf Tryz.prog 69 1 = some (1, 20, true) ∧
 fldOf Tryz.prog 69 2 = some (21, 9, true) ∧
 fldOf Tryz.prog 69 3 = some (30, 7, true) ∧
 fldOf Tryz.prog 69 4 = some (37, 12, true) ∧
 eqsOf Tryz.prog 69 = some [(3, 0, 1, false), (61, 1, 20, true), (63, 21, 9, true), (65, 30, 7, true), (67, 37, 12, true)] ∧
 Program.eqGuardType Tryz.prog (Program.depth Tryz.prog) 69 = false ∧
 kdOf Tryz.prog 70 = .other ∧
 szOf Tryz.prog 70 = some (50, true) ∧
 zerOf Tryz.prog 70 = some [.it .i64 0, .it .i64 0, (.st []), .it .i64 0, (.st []), .it .i64 0, .it .i64 0, (.st []), (.st []), .it .i64 0, (.st []), (.sl Mode.full []), (.st []), (.st []), (.st []), (.st []), .it .i64 0, (.sl Mode.full []), .it .i64 0, .it .i64 0, .it .i64 0, .it .i64 0, (.st []), .it .i64 0, (.st []), .it .i64 0, .it .i64 0, .it .i64 0, .it .i64 0, .it .i64 0, .it .i64 0, .it .i64 0, (.st []), .it .i64 0, (.st []), .it .i64 0, .it .i64 0, .it .i64 0, .it .i64 0, .it .i64 0, .it .i64 0, (.st []), (.st []), (.st []), (.sl Mode.full []), .it .i64 0, .it .i64 0, .it .i64 0, .it .i64 0, .it .i64 0] ∧
 strOf Tryz.prog 70 = some ([(0, 1), (1, 49)], [.it .i64 0, .it .i64 0, (.st []), .it .i64 0, (.st []), .it .i64 0, .it .i64 0, (.st []), (.st []), .it .i64 0, (.st []), (.sl Mode.full []), (.st []), (.st []), (.st []), (.st []), .it .i64 0, (.sl Mode.full []), .it .i64 0, .it .i64 0, .it .i64 0, .it .i64 0, (.st []), .it .i64 0, (.st []), .it .i64 0, .it .i64 0, .it .i64 0, .it .i64 0, .it .i64 0, .it .i64 0, .it .i64 0, (.st []), .it .i64 0, (.st []), .it .i64 0, .it .i64 0, .it .i64 0, .it .i64 0, .it .i64 0, .it .i64 0, (.st []), (.st []), (.st []), (.sl Mode.full []), .it .i64 0, .it .i64 0, .it .i64 0, .it .i64 0, .it .i64 0]) ∧
 fldOf Tryz.prog 70 0 = some (0, 1, false) ∧
 fldOf Tryz.prog 70 1 = some (1, 49, true) ∧
 eqsOf Tryz.prog 70 = some [(3, 0, 1, false), (69, 1, 49, true)] ∧
 Program.eqGuardType Tryz.prog (Program.depth Tryz.prog) 70 = false ∧
 kdOf Tryz.prog 71 = .other ∧
 szOf Tryz.prog 71 = some (50, true) ∧
 zerOf Tryz.prog 71 = some [.it .i64 0, .it .i64 0, (.st []), .it .i64 0, (.st []), .it .i64 0, .it .i64 0, (.st []), (.st []), .it .i64 0, (.st []), (.sl Mode.full []), (.st []), (.st []), (.st []), (.st []), .it .i64 0, (.sl Mode.full []), .it .i64 0, .it .i64 0, .it .i64 0, .it .i64 0, (.st []), .it .i64 0, (.st []), .it .i64 0, .it .i64 0, .it .i64 0, .it .i64 0, .it .i64 0, .it .i64 0, .it .i64 0, (.st []), .it .i64 0, (.st []), .it .i64 0, .it .i64 0, .it .i64 0, .it .i64 0, .it .i64 0, .it .i64 0, (.st []), (.st []), (.st []), (.sl Mode.full []), .it .i64 0, .it .i64 0, .it .i64 0, .it .i64 0, .it .i64 0] ∧
 strOf Tryz.prog 71 = some ([(0, 1), (1, 49)], [.it .i64 0, .it .i64 0, (.st []), .it .i64 0, (.st []), .it .i64 0, .it .i64 0, (.st []), (.st []), .it .i64 0, (.st []), (.sl Mode.full []), (.st []), (.st []), (.st []), (.st []), .it .i64 0, (.sl Mode.full []), .it .i64 0, .it .i64 0, .it .i64 0, .it .i64 0, (.st []), .it .i64 0, (.st []), .it .i64 0, .it .i64 0, .it .i64 0, .it .i64 0, .it .i64 0, .it .i64 0, .it .i64 0, (.st []), .it .i64 0, (.st []), .it .i64 0, .it .i64 0, .it .i64 0, .it .i64 0, .it .i64 0, .it .i64 0, (.st []), (.st []), (.st []), (.sl Mode.full []), .it .i64 0, .it .i64 0, .it .i64 0, .it .i64 0, .it .i64 0]) ∧
 fldOf Tryz.prog 71 0 = some (0, 1, false) ∧
 fldOf Tryz.prog 71 1 = some (1, 49, true) ∧
 eqsOf Tryz.prog 71 = some [(3, 0, 1, false), (69, 1, 49, true)] ∧
 Program.eqGuardType Tryz.prog (Program.depth Tryz.prog) 71 = false ∧
 kdOf Tryz.prog 72 = .fun ∧
 szOf Tryz.prog 72 = some (1, false) ∧
 zerOf Tryz.prog 72 = some [.ot .nilFunc] ∧
 kdOf Tryz.prog 73 = .fun ∧
 szOf Tryz.prog 73 = some (1, false) ∧
 zerOf Tryz.prog 73 = some [.ot .nilFunc] ∧
 kdOf Tryz.prog 74 = .fun ∧
 szOf Tryz.prog 74 = some (1, false) ∧
 zerOf Tryz.prog 74 = some [.ot .nilFunc] := by and_intros <;> kernel_rfl
theorem tf12 :
 kdOf Tryz.prog 75 = .other ∧
 szOf Tryz.prog 75 = some (14, true) ∧
 zerOf Tryz.prog 75 = some [.it .i64 0, .it .i64 0, (.st []), .it .i64 0, .it .i64 0, .it .i64 0, .it .i64 0, .it .i64 0, (.st []), .it .i64 0, .it .i64 0, .it .i64 0, (.st []), (.sl Mode.full [])] ∧
 strOf Tryz.prog 75 = some ([(0, 6), (6, 6), (12, 1), (13, 1)], [.it .i64 0, .it .i64 0, (.st []), .it .i64 0, .it .i64 0, .it .i64 0, .it .i64 0, .it .i64 0, (.st []), .it .i64 0, .it .i64 0, .it .i64 0, (.st []), (.sl Mode.full [])]) ∧
 fldOf Tryz.prog 75 0 = some (0, 6, true) ∧
 fldOf Tryz.prog 75 1 = some (6, 6, true) ∧
 fldOf Tryz.prog 75 2 = some (12, 1, false) ∧
 fldOf Tryz.prog 75 3 = some (13, 1, false) ∧
 eqsOf Tryz.prog 75 = some [(38, 0, 6, true), (38, 6, 6, true), (9, 12, 1, false), (56, 13, 1, false)] ∧
 Program.eqGuardType Tryz.prog (Program.depth Tryz.prog) 75 = false ∧
 kdOf Tryz.prog 76 = .other ∧
 szOf Tryz.prog 76 = some (14, true) ∧
 zerOf Tryz.prog 76 = some [.it .i64 0, .it .i64 0, (.st []), .it .i64 0, .it .i64 0, .it .i64 0, .it .i64 0, .it .i64 0, (.st []), .it .i64 0, .it .i64 0, .it .i64 0, (.st []), (.sl Mode.full [])] ∧
 strOf Tryz.prog 76 = some ([(0, 6), (6, 6), (12, 1), (13, 1)], [.it .i64 0, .it .i64 0, (.st []), .it .i64 0, .it .i64 0, .it .i64 0, .it .i64 0, .it .i64 0, (.st []), .it .i64 0, .it .i64 0, .it .i64 0, (.st []), (.sl Mode.full [])]) ∧
 fldOf Tryz.prog 76 0 = some (0, 6, true) ∧
 fldOf Tryz.prog 76 1 = some (6, 6, true) ∧
 fldOf Tryz.prog 76 2 = some (12, 1, false) ∧
 fldOf Tryz.prog 76 3 = some (13, 1, false) ∧
 eqsOf Tryz.prog 76 = some [(38, 0, 6, true), (38, 6, 6, true), (9, 12, 1, false), (56, 13, 1, false)] ∧
 Program.eqGuardType Tryz.prog (Program.depth Tryz.prog) 76 = false ∧
 kdOf Tryz.prog 77 = .fun ∧
 szOf Tryz.prog 77 = some (1, false) ∧
 zerOf Tryz.prog 77 = some [.ot .nilFunc] ∧
 kdOf Tryz.prog 78 = .other ∧
 szOf Tryz.prog 78 = some (1, false) ∧
 kdOf Tryz.prog 79 = .fun ∧
 szOf Tryz.prog 79 = some (1, false) ∧
 zerOf Tryz.prog 79 = some [.ot .nilFunc] ∧
 kdOf Tryz.prog 80 = .fun ∧
 szOf Tryz.prog 80 = some (1, false) ∧
 zerOf Tryz.prog 80 = some [.ot .nilFunc] ∧
 kdOf Tryz.prog 81 = .fun ∧
 szOf Tryz.prog 81 = some (1, false) ∧
 zerOf Tryz.prog 81 = some [.ot .nilFunc] ∧
 kdOf Tryz.prog 82 = .fun ∧
 szOf Tryz.prog 82 = some (1, false) ∧
 zerOf Tryz.prog 82 = some [.ot .nilFunc] ∧
 kdOf Tryz.prog 83 = .fun ∧
 szOf Tryz.prog 83 = some (1, false) ∧
 zerOf Tryz.prog 83 = some [.ot .nilFunc] := by and_intros <;> kernel_rfl
theorem tf13 :
 kdOf Tryz.prog 84 = .fun ∧
 szOf Tryz.prog 84 = some (1, false) ∧
 zerOf Tryz.prog 84 = some [.ot .nilFunc] ∧
 kdOf Tryz.prog 85 = .fun ∧
 szOf Tryz.prog 85 = some (1, false) ∧
 zerOf Tryz.prog 85 = some [.ot .nilFunc] ∧
 kdOf Tryz.prog 86 = .fun ∧
 szOf Tryz.prog 86 = some (1, false) ∧
 zerOf Tryz.prog 86 = some [.ot .nilFunc] ∧
 kdOf Tryz.prog 87 = .fun ∧
 szOf Tryz.prog 87 = some (1, false) ∧
 zerOf Tryz.prog 87 = some [.ot .nilFunc] ∧
 kdOf Tryz.prog 88 = .fun ∧
 szOf Tryz.prog 88 = some (1, false) ∧
 zerOf Tryz.prog 88 = some [.ot .nilFunc] ∧
 kdOf Tryz.prog 89 = .other ∧
 szOf Tryz.prog 89 = some (1, false) ∧
 kdOf Tryz.prog 90 = .fun ∧
 szOf Tryz.prog 90 = some (1, false) ∧
 zerOf Tryz.prog 90 = some [.ot .nilFunc] ∧
 kdOf Tryz.prog 91 = .fun ∧
 szOf Tryz.prog 91 = some (1, false) ∧
 zerOf Tryz.prog 91 = some [.ot .nilFunc] ∧
 kdOf Tryz.prog 92 = .fun ∧
 szOf Tryz.prog 92 = some (1, false) ∧
 zerOf Tryz.prog 92 = some [.ot .nilFunc] ∧
 kdOf Tryz.prog 93 = .fun ∧
 szOf Tryz.prog 93 = some (1, false) ∧
 zerOf Tryz.prog 93 = some [.ot .nilFunc] ∧
 kdOf Tryz.prog 94 = .fun ∧
 szOf Tryz.prog 94 = some (1, false) ∧
 zerOf Tryz.prog 94 = some [.ot .nilFunc] ∧
 kdOf Tryz.prog 95 = .fun ∧
 szOf Tryz.prog 95 = some (1, false) ∧
 zerOf Tryz.prog 95 = some [.ot .nilFunc] ∧
 kdOf Tryz.prog 96 = .fun ∧
 szOf Tryz.prog 96 = some (1, false) ∧
 zerOf Tryz.prog 96 = some [.ot .nilFunc] ∧
 kdOf Tryz.prog 97 = .fun ∧
 szOf Tryz.prog 97 = some (1, false) := by and_intros <;> kernel_rfl
theorem tf14 :
 zerOf Tryz.prog 97 = some [.ot .nilFunc] ∧
 kdOf Tryz.prog 98 = .fun ∧
 szOf Tryz.prog 98 = some (1, false) ∧
 zerOf Tryz.prog 98 = some [.ot .nilFunc] ∧
 kdOf Tryz.prog 99 = .fun ∧
 szOf Tryz.prog 99 = some (1, false) ∧
 zerOf Tryz.prog 99 = some [.ot .nilFunc] ∧
 kdOf Tryz.prog 100 = .fun ∧
 szOf Tryz.prog 100 = some (1, false) ∧
 zerOf Tryz.prog 100 = some [.ot .nilFunc] ∧
 kdOf Tryz.prog 101 = .fun ∧
 szOf Tryz.prog 101 = some (1, false) ∧
 zerOf Tryz.prog 101 = some [.ot .nilFunc] ∧
 kdOf Tryz.prog 102 = .fun ∧
 szOf Tryz.prog 102 = some (1, false) ∧
 zerOf Tryz.prog 102 = some [.ot .nilFunc] ∧
 kdOf Tryz.prog 103 = .fun ∧
 szOf Tryz.prog 103 = some (1, false) ∧
 zerOf Tryz.prog 103 = some [.ot .nilFunc] ∧
 kdOf Tryz.prog 104 = .fun ∧
 szOf Tryz.prog 104 = some (1, false) ∧
 zerOf Tryz.prog 104 = some [.ot .nilFunc] ∧
 kdOf Tryz.prog 105 = .fun ∧
 szOf Tryz.prog 105 = some (1, false) ∧
 zerOf Tryz.prog 105 = some [.ot .nilFunc] ∧
 kdOf Tryz.prog 106 = .fun ∧
 szOf Tryz.prog 106 = some (1, false) ∧
 zerOf Tryz.prog 106 = some [.ot .nilFunc] ∧
 kdOf Tryz.prog 107 = .fun ∧
 szOf Tryz.prog 107 = some (1, false) ∧
 zerOf Tryz.prog 107 = some [.ot .nilFunc] ∧
 kdOf Tryz.prog 108 = .fun ∧
 szOf Tryz.prog 108 = some (1, false) ∧
 zerOf Tryz.prog 108 = some [.ot .nilFunc] ∧
 kdOf Tryz.prog 109 = .fun ∧
 szOf Tryz.prog 109 = some (1, false) ∧
 zerOf Tryz.prog 109 = some [.ot .nilFunc] ∧
 kdOf Tryz.prog 110 = .fun ∧
 szOf Tryz.prog 110 = some (1, false) ∧
 zerOf Tryz.prog 110 = some [.ot .nilFunc] := by and_intros <;> kernel_rfl
theorem tf15 :
 kdOf Tryz.prog 111 = .fun ∧
 szOf Tryz.prog 111 = some (1, false) ∧
 zerOf Tryz.prog 111 = some [.ot .nilFunc] ∧
 kdOf Tryz.prog 112 = .fun ∧
 szOf Tryz.prog 112 = some (1, false) ∧
 zerOf Tryz.prog 112 = some [.ot .nilFunc] ∧
 kdOf Tryz.prog 113 = .fun ∧
 szOf Tryz.prog 113 = some (1, false) ∧
 zerOf Tryz.prog 113 = some [.ot .nilFunc] ∧
 kdOf Tryz.prog 114 = .fun ∧
 szOf Tryz.prog 114 = some (1, false) ∧
 zerOf Tryz.prog 114 = some [.ot .nilFunc] ∧
 kdOf Tryz.prog 115 = .fun ∧
 szOf Tryz.prog 115 = some (1, false) ∧
 zerOf Tryz.prog 115 = some [.ot .nilFunc] ∧
 kdOf Tryz.prog 116 = .ptr ∧
 szOf Tryz.prog 116 = some (1, false) ∧
 zerOf Tryz.prog 116 = some [(.ot (.pointer none))] ∧
 kdOf Tryz.prog 117 = .fun ∧
 szOf Tryz.prog 117 = some (1, false) ∧
 zerOf Tryz.prog 117 = some [.ot .nilFunc] ∧
 kdOf Tryz.prog 118 = .fun ∧
 szOf Tryz.prog 118 = some (1, false) ∧
 zerOf Tryz.prog 118 = some [.ot .nilFunc] ∧
 kdOf Tryz.prog 119 = .fun ∧
 szOf Tryz.prog 119 = some (1, false) ∧
 zerOf Tryz.prog 119 = some [.ot .nilFunc] ∧
 kdOf Tryz.prog 120 = .other ∧
 szOf Tryz.prog 120 = some (1, false) ∧
 kdOf Tryz.prog 121 = .fun ∧
 szOf Tryz.prog 121 = some (1, false) ∧
 zerOf Tryz.prog 121 = some [.ot .nilFunc] ∧
 kdOf Tryz.prog 122 = .ptr ∧
 szOf Tryz.prog 122 = some (1, false) ∧
 zerOf Tryz.prog 122 = some [(.ot (.pointer none))] ∧
 kdOf Tryz.prog 123 = .fun ∧
 szOf Tryz.prog 123 = some (1, false) ∧
 zerOf Tryz.prog 123 = some [.ot .nilFunc] ∧
 kdOf Tryz.prog 124 = .fun ∧
 szOf Tryz.prog 124 = some (1, false) := by and_intros <;> kernel_rfl
theorem tf16 :
 zerOf Tryz.prog 124 = some [.ot .nilFunc] ∧
 kdOf Tryz.prog 125 = .fun ∧
 szOf Tryz.prog 125 = some (1, false) ∧
 zerOf Tryz.prog 125 = some [.ot .nilFunc] ∧
 kdOf Tryz.prog 126 = .fun ∧
 szOf Tryz.prog 126 = some (1, false) ∧
 zerOf Tryz.prog 126 = some [.ot .nilFunc] ∧
 kdOf Tryz.prog 127 = .fun ∧
 szOf Tryz.prog 127 = some (1, false) ∧
 zerOf Tryz.prog 127 = some [.ot .nilFunc] ∧
 kdOf Tryz.prog 128 = .other ∧
 szOf Tryz.prog 128 = some (1, false) ∧
 kdOf Tryz.prog 129 = .fun ∧
 szOf Tryz.prog 129 = some (1, false) ∧
 zerOf Tryz.prog 129 = some [.ot .nilFunc] ∧
 kdOf Tryz.prog 130 = .fun ∧
 szOf Tryz.prog 130 = some (1, false) ∧
 zerOf Tryz.prog 130 = some [.ot .nilFunc] ∧
 kdOf Tryz.prog 131 = .fun ∧
 szOf Tryz.prog 131 = some (1, false) ∧
 zerOf Tryz.prog 131 = some [.ot .nilFunc] ∧
 kdOf Tryz.prog 132 = .fun ∧
 szOf Tryz.prog 132 = some (1, false) ∧
 zerOf Tryz.prog 132 = some [.ot .nilFunc] ∧
 kdOf Tryz.prog 133 = .fun ∧
 szOf Tryz.prog 133 = some (1, false) ∧
 zerOf Tryz.prog 133 = some [.ot .nilFunc] ∧
 kdOf Tryz.prog 134 = .fun ∧
 szOf Tryz.prog 134 = some (1, false) ∧
 zerOf Tryz.prog 134 = some [.ot .nilFunc] ∧
 kdOf Tryz.prog 135 = .fun ∧
 szOf Tryz.prog 135 = some (1, false) ∧
 zerOf Tryz.prog 135 = some [.ot .nilFunc] ∧
 kdOf Tryz.prog 136 = .fun ∧
 szOf Tryz.prog 136 = some (1, false) ∧
 zerOf Tryz.prog 136 = some [.ot .nilFunc] ∧
 kdOf Tryz.prog 137 = .fun ∧
 szOf Tryz.prog 137 = some (1, false) ∧
 zerOf Tryz.prog 137 = some [.ot .nilFunc] ∧
 kdOf Tryz.prog 138 = .fun := by and_intros <;> kernel_rfl
theorem tf17 :
 szOf Tryz.prog 138 = some (1, false) ∧
 zerOf Tryz.prog 138 = some [.ot .nilFunc] ∧
 kdOf Tryz.prog 139 = .fun ∧
 szOf Tryz.prog 139 = some (1, false) ∧
 zerOf Tryz.prog 139 = some [.ot .nilFunc] ∧
 kdOf Tryz.prog 140 = .fun ∧
 szOf Tryz.prog 140 = some (1, false) ∧
 zerOf Tryz.prog 140 = some [.ot .nilFunc] ∧
 kdOf Tryz.prog 141 = .fun ∧
 szOf Tryz.prog 141 = some (1, false) ∧
 zerOf Tryz.prog 141 = some [.ot .nilFunc] ∧
 kdOf Tryz.prog 142 = .other ∧
 szOf Tryz.prog 142 = some (1, false) ∧
 kdOf Tryz.prog 143 = .fun ∧
 szOf Tryz.prog 143 = some (1, false) ∧
 zerOf Tryz.prog 143 = some [.ot .nilFunc] ∧
 kdOf Tryz.prog 144 = .fun ∧
 szOf Tryz.prog 144 = some (1, false) ∧
 zerOf Tryz.prog 144 = some [.ot .nilFunc] ∧
 kdOf Tryz.prog 145 = .fun ∧
 szOf Tryz.prog 145 = some (1, false) ∧
 zerOf Tryz.prog 145 = some [.ot .nilFunc] ∧
 kdOf Tryz.prog 146 = .other ∧
 szOf Tryz.prog 146 = some (2, true) ∧
 zerOf Tryz.prog 146 = some [(.st []), .bo false] ∧
 strOf Tryz.prog 146 = some ([(0, 1), (1, 1)], [(.st []), .bo false]) ∧
 fldOf Tryz.prog 146 0 = some (0, 1, false) ∧
 fldOf Tryz.prog 146 1 = some (1, 1, false) ∧
 eqsOf Tryz.prog 146 = some [(9, 0, 1, false), (4, 1, 1, false)] ∧
 Program.eqGuardType Tryz.prog (Program.depth Tryz.prog) 146 = false ∧
 kdOf Tryz.prog 147 = .other ∧
 szOf Tryz.prog 147 = some (2, true) ∧
 zerOf Tryz.prog 147 = some [(.st []), .bo false] ∧
 strOf Tryz.prog 147 = some ([(0, 1), (1, 1)], [(.st []), .bo false]) ∧
 fldOf Tryz.prog 147 0 = some (0, 1, false) ∧
 fldOf Tryz.prog 147 1 = some (1, 1, false) ∧
 eqsOf Tryz.prog 147 = some [(9, 0, 1, false), (4, 1, 1, false)] ∧
 Program.eqGuardType Tryz.prog (Program.depth Tryz.prog) 147 = false ∧
 kdOf Tryz.prog 148 = .fun ∧
 szOf Tryz.prog 148 = some (1, false) := by and_intros <;> kernel_rfl
theorem tf18 :
 zerOf Tryz.prog 148 = some [.ot .nilFunc] ∧
 kdOf Tryz.prog 149 = .fun ∧
 szOf Tryz.prog 149 = some (1, false) ∧
 zerOf Tryz.prog 149 = some [.ot .nilFunc] ∧
 kdOf Tryz.prog 150 = .other ∧
 szOf Tryz.prog 150 = some (2, true) ∧
 zerOf Tryz.prog 150 = some [(.st []), .bo false] ∧
 strOf Tryz.prog 150 = some ([(0, 1), (1, 1)], [(.st []), .bo false]) ∧
 fldOf Tryz.prog 150 0 = some (0, 1, false) ∧
 fldOf Tryz.prog 150 1 = some (1, 1, false) ∧
 eqsOf Tryz.prog 150 = some [(9, 0, 1, false), (4, 1, 1, false)] ∧
 Program.eqGuardType Tryz.prog (Program.depth Tryz.prog) 150 = false ∧
 kdOf Tryz.prog 151 = .other ∧
 szOf Tryz.prog 151 = some (2, true) ∧
 zerOf Tryz.prog 151 = some [(.st []), .bo false] ∧
 strOf Tryz.prog 151 = some ([(0, 1), (1, 1)], [(.st []), .bo false]) ∧
 fldOf Tryz.prog 151 0 = some (0, 1, false) ∧
 fldOf Tryz.prog 151 1 = some (1, 1, false) ∧
 eqsOf Tryz.prog 151 = some [(9, 0, 1, false), (4, 1, 1, false)] ∧
 Program.eqGuardType Tryz.prog (Program.depth Tryz.prog) 151 = false ∧
 kdOf Tryz.prog 152 = .fun ∧
 szOf Tryz.prog 152 = some (1, false) ∧
 zerOf Tryz.prog 152 = some [.ot .nilFunc] ∧
 kdOf Tryz.prog 153 = .fun ∧
 szOf Tryz.prog 153 = some (1, false) ∧
 zerOf Tryz.prog 153 = some [.ot .nilFunc] ∧
 kdOf Tryz.prog 154 = .fun ∧
 szOf Tryz.prog 154 = some (1, false) ∧
 zerOf Tryz.prog 154 = some [.ot .nilFunc] ∧
 kdOf Tryz.prog 155 = .other ∧
 szOf Tryz.prog 155 = some (1, false) ∧
 kdOf Tryz.prog 156 = .fun ∧
 szOf Tryz.prog 156 = some (1, false) ∧
 zerOf Tryz.prog 156 = some [.ot .nilFunc] ∧
 kdOf Tryz.prog 157 = .bytes ∧
 szOf Tryz.prog 157 = some (1, false) ∧
 sleOf Tryz.prog 157 = some (5, 1, false) ∧
 appOf Tryz.prog 157 = some (5, 1, 1) ∧
 bytOf Tryz.prog 157 = some 5 ∧
 zerOf Tryz.prog 157 = some [(.sl Mode.full [])] := by and_intros <;> kernel_rfl
theorem tf19 :
 kdOf Tryz.prog 158 = (.int .u64) ∧
 szOf Tryz.prog 158 = some (1, false) ∧
 zerOf Tryz.prog 158 = some [.it .u64 0] ∧
 kdOf Tryz.prog 159 = .other ∧
 szOf Tryz.prog 159 = some (1, false) ∧
 sleOf Tryz.prog 159 = some (162, 1, false) ∧
 appOf Tryz.prog 159 = some (162, 1, 4) ∧
 zerOf Tryz.prog 159 = some [(.sl Mode.full [])] ∧
 kdOf Tryz.prog 160 = .fun ∧
 szOf Tryz.prog 160 = some (1, false) ∧
 zerOf Tryz.prog 160 = some [.ot .nilFunc] ∧
 kdOf Tryz.prog 161 = .fun ∧
 szOf Tryz.prog 161 = some (1, false) ∧
 zerOf Tryz.prog 161 = some [.ot .nilFunc] ∧
 kdOf Tryz.prog 162 = (.int .u32) ∧
 szOf Tryz.prog 162 = some (1, false) ∧
 zerOf Tryz.prog 162 = some [.it .u32 0] ∧
 kdOf Tryz.prog 163 = .fun ∧
 szOf Tryz.prog 163 = some (1, false) ∧
 zerOf Tryz.prog 163 = some [.ot .nilFunc] ∧
 kdOf Tryz.prog 164 = .fun ∧
 szOf Tryz.prog 164 = some (1, false) ∧
 zerOf Tryz.prog 164 = some [.ot .nilFunc] ∧
 kdOf Tryz.prog 165 = .fun ∧
 szOf Tryz.prog 165 = some (1, false) ∧
 zerOf Tryz.prog 165 = some [.ot .nilFunc] ∧
 kdOf Tryz.prog 166 = .fun ∧
 szOf Tryz.prog 166 = some (1, false) ∧
 zerOf Tryz.prog 166 = some [.ot .nilFunc] ∧
 kdOf Tryz.prog 167 = .fun ∧
 szOf Tryz.prog 167 = some (1, false) ∧
 zerOf Tryz.prog 167 = some [.ot .nilFunc] ∧
 kdOf Tryz.prog 168 = .fun ∧
 szOf Tryz.prog 168 = some (1, false) ∧
 zerOf Tryz.prog 168 = some [.ot .nilFunc] ∧
 kdOf Tryz.prog 169 = .fun ∧
 szOf Tryz.prog 169 = some (1, false) ∧
 zerOf Tryz.prog 169 = some [.ot .nilFunc] ∧
 kdOf Tryz.prog 170 = .other ∧
 szOf Tryz.prog 170 = some (4, true) := by and_intros <;> kernel_rfl
theorem tf20 :
 zerOf Tryz.prog 170 = some [(.st []), .ot .nilFunc, .it .i64 0, .it .i64 0] ∧
 strOf Tryz.prog 170 = some ([(0, 1), (1, 1), (2, 2)], [(.st []), .ot .nilFunc, .it .i64 0, .it .i64 0]) ∧
 fldOf Tryz.prog 170 0 = some (0, 1, false) ∧
 fldOf Tryz.prog 170 1 = some (1, 1, false) ∧
 fldOf Tryz.prog 170 2 = some (2, 2, true) ∧
 eqsOf Tryz.prog 170 = some [(9, 0, 1, false), (169, 1, 1, false), (36, 2, 2, true)] ∧
 Program.eqGuardType Tryz.prog (Program.depth Tryz.prog) 170 = false ∧
 kdOf Tryz.prog 171 = .other ∧
 szOf Tryz.prog 171 = some (4, true) ∧
 zerOf Tryz.prog 171 = some [(.st []), .ot .nilFunc, .it .i64 0, .it .i64 0] ∧
 strOf Tryz.prog 171 = some ([(0, 1), (1, 1), (2, 2)], [(.st []), .ot .nilFunc, .it .i64 0, .it .i64 0]) ∧
 fldOf Tryz.prog 171 0 = some (0, 1, false) ∧
 fldOf Tryz.prog 171 1 = some (1, 1, false) ∧
 fldOf Tryz.prog 171 2 = some (2, 2, true) ∧
 eqsOf Tryz.prog 171 = some [(9, 0, 1, false), (169, 1, 1, false), (36, 2, 2, true)] ∧
 Program.eqGuardType Tryz.prog (Program.depth Tryz.prog) 171 = false ∧
 kdOf Tryz.prog 172 = .fun ∧
 szOf Tryz.prog 172 = some (1, false) ∧
 zerOf Tryz.prog 172 = some [.ot .nilFunc] ∧
 kdOf Tryz.prog 173 = .fun ∧
 szOf Tryz.prog 173 = some (1, false) ∧
 zerOf Tryz.prog 173 = some [.ot .nilFunc] ∧
 kdOf Tryz.prog 174 = .other ∧
 szOf Tryz.prog 174 = some (1, true) ∧
 zerOf Tryz.prog 174 = some [(.sl Mode.full [])] ∧
 strOf Tryz.prog 174 = some ([(0, 1)], [(.sl Mode.full [])]) ∧
 fldOf Tryz.prog 174 0 = some (0, 1, false) ∧
 eqsOf Tryz.prog 174 = some [(157, 0, 1, false)] ∧
 Program.eqGuardType Tryz.prog (Program.depth Tryz.prog) 174 = false ∧
 kdOf Tryz.prog 175 = .other ∧
 szOf Tryz.prog 175 = some (1, true) ∧
 zerOf Tryz.prog 175 = some [(.sl Mode.full [])] ∧
 strOf Tryz.prog 175 = some ([(0, 1)], [(.sl Mode.full [])]) ∧
 fldOf Tryz.prog 175 0 = some (0, 1, false) ∧
 eqsOf Tryz.prog 175 = some [(157, 0, 1, false)] ∧
 Program.eqGuardType Tryz.prog (Program.depth Tryz.prog) 175 = false ∧
 kdOf Tryz.prog 176 = .fun ∧
 szOf Tryz.prog 176 = some (1, false) ∧
 zerOf Tryz.prog 176 = some [.ot .nilFunc] ∧
 kdOf Tryz.prog 177 = .fun := by and_intros <;> kernel_rfl
theorem tf21 :
 szOf Tryz.prog 177 = some (1, false) ∧
 zerOf Tryz.prog 177 = some [.ot .nilFunc] ∧
 kdOf Tryz.prog 178 = .ptr ∧
 szOf Tryz.prog 178 = some (1, false) ∧
 zerOf Tryz.prog 178 = some [(.ot (.pointer none))] ∧
 kdOf Tryz.prog 179 = .fun ∧
 szOf Tryz.prog 179 = some (1, false) ∧
 zerOf Tryz.prog 179 = some [.ot .nilFunc] ∧
 kdOf Tryz.prog 180 = .other ∧
 szOf Tryz.prog 180 = some (5, true) ∧
 zerOf Tryz.prog 180 = some [.it .i64 0, .it .i64 0, (.st []), (.st []), (.st [])] ∧
 strOf Tryz.prog 180 = some ([(0, 1), (1, 1), (2, 3)], [.it .i64 0, .it .i64 0, (.st []), (.st []), (.st [])]) ∧
 fldOf Tryz.prog 180 0 = some (0, 1, false) ∧
 fldOf Tryz.prog 180 1 = some (1, 1, false) ∧
 fldOf Tryz.prog 180 2 = some (2, 3, true) ∧
 eqsOf Tryz.prog 180 = some [(3, 0, 1, false), (3, 1, 1, false), (58, 2, 3, true)] ∧
 Program.eqGuardType Tryz.prog (Program.depth Tryz.prog) 180 = false ∧
 kdOf Tryz.prog 181 = .other ∧
 szOf Tryz.prog 181 = some (5, true) ∧
 zerOf Tryz.prog 181 = some [.it .i64 0, .it .i64 0, (.st []), (.st []), (.st [])] ∧
 strOf Tryz.prog 181 = some ([(0, 1), (1, 1), (2, 3)], [.it .i64 0, .it .i64 0, (.st []), (.st []), (.st [])]) ∧
 fldOf Tryz.prog 181 0 = some (0, 1, false) ∧
 fldOf Tryz.prog 181 1 = some (1, 1, false) ∧
 fldOf Tryz.prog 181 2 = some (2, 3, true) ∧
 eqsOf Tryz.prog 181 = some [(3, 0, 1, false), (3, 1, 1, false), (58, 2, 3, true)] ∧
 Program.eqGuardType Tryz.prog (Program.depth Tryz.prog) 181 = false ∧
 kdOf Tryz.prog 182 = .other ∧
 szOf Tryz.prog 182 = some (8, true) ∧
 areOf Tryz.prog 182 = some (8, 1, false) ∧
 zerOf Tryz.prog 182 = some [.it .u32 0, .it .u32 0, .it .u32 0, .it .u32 0, .it .u32 0, .it .u32 0, .it .u32 0, .it .u32 0] ∧
 strOf Tryz.prog 182 = some ([(0, 1), (1, 1), (2, 1), (3, 1), (4, 1), (5, 1), (6, 1), (7, 1)], [.it .u32 0, .it .u32 0, .it .u32 0, .it .u32 0, .it .u32 0, .it .u32 0, .it .u32 0, .it .u32 0]) ∧
 kdOf Tryz.prog 183 = .fun ∧
 szOf Tryz.prog 183 = some (1, false) ∧
 zerOf Tryz.prog 183 = some [.ot .nilFunc] ∧
 kdOf Tryz.prog 184 = .fun ∧
 szOf Tryz.prog 184 = some (1, false) ∧
 zerOf Tryz.prog 184 = some [.ot .nilFunc] ∧
 kdOf Tryz.prog 185 = (.int .u64) ∧
 szOf Tryz.prog 185 = some (1, false) ∧
 zerOf Tryz.prog 185 = some [.it .u64 0] := by and_intros <;> kernel_rfl
theorem tf22 :
 kdOf Tryz.prog 186 = .fun ∧
 szOf Tryz.prog 186 = some (1, false) ∧
 zerOf Tryz.prog 186 = some [.ot .nilFunc] ∧
 kdOf Tryz.prog 187 = .ptr ∧
 szOf Tryz.prog 187 = some (1, false) ∧
 zerOf Tryz.prog 187 = some [(.ot (.pointer none))] ∧
 kdOf Tryz.prog 188 = .other ∧
 szOf Tryz.prog 188 = some (2, true) ∧
 zerOf Tryz.prog 188 = some [(.ot (.pointer none)), (.sl Mode.full [])] ∧
 strOf Tryz.prog 188 = some ([(0, 1), (1, 1)], [(.ot (.pointer none)), (.sl Mode.full [])]) ∧
 fldOf Tryz.prog 188 0 = some (0, 1, false) ∧
 fldOf Tryz.prog 188 1 = some (1, 1, false) ∧
 eqsOf Tryz.prog 188 = some [(187, 0, 1, false), (157, 1, 1, false)] ∧
 Program.eqGuardType Tryz.prog (Program.depth Tryz.prog) 188 = false ∧
 kdOf Tryz.prog 189 = .other ∧
 szOf Tryz.prog 189 = some (2, true) ∧
 zerOf Tryz.prog 189 = some [(.ot (.pointer none)), (.sl Mode.full [])] ∧
 strOf Tryz.prog 189 = some ([(0, 1), (1, 1)], [(.ot (.pointer none)), (.sl Mode.full [])]) ∧
 fldOf Tryz.prog 189 0 = some (0, 1, false) ∧
 fldOf Tryz.prog 189 1 = some (1, 1, false) ∧
 eqsOf Tryz.prog 189 = some [(187, 0, 1, false), (157, 1, 1, false)] ∧
 Program.eqGuardType Tryz.prog (Program.depth Tryz.prog) 189 = false ∧
 kdOf Tryz.prog 190 = .fun ∧
 szOf Tryz.prog 190 = some (1, false) ∧
 zerOf Tryz.prog 190 = some [.ot .nilFunc] ∧
 kdOf Tryz.prog 191 = .other ∧
 szOf Tryz.prog 191 = some (1, false) ∧
 zerOf Tryz.prog 191 = some [.ot .nilIface] ∧
 kdOf Tryz.prog 192 = .other ∧
 szOf Tryz.prog 192 = some (1, false) ∧
 zerOf Tryz.prog 192 = some [.ot .nilIface] ∧
 kdOf Tryz.prog 193 = .other ∧
 szOf Tryz.prog 193 = some (1, false) ∧
 kdOf Tryz.prog 194 = .fun ∧
 szOf Tryz.prog 194 = some (1, false) ∧
 zerOf Tryz.prog 194 = some [.ot .nilFunc] ∧
 kdOf Tryz.prog 195 = .fun ∧
 szOf Tryz.prog 195 = some (1, false) ∧
 zerOf Tryz.prog 195 = some [.ot .nilFunc] ∧
 kdOf Tryz.prog 196 = .fun := by and_intros <;> kernel_rfl
theorem tf23 :
 szOf Tryz.prog 196 = some (1, false) ∧
 zerOf Tryz.prog 196 = some [.ot .nilFunc] ∧
 kdOf Tryz.prog 197 = .other ∧
 szOf Tryz.prog 197 = some (1, false) ∧
 kdOf Tryz.prog 198 = .fun ∧
 szOf Tryz.prog 198 = some (1, false) ∧
 zerOf Tryz.prog 198 = some [.ot .nilFunc] ∧
 kdOf Tryz.prog 199 = .other ∧
 szOf Tryz.prog 199 = some (2, true) ∧
 zerOf Tryz.prog 199 = some [.it .i64 0, .ot .nilFunc] ∧
 strOf Tryz.prog 199 = some ([(0, 1), (1, 1)], [.it .i64 0, .ot .nilFunc]) ∧
 fldOf Tryz.prog 199 0 = some (0, 1, false) ∧
 fldOf Tryz.prog 199 1 = some (1, 1, false) ∧
 eqsOf Tryz.prog 199 = some [(3, 0, 1, false), (165, 1, 1, false)] ∧
 Program.eqGuardType Tryz.prog (Program.depth Tryz.prog) 199 = false ∧
 kdOf Tryz.prog 200 = .other ∧
 szOf Tryz.prog 200 = some (2, true) ∧
 zerOf Tryz.prog 200 = some [.it .i64 0, .ot .nilFunc] ∧
 strOf Tryz.prog 200 = some ([(0, 1), (1, 1)], [.it .i64 0, .ot .nilFunc]) ∧
 fldOf Tryz.prog 200 0 = some (0, 1, false) ∧
 fldOf Tryz.prog 200 1 = some (1, 1, false) ∧
 eqsOf Tryz.prog 200 = some [(3, 0, 1, false), (165, 1, 1, false)] ∧
 Program.eqGuardType Tryz.prog (Program.depth Tryz.prog) 200 = false ∧
 kdOf Tryz.prog 201 = .other ∧
 szOf Tryz.prog 201 = some (1, false) ∧
 kdOf Tryz.prog 202 = .other ∧
 szOf Tryz.prog 202 = some (1, false) ∧
 zerOf Tryz.prog 202 = some [(.ot (.map none))] ∧
 mapOf Tryz.prog 202 = some (some .i64, (.agg [.it .i64 0, .ot .nilFunc])) ∧
 kdOf Tryz.prog 203 = .fun ∧
 szOf Tryz.prog 203 = some (1, false) ∧
 zerOf Tryz.prog 203 = some [.ot .nilFunc] ∧
 kdOf Tryz.prog 204 = .fun ∧
 szOf Tryz.prog 204 = some (1, false) ∧
 zerOf Tryz.prog 204 = some [.ot .nilFunc] ∧
 kdOf Tryz.prog 205 = .fun ∧
 szOf Tryz.prog 205 = some (1, false) ∧
 zerOf Tryz.prog 205 = some [.ot .nilFunc] ∧
 kdOf Tryz.prog 206 = .fun ∧
 szOf Tryz.prog 206 = some (1, false) := by and_intros <;> kernel_rfl
theorem tf24 :
 zerOf Tryz.prog 206 = some [.ot .nilFunc] ∧
 kdOf Tryz.prog 207 = .fun ∧
 szOf Tryz.prog 207 = some (1, false) ∧
 zerOf Tryz.prog 207 = some [.ot .nilFunc] ∧
 kdOf Tryz.prog 208 = .other ∧
 szOf Tryz.prog 208 = some (64, true) ∧
 areOf Tryz.prog 208 = some (64, 1, false) ∧
 zerOf Tryz.prog 208 = some [.it .u32 0, .it .u32 0, .it .u32 0, .it .u32 0, .it .u32 0, .it .u32 0, .it .u32 0, .it .u32 0, .it .u32 0, .it .u32 0, .it .u32 0, .it .u32 0, .it .u32 0, .it .u32 0, .it .u32 0, .it .u32 0, .it .u32 0, .it .u32 0, .it .u32 0, .it .u32 0, .it .u32 0, .it .u32 0, .it .u32 0, .it .u32 0, .it .u32 0, .it .u32 0, .it .u32 0, .it .u32 0, .it .u32 0, .it .u32 0, .it .u32 0, .it .u32 0, .it .u32 0, .it .u32 0, .it .u32 0, .it .u32 0, .it .u32 0, .it .u32 0, .it .u32 0, .it .u32 0, .it .u32 0, .it .u32 0, .it .u32 0, .it .u32 0, .it .u32 0, .it .u32 0, .it .u32 0, .it .u32 0, .it .u32 0, .it .u32 0, .it .u32 0, .it .u32 0, .it .u32 0, .it .u32 0, .it .u32 0, .it .u32 0, .it .u32 0, .it .u32 0, .it .u32 0, .it .u32 0, .it .u32 0, .it .u32 0, .it .u32 0, .it .u32 0] ∧
 strOf Tryz.prog 208 = some ([(0, 1), (1, 1), (2, 1), (3, 1), (4, 1), (5, 1), (6, 1), (7, 1), (8, 1), (9, 1), (10, 1), (11, 1), (12, 1), (13, 1), (14, 1), (15, 1), (16, 1), (17, 1), (18, 1), (19, 1), (20, 1), (21, 1), (22, 1), (23, 1), (24, 1), (25, 1), (26, 1), (27, 1), (28, 1), (29, 1), (30, 1), (31, 1), (32, 1), (33, 1), (34, 1), (35, 1), (36, 1), (37, 1), (38, 1), (39, 1), (40, 1), (41, 1), (42, 1), (43, 1), (44, 1), (45, 1), (46, 1), (47, 1), (48, 1), (49, 1), (50, 1), (51, 1), (52, 1), (53, 1), (54, 1), (55, 1), (56, 1), (57, 1), (58, 1), (59, 1), (60, 1), (61, 1), (62, 1), (63, 1)], [.it .u32 0, .it .u32 0, .it .u32 0, .it .u32 0, .it .u32 0, .it .u32 0, .it .u32 0, .it .u32 0, .it .u32 0, .it .u32 0, .it .u32 0, .it .u32 0, .it .u32 0, .it .u32 0, .it .u32 0, .it .u32 0, .it .u32 0, .it .u32 0, .it .u32 0, .it .u32 0, .it .u32 0, .it .u32 0, .it .u32 0, .it .u32 0, .it .u32 0, .it .u32 0, .it .u32 0, .it .u32 0, .it .u32 0, .it .u32 0, .it .u32 0, .it .u32 0, .it .u32 0, .it .u32 0, .it .u32 0, .it .u32 0, .it .u32 0, .it .u32 0, .it .u32 0, .it .u32 0, .it .u32 0, .it .u32 0, .it .u32 0, .it .u32 0, .it .u32 0, .it .u32 0, .it .u32 0, .it .u32 0, .it .u32 0, .it .u32 0, .it .u32 0, .it .u32 0, .it .u32 0, .it .u32 0, .it .u32 0, .it .u32 0, .it .u32 0, .it .u32 0, .it .u32 0, .it .u32 0, .it .u32 0, .it .u32 0, .it .u32 0, .it .u32 0]) ∧
 kdOf Tryz.prog 209 = .fun ∧
 szOf Tryz.prog 209 = some (1, false) ∧
 zerOf Tryz.prog 209 = some [.ot .nilFunc] ∧
 kdOf Tryz.prog 210 = .other ∧
 szOf Tryz.prog 210 = some (1, false) ∧
 kdOf Tryz.prog 211 = .fun ∧
 szOf Tryz.prog 211 = some (1, false) ∧
 zerOf Tryz.prog 211 = some [.ot .nilFunc] ∧
 kdOf Tryz.prog 212 = .fun ∧
 szOf Tryz.prog 212 = some (1, false) ∧
 zerOf Tryz.prog 212 = some [.ot .nilFunc] ∧
 kdOf Tryz.prog 213 = .ptr ∧
 szOf Tryz.prog 213 = some (1, false) ∧
 zerOf Tryz.prog 213 = some [(.ot (.pointer none))] ∧
 kdOf Tryz.prog 214 = .fun ∧
 szOf Tryz.prog 214 = some (1, false) ∧
 zerOf Tryz.prog 214 = some [.ot .nilFunc] ∧
 kdOf Tryz.prog 215 = .fun ∧
 szOf Tryz.prog 215 = some (1, false) ∧
 zerOf Tryz.prog 215 = some [.ot .nilFunc] ∧
 kdOf Tryz.prog 216 = .fun ∧
 szOf Tryz.prog 216 = some (1, false) ∧
 zerOf Tryz.prog 216 = some [.ot .nilFunc] ∧
 kdOf Tryz.prog 217 = .fun ∧
 szOf Tryz.prog 217 = some (1, false) ∧
 zerOf Tryz.prog 217 = some [.ot .nilFunc] ∧
 kdOf Tryz.prog 218 = .fun ∧
 szOf Tryz.prog 218 = some (1, false) ∧
 zerOf Tryz.prog 218 = some [.ot .nilFunc] ∧
 kdOf Tryz.prog 219 = .fun ∧
 szOf Tryz.prog 219 = some (1, false) := by and_intros <;> kernel_rfl
theorem tf25 :
 zerOf Tryz.prog 219 = some [.ot .nilFunc] ∧
 kdOf Tryz.prog 220 = .fun ∧
 szOf Tryz.prog 220 = some (1, false) ∧
 zerOf Tryz.prog 220 = some [.ot .nilFunc] ∧
 kdOf Tryz.prog 221 = .fun ∧
 szOf Tryz.prog 221 = some (1, false) ∧
 zerOf Tryz.prog 221 = some [.ot .nilFunc] ∧
 kdOf Tryz.prog 222 = .fun ∧
 szOf Tryz.prog 222 = some (1, false) ∧
 zerOf Tryz.prog 222 = some [.ot .nilFunc] ∧
 kdOf Tryz.prog 223 = .other ∧
 szOf Tryz.prog 223 = some (1, false) ∧
 zerOf Tryz.prog 223 = some [(.ot (.pointer none))] ∧
 kdOf Tryz.prog 224 = .fun ∧
 szOf Tryz.prog 224 = some (1, false) ∧
 zerOf Tryz.prog 224 = some [.ot .nilFunc] ∧
 kdOf Tryz.prog 225 = .fun ∧
 szOf Tryz.prog 225 = some (1, false) ∧
 zerOf Tryz.prog 225 = some [.ot .nilFunc] ∧
 kdOf Tryz.prog 226 = .fun ∧
 szOf Tryz.prog 226 = some (1, false) ∧
 zerOf Tryz.prog 226 = some [.ot .nilFunc] ∧
 kdOf Tryz.prog 227 = .fun ∧
 szOf Tryz.prog 227 = some (1, false) ∧
 zerOf Tryz.prog 227 = some [.ot .nilFunc] ∧
 kdOf Tryz.prog 228 = .fun ∧
 szOf Tryz.prog 228 = some (1, false) ∧
 zerOf Tryz.prog 228 = some [.ot .nilFunc] ∧
 kdOf Tryz.prog 229 = .fun ∧
 szOf Tryz.prog 229 = some (1, false) ∧
 zerOf Tryz.prog 229 = some [.ot .nilFunc] ∧
 kdOf Tryz.prog 230 = .ptr ∧
 szOf Tryz.prog 230 = some (1, false) ∧
 zerOf Tryz.prog 230 = some [(.ot (.pointer none))] ∧
 kdOf Tryz.prog 231 = .other ∧
 szOf Tryz.prog 231 = some (4, true) ∧
 zerOf Tryz.prog 231 = some [(.ot (.pointer none)), (.ot (.pointer none)), (.ot (.pointer none)), (.st [])] ∧
 strOf Tryz.prog 231 = some ([(0, 1), (1, 1), (2, 1), (3, 1)], [(.ot (.pointer none)), (.ot (.pointer none)), (.ot (.pointer none)), (.st [])]) ∧
 fldOf Tryz.prog 231 0 = some (0, 1, false) ∧
 fldOf Tryz.prog 231 1 = some (1, 1, false) := by and_intros <;> kernel_rfl
theorem tf26 :
 fldOf Tryz.prog 231 2 = some (2, 1, false) ∧
 fldOf Tryz.prog 231 3 = some (3, 1, false) ∧
 kdOf Tryz.prog 232 = .other ∧
 szOf Tryz.prog 232 = some (4, true) ∧
 zerOf Tryz.prog 232 = some [(.ot (.pointer none)), (.ot (.pointer none)), (.ot (.pointer none)), (.st [])] ∧
 strOf Tryz.prog 232 = some ([(0, 1), (1, 1), (2, 1), (3, 1)], [(.ot (.pointer none)), (.ot (.pointer none)), (.ot (.pointer none)), (.st [])]) ∧
 fldOf Tryz.prog 232 0 = some (0, 1, false) ∧
 fldOf Tryz.prog 232 1 = some (1, 1, false) ∧
 fldOf Tryz.prog 232 2 = some (2, 1, false) ∧
 fldOf Tryz.prog 232 3 = some (3, 1, false) ∧
 kdOf Tryz.prog 233 = .other ∧
 szOf Tryz.prog 233 = some (0, true) ∧
 areOf Tryz.prog 233 = some (0, 1, false) ∧
 zerOf Tryz.prog 233 = some [] ∧
 strOf Tryz.prog 233 = some ([], []) ∧
 kdOf Tryz.prog 234 = .other ∧
 szOf Tryz.prog 234 = some (0, true) ∧
 zerOf Tryz.prog 234 = some [] ∧
 strOf Tryz.prog 234 = some ([(0, 0)], []) ∧
 fldOf Tryz.prog 234 0 = some (0, 0, true) ∧
 kdOf Tryz.prog 235 = .other ∧
 szOf Tryz.prog 235 = some (0, true) ∧
 zerOf Tryz.prog 235 = some [] ∧
 strOf Tryz.prog 235 = some ([(0, 0)], []) ∧
 fldOf Tryz.prog 235 0 = some (0, 0, true) ∧
 kdOf Tryz.prog 236 = (.int .u8) ∧
 szOf Tryz.prog 236 = some (1, false) ∧
 zerOf Tryz.prog 236 = some [.it .u8 0] ∧
 kdOf Tryz.prog 237 = (.int .u8) ∧
 szOf Tryz.prog 237 = some (1, false) ∧
 zerOf Tryz.prog 237 = some [.it .u8 0] ∧
 kdOf Tryz.prog 238 = .fun ∧
 szOf Tryz.prog 238 = some (1, false) ∧
 zerOf Tryz.prog 238 = some [.ot .nilFunc] ∧
 kdOf Tryz.prog 239 = (.int .i32) ∧
 szOf Tryz.prog 239 = some (1, false) ∧
 zerOf Tryz.prog 239 = some [.it .i32 0] ∧
 kdOf Tryz.prog 240 = (.int .i32) ∧
 szOf Tryz.prog 240 = some (1, false) ∧
 zerOf Tryz.prog 240 = some [.it .i32 0] := by and_intros <;> kernel_rfl
theorem tf27 :
 kdOf Tryz.prog 241 = .other ∧
 szOf Tryz.prog 241 = some (11, true) ∧
 zerOf Tryz.prog 241 = some [.it .u64 0, .it .u64 0, .it .u32 0, .it .u8 0, .it .u8 0, .it .u8 0, .it .u8 0, .ot .nilFunc, (.ot (.pointer none)), .it .i32 0, .it .i32 0] ∧
 strOf Tryz.prog 241 = some ([(0, 1), (1, 1), (2, 1), (3, 1), (4, 1), (5, 1), (6, 1), (7, 1), (8, 1), (9, 1), (10, 1)], [.it .u64 0, .it .u64 0, .it .u32 0, .it .u8 0, .it .u8 0, .it .u8 0, .it .u8 0, .ot .nilFunc, (.ot (.pointer none)), .it .i32 0, .it .i32 0]) ∧
 fldOf Tryz.prog 241 0 = some (0, 1, false) ∧
 fldOf Tryz.prog 241 1 = some (1, 1, false) ∧
 fldOf Tryz.prog 241 2 = some (2, 1, false) ∧
 fldOf Tryz.prog 241 3 = some (3, 1, false) ∧
 fldOf Tryz.prog 241 4 = some (4, 1, false) ∧
 fldOf Tryz.prog 241 5 = some (5, 1, false) ∧
 fldOf Tryz.prog 241 6 = some (6, 1, false) ∧
 fldOf Tryz.prog 241 7 = some (7, 1, false) ∧
 fldOf Tryz.prog 241 8 = some (8, 1, false) ∧
 fldOf Tryz.prog 241 9 = some (9, 1, false) ∧
 fldOf Tryz.prog 241 10 = some (10, 1, false) ∧
 kdOf Tryz.prog 242 = .other ∧
 szOf Tryz.prog 242 = some (11, true) ∧
 zerOf Tryz.prog 242 = some [.it .u64 0, .it .u64 0, .it .u32 0, .it .u8 0, .it .u8 0, .it .u8 0, .it .u8 0, .ot .nilFunc, (.ot (.pointer none)), .it .i32 0, .it .i32 0] ∧
 strOf Tryz.prog 242 = some ([(0, 1), (1, 1), (2, 1), (3, 1), (4, 1), (5, 1), (6, 1), (7, 1), (8, 1), (9, 1), (10, 1)], [.it .u64 0, .it .u64 0, .it .u32 0, .it .u8 0, .it .u8 0, .it .u8 0, .it .u8 0, .ot .nilFunc, (.ot (.pointer none)), .it .i32 0, .it .i32 0]) ∧
 fldOf Tryz.prog 242 0 = some (0, 1, false) ∧
 fldOf Tryz.prog 242 1 = some (1, 1, false) ∧
 fldOf Tryz.prog 242 2 = some (2, 1, false) ∧
 fldOf Tryz.prog 242 3 = some (3, 1, false) ∧
 fldOf Tryz.prog 242 4 = some (4, 1, false) ∧
 fldOf Tryz.prog 242 5 = some (5, 1, false) ∧
 fldOf Tryz.prog 242 6 = some (6, 1, false) ∧
 fldOf Tryz.prog 242 7 = some (7, 1, false) ∧
 fldOf Tryz.prog 242 8 = some (8, 1, false) ∧
 fldOf Tryz.prog 242 9 = some (9, 1, false) ∧
 fldOf Tryz.prog 242 10 = some (10, 1, false) ∧
 kdOf Tryz.prog 243 = .other ∧
 szOf Tryz.prog 243 = some (1, true) ∧
 zerOf Tryz.prog 243 = some [(.st [])] ∧
 strOf Tryz.prog 243 = some ([(0, 1)], [(.st [])]) ∧
 fldOf Tryz.prog 243 0 = some (0, 1, false) ∧
 eqsOf Tryz.prog 243 = some [(9, 0, 1, false)] ∧
 Program.eqGuardType Tryz.prog (Program.depth Tryz.prog) 243 = false ∧
 kdOf Tryz.prog 244 = .other ∧
 szOf Tryz.prog 244 = some (1, true) ∧
 zerOf Tryz.prog 244 = some [(.st [])] := by and_intros <;> kernel_rfl
theorem tf28 :
 strOf Tryz.prog 244 = some ([(0, 1)], [(.st [])]) ∧
 fldOf Tryz.prog 244 0 = some (0, 1, false) ∧
 eqsOf Tryz.prog 244 = some [(9, 0, 1, false)] ∧
 Program.eqGuardType Tryz.prog (Program.depth Tryz.prog) 244 = false := by and_intros <;> kernel_rfl
end Go.Proofs.YthbpbkbjdfcnjaaGreatDoor.Pe
end
section
namespace Go.Proofs.YthbpbkbjdfcnjaaGreatDoor.Pe
open Go
variable [Tab]
set_option maxRecDepth 100000
theorem an {a b : Prop} (x : a) (y : b) : a ∧ b := ⟨x, y⟩
theorem run {A B : Prop} (h : B) (e : A = B := by
  conv =>
   lhs
   (try simp only [AWs_eq, ARgs_eq, AOps_eq, iteP_true, iteP_false])
   (try simp -implicitDefEqProofs (maxSteps := 4000000) (disch := (first | omega | (simp only [List.length_append, List.length_cons, List.length_map, List.length_nil, List.length_take, List.length_drop]; omega))) only [↓zpre, zpost, cst1, ↓reduceIte, Nat.reduceEqDiff, Nat.reduceAdd, Nat.reduceLT, Nat.reduceLeDiff, Nat.reduceMul, Nat.reduceSub, Int.reduceToNat, Int.reduceAdd, Int.reduceSub, Int.reduceMul, Int.reduceNeg, Int.reduceLE, Int.reduceLT, Int.reduceEq, Int.reduceBEq, Int.reduceBNe, Nat.reduceBEq, Nat.reduceBNe, aBin, aEq, aEqF, aNilEq, aInt, aStr, aUn, aConv, aNil, aFldAddr, aFld, aIdxAddr, aIdx, aBui, aLoad, aStore, aLits, aLit, aMake, aMakeW, aMapSet, aLook, kfind, keq, kok, lookOut, aMk, aRange, aNext, aBytes, aApp, srcOf, aSlice, aBound, modeCut, apart, aFill, aval, aGd, ACall, AV.wk, AV.wk2, AV.wk1, AV.cells, AV.solid, AV.ro, AV.ro1, ← List.map_take, ← List.map_drop, reduceCtorEq, Option.isNone_some, Option.isSome_none, tf0, tf1, tf2, tf3, tf4, tf5, tf6, tf7, tf8, tf9, tf10, tf11, tf12, tf13, tf14, tf15, tf16, tf17, tf18, tf19, tf20, tf21, tf22, tf23, tf24, tf25, tf26, tf27, tf28])
   (try simp only [iteP_true, iteP_false])) : A := e ▸ h
theorem runf {F A B : Prop} (f : F) (h : B) (e : F → A = B := by
  intro f
  conv =>
   lhs
   (try simp only [AWs_eq, ARgs_eq, AOps_eq, iteP_true, iteP_false])
   (try simp -implicitDefEqProofs (maxSteps := 4000000) (disch := (first | omega | (simp only [List.length_append, List.length_cons, List.length_map, List.length_nil, List.length_take, List.length_drop]; omega))) only [↓zpre, zpost, cst1, ↓reduceIte, Nat.reduceEqDiff, Nat.reduceAdd, Nat.reduceLT, Nat.reduceLeDiff, Nat.reduceMul, Nat.reduceSub, Int.reduceToNat, Int.reduceAdd, Int.reduceSub, Int.reduceMul, Int.reduceNeg, Int.reduceLE, Int.reduceLT, Int.reduceEq, Int.reduceBEq, Int.reduceBNe, Nat.reduceBEq, Nat.reduceBNe, aBin, aEq, aEqF, aNilEq, aInt, aStr, aUn, aConv, aNil, aFldAddr, aFld, aIdxAddr, aIdx, aBui, aLoad, aStore, aLits, aLit, aMake, aMakeW, aMapSet, aLook, kfind, keq, kok, lookOut, aMk, aRange, aNext, aBytes, aApp, srcOf, aSlice, aBound, modeCut, apart, aFill, aval, aGd, ACall, AV.wk, AV.wk2, AV.wk1, AV.cells, AV.solid, AV.ro, AV.ro1, ← List.map_take, ← List.map_drop, reduceCtorEq, Option.isNone_some, Option.isSome_none, tf0, tf1, tf2, tf3, tf4, tf5, tf6, tf7, tf8, tf9, tf10, tf11, tf12, tf13, tf14, tf15, tf16, tf17, tf18, tf19, tf20, tf21, tf22, tf23, tf24, tf25, tf26, tf27, tf28, f])
   (try simp only [iteP_true, iteP_false])) : A := e f ▸ h
section
variable {P : Program} {pf rf : List FuncId} {e : Env} {f : FuncId} {d : Option Nat} {rest : List AO} {K : Env → Store → Prop}
theorem cp {args args' : List AV} {S : Store} {v : AV} (h : AC P f args' [] v []) (h' : ARg P pf rf rest (put e d v) S K)
  (ha : args.map AV.wk = args' := by rfl) (hk : args'.all (AV.ok 0) = true := by rfl) (hv : v.ok 0 = true := by rfl) : callP (PureC P f args S) (ARgk P pf rf d rest e K) := call_pure h ha hk hv h'
theorem o0_mono {v : AV} {n m : Nat} (h : v.o0 n = true) (hm : n ≤ m) : v.o0 m = true := by
 cases v with
 | sl mo es => cases mo <;> simp_all [AV.o0]; omega
 | ptr l o => simp only [AV.o0, decide_eq_true_eq] at *; omega
 | mp l => simp only [AV.o0, decide_eq_true_eq] at *; omega
 | ws l o k c => simp only [AV.o0, decide_eq_true_eq] at *; omega
 | wr l k o => simp only [AV.o0, decide_eq_true_eq] at *; omega
 | _ => simp_all [AV.o0]
theorem o1_mono {v : AV} {n m : Nat} (h : v.o1 n = true) (hm : n ≤ m) : v.o1 m = true := by
 cases v with
 | fn g a c =>
  simp only [AV.o1, Bool.and_eq_true, List.all_eq_true] at *
  exact ⟨fun x hx => o0_mono (h.1 x hx) hm, fun x hx => o0_mono (h.2 x hx) hm⟩
 | bo b => exact o0_mono (v := .bo b) h hm
 | it k i => exact o0_mono (v := .it k i) h hm
 | st l => exact o0_mono (v := .st l) h hm
 | ot v => exact o0_mono (v := .ot v) h hm
 | sl m' es => exact o0_mono (v := .sl m' es) h hm
 | agg cs => exact o0_mono (v := .agg cs) h hm
 | tup vs => exact o0_mono (v := .tup vs) h hm
 | ptr l o => exact o0_mono (v := .ptr l o) h hm
 | pst e o => exact o0_mono (v := .pst e o) h hm
 | mp l => exact o0_mono (v := .mp l) h hm
 | fm es => exact o0_mono (v := .fm es) h hm
 | ws l o k c => exact o0_mono (v := .ws l o k c) h hm
 | wr l k o => exact o0_mono (v := .wr l k o) h hm
 | junk => exact o0_mono (v := .junk) h hm
theorem o2_mono {v : AV} {n m : Nat} (h : v.o2 n = true) (hm : n ≤ m) : v.o2 m = true := by
 cases v with
 | agg cs =>
  simp only [AV.o2, List.all_eq_true] at *
  exact fun x hx => o1_mono (h x hx) hm
 | bo b => exact o1_mono (v := .bo b) h hm
 | it k i => exact o1_mono (v := .it k i) h hm
 | st l => exact o1_mono (v := .st l) h hm
 | ot v => exact o1_mono (v := .ot v) h hm
 | sl m' es => exact o1_mono (v := .sl m' es) h hm
 | tup vs => exact o1_mono (v := .tup vs) h hm
 | ptr l o => exact o1_mono (v := .ptr l o) h hm
 | pst e o => exact o1_mono (v := .pst e o) h hm
 | fn f a c => exact o1_mono (v := .fn f a c) h hm
 | mp l => exact o1_mono (v := .mp l) h hm
 | fm es => exact o1_mono (v := .fm es) h hm
 | ws l o k c => exact o1_mono (v := .ws l o k c) h hm
 | wr l k o => exact o1_mono (v := .wr l k o) h hm
 | junk => exact o1_mono (v := .junk) h hm
theorem ok_mono {v : AV} {n m : Nat} (h : v.ok n = true) (hm : n ≤ m) : v.ok m = true := by
 cases v with
 | tup cs =>
  simp only [AV.ok, List.all_eq_true] at *
  exact fun x hx => o2_mono (h x hx) hm
 | bo b => exact o2_mono (v := .bo b) h hm
 | it k i => exact o2_mono (v := .it k i) h hm
 | st l => exact o2_mono (v := .st l) h hm
 | ot v => exact o2_mono (v := .ot v) h hm
 | sl m' es => exact o2_mono (v := .sl m' es) h hm
 | agg cs => exact o2_mono (v := .agg cs) h hm
 | ptr l o => exact o2_mono (v := .ptr l o) h hm
 | pst e o => exact o2_mono (v := .pst e o) h hm
 | fn f a c => exact o2_mono (v := .fn f a c) h hm
 | mp l => exact o2_mono (v := .mp l) h hm
 | fm es => exact o2_mono (v := .fm es) h hm
 | ws l o k c => exact o2_mono (v := .ws l o k c) h hm
 | wr l k o => exact o2_mono (v := .wr l k o) h hm
 | junk => exact o2_mono (v := .junk) h hm
theorem ren_all {us : List AV} (h : us.all (AV.ok 0) = true) (ρ : Nat → Nat) : us.map (AV.ren ρ) = us := map_id_of h fun v hv => ren_id hv (fun i hi => absurd hi (Nat.not_lt_zero _))
theorem sren0 {o : SObj} (h : o.ok 0 = true) (ρ : Nat → Nat) : o.ren ρ = o := by
 cases o with
 | cells cs =>
  have : cs.map (AV.r1 ρ) = cs := map_id_of (p := AV.o1 0) h fun v hv => by
   have := ren_id (ρ := ρ) (v := .agg [v]) (n := 0) (by simpa [AV.ok, AV.o2] using hv) (fun i hi => absurd hi (Nat.not_lt_zero _))
   simpa [AV.ren, AV.r2] using this
  show SObj.cells _ = _
  rw [this]
 | row cs e sz =>
  have : cs.map (AV.r1 ρ) = cs := map_id_of (p := AV.o1 0) h fun v hv => by
   have := ren_id (ρ := ρ) (v := .agg [v]) (n := 0) (by simpa [AV.ok, AV.o2] using hv) (fun i hi => absurd hi (Nat.not_lt_zero _))
   simpa [AV.ren, AV.r2] using this
  show SObj.row _ _ _ = _
  rw [this]
 | map es =>
  have h := List.all_eq_true.1 h
  show SObj.map _ = SObj.map es
  congr 1
  rw [List.map_congr_left (g := id) fun p hp => ?_, List.map_id]
  have := h p hp
  simp only [Bool.and_eq_true] at this
  have h1 := ren_id (ρ := ρ) (v := .agg [p.1]) (n := 0) (by simpa [AV.ok, AV.o2] using this.1) (fun i hi => absurd hi (Nat.not_lt_zero _))
  have h2 := ren_id (ρ := ρ) (v := .tup [p.2]) (n := 0) (by simpa [AV.ok] using this.2) (fun i hi => absurd hi (Nat.not_lt_zero _))
  have h1 : p.1.r1 ρ = p.1 := by simpa [AV.ren, AV.r2] using h1
  have h2 : p.2.r2 ρ = p.2 := by
   have h2 : AV.tup [p.2.r2 ρ] = AV.tup [p.2] := h2
   simp only [AV.tup.injEq, List.cons.injEq, and_true] at h2
   exact h2
  rw [h1, h2]; rfl
 | _ => rfl
theorem sok1 {o : SObj} (h : o.ok 0 = true) : o.ok 1 = true := by
 cases o with
 | cells cs =>
  refine List.all_eq_true.2 fun v hv => ?_
  have := List.all_eq_true.1 h v hv
  have := ok_mono (v := .agg [v]) (n := 0) (m := 1) (by simpa [AV.ok, AV.o2] using this) (Nat.zero_le 1)
  simpa [AV.ok, AV.o2] using this
 | row cs e sz =>
  refine List.all_eq_true.2 fun v hv => ?_
  have := List.all_eq_true.1 h v hv
  have := ok_mono (v := .agg [v]) (n := 0) (m := 1) (by simpa [AV.ok, AV.o2] using this) (Nat.zero_le 1)
  simpa [AV.ok, AV.o2] using this
 | map es =>
  refine List.all_eq_true.2 fun p hp => ?_
  have := List.all_eq_true.1 h p hp
  simp only [Bool.and_eq_true] at *
  exact ⟨o1_mono this.1 (Nat.zero_le 1), o2_mono this.2 (Nat.zero_le 1)⟩
 | _ => rfl
theorem AC.here {args : List AV} {o o' : SObj} {v : AV} (h : AC P f (.ptr 0 0 :: args) [o] v [o']) (l : Nat) (T : Store) (ho : o.ok 0 = true) (ho' : o'.ok 0 = true) (ha : args.all (AV.ok 0) = true) (hv : v.ok 0 = true) (hT : T[l]? = some o) :
  AC P f (.ptr l 0 :: args) T v (T.set l o') := by
 have ha1 : ∀ u ∈ args, u.ok 1 = true := fun u hu => ok_mono (List.all_eq_true.1 ha u hu) (Nat.zero_le 1)
 have := AC.at1 h l (by rw [sren0 ho]; exact hT) (by simp only [List.all_cons, Bool.and_eq_true]; exact ⟨rfl, List.all_eq_true.2 ha1⟩) (ok_mono hv (Nat.zero_le 1)) (sok1 ho) (sok1 ho')
 rw [List.map_cons, ren_all ha, sren0 ho', ren_id hv (fun i hi => absurd hi (Nat.not_lt_zero _))] at this
 exact this
theorem c1 {args gargs : List AV} {T : Store} {o o' : SObj} {v : AV} (l : Nat) (h : AC P f (.ptr 0 0 :: args) [o] v [o']) (h' : ARg P pf rf rest (put e d v) (T.set l o') K)
  (ho : o.ok 0 = true := by rfl) (ho' : o'.ok 0 = true := by rfl) (ha : args.all (AV.ok 0) = true := by rfl) (hv : v.ok 0 = true := by rfl) (hT : T[l]? = some o := by rfl) (hg : gargs.map AV.wk = .ptr l 0 :: args := by rfl) :
  callP (AnyC P f gargs T) (ARgk P pf rf d rest e K) :=
 call_mk (show AC P f (gargs.map AV.wk) T v (T.set l o') by rw [hg]; exact h.here l T ho ho' ha hv hT) h'
end
theorem Weak.freeze (N0 : Nat) {e : Env} {S : Store} (d l : Nat) {es : List (AV × AV)} (hd : e d = .mp l) (hS : S[l]? = some (.map es)) (hok : (SObj.map es).ok 0 = true) : Weak N0 e S (upd e d (.fm es)) (S.set l .dead) := by
 rintro N w0 g0 a w hn ⟨h1, h2, g, h3, h4, h5⟩
 have hlS := (List.getElem?_eq_some_iff.1 hS).1
 obtain ⟨hb, hown, hG, me, clock, hheap, hsz, hlt, hnd, hrel⟩ := h3.obj l _ hS
 have hln : l < g.nid := by rw [h3.nid]; exact hlS
 let g' : Gh := { g with G := fun x => if x = g.pl l then 1 else g.G x }
 have hne : ∀ b, 0 < g.G b → b ≠ g.pl l := fun b h e => by rw [e, hG] at h; exact absurd h (Nat.lt_irrefl 0)
 have hle : Le w g w g' := ⟨fun _ _ _ _ h => h, fun b o v hb _ => by
  show o < (if b = g.pl l then 1 else g.G b)
  rw [if_neg (hne b (by omega))]; exact hb, Nat.le_refl _, fun _ _ => ⟨rfl, .inl ⟨rfl, rfl, rfl⟩⟩, fun b me c hg hm => ⟨by
  show 0 < (if b = g.pl l then 1 else g.G b)
  rw [if_neg (hne b hg)]; exact hg, hm⟩⟩
 have hren : RenOk w g w g'.noid id 0 := ⟨hle.noid, fun l hl => absurd hl (Nat.not_lt_zero _)⟩
 have hall := List.all_eq_true.1 (show (es.all fun p => p.1.o1 0 && p.2.o2 0) = true from hok)
 have hko : ∀ u ∈ es, u.1.o1 0 = true ∧ u.2.o2 0 = true := fun u hu => by simpa using hall u hu
 refine ⟨h1, h2, g', ⟨by rw [List.length_set]; exact h3.nid, fun k o hk => ?_, h3.disj, h3.lt, h3.tab.le hle⟩, fun t => ?_, h5.trans ⟨hle, rfl, rfl, rfl, Nat.le_refl _, fun _ _ _ => rfl, fun _ _ hk hb _ => ⟨hk, hb⟩, fun b _ hno => if_neg (fun e => hno l hln (by rw [e]; exact hown))⟩⟩
 ·by_cases hkl : k = l
  ·subst hkl; rw [List.getElem?_set_self hlS] at hk; cases hk; trivial
  ·rw [List.getElem?_set_ne (Ne.symm hkl)] at hk
   have hkn : k < g.nid := by rw [h3.nid]; exact (List.getElem?_eq_some_iff.1 hk).1
   refine (h3.obj k o hk).keep hle rfl rfl rfl rfl rfl (fun b hb' => ?_) (fun _ _ => rfl)
   exact if_neg (fun e => hkl (h3.disj k l b hkn hln hb' (by rw [e]; exact hown)))
 ·by_cases htd : t = d
  ·subst htd
   rw [upd_same]
   have ht := h4 t
   rw [hd] at ht
   generalize a.tmps.getD t undef = cv at ht
   cases ht
   refine .fm _ es (g.pl l) me clock (by show 0 < (if g.pl l = g.pl l then 1 else _); rw [if_pos rfl]; exact Nat.one_pos) hheap hsz (fun j u x hu hx => ?_) fun j u x hu hx => ?_
   ·have := (hrel j u x hu hx).1.r1 hren (hko u (List.mem_of_getElem? hu)).1
    rwa [r1_id (hko u (List.mem_of_getElem? hu)).1 (fun i hi => absurd hi (Nat.not_lt_zero _))] at this
   ·have := (hrel j u x hu hx).2.r2 hren (hko u (List.mem_of_getElem? hu)).2
    rwa [r2_id (hko u (List.mem_of_getElem? hu)).2 (fun i hi => absurd hi (Nat.not_lt_zero _))] at this
  ·rw [upd_ne e htd]; exact (h4 t).le hle
theorem AC.newAt {P : Program} {f : FuncId} {args : List AV} {o : SObj} (h : AC P f args [] (.ptr 0 0) [o]) (T : Store) (ha : args.all (AV.ok 0) = true := by rfl) (ho : o.ok 0 = true := by rfl) : AC P f args T (.ptr T.length 0) (T ++ [o]) := by
 have := AC.fresh1 h ha rfl (sok1 ho) T
 rw [sren0 ho] at this
 simpa [AV.ren, AV.r2, AV.r1, AV.r0] using this
theorem er0 {P : Program} {rs : List ResultVar} {v : AV} {e : Env} {S : Store} {vs : List AV} (h : aRes P rs e S = some vs := by rfl) (hk : v.ok 0 = true := by rfl) (hv : resV vs = v := by rfl) : finQ P rs 0 v [] .ret e S := ends_ret0 h hk hv
theorem er1 {P : Program} {rs : List ResultVar} {v : AV} {e : Env} {S : Store} {o : SObj} {vs : List AV} (h : aRes P rs e S = some vs := by rfl) (ho : o.ok 1 = true := by rfl) (hS : S[0]? = some (o.ren (idx [0])) := by rfl) (hk : v.ok 1 = true := by rfl) (hv : resV vs = v.ren (idx [0]) := by rfl) : finQ P rs 1 v [o] .ret e S :=
 ends_ret (κ := [0]) h (subOk_one 0 ho hS) rfl hk hv
theorem en1 {P : Program} {rs : List ResultVar} {v : AV} {e : Env} {S : Store} {o : SObj} {vs : List AV} (h : aRes P rs e S = some vs := by rfl) (ho : o.ok 1 = true := by rfl) (hS : S[0]? = some (o.ren (idx [0])) := by rfl) (hk : v.ok 1 = true := by rfl) (hv : resV vs = v.ren (idx [0]) := by rfl) : finQ P rs 1 v [o] .norm e S :=
 ⟨e, S, vs, [0], Weak.refl 1 e S, h, subOk_one 0 ho hS, rfl, hk, .inl hv⟩
theorem er1w {P : Program} {rs : List ResultVar} {v : AV} {e : Env} {S : Store} {o : SObj} {vs : List AV} (h : aRes P rs e S = some vs := by rfl) (ho : o.ok 1 = true := by rfl) (hS : S[0]? = some (o.ren (idx [0])) := by rfl) (hk : v.ok 1 = true := by rfl) (hv : (resV vs).wk = v.ren (idx [0]) := by rfl) : finQ P rs 1 v [o] .ret e S :=
 ⟨e, S, vs, [0], Weak.refl 1 e S, h, subOk_one 0 ho hS, rfl, hk, .inr hv⟩
theorem er0w {P : Program} {rs : List ResultVar} {v : AV} {e : Env} {S : Store} {vs : List AV} (h : aRes P rs e S = some vs := by rfl) (hk : v.ok 0 = true := by rfl) (hv : (resV vs).wk = v := by rfl) : finQ P rs 0 v [] .ret e S := ends_ret0w h hk hv
end Go.Proofs.YthbpbkbjdfcnjaaGreatDoor.Pe
end
