/- Several texts in one, without what this claim does not use (tools/shake.py). -/
import Derived.Test.YtaphpbiaoofmkaaGreatDoorKj5
import Derived.Test.YtaphpbiaoofmkaaGreatDoorProg
import Derived.KernelRfl
set_option linter.unusedSectionVars false
set_option linter.unusedVariables false
set_option linter.unusedSimpArgs false
section
namespace Go.Proofs.YtaphpbiaoofmkaaGreatDoor.Pe
open Go
set_option maxRecDepth 100000
theorem tf0 :
 kdOf Tryz.prog 0 = .other ∧
 szOf Tryz.prog 0 = some (1, false) ∧
 kdOf Tryz.prog 1 = .fun ∧
 szOf Tryz.prog 1 = some (1, false) ∧
 zerOf Tryz.prog 1 = some [.ot .nilFunc] ∧
 kdOf Tryz.prog 2 = (.int .i64) ∧
 szOf Tryz.prog 2 = some (1, false) ∧
 zerOf Tryz.prog 2 = some [.it .i64 0] ∧
 kdOf Tryz.prog 3 = (.int .i64) ∧
 szOf Tryz.prog 3 = some (1, false) ∧
 zerOf Tryz.prog 3 = some [.it .i64 0] ∧
 kdOf Tryz.prog 4 = .bool ∧
 szOf Tryz.prog 4 = some (1, false) ∧
 zerOf Tryz.prog 4 = some [.bo false] ∧
 kdOf Tryz.prog 5 = (.int .u8) ∧
 szOf Tryz.prog 5 = some (1, false) ∧
 zerOf Tryz.prog 5 = some [.it .u8 0] ∧
 kdOf Tryz.prog 6 = (.int .u8) ∧
 szOf Tryz.prog 6 = some (1, false) ∧
 zerOf Tryz.prog 6 = some [.it .u8 0] ∧
 kdOf Tryz.prog 7 = .other ∧
 szOf Tryz.prog 7 = some (4, true) ∧
 zerOf Tryz.prog 7 = some [.it .i64 0, .it .i64 0, .bo false, .it .u8 0] ∧
 strOf Tryz.prog 7 = some ([(0, 1), (1, 1), (2, 1), (3, 1)], [.it .i64 0, .it .i64 0, .bo false, .it .u8 0]) ∧
 fldOf Tryz.prog 7 0 = some (0, 1, false) ∧
 fldOf Tryz.prog 7 1 = some (1, 1, false) ∧
 fldOf Tryz.prog 7 2 = some (2, 1, false) ∧
 fldOf Tryz.prog 7 3 = some (3, 1, false) ∧
 eqsOf Tryz.prog 7 = some [(2, 0, 1, false), (3, 1, 1, false), (4, 2, 1, false), (6, 3, 1, false)] ∧
 Program.eqGuardType Tryz.prog (Program.depth Tryz.prog) 7 = false ∧
 kdOf Tryz.prog 8 = .other ∧
 szOf Tryz.prog 8 = some (4, true) ∧
 zerOf Tryz.prog 8 = some [.it .i64 0, .it .i64 0, .bo false, .it .u8 0] ∧
 strOf Tryz.prog 8 = some ([(0, 1), (1, 1), (2, 1), (3, 1)], [.it .i64 0, .it .i64 0, .bo false, .it .u8 0]) ∧
 fldOf Tryz.prog 8 0 = some (0, 1, false) ∧
 fldOf Tryz.prog 8 1 = some (1, 1, false) ∧
 fldOf Tryz.prog 8 2 = some (2, 1, false) ∧
 fldOf Tryz.prog 8 3 = some (3, 1, false) ∧
 eqsOf Tryz.prog 8 = some [(2, 0, 1, false), (3, 1, 1, false), (4, 2, 1, false), (6, 3, 1, false)] ∧
 Program.eqGuardType Tryz.prog (Program.depth Tryz.prog) 8 = false := by and_intros <;> kernel_rfl
theorem tf1 :
 kdOf Tryz.prog 9 = .str ∧
 szOf Tryz.prog 9 = some (1, false) ∧
 zerOf Tryz.prog 9 = some [(.st [])] ∧
 kdOf Tryz.prog 10 = .str ∧
 szOf Tryz.prog 10 = some (1, false) ∧
 zerOf Tryz.prog 10 = some [(.st [])] ∧
 kdOf Tryz.prog 11 = .str ∧
 szOf Tryz.prog 11 = some (1, false) ∧
 zerOf Tryz.prog 11 = some [(.st [])] ∧
 kdOf Tryz.prog 12 = (.int .u64) ∧
 szOf Tryz.prog 12 = some (1, false) ∧
 zerOf Tryz.prog 12 = some [.it .u64 0] ∧
 kdOf Tryz.prog 13 = .other ∧
 szOf Tryz.prog 13 = some (2, true) ∧
 zerOf Tryz.prog 13 = some [(.st []), .it .u64 0] ∧
 strOf Tryz.prog 13 = some ([(0, 1), (1, 1)], [(.st []), .it .u64 0]) ∧
 fldOf Tryz.prog 13 0 = some (0, 1, false) ∧
 fldOf Tryz.prog 13 1 = some (1, 1, false) ∧
 kdOf Tryz.prog 14 = .other ∧
 szOf Tryz.prog 14 = some (2, true) ∧
 zerOf Tryz.prog 14 = some [(.st []), .it .u64 0] ∧
 strOf Tryz.prog 14 = some ([(0, 1), (1, 1)], [(.st []), .it .u64 0]) ∧
 fldOf Tryz.prog 14 0 = some (0, 1, false) ∧
 fldOf Tryz.prog 14 1 = some (1, 1, false) ∧
 kdOf Tryz.prog 15 = .ptr ∧
 szOf Tryz.prog 15 = some (1, false) ∧
 zerOf Tryz.prog 15 = some [(.ot (.pointer none))] ∧
 kdOf Tryz.prog 16 = .ptr ∧
 szOf Tryz.prog 16 = some (1, false) ∧
 zerOf Tryz.prog 16 = some [(.ot (.pointer none))] ∧
 kdOf Tryz.prog 17 = .ptr ∧
 szOf Tryz.prog 17 = some (1, false) ∧
 zerOf Tryz.prog 17 = some [(.ot (.pointer none))] ∧
 kdOf Tryz.prog 18 = .other ∧
 szOf Tryz.prog 18 = some (1, true) ∧
 zerOf Tryz.prog 18 = some [(.ot (.pointer none))] ∧
 strOf Tryz.prog 18 = some ([(0, 1)], [(.ot (.pointer none))]) ∧
 fldOf Tryz.prog 18 0 = some (0, 1, false) ∧
 kdOf Tryz.prog 19 = .other ∧
 szOf Tryz.prog 19 = some (1, true) := by and_intros <;> kernel_rfl
theorem tf2 :
 zerOf Tryz.prog 19 = some [(.ot (.pointer none))] ∧
 strOf Tryz.prog 19 = some ([(0, 1)], [(.ot (.pointer none))]) ∧
 fldOf Tryz.prog 19 0 = some (0, 1, false) ∧
 kdOf Tryz.prog 20 = .other ∧
 szOf Tryz.prog 20 = some (1, false) ∧
 zerOf Tryz.prog 20 = some [.ot .nilIface] ∧
 kdOf Tryz.prog 21 = (.int .i32) ∧
 szOf Tryz.prog 21 = some (1, false) ∧
 zerOf Tryz.prog 21 = some [.it .i32 0] ∧
 kdOf Tryz.prog 22 = .other ∧
 szOf Tryz.prog 22 = some (1, false) ∧
 sleOf Tryz.prog 22 = some (9, 1, false) ∧
 appOf Tryz.prog 22 = some (9, 1, 16) ∧
 zerOf Tryz.prog 22 = some [(.sl Mode.full [])] ∧
 kdOf Tryz.prog 23 = .other ∧
 szOf Tryz.prog 23 = some (3, true) ∧
 zerOf Tryz.prog 23 = some [(.st []), (.st []), (.st [])] ∧
 strOf Tryz.prog 23 = some ([(0, 1), (1, 1), (2, 1)], [(.st []), (.st []), (.st [])]) ∧
 fldOf Tryz.prog 23 0 = some (0, 1, false) ∧
 fldOf Tryz.prog 23 1 = some (1, 1, false) ∧
 fldOf Tryz.prog 23 2 = some (2, 1, false) ∧
 eqsOf Tryz.prog 23 = some [(9, 0, 1, false), (9, 1, 1, false), (9, 2, 1, false)] ∧
 Program.eqGuardType Tryz.prog (Program.depth Tryz.prog) 23 = false ∧
 kdOf Tryz.prog 24 = .other ∧
 szOf Tryz.prog 24 = some (3, true) ∧
 zerOf Tryz.prog 24 = some [(.st []), (.st []), (.st [])] ∧
 strOf Tryz.prog 24 = some ([(0, 1), (1, 1), (2, 1)], [(.st []), (.st []), (.st [])]) ∧
 fldOf Tryz.prog 24 0 = some (0, 1, false) ∧
 fldOf Tryz.prog 24 1 = some (1, 1, false) ∧
 fldOf Tryz.prog 24 2 = some (2, 1, false) ∧
 eqsOf Tryz.prog 24 = some [(9, 0, 1, false), (9, 1, 1, false), (9, 2, 1, false)] ∧
 Program.eqGuardType Tryz.prog (Program.depth Tryz.prog) 24 = false ∧
 kdOf Tryz.prog 25 = .other ∧
 szOf Tryz.prog 25 = some (1, false) ∧
 sleOf Tryz.prog 25 = some (105, 5, true) ∧
 appOf Tryz.prog 25 = some (105, 5, 64) ∧
 zerOf Tryz.prog 25 = some [(.sl Mode.full [])] ∧
 kdOf Tryz.prog 26 = .other ∧
 szOf Tryz.prog 26 = some (2, true) ∧
 zerOf Tryz.prog 26 = some [.it .i64 0, .it .i64 0] := by and_intros <;> kernel_rfl
theorem tf3 :
 strOf Tryz.prog 26 = some ([(0, 1), (1, 1)], [.it .i64 0, .it .i64 0]) ∧
 fldOf Tryz.prog 26 0 = some (0, 1, false) ∧
 fldOf Tryz.prog 26 1 = some (1, 1, false) ∧
 eqsOf Tryz.prog 26 = some [(3, 0, 1, false), (3, 1, 1, false)] ∧
 Program.eqGuardType Tryz.prog (Program.depth Tryz.prog) 26 = false ∧
 kdOf Tryz.prog 27 = .other ∧
 szOf Tryz.prog 27 = some (2, true) ∧
 zerOf Tryz.prog 27 = some [.it .i64 0, .it .i64 0] ∧
 strOf Tryz.prog 27 = some ([(0, 1), (1, 1)], [.it .i64 0, .it .i64 0]) ∧
 fldOf Tryz.prog 27 0 = some (0, 1, false) ∧
 fldOf Tryz.prog 27 1 = some (1, 1, false) ∧
 eqsOf Tryz.prog 27 = some [(3, 0, 1, false), (3, 1, 1, false)] ∧
 Program.eqGuardType Tryz.prog (Program.depth Tryz.prog) 27 = false ∧
 kdOf Tryz.prog 28 = .other ∧
 szOf Tryz.prog 28 = some (20, true) ∧
 zerOf Tryz.prog 28 = some [(.st []), .it .i64 0, (.st []), .it .i64 0, .it .i64 0, (.st []), (.st []), .it .i64 0, (.st []), (.sl Mode.full []), (.st []), (.st []), (.st []), (.st []), .it .i64 0, (.sl Mode.full []), .it .i64 0, .it .i64 0, .it .i64 0, .it .i64 0] ∧
 strOf Tryz.prog 28 = some ([(0, 1), (1, 1), (2, 1), (3, 1), (4, 1), (5, 1), (6, 1), (7, 1), (8, 1), (9, 1), (10, 1), (11, 3), (14, 1), (15, 1), (16, 1), (17, 1), (18, 2)], [(.st []), .it .i64 0, (.st []), .it .i64 0, .it .i64 0, (.st []), (.st []), .it .i64 0, (.st []), (.sl Mode.full []), (.st []), (.st []), (.st []), (.st []), .it .i64 0, (.sl Mode.full []), .it .i64 0, .it .i64 0, .it .i64 0, .it .i64 0]) ∧
 fldOf Tryz.prog 28 0 = some (0, 1, false) ∧
 fldOf Tryz.prog 28 1 = some (1, 1, false) ∧
 fldOf Tryz.prog 28 2 = some (2, 1, false) ∧
 fldOf Tryz.prog 28 3 = some (3, 1, false) ∧
 fldOf Tryz.prog 28 4 = some (4, 1, false) ∧
 fldOf Tryz.prog 28 5 = some (5, 1, false) ∧
 fldOf Tryz.prog 28 6 = some (6, 1, false) ∧
 fldOf Tryz.prog 28 7 = some (7, 1, false) ∧
 fldOf Tryz.prog 28 8 = some (8, 1, false) ∧
 fldOf Tryz.prog 28 9 = some (9, 1, false) ∧
 fldOf Tryz.prog 28 10 = some (10, 1, false) ∧
 fldOf Tryz.prog 28 11 = some (11, 3, true) ∧
 fldOf Tryz.prog 28 12 = some (14, 1, false) ∧
 fldOf Tryz.prog 28 13 = some (15, 1, false) ∧
 fldOf Tryz.prog 28 14 = some (16, 1, false) ∧
 fldOf Tryz.prog 28 15 = some (17, 1, false) ∧
 fldOf Tryz.prog 28 16 = some (18, 2, true) ∧
 eqsOf Tryz.prog 28 = some [(9, 0, 1, false), (3, 1, 1, false), (9, 2, 1, false), (3, 3, 1, false), (3, 4, 1, false), (9, 5, 1, false), (9, 6, 1, false), (3, 7, 1, false), (9, 8, 1, false), (22, 9, 1, false), (9, 10, 1, false), (24, 11, 3, true), (3, 14, 1, false), (25, 15, 1, false), (3, 16, 1, false), (3, 17, 1, false), (27, 18, 2, true)] ∧
 Program.eqGuardType Tryz.prog (Program.depth Tryz.prog) 28 = false ∧
 kdOf Tryz.prog 29 = .other ∧
 szOf Tryz.prog 29 = some (20, true) ∧
 zerOf Tryz.prog 29 = some [(.st []), .it .i64 0, (.st []), .it .i64 0, .it .i64 0, (.st []), (.st []), .it .i64 0, (.st []), (.sl Mode.full []), (.st []), (.st []), (.st []), (.st []), .it .i64 0, (.sl Mode.full []), .it .i64 0, .it .i64 0, .it .i64 0, .it .i64 0] ∧
 strOf Tryz.prog 29 = some ([(0, 1), (1, 1), (2, 1), (3, 1), (4, 1), (5, 1), (6, 1), (7, 1), (8, 1), (9, 1), (10, 1), (11, 3), (14, 1), (15, 1), (16, 1), (17, 1), (18, 2)], [(.st []), .it .i64 0, (.st []), .it .i64 0, .it .i64 0, (.st []), (.st []), .it .i64 0, (.st []), (.sl Mode.full []), (.st []), (.st []), (.st []), (.st []), .it .i64 0, (.sl Mode.full []), .it .i64 0, .it .i64 0, .it .i64 0, .it .i64 0]) := by and_intros <;> kernel_rfl
theorem tf4 :
 fldOf Tryz.prog 29 0 = some (0, 1, false) ∧
 fldOf Tryz.prog 29 1 = some (1, 1, false) ∧
 fldOf Tryz.prog 29 2 = some (2, 1, false) ∧
 fldOf Tryz.prog 29 3 = some (3, 1, false) ∧
 fldOf Tryz.prog 29 4 = some (4, 1, false) ∧
 fldOf Tryz.prog 29 5 = some (5, 1, false) ∧
 fldOf Tryz.prog 29 6 = some (6, 1, false) ∧
 fldOf Tryz.prog 29 7 = some (7, 1, false) ∧
 fldOf Tryz.prog 29 8 = some (8, 1, false) ∧
 fldOf Tryz.prog 29 9 = some (9, 1, false) ∧
 fldOf Tryz.prog 29 10 = some (10, 1, false) ∧
 fldOf Tryz.prog 29 11 = some (11, 3, true) ∧
 fldOf Tryz.prog 29 12 = some (14, 1, false) ∧
 fldOf Tryz.prog 29 13 = some (15, 1, false) ∧
 fldOf Tryz.prog 29 14 = some (16, 1, false) ∧
 fldOf Tryz.prog 29 15 = some (17, 1, false) ∧
 fldOf Tryz.prog 29 16 = some (18, 2, true) ∧
 eqsOf Tryz.prog 29 = some [(9, 0, 1, false), (3, 1, 1, false), (9, 2, 1, false), (3, 3, 1, false), (3, 4, 1, false), (9, 5, 1, false), (9, 6, 1, false), (3, 7, 1, false), (9, 8, 1, false), (22, 9, 1, false), (9, 10, 1, false), (24, 11, 3, true), (3, 14, 1, false), (25, 15, 1, false), (3, 16, 1, false), (3, 17, 1, false), (27, 18, 2, true)] ∧
 Program.eqGuardType Tryz.prog (Program.depth Tryz.prog) 29 = false ∧
 kdOf Tryz.prog 30 = .other ∧
 szOf Tryz.prog 30 = some (2, true) ∧
 zerOf Tryz.prog 30 = some [.it .i64 0, .it .i64 0] ∧
 strOf Tryz.prog 30 = some ([(0, 1), (1, 1)], [.it .i64 0, .it .i64 0]) ∧
 fldOf Tryz.prog 30 0 = some (0, 1, false) ∧
 fldOf Tryz.prog 30 1 = some (1, 1, false) ∧
 eqsOf Tryz.prog 30 = some [(3, 0, 1, false), (3, 1, 1, false)] ∧
 Program.eqGuardType Tryz.prog (Program.depth Tryz.prog) 30 = false ∧
 kdOf Tryz.prog 31 = .other ∧
 szOf Tryz.prog 31 = some (2, true) ∧
 zerOf Tryz.prog 31 = some [.it .i64 0, .it .i64 0] ∧
 strOf Tryz.prog 31 = some ([(0, 1), (1, 1)], [.it .i64 0, .it .i64 0]) ∧
 fldOf Tryz.prog 31 0 = some (0, 1, false) ∧
 fldOf Tryz.prog 31 1 = some (1, 1, false) ∧
 eqsOf Tryz.prog 31 = some [(3, 0, 1, false), (3, 1, 1, false)] ∧
 Program.eqGuardType Tryz.prog (Program.depth Tryz.prog) 31 = false ∧
 kdOf Tryz.prog 32 = .fun ∧
 szOf Tryz.prog 32 = some (1, false) ∧
 zerOf Tryz.prog 32 = some [.ot .nilFunc] ∧
 kdOf Tryz.prog 33 = .fun ∧
 szOf Tryz.prog 33 = some (1, false) := by and_intros <;> kernel_rfl
theorem tf5 :
 zerOf Tryz.prog 33 = some [.ot .nilFunc] ∧
 kdOf Tryz.prog 34 = .other ∧
 szOf Tryz.prog 34 = some (1, false) ∧
 kdOf Tryz.prog 35 = .fun ∧
 szOf Tryz.prog 35 = some (1, false) ∧
 zerOf Tryz.prog 35 = some [.ot .nilFunc] ∧
 kdOf Tryz.prog 36 = .fun ∧
 szOf Tryz.prog 36 = some (1, false) ∧
 zerOf Tryz.prog 36 = some [.ot .nilFunc] ∧
 kdOf Tryz.prog 37 = .fun ∧
 szOf Tryz.prog 37 = some (1, false) ∧
 zerOf Tryz.prog 37 = some [.ot .nilFunc] ∧
 kdOf Tryz.prog 38 = .fun ∧
 szOf Tryz.prog 38 = some (1, false) ∧
 zerOf Tryz.prog 38 = some [.ot .nilFunc] ∧
 kdOf Tryz.prog 39 = .fun ∧
 szOf Tryz.prog 39 = some (1, false) ∧
 zerOf Tryz.prog 39 = some [.ot .nilFunc] ∧
 kdOf Tryz.prog 40 = .fun ∧
 szOf Tryz.prog 40 = some (1, false) ∧
 zerOf Tryz.prog 40 = some [.ot .nilFunc] ∧
 kdOf Tryz.prog 41 = .fun ∧
 szOf Tryz.prog 41 = some (1, false) ∧
 zerOf Tryz.prog 41 = some [.ot .nilFunc] ∧
 kdOf Tryz.prog 42 = .other ∧
 szOf Tryz.prog 42 = some (9, true) ∧
 zerOf Tryz.prog 42 = some [(.st []), .it .i64 0, (.st []), .it .i64 0, .it .i64 0, .it .i64 0, .it .i64 0, .it .i64 0, .it .i64 0] ∧
 strOf Tryz.prog 42 = some ([(0, 1), (1, 1), (2, 1), (3, 1), (4, 1), (5, 1), (6, 1), (7, 2)], [(.st []), .it .i64 0, (.st []), .it .i64 0, .it .i64 0, .it .i64 0, .it .i64 0, .it .i64 0, .it .i64 0]) ∧
 fldOf Tryz.prog 42 0 = some (0, 1, false) ∧
 fldOf Tryz.prog 42 1 = some (1, 1, false) ∧
 fldOf Tryz.prog 42 2 = some (2, 1, false) ∧
 fldOf Tryz.prog 42 3 = some (3, 1, false) ∧
 fldOf Tryz.prog 42 4 = some (4, 1, false) ∧
 fldOf Tryz.prog 42 5 = some (5, 1, false) ∧
 fldOf Tryz.prog 42 6 = some (6, 1, false) ∧
 fldOf Tryz.prog 42 7 = some (7, 2, true) ∧
 eqsOf Tryz.prog 42 = some [(9, 0, 1, false), (3, 1, 1, false), (9, 2, 1, false), (3, 3, 1, false), (3, 4, 1, false), (3, 5, 1, false), (3, 6, 1, false), (27, 7, 2, true)] ∧
 Program.eqGuardType Tryz.prog (Program.depth Tryz.prog) 42 = false ∧
 kdOf Tryz.prog 43 = .other ∧
 szOf Tryz.prog 43 = some (9, true) := by and_intros <;> kernel_rfl
theorem tf6 :
 zerOf Tryz.prog 43 = some [(.st []), .it .i64 0, (.st []), .it .i64 0, .it .i64 0, .it .i64 0, .it .i64 0, .it .i64 0, .it .i64 0] ∧
 strOf Tryz.prog 43 = some ([(0, 1), (1, 1), (2, 1), (3, 1), (4, 1), (5, 1), (6, 1), (7, 2)], [(.st []), .it .i64 0, (.st []), .it .i64 0, .it .i64 0, .it .i64 0, .it .i64 0, .it .i64 0, .it .i64 0]) ∧
 fldOf Tryz.prog 43 0 = some (0, 1, false) ∧
 fldOf Tryz.prog 43 1 = some (1, 1, false) ∧
 fldOf Tryz.prog 43 2 = some (2, 1, false) ∧
 fldOf Tryz.prog 43 3 = some (3, 1, false) ∧
 fldOf Tryz.prog 43 4 = some (4, 1, false) ∧
 fldOf Tryz.prog 43 5 = some (5, 1, false) ∧
 fldOf Tryz.prog 43 6 = some (6, 1, false) ∧
 fldOf Tryz.prog 43 7 = some (7, 2, true) ∧
 eqsOf Tryz.prog 43 = some [(9, 0, 1, false), (3, 1, 1, false), (9, 2, 1, false), (3, 3, 1, false), (3, 4, 1, false), (3, 5, 1, false), (3, 6, 1, false), (27, 7, 2, true)] ∧
 Program.eqGuardType Tryz.prog (Program.depth Tryz.prog) 43 = false ∧
 kdOf Tryz.prog 44 = .other ∧
 szOf Tryz.prog 44 = some (7, true) ∧
 zerOf Tryz.prog 44 = some [.it .i64 0, (.st []), .it .i64 0, (.st []), .it .i64 0, .it .i64 0, .it .i64 0] ∧
 strOf Tryz.prog 44 = some ([(0, 1), (1, 1), (2, 1), (3, 1), (4, 1), (5, 2)], [.it .i64 0, (.st []), .it .i64 0, (.st []), .it .i64 0, .it .i64 0, .it .i64 0]) ∧
 fldOf Tryz.prog 44 0 = some (0, 1, false) ∧
 fldOf Tryz.prog 44 1 = some (1, 1, false) ∧
 fldOf Tryz.prog 44 2 = some (2, 1, false) ∧
 fldOf Tryz.prog 44 3 = some (3, 1, false) ∧
 fldOf Tryz.prog 44 4 = some (4, 1, false) ∧
 fldOf Tryz.prog 44 5 = some (5, 2, true) ∧
 eqsOf Tryz.prog 44 = some [(3, 0, 1, false), (9, 1, 1, false), (3, 2, 1, false), (9, 3, 1, false), (3, 4, 1, false), (27, 5, 2, true)] ∧
 Program.eqGuardType Tryz.prog (Program.depth Tryz.prog) 44 = false ∧
 kdOf Tryz.prog 45 = .other ∧
 szOf Tryz.prog 45 = some (7, true) ∧
 zerOf Tryz.prog 45 = some [.it .i64 0, (.st []), .it .i64 0, (.st []), .it .i64 0, .it .i64 0, .it .i64 0] ∧
 strOf Tryz.prog 45 = some ([(0, 1), (1, 1), (2, 1), (3, 1), (4, 1), (5, 2)], [.it .i64 0, (.st []), .it .i64 0, (.st []), .it .i64 0, .it .i64 0, .it .i64 0]) ∧
 fldOf Tryz.prog 45 0 = some (0, 1, false) ∧
 fldOf Tryz.prog 45 1 = some (1, 1, false) ∧
 fldOf Tryz.prog 45 2 = some (2, 1, false) ∧
 fldOf Tryz.prog 45 3 = some (3, 1, false) ∧
 fldOf Tryz.prog 45 4 = some (4, 1, false) ∧
 fldOf Tryz.prog 45 5 = some (5, 2, true) ∧
 eqsOf Tryz.prog 45 = some [(3, 0, 1, false), (9, 1, 1, false), (3, 2, 1, false), (9, 3, 1, false), (3, 4, 1, false), (27, 5, 2, true)] ∧
 Program.eqGuardType Tryz.prog (Program.depth Tryz.prog) 45 = false ∧
 kdOf Tryz.prog 46 = .other ∧
 szOf Tryz.prog 46 = some (12, true) ∧
 zerOf Tryz.prog 46 = some [.it .i64 0, .it .i64 0, .it .i64 0, (.st []), (.st []), (.st []), (.sl Mode.full []), .it .i64 0, .it .i64 0, .it .i64 0, .it .i64 0, .it .i64 0] ∧
 strOf Tryz.prog 46 = some ([(0, 1), (1, 1), (2, 1), (3, 1), (4, 1), (5, 1), (6, 1), (7, 1), (8, 1), (9, 1), (10, 2)], [.it .i64 0, .it .i64 0, .it .i64 0, (.st []), (.st []), (.st []), (.sl Mode.full []), .it .i64 0, .it .i64 0, .it .i64 0, .it .i64 0, .it .i64 0]) := by and_intros <;> kernel_rfl
theorem tf7 :
 fldOf Tryz.prog 46 0 = some (0, 1, false) ∧
 fldOf Tryz.prog 46 1 = some (1, 1, false) ∧
 fldOf Tryz.prog 46 2 = some (2, 1, false) ∧
 fldOf Tryz.prog 46 3 = some (3, 1, false) ∧
 fldOf Tryz.prog 46 4 = some (4, 1, false) ∧
 fldOf Tryz.prog 46 5 = some (5, 1, false) ∧
 fldOf Tryz.prog 46 6 = some (6, 1, false) ∧
 fldOf Tryz.prog 46 7 = some (7, 1, false) ∧
 fldOf Tryz.prog 46 8 = some (8, 1, false) ∧
 fldOf Tryz.prog 46 9 = some (9, 1, false) ∧
 fldOf Tryz.prog 46 10 = some (10, 2, true) ∧
 eqsOf Tryz.prog 46 = some [(3, 0, 1, false), (3, 1, 1, false), (3, 2, 1, false), (9, 3, 1, false), (9, 4, 1, false), (9, 5, 1, false), (22, 6, 1, false), (3, 7, 1, false), (3, 8, 1, false), (3, 9, 1, false), (27, 10, 2, true)] ∧
 Program.eqGuardType Tryz.prog (Program.depth Tryz.prog) 46 = false ∧
 kdOf Tryz.prog 47 = .other ∧
 szOf Tryz.prog 47 = some (12, true) ∧
 zerOf Tryz.prog 47 = some [.it .i64 0, .it .i64 0, .it .i64 0, (.st []), (.st []), (.st []), (.sl Mode.full []), .it .i64 0, .it .i64 0, .it .i64 0, .it .i64 0, .it .i64 0] ∧
 strOf Tryz.prog 47 = some ([(0, 1), (1, 1), (2, 1), (3, 1), (4, 1), (5, 1), (6, 1), (7, 1), (8, 1), (9, 1), (10, 2)], [.it .i64 0, .it .i64 0, .it .i64 0, (.st []), (.st []), (.st []), (.sl Mode.full []), .it .i64 0, .it .i64 0, .it .i64 0, .it .i64 0, .it .i64 0]) ∧
 fldOf Tryz.prog 47 0 = some (0, 1, false) ∧
 fldOf Tryz.prog 47 1 = some (1, 1, false) ∧
 fldOf Tryz.prog 47 2 = some (2, 1, false) ∧
 fldOf Tryz.prog 47 3 = some (3, 1, false) ∧
 fldOf Tryz.prog 47 4 = some (4, 1, false) ∧
 fldOf Tryz.prog 47 5 = some (5, 1, false) ∧
 fldOf Tryz.prog 47 6 = some (6, 1, false) ∧
 fldOf Tryz.prog 47 7 = some (7, 1, false) ∧
 fldOf Tryz.prog 47 8 = some (8, 1, false) ∧
 fldOf Tryz.prog 47 9 = some (9, 1, false) ∧
 fldOf Tryz.prog 47 10 = some (10, 2, true) ∧
 eqsOf Tryz.prog 47 = some [(3, 0, 1, false), (3, 1, 1, false), (3, 2, 1, false), (9, 3, 1, false), (9, 4, 1, false), (9, 5, 1, false), (22, 6, 1, false), (3, 7, 1, false), (3, 8, 1, false), (3, 9, 1, false), (27, 10, 2, true)] ∧
 Program.eqGuardType Tryz.prog (Program.depth Tryz.prog) 47 = false ∧
 kdOf Tryz.prog 48 = .other ∧
 szOf Tryz.prog 48 = some (49, true) ∧
 zerOf Tryz.prog 48 = some [.it .i64 0, (.st []), .it .i64 0, (.st []), .it .i64 0, .it .i64 0, (.st []), (.st []), .it .i64 0, (.st []), (.sl Mode.full []), (.st []), (.st []), (.st []), (.st []), .it .i64 0, (.sl Mode.full []), .it .i64 0, .it .i64 0, .it .i64 0, .it .i64 0, (.st []), .it .i64 0, (.st []), .it .i64 0, .it .i64 0, .it .i64 0, .it .i64 0, .it .i64 0, .it .i64 0, .it .i64 0, (.st []), .it .i64 0, (.st []), .it .i64 0, .it .i64 0, .it .i64 0, .it .i64 0, .it .i64 0, .it .i64 0, (.st []), (.st []), (.st []), (.sl Mode.full []), .it .i64 0, .it .i64 0, .it .i64 0, .it .i64 0, .it .i64 0] ∧
 strOf Tryz.prog 48 = some ([(0, 1), (1, 20), (21, 9), (30, 7), (37, 12)], [.it .i64 0, (.st []), .it .i64 0, (.st []), .it .i64 0, .it .i64 0, (.st []), (.st []), .it .i64 0, (.st []), (.sl Mode.full []), (.st []), (.st []), (.st []), (.st []), .it .i64 0, (.sl Mode.full []), .it .i64 0, .it .i64 0, .it .i64 0, .it .i64 0, (.st []), .it .i64 0, (.st []), .it .i64 0, .it .i64 0, .it .i64 0, .it .i64 0, .it .i64 0, .it .i64 0, .it .i64 0, (.st []), .it .i64 0, (.st []), .it .i64 0, .it .i64 0, .it .i64 0, .it .i64 0, .it .i64 0, .it .i64 0, (.st []), (.st []), (.st []), (.sl Mode.full []), .it .i64 0, .it .i64 0, .it .i64 0, .it .i64 0, .it .i64 0]) ∧
 fldOf Tryz.prog 48 0 = some (0, 1, false) ∧
 fldOf Tryz.prog 48 1 = some (1, 20, true) ∧
 fldOf Tryz.prog 48 2 = some (21, 9, true) ∧
 fldOf Tryz.prog 48 3 = some (30, 7, true) ∧
 fldOf Tryz.prog 48 4 = some (37, 12, true) ∧
 eqsOf Tryz.prog 48 = some [(3, 0, 1, false), (29, 1, 20, true), (43, 21, 9, true), (45, 30, 7, true), (47, 37, 12, true)] := by and_intros <;> kernel_rfl
theorem tf8 :
 Program.eqGuardType Tryz.prog (Program.depth Tryz.prog) 48 = false ∧
 kdOf Tryz.prog 49 = .other ∧
 szOf Tryz.prog 49 = some (49, true) ∧
 zerOf Tryz.prog 49 = some [.it .i64 0, (.st []), .it .i64 0, (.st []), .it .i64 0, .it .i64 0, (.st []), (.st []), .it .i64 0, (.st []), (.sl Mode.full []), (.st []), (.st []), (.st []), (.st []), .it .i64 0, (.sl Mode.full []), .it .i64 0, .it .i64 0, .it .i64 0, .it .i64 0, (.st []), .it .i64 0, (.st []), .it .i64 0, .it .i64 0, .it .i64 0, .it .i64 0, .it .i64 0, .it .i64 0, .it .i64 0, (.st []), .it .i64 0, (.st []), .it .i64 0, .it .i64 0, .it .i64 0, .it .i64 0, .it .i64 0, .it .i64 0, (.st []), (.st []), (.st []), (.sl Mode.full []), .it .i64 0, .it .i64 0, .it .i64 0, .it .i64 0, .it .i64 0] ∧
 strOf Tryz.prog 49 = some ([(0, 1), (1, 20), (21, 9), (30, 7), (37, 12)], [.it .i64 0, (.st []), .it .i64 0, (.st []), .it .i64 0, .it .i64 0, (.st []), (.st []), .it .i64 0, (.st []), (.sl Mode.full []), (.st []), (.st []), (.st []), (.st []), .it .i64 0, (.sl Mode.full []), .it .i64 0, .it .i64 0, .it .i64 0, .it .i64 0, (.st []), .it .i64 0, (.st []), .it .i64 0, .it .i64 0, .it .i64 0, .it .i64 0, .it .i64 0, .it .i64 0, .it .i64 0, (.st []), .it .i64 0, (.st []), .it .i64 0, .it .i64 0, .it .i64 0, .it .i64 0, .it .i64 0, .it .i64 0, (.st []), (.st []), (.st []), (.sl Mode.full []), .it .i64 0, .it .i64 0, .it .i64 0, .it .i64 0, .it .i64 0]) ∧
 fldOf Tryz.prog 49 0 = some (0, 1, false) ∧
 fldOf Tryz.prog 49 1 = some (1, 20, true) ∧
 fldOf Tryz.prog 49 2 = some (21, 9, true) ∧
 fldOf Tryz.prog 49 3 = some (30, 7, true) ∧
 fldOf Tryz.prog 49 4 = some (37, 12, true) ∧
 eqsOf Tryz.prog 49 = some [(3, 0, 1, false), (29, 1, 20, true), (43, 21, 9, true), (45, 30, 7, true), (47, 37, 12, true)] ∧
 Program.eqGuardType Tryz.prog (Program.depth Tryz.prog) 49 = false ∧
 kdOf Tryz.prog 50 = .other ∧
 szOf Tryz.prog 50 = some (1, false) ∧
 sleOf Tryz.prog 50 = some (3, 1, false) ∧
 appOf Tryz.prog 50 = some (3, 1, 8) ∧
 zerOf Tryz.prog 50 = some [(.sl Mode.full [])] ∧
 kdOf Tryz.prog 51 = .fun ∧
 szOf Tryz.prog 51 = some (1, false) ∧
 zerOf Tryz.prog 51 = some [.ot .nilFunc] ∧
 kdOf Tryz.prog 52 = .other ∧
 szOf Tryz.prog 52 = some (1, false) ∧
 kdOf Tryz.prog 53 = .fun ∧
 szOf Tryz.prog 53 = some (1, false) ∧
 zerOf Tryz.prog 53 = some [.ot .nilFunc] ∧
 kdOf Tryz.prog 54 = .other ∧
 szOf Tryz.prog 54 = some (50, true) ∧
 zerOf Tryz.prog 54 = some [.it .i64 0, .it .i64 0, (.st []), .it .i64 0, (.st []), .it .i64 0, .it .i64 0, (.st []), (.st []), .it .i64 0, (.st []), (.sl Mode.full []), (.st []), (.st []), (.st []), (.st []), .it .i64 0, (.sl Mode.full []), .it .i64 0, .it .i64 0, .it .i64 0, .it .i64 0, (.st []), .it .i64 0, (.st []), .it .i64 0, .it .i64 0, .it .i64 0, .it .i64 0, .it .i64 0, .it .i64 0, .it .i64 0, (.st []), .it .i64 0, (.st []), .it .i64 0, .it .i64 0, .it .i64 0, .it .i64 0, .it .i64 0, .it .i64 0, (.st []), (.st []), (.st []), (.sl Mode.full []), .it .i64 0, .it .i64 0, .it .i64 0, .it .i64 0, .it .i64 0] ∧
 strOf Tryz.prog 54 = some ([(0, 1), (1, 49)], [.it .i64 0, .it .i64 0, (.st []), .it .i64 0, (.st []), .it .i64 0, .it .i64 0, (.st []), (.st []), .it .i64 0, (.st []), (.sl Mode.full []), (.st []), (.st []), (.st []), (.st []), .it .i64 0, (.sl Mode.full []), .it .i64 0, .it .i64 0, .it .i64 0, .it .i64 0, (.st []), .it .i64 0, (.st []), .it .i64 0, .it .i64 0, .it .i64 0, .it .i64 0, .it .i64 0, .it .i64 0, .it .i64 0, (.st []), .it .i64 0, (.st []), .it .i64 0, .it .i64 0, .it .i64 0, .it .i64 0, .it .i64 0, .it .i64 0, (.st []), (.st []), (.st []), (.sl Mode.full []), .it .i64 0, .it .i64 0, .it .i64 0, .it .i64 0, .it .i64 0]) ∧
 fldOf Tryz.prog 54 0 = some (0, 1, false) ∧
 fldOf Tryz.prog 54 1 = some (1, 49, true) ∧
 eqsOf Tryz.prog 54 = some [(3, 0, 1, false), (49, 1, 49, true)] ∧
 Program.eqGuardType Tryz.prog (Program.depth Tryz.prog) 54 = false ∧
 kdOf Tryz.prog 55 = .other ∧
 szOf Tryz.prog 55 = some (50, true) ∧
 zerOf Tryz.prog 55 = some [.it .i64 0, .it .i64 0, (.st []), .it .i64 0, (.st []), .it .i64 0, .it .i64 0, (.st []), (.st []), .it .i64 0, (.st []), (.sl Mode.full []), (.st []), (.st []), (.st []), (.st []), .it .i64 0, (.sl Mode.full []), .it .i64 0, .it .i64 0, .it .i64 0, .it .i64 0, (.st []), .it .i64 0, (.st []), .it .i64 0, .it .i64 0, .it .i64 0, .it .i64 0, .it .i64 0, .it .i64 0, .it .i64 0, (.st []), .it .i64 0, (.st []), .it .i64 0, .it .i64 0, .it .i64 0, .it .i64 0, .it .i64 0, .it .i64 0, (.st []), (.st []), (.st []), (.sl Mode.full []), .it .i64 0, .it .i64 0, .it .i64 0, .it .i64 0, .it .i64 0] ∧
 strOf Tryz.prog 55 = some ([(0, 1), (1, 49)], [.it .i64 0, .it .i64 0, (.st []), .it .i64 0, (.st []), .it .i64 0, .it .i64 0, (.st []), (.st []), .it .i64 0, (.st []), (.sl Mode.full []), (.st []), (.st []), (.st []), (.st []), .it .i64 0, (.sl Mode.full []), .it .i64 0, .it .i64 0, .it .i64 0, .it .i64 0, (.st []), .it .i64 0, (.st []), .it .i64 0, .it .i64 0, .it .i64 0, .it .i64 0, .it .i64 0, .it .i64 0, .it .i64 0, (.st []), .it .i64 0, (.st []), .it .i64 0, .it .i64 0, .it .i64 0, .it .i64 0, .it .i64 0, .it .i64 0, (.st []), (.st []), (.st []), (.sl Mode.full []), .it .i64 0, .it .i64 0, .it .i64 0, .it .i64 0, .it .i64 0]) ∧
 fldOf Tryz.prog 55 0 = some (0, 1, false) ∧
 fldOf Tryz.prog 55 1 = some (1, 49, true) ∧
 eqsOf Tryz.prog 55 = some [(3, 0, 1, false), (49, 1, 49, true)] := by and_intros <;> kernel_rfl
theorem tf9 :
 Program.eqGuardType Tryz.prog (Program.depth Tryz.prog) 55 = false ∧
 kdOf Tryz.prog 56 = .other ∧
 szOf Tryz.prog 56 = some (1, false) ∧
 kdOf Tryz.prog 57 = .fun ∧
 szOf Tryz.prog 57 = some (1, false) ∧
 zerOf Tryz.prog 57 = some [.ot .nilFunc] ∧
 kdOf Tryz.prog 58 = .fun ∧
 szOf Tryz.prog 58 = some (1, false) ∧
 zerOf Tryz.prog 58 = some [.ot .nilFunc] ∧
 kdOf Tryz.prog 59 = .fun ∧
 szOf Tryz.prog 59 = some (1, false) ∧
 zerOf Tryz.prog 59 = some [.ot .nilFunc] ∧
 kdOf Tryz.prog 60 = .fun ∧
 szOf Tryz.prog 60 = some (1, false) ∧
 zerOf Tryz.prog 60 = some [.ot .nilFunc] ∧
 kdOf Tryz.prog 61 = .fun ∧
 szOf Tryz.prog 61 = some (1, false) ∧
 zerOf Tryz.prog 61 = some [.ot .nilFunc] ∧
 kdOf Tryz.prog 62 = .fun ∧
 szOf Tryz.prog 62 = some (1, false) ∧
 zerOf Tryz.prog 62 = some [.ot .nilFunc] ∧
 kdOf Tryz.prog 63 = .fun ∧
 szOf Tryz.prog 63 = some (1, false) ∧
 zerOf Tryz.prog 63 = some [.ot .nilFunc] ∧
 kdOf Tryz.prog 64 = .fun ∧
 szOf Tryz.prog 64 = some (1, false) ∧
 zerOf Tryz.prog 64 = some [.ot .nilFunc] ∧
 kdOf Tryz.prog 65 = .fun ∧
 szOf Tryz.prog 65 = some (1, false) ∧
 zerOf Tryz.prog 65 = some [.ot .nilFunc] ∧
 kdOf Tryz.prog 66 = .fun ∧
 szOf Tryz.prog 66 = some (1, false) ∧
 zerOf Tryz.prog 66 = some [.ot .nilFunc] ∧
 kdOf Tryz.prog 67 = .fun ∧
 szOf Tryz.prog 67 = some (1, false) ∧
 zerOf Tryz.prog 67 = some [.ot .nilFunc] ∧
 kdOf Tryz.prog 68 = .fun ∧
 szOf Tryz.prog 68 = some (1, false) ∧
 zerOf Tryz.prog 68 = some [.ot .nilFunc] ∧
 kdOf Tryz.prog 69 = .fun := by and_intros <;> kernel_rfl
theorem tf10 :
 szOf Tryz.prog 69 = some (1, false) ∧
 zerOf Tryz.prog 69 = some [.ot .nilFunc] ∧
 kdOf Tryz.prog 70 = .fun ∧
 szOf Tryz.prog 70 = some (1, false) ∧
 zerOf Tryz.prog 70 = some [.ot .nilFunc] ∧
 kdOf Tryz.prog 71 = .fun ∧
 szOf Tryz.prog 71 = some (1, false) ∧
 zerOf Tryz.prog 71 = some [.ot .nilFunc] ∧
 kdOf Tryz.prog 72 = .other ∧
 szOf Tryz.prog 72 = some (6, true) ∧
 zerOf Tryz.prog 72 = some [.it .i64 0, .it .i64 0, (.st []), .it .i64 0, .it .i64 0, .it .i64 0] ∧
 strOf Tryz.prog 72 = some ([(0, 1), (1, 1), (2, 1), (3, 1), (4, 2)], [.it .i64 0, .it .i64 0, (.st []), .it .i64 0, .it .i64 0, .it .i64 0]) ∧
 fldOf Tryz.prog 72 0 = some (0, 1, false) ∧
 fldOf Tryz.prog 72 1 = some (1, 1, false) ∧
 fldOf Tryz.prog 72 2 = some (2, 1, false) ∧
 fldOf Tryz.prog 72 3 = some (3, 1, false) ∧
 fldOf Tryz.prog 72 4 = some (4, 2, true) ∧
 eqsOf Tryz.prog 72 = some [(3, 0, 1, false), (3, 1, 1, false), (9, 2, 1, false), (3, 3, 1, false), (27, 4, 2, true)] ∧
 Program.eqGuardType Tryz.prog (Program.depth Tryz.prog) 72 = false ∧
 kdOf Tryz.prog 73 = .other ∧
 szOf Tryz.prog 73 = some (6, true) ∧
 zerOf Tryz.prog 73 = some [.it .i64 0, .it .i64 0, (.st []), .it .i64 0, .it .i64 0, .it .i64 0] ∧
 strOf Tryz.prog 73 = some ([(0, 1), (1, 1), (2, 1), (3, 1), (4, 2)], [.it .i64 0, .it .i64 0, (.st []), .it .i64 0, .it .i64 0, .it .i64 0]) ∧
 fldOf Tryz.prog 73 0 = some (0, 1, false) ∧
 fldOf Tryz.prog 73 1 = some (1, 1, false) ∧
 fldOf Tryz.prog 73 2 = some (2, 1, false) ∧
 fldOf Tryz.prog 73 3 = some (3, 1, false) ∧
 fldOf Tryz.prog 73 4 = some (4, 2, true) ∧
 eqsOf Tryz.prog 73 = some [(3, 0, 1, false), (3, 1, 1, false), (9, 2, 1, false), (3, 3, 1, false), (27, 4, 2, true)] ∧
 Program.eqGuardType Tryz.prog (Program.depth Tryz.prog) 73 = false ∧
 kdOf Tryz.prog 74 = .other ∧
 szOf Tryz.prog 74 = some (9, true) ∧
 zerOf Tryz.prog 74 = some [.it .i64 0, .it .i64 0, .it .i64 0, (.st []), .it .i64 0, .it .i64 0, .it .i64 0, .it .i64 0, .it .i64 0] ∧
 strOf Tryz.prog 74 = some ([(0, 1), (1, 6), (7, 2)], [.it .i64 0, .it .i64 0, .it .i64 0, (.st []), .it .i64 0, .it .i64 0, .it .i64 0, .it .i64 0, .it .i64 0]) ∧
 fldOf Tryz.prog 74 0 = some (0, 1, false) ∧
 fldOf Tryz.prog 74 1 = some (1, 6, true) ∧
 fldOf Tryz.prog 74 2 = some (7, 2, true) ∧
 eqsOf Tryz.prog 74 = some [(3, 0, 1, false), (73, 1, 6, true), (27, 7, 2, true)] ∧
 Program.eqGuardType Tryz.prog (Program.depth Tryz.prog) 74 = false ∧
 kdOf Tryz.prog 75 = .other := by and_intros <;> kernel_rfl
theorem tf11 :
 szOf Tryz.prog 75 = some (9, true) ∧
 zerOf Tryz.prog 75 = some [.it .i64 0, .it .i64 0, .it .i64 0, (.st []), .it .i64 0, .it .i64 0, .it .i64 0, .it .i64 0, .it .i64 0] ∧
 strOf Tryz.prog 75 = some ([(0, 1), (1, 6), (7, 2)], [.it .i64 0, .it .i64 0, .it .i64 0, (.st []), .it .i64 0, .it .i64 0, .it .i64 0, .it .i64 0, .it .i64 0]) ∧
 fldOf Tryz.prog 75 0 = some (0, 1, false) ∧
 fldOf Tryz.prog 75 1 = some (1, 6, true) ∧
 fldOf Tryz.prog 75 2 = some (7, 2, true) ∧
 eqsOf Tryz.prog 75 = some [(3, 0, 1, false), (73, 1, 6, true), (27, 7, 2, true)] ∧
 Program.eqGuardType Tryz.prog (Program.depth Tryz.prog) 75 = false ∧
 kdOf Tryz.prog 76 = .fun ∧
 szOf Tryz.prog 76 = some (1, false) ∧
 zerOf Tryz.prog 76 = some [.ot .nilFunc] ∧
 kdOf Tryz.prog 77 = .fun ∧
 szOf Tryz.prog 77 = some (1, false) ∧
 zerOf Tryz.prog 77 = some [.ot .nilFunc] ∧
 kdOf Tryz.prog 78 = .fun ∧
 szOf Tryz.prog 78 = some (1, false) ∧
 zerOf Tryz.prog 78 = some [.ot .nilFunc] ∧
 kdOf Tryz.prog 79 = .other ∧
 szOf Tryz.prog 79 = some (1, false) ∧
 sleOf Tryz.prog 79 = some (55, 50, true) ∧
 appOf Tryz.prog 79 = some (55, 50, 576) ∧
 zerOf Tryz.prog 79 = some [(.sl Mode.full [])] ∧
 kdOf Tryz.prog 80 = .other ∧
 szOf Tryz.prog 80 = some (1, false) ∧
 sleOf Tryz.prog 80 = some (75, 9, true) ∧
 appOf Tryz.prog 80 = some (75, 9, 80) ∧
 zerOf Tryz.prog 80 = some [(.sl Mode.full [])] ∧
 kdOf Tryz.prog 81 = .other ∧
 szOf Tryz.prog 81 = some (61, true) ∧
 zerOf Tryz.prog 81 = some [.it .i64 0, .it .i64 0, .it .i64 0, (.st []), .it .i64 0, (.st []), .it .i64 0, .it .i64 0, (.st []), (.st []), .it .i64 0, (.st []), (.sl Mode.full []), (.st []), (.st []), (.st []), (.st []), .it .i64 0, (.sl Mode.full []), .it .i64 0, .it .i64 0, .it .i64 0, .it .i64 0, (.st []), .it .i64 0, (.st []), .it .i64 0, .it .i64 0, .it .i64 0, .it .i64 0, .it .i64 0, .it .i64 0, .it .i64 0, (.st []), .it .i64 0, (.st []), .it .i64 0, .it .i64 0, .it .i64 0, .it .i64 0, .it .i64 0, .it .i64 0, (.st []), (.st []), (.st []), (.sl Mode.full []), .it .i64 0, .it .i64 0, .it .i64 0, .it .i64 0, .it .i64 0, (.sl Mode.full []), .it .i64 0, .it .i64 0, .it .i64 0, (.st []), .it .i64 0, .it .i64 0, .it .i64 0, .it .i64 0, .it .i64 0] ∧
 strOf Tryz.prog 81 = some ([(0, 1), (1, 50), (51, 1), (52, 9)], [.it .i64 0, .it .i64 0, .it .i64 0, (.st []), .it .i64 0, (.st []), .it .i64 0, .it .i64 0, (.st []), (.st []), .it .i64 0, (.st []), (.sl Mode.full []), (.st []), (.st []), (.st []), (.st []), .it .i64 0, (.sl Mode.full []), .it .i64 0, .it .i64 0, .it .i64 0, .it .i64 0, (.st []), .it .i64 0, (.st []), .it .i64 0, .it .i64 0, .it .i64 0, .it .i64 0, .it .i64 0, .it .i64 0, .it .i64 0, (.st []), .it .i64 0, (.st []), .it .i64 0, .it .i64 0, .it .i64 0, .it .i64 0, .it .i64 0, .it .i64 0, (.st []), (.st []), (.st []), (.sl Mode.full []), .it .i64 0, .it .i64 0, .it .i64 0, .it .i64 0, .it .i64 0, (.sl Mode.full []), .it .i64 0, .it .i64 0, .it .i64 0, (.st []), .it .i64 0, .it .i64 0, .it .i64 0, .it .i64 0, .it .i64 0]) ∧
 fldOf Tryz.prog 81 0 = some (0, 1, false) ∧
 fldOf Tryz.prog 81 1 = some (1, 50, true) ∧
 fldOf Tryz.prog 81 2 = some (51, 1, false) ∧
 fldOf Tryz.prog 81 3 = some (52, 9, true) ∧
 eqsOf Tryz.prog 81 = some [(3, 0, 1, false), (55, 1, 50, true), (22, 51, 1, false), (75, 52, 9, true)] ∧
 Program.eqGuardType Tryz.prog (Program.depth Tryz.prog) 81 = false ∧
 kdOf Tryz.prog 82 = .other ∧
 szOf Tryz.prog 82 = some (61, true) ∧
 zerOf Tryz.prog 82 = some [.it .i64 0, .it .i64 0, .it .i64 0, (.st []), .it .i64 0, (.st []), .it .i64 0, .it .i64 0, (.st []), (.st []), .it .i64 0, (.st []), (.sl Mode.full []), (.st []), (.st []), (.st []), (.st []), .it .i64 0, (.sl Mode.full []), .it .i64 0, .it .i64 0, .it .i64 0, .it .i64 0, (.st []), .it .i64 0, (.st []), .it .i64 0, .it .i64 0, .it .i64 0, .it .i64 0, .it .i64 0, .it .i64 0, .it .i64 0, (.st []), .it .i64 0, (.st []), .it .i64 0, .it .i64 0, .it .i64 0, .it .i64 0, .it .i64 0, .it .i64 0, (.st []), (.st []), (.st []), (.sl Mode.full []), .it .i64 0, .it .i64 0, .it .i64 0, .it .i64 0, .it .i64 0, (.sl Mode.full []), .it .i64 0, .it .i64 0, .it .i64 0, (.st []), .it .i64 0, .it .i64 0, .it .i64 0, .it .i64 0, .it .i64 0] := by and_intros <;> kernel_rfl
theorem tf12 :
 strOf Tryz.prog 82 = some ([(0, 1), (1, 50), (51, 1), (52, 9)], [.it .i64 0, .it .i64 0, .it .i64 0, (.st []), .it .i64 0, (.st []), .it .i64 0, .it .i64 0, (.st []), (.st []), .it .i64 0, (.st []), (.sl Mode.full []), (.st []), (.st []), (.st []), (.st []), .it .i64 0, (.sl Mode.full []), .it .i64 0, .it .i64 0, .it .i64 0, .it .i64 0, (.st []), .it .i64 0, (.st []), .it .i64 0, .it .i64 0, .it .i64 0, .it .i64 0, .it .i64 0, .it .i64 0, .it .i64 0, (.st []), .it .i64 0, (.st []), .it .i64 0, .it .i64 0, .it .i64 0, .it .i64 0, .it .i64 0, .it .i64 0, (.st []), (.st []), (.st []), (.sl Mode.full []), .it .i64 0, .it .i64 0, .it .i64 0, .it .i64 0, .it .i64 0, (.sl Mode.full []), .it .i64 0, .it .i64 0, .it .i64 0, (.st []), .it .i64 0, .it .i64 0, .it .i64 0, .it .i64 0, .it .i64 0]) ∧
 fldOf Tryz.prog 82 0 = some (0, 1, false) ∧
 fldOf Tryz.prog 82 1 = some (1, 50, true) ∧
 fldOf Tryz.prog 82 2 = some (51, 1, false) ∧
 fldOf Tryz.prog 82 3 = some (52, 9, true) ∧
 eqsOf Tryz.prog 82 = some [(3, 0, 1, false), (55, 1, 50, true), (22, 51, 1, false), (75, 52, 9, true)] ∧
 Program.eqGuardType Tryz.prog (Program.depth Tryz.prog) 82 = false ∧
 kdOf Tryz.prog 83 = .fun ∧
 szOf Tryz.prog 83 = some (1, false) ∧
 zerOf Tryz.prog 83 = some [.ot .nilFunc] ∧
 kdOf Tryz.prog 84 = .other ∧
 szOf Tryz.prog 84 = some (1, false) ∧
 kdOf Tryz.prog 85 = .fun ∧
 szOf Tryz.prog 85 = some (1, false) ∧
 zerOf Tryz.prog 85 = some [.ot .nilFunc] ∧
 kdOf Tryz.prog 86 = .fun ∧
 szOf Tryz.prog 86 = some (1, false) ∧
 zerOf Tryz.prog 86 = some [.ot .nilFunc] ∧
 kdOf Tryz.prog 87 = .fun ∧
 szOf Tryz.prog 87 = some (1, false) ∧
 zerOf Tryz.prog 87 = some [.ot .nilFunc] ∧
 kdOf Tryz.prog 88 = .fun ∧
 szOf Tryz.prog 88 = some (1, false) ∧
 zerOf Tryz.prog 88 = some [.ot .nilFunc] ∧
 kdOf Tryz.prog 89 = .fun ∧
 szOf Tryz.prog 89 = some (1, false) ∧
 zerOf Tryz.prog 89 = some [.ot .nilFunc] ∧
 kdOf Tryz.prog 90 = .fun ∧
 szOf Tryz.prog 90 = some (1, false) ∧
 zerOf Tryz.prog 90 = some [.ot .nilFunc] ∧
 kdOf Tryz.prog 91 = .other ∧
 szOf Tryz.prog 91 = some (1, false) ∧
 sleOf Tryz.prog 91 = some (31, 2, true) ∧
 appOf Tryz.prog 91 = some (31, 2, 16) ∧
 zerOf Tryz.prog 91 = some [(.sl Mode.full [])] ∧
 kdOf Tryz.prog 92 = .other ∧
 szOf Tryz.prog 92 = some (1, false) ∧
 kdOf Tryz.prog 93 = .fun ∧
 szOf Tryz.prog 93 = some (1, false) ∧
 zerOf Tryz.prog 93 = some [.ot .nilFunc] := by and_intros <;> kernel_rfl
theorem tf13 :
 kdOf Tryz.prog 94 = .fun ∧
 szOf Tryz.prog 94 = some (1, false) ∧
 zerOf Tryz.prog 94 = some [.ot .nilFunc] ∧
 kdOf Tryz.prog 95 = .fun ∧
 szOf Tryz.prog 95 = some (1, false) ∧
 zerOf Tryz.prog 95 = some [.ot .nilFunc] ∧
 kdOf Tryz.prog 96 = .fun ∧
 szOf Tryz.prog 96 = some (1, false) ∧
 zerOf Tryz.prog 96 = some [.ot .nilFunc] ∧
 kdOf Tryz.prog 97 = .other ∧
 szOf Tryz.prog 97 = some (1, false) ∧
 kdOf Tryz.prog 98 = .fun ∧
 szOf Tryz.prog 98 = some (1, false) ∧
 zerOf Tryz.prog 98 = some [.ot .nilFunc] ∧
 kdOf Tryz.prog 99 = .fun ∧
 szOf Tryz.prog 99 = some (1, false) ∧
 zerOf Tryz.prog 99 = some [.ot .nilFunc] ∧
 kdOf Tryz.prog 100 = .fun ∧
 szOf Tryz.prog 100 = some (1, false) ∧
 zerOf Tryz.prog 100 = some [.ot .nilFunc] ∧
 kdOf Tryz.prog 101 = .fun ∧
 szOf Tryz.prog 101 = some (1, false) ∧
 zerOf Tryz.prog 101 = some [.ot .nilFunc] ∧
 kdOf Tryz.prog 102 = .fun ∧
 szOf Tryz.prog 102 = some (1, false) ∧
 zerOf Tryz.prog 102 = some [.ot .nilFunc] ∧
 kdOf Tryz.prog 103 = .fun ∧
 szOf Tryz.prog 103 = some (1, false) ∧
 zerOf Tryz.prog 103 = some [.ot .nilFunc] ∧
 kdOf Tryz.prog 104 = .other ∧
 szOf Tryz.prog 104 = some (5, true) ∧
 zerOf Tryz.prog 104 = some [.it .i64 0, .it .i64 0, (.st []), (.st []), (.st [])] ∧
 strOf Tryz.prog 104 = some ([(0, 1), (1, 1), (2, 3)], [.it .i64 0, .it .i64 0, (.st []), (.st []), (.st [])]) ∧
 fldOf Tryz.prog 104 0 = some (0, 1, false) ∧
 fldOf Tryz.prog 104 1 = some (1, 1, false) ∧
 fldOf Tryz.prog 104 2 = some (2, 3, true) ∧
 eqsOf Tryz.prog 104 = some [(3, 0, 1, false), (3, 1, 1, false), (24, 2, 3, true)] ∧
 Program.eqGuardType Tryz.prog (Program.depth Tryz.prog) 104 = false ∧
 kdOf Tryz.prog 105 = .other ∧
 szOf Tryz.prog 105 = some (5, true) := by and_intros <;> kernel_rfl
theorem tf14 :
 zerOf Tryz.prog 105 = some [.it .i64 0, .it .i64 0, (.st []), (.st []), (.st [])] ∧
 strOf Tryz.prog 105 = some ([(0, 1), (1, 1), (2, 3)], [.it .i64 0, .it .i64 0, (.st []), (.st []), (.st [])]) ∧
 fldOf Tryz.prog 105 0 = some (0, 1, false) ∧
 fldOf Tryz.prog 105 1 = some (1, 1, false) ∧
 fldOf Tryz.prog 105 2 = some (2, 3, true) ∧
 eqsOf Tryz.prog 105 = some [(3, 0, 1, false), (3, 1, 1, false), (24, 2, 3, true)] ∧
 Program.eqGuardType Tryz.prog (Program.depth Tryz.prog) 105 = false ∧
 kdOf Tryz.prog 106 = .ptr ∧
 szOf Tryz.prog 106 = some (1, false) ∧
 zerOf Tryz.prog 106 = some [(.ot (.pointer none))] ∧
 kdOf Tryz.prog 107 = .fun ∧
 szOf Tryz.prog 107 = some (1, false) ∧
 zerOf Tryz.prog 107 = some [.ot .nilFunc] ∧
 kdOf Tryz.prog 108 = .fun ∧
 szOf Tryz.prog 108 = some (1, false) ∧
 zerOf Tryz.prog 108 = some [.ot .nilFunc] ∧
 kdOf Tryz.prog 109 = .fun ∧
 szOf Tryz.prog 109 = some (1, false) ∧
 zerOf Tryz.prog 109 = some [.ot .nilFunc] ∧
 kdOf Tryz.prog 110 = .fun ∧
 szOf Tryz.prog 110 = some (1, false) ∧
 zerOf Tryz.prog 110 = some [.ot .nilFunc] ∧
 kdOf Tryz.prog 111 = .fun ∧
 szOf Tryz.prog 111 = some (1, false) ∧
 zerOf Tryz.prog 111 = some [.ot .nilFunc] ∧
 kdOf Tryz.prog 112 = .fun ∧
 szOf Tryz.prog 112 = some (1, false) ∧
 zerOf Tryz.prog 112 = some [.ot .nilFunc] ∧
 kdOf Tryz.prog 113 = .ptr ∧
 szOf Tryz.prog 113 = some (1, false) ∧
 zerOf Tryz.prog 113 = some [(.ot (.pointer none))] ∧
 kdOf Tryz.prog 114 = .fun ∧
 szOf Tryz.prog 114 = some (1, false) ∧
 zerOf Tryz.prog 114 = some [.ot .nilFunc] ∧
 kdOf Tryz.prog 115 = .fun ∧
 szOf Tryz.prog 115 = some (1, false) ∧
 zerOf Tryz.prog 115 = some [.ot .nilFunc] ∧
 kdOf Tryz.prog 116 = .fun ∧
 szOf Tryz.prog 116 = some (1, false) ∧
 zerOf Tryz.prog 116 = some [.ot .nilFunc] := by and_intros <;> kernel_rfl
theorem tf15 :
 kdOf Tryz.prog 117 = .fun ∧
 szOf Tryz.prog 117 = some (1, false) ∧
 zerOf Tryz.prog 117 = some [.ot .nilFunc] ∧
 kdOf Tryz.prog 118 = .fun ∧
 szOf Tryz.prog 118 = some (1, false) ∧
 zerOf Tryz.prog 118 = some [.ot .nilFunc] ∧
 kdOf Tryz.prog 119 = .fun ∧
 szOf Tryz.prog 119 = some (1, false) ∧
 zerOf Tryz.prog 119 = some [.ot .nilFunc] ∧
 kdOf Tryz.prog 120 = .fun ∧
 szOf Tryz.prog 120 = some (1, false) ∧
 zerOf Tryz.prog 120 = some [.ot .nilFunc] ∧
 kdOf Tryz.prog 121 = .fun ∧
 szOf Tryz.prog 121 = some (1, false) ∧
 zerOf Tryz.prog 121 = some [.ot .nilFunc] ∧
 kdOf Tryz.prog 122 = .other ∧
 szOf Tryz.prog 122 = some (2, true) ∧
 zerOf Tryz.prog 122 = some [.it .i64 0, .ot .nilFunc] ∧
 strOf Tryz.prog 122 = some ([(0, 1), (1, 1)], [.it .i64 0, .ot .nilFunc]) ∧
 fldOf Tryz.prog 122 0 = some (0, 1, false) ∧
 fldOf Tryz.prog 122 1 = some (1, 1, false) ∧
 eqsOf Tryz.prog 122 = some [(3, 0, 1, false), (33, 1, 1, false)] ∧
 Program.eqGuardType Tryz.prog (Program.depth Tryz.prog) 122 = false ∧
 kdOf Tryz.prog 123 = .other ∧
 szOf Tryz.prog 123 = some (2, true) ∧
 zerOf Tryz.prog 123 = some [.it .i64 0, .ot .nilFunc] ∧
 strOf Tryz.prog 123 = some ([(0, 1), (1, 1)], [.it .i64 0, .ot .nilFunc]) ∧
 fldOf Tryz.prog 123 0 = some (0, 1, false) ∧
 fldOf Tryz.prog 123 1 = some (1, 1, false) ∧
 eqsOf Tryz.prog 123 = some [(3, 0, 1, false), (33, 1, 1, false)] ∧
 Program.eqGuardType Tryz.prog (Program.depth Tryz.prog) 123 = false ∧
 kdOf Tryz.prog 124 = .other ∧
 szOf Tryz.prog 124 = some (1, false) ∧
 kdOf Tryz.prog 125 = .other ∧
 szOf Tryz.prog 125 = some (1, false) ∧
 zerOf Tryz.prog 125 = some [(.ot (.map none))] ∧
 mapOf Tryz.prog 125 = some (some .i64, (.agg [.it .i64 0, .ot .nilFunc])) ∧
 kdOf Tryz.prog 126 = .fun ∧
 szOf Tryz.prog 126 = some (1, false) ∧
 zerOf Tryz.prog 126 = some [.ot .nilFunc] := by and_intros <;> kernel_rfl
theorem tf16 :
 kdOf Tryz.prog 127 = .fun ∧
 szOf Tryz.prog 127 = some (1, false) ∧
 zerOf Tryz.prog 127 = some [.ot .nilFunc] ∧
 kdOf Tryz.prog 128 = .fun ∧
 szOf Tryz.prog 128 = some (1, false) ∧
 zerOf Tryz.prog 128 = some [.ot .nilFunc] ∧
 kdOf Tryz.prog 129 = .fun ∧
 szOf Tryz.prog 129 = some (1, false) ∧
 zerOf Tryz.prog 129 = some [.ot .nilFunc] ∧
 kdOf Tryz.prog 130 = .fun ∧
 szOf Tryz.prog 130 = some (1, false) ∧
 zerOf Tryz.prog 130 = some [.ot .nilFunc] ∧
 kdOf Tryz.prog 131 = .fun ∧
 szOf Tryz.prog 131 = some (1, false) ∧
 zerOf Tryz.prog 131 = some [.ot .nilFunc] ∧
 kdOf Tryz.prog 132 = .fun ∧
 szOf Tryz.prog 132 = some (1, false) ∧
 zerOf Tryz.prog 132 = some [.ot .nilFunc] ∧
 kdOf Tryz.prog 133 = .fun ∧
 szOf Tryz.prog 133 = some (1, false) ∧
 zerOf Tryz.prog 133 = some [.ot .nilFunc] ∧
 kdOf Tryz.prog 134 = .fun ∧
 szOf Tryz.prog 134 = some (1, false) ∧
 zerOf Tryz.prog 134 = some [.ot .nilFunc] ∧
 kdOf Tryz.prog 135 = .fun ∧
 szOf Tryz.prog 135 = some (1, false) ∧
 zerOf Tryz.prog 135 = some [.ot .nilFunc] ∧
 kdOf Tryz.prog 136 = .fun ∧
 szOf Tryz.prog 136 = some (1, false) ∧
 zerOf Tryz.prog 136 = some [.ot .nilFunc] ∧
 kdOf Tryz.prog 137 = .fun ∧
 szOf Tryz.prog 137 = some (1, false) ∧
 zerOf Tryz.prog 137 = some [.ot .nilFunc] ∧
 kdOf Tryz.prog 138 = .fun ∧
 szOf Tryz.prog 138 = some (1, false) ∧
 zerOf Tryz.prog 138 = some [.ot .nilFunc] ∧
 kdOf Tryz.prog 139 = .fun ∧
 szOf Tryz.prog 139 = some (1, false) ∧
 zerOf Tryz.prog 139 = some [.ot .nilFunc] ∧
 kdOf Tryz.prog 140 = .fun := by and_intros <;> kernel_rfl
theorem tf17 :
 szOf Tryz.prog 140 = some (1, false) ∧
 zerOf Tryz.prog 140 = some [.ot .nilFunc] ∧
 kdOf Tryz.prog 141 = .fun ∧
 szOf Tryz.prog 141 = some (1, false) ∧
 zerOf Tryz.prog 141 = some [.ot .nilFunc] ∧
 kdOf Tryz.prog 142 = .bytes ∧
 szOf Tryz.prog 142 = some (1, false) ∧
 sleOf Tryz.prog 142 = some (5, 1, false) ∧
 appOf Tryz.prog 142 = some (5, 1, 1) ∧
 bytOf Tryz.prog 142 = some 5 ∧
 zerOf Tryz.prog 142 = some [(.sl Mode.full [])] ∧
 kdOf Tryz.prog 143 = .other ∧
 szOf Tryz.prog 143 = some (1, true) ∧
 zerOf Tryz.prog 143 = some [(.sl Mode.full [])] ∧
 strOf Tryz.prog 143 = some ([(0, 1)], [(.sl Mode.full [])]) ∧
 fldOf Tryz.prog 143 0 = some (0, 1, false) ∧
 eqsOf Tryz.prog 143 = some [(142, 0, 1, false)] ∧
 Program.eqGuardType Tryz.prog (Program.depth Tryz.prog) 143 = false ∧
 kdOf Tryz.prog 144 = .other ∧
 szOf Tryz.prog 144 = some (1, true) ∧
 zerOf Tryz.prog 144 = some [(.sl Mode.full [])] ∧
 strOf Tryz.prog 144 = some ([(0, 1)], [(.sl Mode.full [])]) ∧
 fldOf Tryz.prog 144 0 = some (0, 1, false) ∧
 eqsOf Tryz.prog 144 = some [(142, 0, 1, false)] ∧
 Program.eqGuardType Tryz.prog (Program.depth Tryz.prog) 144 = false ∧
 kdOf Tryz.prog 145 = .fun ∧
 szOf Tryz.prog 145 = some (1, false) ∧
 zerOf Tryz.prog 145 = some [.ot .nilFunc] ∧
 kdOf Tryz.prog 146 = .fun ∧
 szOf Tryz.prog 146 = some (1, false) ∧
 zerOf Tryz.prog 146 = some [.ot .nilFunc] ∧
 kdOf Tryz.prog 147 = .other ∧
 szOf Tryz.prog 147 = some (4, true) ∧
 zerOf Tryz.prog 147 = some [(.st []), .ot .nilFunc, .it .i64 0, .it .i64 0] ∧
 strOf Tryz.prog 147 = some ([(0, 1), (1, 1), (2, 2)], [(.st []), .ot .nilFunc, .it .i64 0, .it .i64 0]) ∧
 fldOf Tryz.prog 147 0 = some (0, 1, false) ∧
 fldOf Tryz.prog 147 1 = some (1, 1, false) ∧
 fldOf Tryz.prog 147 2 = some (2, 2, true) ∧
 eqsOf Tryz.prog 147 = some [(9, 0, 1, false), (146, 1, 1, false), (27, 2, 2, true)] ∧
 Program.eqGuardType Tryz.prog (Program.depth Tryz.prog) 147 = false := by and_intros <;> kernel_rfl
theorem tf18 :
 kdOf Tryz.prog 148 = .other ∧
 szOf Tryz.prog 148 = some (4, true) ∧
 zerOf Tryz.prog 148 = some [(.st []), .ot .nilFunc, .it .i64 0, .it .i64 0] ∧
 strOf Tryz.prog 148 = some ([(0, 1), (1, 1), (2, 2)], [(.st []), .ot .nilFunc, .it .i64 0, .it .i64 0]) ∧
 fldOf Tryz.prog 148 0 = some (0, 1, false) ∧
 fldOf Tryz.prog 148 1 = some (1, 1, false) ∧
 fldOf Tryz.prog 148 2 = some (2, 2, true) ∧
 eqsOf Tryz.prog 148 = some [(9, 0, 1, false), (146, 1, 1, false), (27, 2, 2, true)] ∧
 Program.eqGuardType Tryz.prog (Program.depth Tryz.prog) 148 = false ∧
 kdOf Tryz.prog 149 = .fun ∧
 szOf Tryz.prog 149 = some (1, false) ∧
 zerOf Tryz.prog 149 = some [.ot .nilFunc] ∧
 kdOf Tryz.prog 150 = .ptr ∧
 szOf Tryz.prog 150 = some (1, false) ∧
 zerOf Tryz.prog 150 = some [(.ot (.pointer none))] ∧
 kdOf Tryz.prog 151 = .fun ∧
 szOf Tryz.prog 151 = some (1, false) ∧
 zerOf Tryz.prog 151 = some [.ot .nilFunc] ∧
 kdOf Tryz.prog 152 = .fun ∧
 szOf Tryz.prog 152 = some (1, false) ∧
 zerOf Tryz.prog 152 = some [.ot .nilFunc] ∧
 kdOf Tryz.prog 153 = .fun ∧
 szOf Tryz.prog 153 = some (1, false) ∧
 zerOf Tryz.prog 153 = some [.ot .nilFunc] ∧
 kdOf Tryz.prog 154 = .fun ∧
 szOf Tryz.prog 154 = some (1, false) ∧
 zerOf Tryz.prog 154 = some [.ot .nilFunc] ∧
 kdOf Tryz.prog 155 = .fun ∧
 szOf Tryz.prog 155 = some (1, false) ∧
 zerOf Tryz.prog 155 = some [.ot .nilFunc] ∧
 kdOf Tryz.prog 156 = .fun ∧
 szOf Tryz.prog 156 = some (1, false) ∧
 zerOf Tryz.prog 156 = some [.ot .nilFunc] ∧
 kdOf Tryz.prog 157 = .fun ∧
 szOf Tryz.prog 157 = some (1, false) ∧
 zerOf Tryz.prog 157 = some [.ot .nilFunc] ∧
 kdOf Tryz.prog 158 = .fun ∧
 szOf Tryz.prog 158 = some (1, false) ∧
 zerOf Tryz.prog 158 = some [.ot .nilFunc] ∧
 kdOf Tryz.prog 159 = .fun := by and_intros <;> kernel_rfl
theorem tf19 :
 szOf Tryz.prog 159 = some (1, false) ∧
 zerOf Tryz.prog 159 = some [.ot .nilFunc] ∧
 kdOf Tryz.prog 160 = .fun ∧
 szOf Tryz.prog 160 = some (1, false) ∧
 zerOf Tryz.prog 160 = some [.ot .nilFunc] ∧
 kdOf Tryz.prog 161 = .fun ∧
 szOf Tryz.prog 161 = some (1, false) ∧
 zerOf Tryz.prog 161 = some [.ot .nilFunc] ∧
 kdOf Tryz.prog 162 = .other ∧
 szOf Tryz.prog 162 = some (1, false) ∧
 kdOf Tryz.prog 163 = .fun ∧
 szOf Tryz.prog 163 = some (1, false) ∧
 zerOf Tryz.prog 163 = some [.ot .nilFunc] ∧
 kdOf Tryz.prog 164 = .fun ∧
 szOf Tryz.prog 164 = some (1, false) ∧
 zerOf Tryz.prog 164 = some [.ot .nilFunc] ∧
 kdOf Tryz.prog 165 = .fun ∧
 szOf Tryz.prog 165 = some (1, false) ∧
 zerOf Tryz.prog 165 = some [.ot .nilFunc] ∧
 kdOf Tryz.prog 166 = .fun ∧
 szOf Tryz.prog 166 = some (1, false) ∧
 zerOf Tryz.prog 166 = some [.ot .nilFunc] ∧
 kdOf Tryz.prog 167 = .fun ∧
 szOf Tryz.prog 167 = some (1, false) ∧
 zerOf Tryz.prog 167 = some [.ot .nilFunc] ∧
 kdOf Tryz.prog 168 = .fun ∧
 szOf Tryz.prog 168 = some (1, false) ∧
 zerOf Tryz.prog 168 = some [.ot .nilFunc] ∧
 kdOf Tryz.prog 169 = .other ∧
 szOf Tryz.prog 169 = some (1, false) ∧
 zerOf Tryz.prog 169 = some [(.ot (.map none))] ∧
 mapOf Tryz.prog 169 = some (some .i64, .bo false) ∧
 kdOf Tryz.prog 170 = .fun ∧
 szOf Tryz.prog 170 = some (1, false) ∧
 zerOf Tryz.prog 170 = some [.ot .nilFunc] ∧
 kdOf Tryz.prog 171 = .fun ∧
 szOf Tryz.prog 171 = some (1, false) ∧
 zerOf Tryz.prog 171 = some [.ot .nilFunc] ∧
 kdOf Tryz.prog 172 = .fun ∧
 szOf Tryz.prog 172 = some (1, false) := by and_intros <;> kernel_rfl
theorem tf20 :
 zerOf Tryz.prog 172 = some [.ot .nilFunc] ∧
 kdOf Tryz.prog 173 = .fun ∧
 szOf Tryz.prog 173 = some (1, false) ∧
 zerOf Tryz.prog 173 = some [.ot .nilFunc] ∧
 kdOf Tryz.prog 174 = .fun ∧
 szOf Tryz.prog 174 = some (1, false) ∧
 zerOf Tryz.prog 174 = some [.ot .nilFunc] ∧
 kdOf Tryz.prog 175 = .fun ∧
 szOf Tryz.prog 175 = some (1, false) ∧
 zerOf Tryz.prog 175 = some [.ot .nilFunc] ∧
 kdOf Tryz.prog 176 = .fun ∧
 szOf Tryz.prog 176 = some (1, false) ∧
 zerOf Tryz.prog 176 = some [.ot .nilFunc] ∧
 kdOf Tryz.prog 177 = .fun ∧
 szOf Tryz.prog 177 = some (1, false) ∧
 zerOf Tryz.prog 177 = some [.ot .nilFunc] ∧
 kdOf Tryz.prog 178 = .other ∧
 szOf Tryz.prog 178 = some (2, true) ∧
 zerOf Tryz.prog 178 = some [(.st []), .bo false] ∧
 strOf Tryz.prog 178 = some ([(0, 1), (1, 1)], [(.st []), .bo false]) ∧
 fldOf Tryz.prog 178 0 = some (0, 1, false) ∧
 fldOf Tryz.prog 178 1 = some (1, 1, false) ∧
 eqsOf Tryz.prog 178 = some [(9, 0, 1, false), (4, 1, 1, false)] ∧
 Program.eqGuardType Tryz.prog (Program.depth Tryz.prog) 178 = false ∧
 kdOf Tryz.prog 179 = .other ∧
 szOf Tryz.prog 179 = some (2, true) ∧
 zerOf Tryz.prog 179 = some [(.st []), .bo false] ∧
 strOf Tryz.prog 179 = some ([(0, 1), (1, 1)], [(.st []), .bo false]) ∧
 fldOf Tryz.prog 179 0 = some (0, 1, false) ∧
 fldOf Tryz.prog 179 1 = some (1, 1, false) ∧
 eqsOf Tryz.prog 179 = some [(9, 0, 1, false), (4, 1, 1, false)] ∧
 Program.eqGuardType Tryz.prog (Program.depth Tryz.prog) 179 = false ∧
 kdOf Tryz.prog 180 = .fun ∧
 szOf Tryz.prog 180 = some (1, false) ∧
 zerOf Tryz.prog 180 = some [.ot .nilFunc] ∧
 kdOf Tryz.prog 181 = .other ∧
 szOf Tryz.prog 181 = some (2, true) ∧
 zerOf Tryz.prog 181 = some [(.st []), .bo false] ∧
 strOf Tryz.prog 181 = some ([(0, 1), (1, 1)], [(.st []), .bo false]) ∧
 fldOf Tryz.prog 181 0 = some (0, 1, false) := by and_intros <;> kernel_rfl
theorem tf21 :
 fldOf Tryz.prog 181 1 = some (1, 1, false) ∧
 eqsOf Tryz.prog 181 = some [(9, 0, 1, false), (4, 1, 1, false)] ∧
 Program.eqGuardType Tryz.prog (Program.depth Tryz.prog) 181 = false ∧
 kdOf Tryz.prog 182 = .other ∧
 szOf Tryz.prog 182 = some (2, true) ∧
 zerOf Tryz.prog 182 = some [(.st []), .bo false] ∧
 strOf Tryz.prog 182 = some ([(0, 1), (1, 1)], [(.st []), .bo false]) ∧
 fldOf Tryz.prog 182 0 = some (0, 1, false) ∧
 fldOf Tryz.prog 182 1 = some (1, 1, false) ∧
 eqsOf Tryz.prog 182 = some [(9, 0, 1, false), (4, 1, 1, false)] ∧
 Program.eqGuardType Tryz.prog (Program.depth Tryz.prog) 182 = false ∧
 kdOf Tryz.prog 183 = .fun ∧
 szOf Tryz.prog 183 = some (1, false) ∧
 zerOf Tryz.prog 183 = some [.ot .nilFunc] ∧
 kdOf Tryz.prog 184 = .fun ∧
 szOf Tryz.prog 184 = some (1, false) ∧
 zerOf Tryz.prog 184 = some [.ot .nilFunc] ∧
 kdOf Tryz.prog 185 = .fun ∧
 szOf Tryz.prog 185 = some (1, false) ∧
 zerOf Tryz.prog 185 = some [.ot .nilFunc] ∧
 kdOf Tryz.prog 186 = .fun ∧
 szOf Tryz.prog 186 = some (1, false) ∧
 zerOf Tryz.prog 186 = some [.ot .nilFunc] ∧
 kdOf Tryz.prog 187 = .fun ∧
 szOf Tryz.prog 187 = some (1, false) ∧
 zerOf Tryz.prog 187 = some [.ot .nilFunc] ∧
 kdOf Tryz.prog 188 = .fun ∧
 szOf Tryz.prog 188 = some (1, false) ∧
 zerOf Tryz.prog 188 = some [.ot .nilFunc] ∧
 kdOf Tryz.prog 189 = .fun ∧
 szOf Tryz.prog 189 = some (1, false) ∧
 zerOf Tryz.prog 189 = some [.ot .nilFunc] ∧
 kdOf Tryz.prog 190 = .fun ∧
 szOf Tryz.prog 190 = some (1, false) ∧
 zerOf Tryz.prog 190 = some [.ot .nilFunc] ∧
 kdOf Tryz.prog 191 = .fun ∧
 szOf Tryz.prog 191 = some (1, false) ∧
 zerOf Tryz.prog 191 = some [.ot .nilFunc] ∧
 kdOf Tryz.prog 192 = .fun ∧
 szOf Tryz.prog 192 = some (1, false) := by and_intros <;> kernel_rfl
theorem tf22 :
 zerOf Tryz.prog 192 = some [.ot .nilFunc] ∧
 kdOf Tryz.prog 193 = .fun ∧
 szOf Tryz.prog 193 = some (1, false) ∧
 zerOf Tryz.prog 193 = some [.ot .nilFunc] ∧
 kdOf Tryz.prog 194 = .fun ∧
 szOf Tryz.prog 194 = some (1, false) ∧
 zerOf Tryz.prog 194 = some [.ot .nilFunc] ∧
 kdOf Tryz.prog 195 = .fun ∧
 szOf Tryz.prog 195 = some (1, false) ∧
 zerOf Tryz.prog 195 = some [.ot .nilFunc] ∧
 kdOf Tryz.prog 196 = .fun ∧
 szOf Tryz.prog 196 = some (1, false) ∧
 zerOf Tryz.prog 196 = some [.ot .nilFunc] ∧
 kdOf Tryz.prog 197 = .fun ∧
 szOf Tryz.prog 197 = some (1, false) ∧
 zerOf Tryz.prog 197 = some [.ot .nilFunc] ∧
 kdOf Tryz.prog 198 = (.int .u32) ∧
 szOf Tryz.prog 198 = some (1, false) ∧
 zerOf Tryz.prog 198 = some [.it .u32 0] ∧
 kdOf Tryz.prog 199 = .other ∧
 szOf Tryz.prog 199 = some (8, true) ∧
 areOf Tryz.prog 199 = some (8, 1, false) ∧
 zerOf Tryz.prog 199 = some [.it .u32 0, .it .u32 0, .it .u32 0, .it .u32 0, .it .u32 0, .it .u32 0, .it .u32 0, .it .u32 0] ∧
 strOf Tryz.prog 199 = some ([(0, 1), (1, 1), (2, 1), (3, 1), (4, 1), (5, 1), (6, 1), (7, 1)], [.it .u32 0, .it .u32 0, .it .u32 0, .it .u32 0, .it .u32 0, .it .u32 0, .it .u32 0, .it .u32 0]) ∧
 kdOf Tryz.prog 200 = .fun ∧
 szOf Tryz.prog 200 = some (1, false) ∧
 zerOf Tryz.prog 200 = some [.ot .nilFunc] ∧
 kdOf Tryz.prog 201 = .fun ∧
 szOf Tryz.prog 201 = some (1, false) ∧
 zerOf Tryz.prog 201 = some [.ot .nilFunc] ∧
 kdOf Tryz.prog 202 = (.int .u64) ∧
 szOf Tryz.prog 202 = some (1, false) ∧
 zerOf Tryz.prog 202 = some [.it .u64 0] ∧
 kdOf Tryz.prog 203 = (.int .u64) ∧
 szOf Tryz.prog 203 = some (1, false) ∧
 zerOf Tryz.prog 203 = some [.it .u64 0] ∧
 kdOf Tryz.prog 204 = .other ∧
 szOf Tryz.prog 204 = some (1, false) ∧
 sleOf Tryz.prog 204 = some (198, 1, false) ∧
 appOf Tryz.prog 204 = some (198, 1, 4) := by and_intros <;> kernel_rfl
theorem tf23 :
 zerOf Tryz.prog 204 = some [(.sl Mode.full [])] ∧
 kdOf Tryz.prog 205 = .fun ∧
 szOf Tryz.prog 205 = some (1, false) ∧
 zerOf Tryz.prog 205 = some [.ot .nilFunc] ∧
 kdOf Tryz.prog 206 = .fun ∧
 szOf Tryz.prog 206 = some (1, false) ∧
 zerOf Tryz.prog 206 = some [.ot .nilFunc] ∧
 kdOf Tryz.prog 207 = .fun ∧
 szOf Tryz.prog 207 = some (1, false) ∧
 zerOf Tryz.prog 207 = some [.ot .nilFunc] ∧
 kdOf Tryz.prog 208 = .other ∧
 szOf Tryz.prog 208 = some (1, false) ∧
 kdOf Tryz.prog 209 = .fun ∧
 szOf Tryz.prog 209 = some (1, false) ∧
 zerOf Tryz.prog 209 = some [.ot .nilFunc] ∧
 kdOf Tryz.prog 210 = .other ∧
 szOf Tryz.prog 210 = some (1, false) ∧
 kdOf Tryz.prog 211 = .fun ∧
 szOf Tryz.prog 211 = some (1, false) ∧
 zerOf Tryz.prog 211 = some [.ot .nilFunc] ∧
 kdOf Tryz.prog 212 = .fun ∧
 szOf Tryz.prog 212 = some (1, false) ∧
 zerOf Tryz.prog 212 = some [.ot .nilFunc] ∧
 kdOf Tryz.prog 213 = .fun ∧
 szOf Tryz.prog 213 = some (1, false) ∧
 zerOf Tryz.prog 213 = some [.ot .nilFunc] ∧
 kdOf Tryz.prog 214 = .fun ∧
 szOf Tryz.prog 214 = some (1, false) ∧
 zerOf Tryz.prog 214 = some [.ot .nilFunc] ∧
 kdOf Tryz.prog 215 = .fun ∧
 szOf Tryz.prog 215 = some (1, false) ∧
 zerOf Tryz.prog 215 = some [.ot .nilFunc] ∧
 kdOf Tryz.prog 216 = .other ∧
 szOf Tryz.prog 216 = some (1, false) ∧
 kdOf Tryz.prog 217 = .fun ∧
 szOf Tryz.prog 217 = some (1, false) ∧
 zerOf Tryz.prog 217 = some [.ot .nilFunc] ∧
 kdOf Tryz.prog 218 = .fun ∧
 szOf Tryz.prog 218 = some (1, false) ∧
 zerOf Tryz.prog 218 = some [.ot .nilFunc] := by and_intros <;> kernel_rfl
theorem tf24 :
 kdOf Tryz.prog 219 = .fun ∧
 szOf Tryz.prog 219 = some (1, false) ∧
 zerOf Tryz.prog 219 = some [.ot .nilFunc] ∧
 kdOf Tryz.prog 220 = .other ∧
 szOf Tryz.prog 220 = some (64, true) ∧
 areOf Tryz.prog 220 = some (64, 1, false) ∧
 zerOf Tryz.prog 220 = some [.it .u32 0, .it .u32 0, .it .u32 0, .it .u32 0, .it .u32 0, .it .u32 0, .it .u32 0, .it .u32 0, .it .u32 0, .it .u32 0, .it .u32 0, .it .u32 0, .it .u32 0, .it .u32 0, .it .u32 0, .it .u32 0, .it .u32 0, .it .u32 0, .it .u32 0, .it .u32 0, .it .u32 0, .it .u32 0, .it .u32 0, .it .u32 0, .it .u32 0, .it .u32 0, .it .u32 0, .it .u32 0, .it .u32 0, .it .u32 0, .it .u32 0, .it .u32 0, .it .u32 0, .it .u32 0, .it .u32 0, .it .u32 0, .it .u32 0, .it .u32 0, .it .u32 0, .it .u32 0, .it .u32 0, .it .u32 0, .it .u32 0, .it .u32 0, .it .u32 0, .it .u32 0, .it .u32 0, .it .u32 0, .it .u32 0, .it .u32 0, .it .u32 0, .it .u32 0, .it .u32 0, .it .u32 0, .it .u32 0, .it .u32 0, .it .u32 0, .it .u32 0, .it .u32 0, .it .u32 0, .it .u32 0, .it .u32 0, .it .u32 0, .it .u32 0] ∧
 strOf Tryz.prog 220 = some ([(0, 1), (1, 1), (2, 1), (3, 1), (4, 1), (5, 1), (6, 1), (7, 1), (8, 1), (9, 1), (10, 1), (11, 1), (12, 1), (13, 1), (14, 1), (15, 1), (16, 1), (17, 1), (18, 1), (19, 1), (20, 1), (21, 1), (22, 1), (23, 1), (24, 1), (25, 1), (26, 1), (27, 1), (28, 1), (29, 1), (30, 1), (31, 1), (32, 1), (33, 1), (34, 1), (35, 1), (36, 1), (37, 1), (38, 1), (39, 1), (40, 1), (41, 1), (42, 1), (43, 1), (44, 1), (45, 1), (46, 1), (47, 1), (48, 1), (49, 1), (50, 1), (51, 1), (52, 1), (53, 1), (54, 1), (55, 1), (56, 1), (57, 1), (58, 1), (59, 1), (60, 1), (61, 1), (62, 1), (63, 1)], [.it .u32 0, .it .u32 0, .it .u32 0, .it .u32 0, .it .u32 0, .it .u32 0, .it .u32 0, .it .u32 0, .it .u32 0, .it .u32 0, .it .u32 0, .it .u32 0, .it .u32 0, .it .u32 0, .it .u32 0, .it .u32 0, .it .u32 0, .it .u32 0, .it .u32 0, .it .u32 0, .it .u32 0, .it .u32 0, .it .u32 0, .it .u32 0, .it .u32 0, .it .u32 0, .it .u32 0, .it .u32 0, .it .u32 0, .it .u32 0, .it .u32 0, .it .u32 0, .it .u32 0, .it .u32 0, .it .u32 0, .it .u32 0, .it .u32 0, .it .u32 0, .it .u32 0, .it .u32 0, .it .u32 0, .it .u32 0, .it .u32 0, .it .u32 0, .it .u32 0, .it .u32 0, .it .u32 0, .it .u32 0, .it .u32 0, .it .u32 0, .it .u32 0, .it .u32 0, .it .u32 0, .it .u32 0, .it .u32 0, .it .u32 0, .it .u32 0, .it .u32 0, .it .u32 0, .it .u32 0, .it .u32 0, .it .u32 0, .it .u32 0, .it .u32 0]) ∧
 kdOf Tryz.prog 221 = .fun ∧
 szOf Tryz.prog 221 = some (1, false) ∧
 zerOf Tryz.prog 221 = some [.ot .nilFunc] ∧
 kdOf Tryz.prog 222 = .fun ∧
 szOf Tryz.prog 222 = some (1, false) ∧
 zerOf Tryz.prog 222 = some [.ot .nilFunc] ∧
 kdOf Tryz.prog 223 = .fun ∧
 szOf Tryz.prog 223 = some (1, false) ∧
 zerOf Tryz.prog 223 = some [.ot .nilFunc] ∧
 kdOf Tryz.prog 224 = .fun ∧
 szOf Tryz.prog 224 = some (1, false) ∧
 zerOf Tryz.prog 224 = some [.ot .nilFunc] ∧
 kdOf Tryz.prog 225 = .fun ∧
 szOf Tryz.prog 225 = some (1, false) ∧
 zerOf Tryz.prog 225 = some [.ot .nilFunc] ∧
 kdOf Tryz.prog 226 = .fun ∧
 szOf Tryz.prog 226 = some (1, false) ∧
 zerOf Tryz.prog 226 = some [.ot .nilFunc] ∧
 kdOf Tryz.prog 227 = .ptr ∧
 szOf Tryz.prog 227 = some (1, false) ∧
 zerOf Tryz.prog 227 = some [(.ot (.pointer none))] ∧
 kdOf Tryz.prog 228 = .other ∧
 szOf Tryz.prog 228 = some (2, true) ∧
 zerOf Tryz.prog 228 = some [(.ot (.pointer none)), (.sl Mode.full [])] ∧
 strOf Tryz.prog 228 = some ([(0, 1), (1, 1)], [(.ot (.pointer none)), (.sl Mode.full [])]) ∧
 fldOf Tryz.prog 228 0 = some (0, 1, false) ∧
 fldOf Tryz.prog 228 1 = some (1, 1, false) ∧
 eqsOf Tryz.prog 228 = some [(227, 0, 1, false), (142, 1, 1, false)] ∧
 Program.eqGuardType Tryz.prog (Program.depth Tryz.prog) 228 = false ∧
 kdOf Tryz.prog 229 = .other ∧
 szOf Tryz.prog 229 = some (2, true) ∧
 zerOf Tryz.prog 229 = some [(.ot (.pointer none)), (.sl Mode.full [])] := by and_intros <;> kernel_rfl
theorem tf25 :
 strOf Tryz.prog 229 = some ([(0, 1), (1, 1)], [(.ot (.pointer none)), (.sl Mode.full [])]) ∧
 fldOf Tryz.prog 229 0 = some (0, 1, false) ∧
 fldOf Tryz.prog 229 1 = some (1, 1, false) ∧
 eqsOf Tryz.prog 229 = some [(227, 0, 1, false), (142, 1, 1, false)] ∧
 Program.eqGuardType Tryz.prog (Program.depth Tryz.prog) 229 = false ∧
 kdOf Tryz.prog 230 = .fun ∧
 szOf Tryz.prog 230 = some (1, false) ∧
 zerOf Tryz.prog 230 = some [.ot .nilFunc] ∧
 kdOf Tryz.prog 231 = .other ∧
 szOf Tryz.prog 231 = some (1, false) ∧
 zerOf Tryz.prog 231 = some [.ot .nilIface] ∧
 kdOf Tryz.prog 232 = .other ∧
 szOf Tryz.prog 232 = some (1, false) ∧
 zerOf Tryz.prog 232 = some [.ot .nilIface] ∧
 kdOf Tryz.prog 233 = .other ∧
 szOf Tryz.prog 233 = some (1, false) ∧
 kdOf Tryz.prog 234 = .fun ∧
 szOf Tryz.prog 234 = some (1, false) ∧
 zerOf Tryz.prog 234 = some [.ot .nilFunc] ∧
 kdOf Tryz.prog 235 = .other ∧
 szOf Tryz.prog 235 = some (1, false) ∧
 kdOf Tryz.prog 236 = .fun ∧
 szOf Tryz.prog 236 = some (1, false) ∧
 zerOf Tryz.prog 236 = some [.ot .nilFunc] ∧
 kdOf Tryz.prog 237 = .fun ∧
 szOf Tryz.prog 237 = some (1, false) ∧
 zerOf Tryz.prog 237 = some [.ot .nilFunc] ∧
 kdOf Tryz.prog 238 = .fun ∧
 szOf Tryz.prog 238 = some (1, false) ∧
 zerOf Tryz.prog 238 = some [.ot .nilFunc] ∧
 kdOf Tryz.prog 239 = (.int .i64) ∧
 szOf Tryz.prog 239 = some (1, false) ∧
 zerOf Tryz.prog 239 = some [.it .i64 0] ∧
 kdOf Tryz.prog 240 = .other ∧
 szOf Tryz.prog 240 = some (1, false) ∧
 kdOf Tryz.prog 241 = .fun ∧
 szOf Tryz.prog 241 = some (1, false) ∧
 zerOf Tryz.prog 241 = some [.ot .nilFunc] ∧
 kdOf Tryz.prog 242 = .fun ∧
 szOf Tryz.prog 242 = some (1, false) := by and_intros <;> kernel_rfl
theorem tf26 :
 zerOf Tryz.prog 242 = some [.ot .nilFunc] ∧
 kdOf Tryz.prog 243 = .fun ∧
 szOf Tryz.prog 243 = some (1, false) ∧
 zerOf Tryz.prog 243 = some [.ot .nilFunc] ∧
 kdOf Tryz.prog 244 = .fun ∧
 szOf Tryz.prog 244 = some (1, false) ∧
 zerOf Tryz.prog 244 = some [.ot .nilFunc] ∧
 kdOf Tryz.prog 245 = .other ∧
 szOf Tryz.prog 245 = some (1, false) ∧
 kdOf Tryz.prog 246 = .fun ∧
 szOf Tryz.prog 246 = some (1, false) ∧
 zerOf Tryz.prog 246 = some [.ot .nilFunc] ∧
 kdOf Tryz.prog 247 = .fun ∧
 szOf Tryz.prog 247 = some (1, false) ∧
 zerOf Tryz.prog 247 = some [.ot .nilFunc] ∧
 kdOf Tryz.prog 248 = .ptr ∧
 szOf Tryz.prog 248 = some (1, false) ∧
 zerOf Tryz.prog 248 = some [(.ot (.pointer none))] ∧
 kdOf Tryz.prog 249 = .fun ∧
 szOf Tryz.prog 249 = some (1, false) ∧
 zerOf Tryz.prog 249 = some [.ot .nilFunc] ∧
 kdOf Tryz.prog 250 = (.int .u64) ∧
 szOf Tryz.prog 250 = some (1, false) ∧
 zerOf Tryz.prog 250 = some [.it .u64 0] ∧
 kdOf Tryz.prog 251 = .fun ∧
 szOf Tryz.prog 251 = some (1, false) ∧
 zerOf Tryz.prog 251 = some [.ot .nilFunc] ∧
 kdOf Tryz.prog 252 = .fun ∧
 szOf Tryz.prog 252 = some (1, false) ∧
 zerOf Tryz.prog 252 = some [.ot .nilFunc] ∧
 kdOf Tryz.prog 253 = .fun ∧
 szOf Tryz.prog 253 = some (1, false) ∧
 zerOf Tryz.prog 253 = some [.ot .nilFunc] ∧
 kdOf Tryz.prog 254 = .ptr ∧
 szOf Tryz.prog 254 = some (1, false) ∧
 zerOf Tryz.prog 254 = some [(.ot (.pointer none))] ∧
 kdOf Tryz.prog 255 = .fun ∧
 szOf Tryz.prog 255 = some (1, false) ∧
 zerOf Tryz.prog 255 = some [.ot .nilFunc] ∧
 kdOf Tryz.prog 256 = .other := by and_intros <;> kernel_rfl
theorem tf27 :
 szOf Tryz.prog 256 = some (1, false) ∧
 zerOf Tryz.prog 256 = some [(.ot (.pointer none))] ∧
 kdOf Tryz.prog 257 = .fun ∧
 szOf Tryz.prog 257 = some (1, false) ∧
 zerOf Tryz.prog 257 = some [.ot .nilFunc] ∧
 kdOf Tryz.prog 258 = .fun ∧
 szOf Tryz.prog 258 = some (1, false) ∧
 zerOf Tryz.prog 258 = some [.ot .nilFunc] ∧
 kdOf Tryz.prog 259 = .ptr ∧
 szOf Tryz.prog 259 = some (1, false) ∧
 zerOf Tryz.prog 259 = some [(.ot (.pointer none))] ∧
 kdOf Tryz.prog 260 = .other ∧
 szOf Tryz.prog 260 = some (1, false) ∧
 kdOf Tryz.prog 261 = .fun ∧
 szOf Tryz.prog 261 = some (1, false) ∧
 zerOf Tryz.prog 261 = some [.ot .nilFunc] ∧
 kdOf Tryz.prog 262 = .ptr ∧
 szOf Tryz.prog 262 = some (1, false) ∧
 zerOf Tryz.prog 262 = some [(.ot (.pointer none))] ∧
 kdOf Tryz.prog 263 = .other ∧
 szOf Tryz.prog 263 = some (4, true) ∧
 zerOf Tryz.prog 263 = some [(.ot (.pointer none)), (.ot (.pointer none)), (.ot (.pointer none)), (.st [])] ∧
 strOf Tryz.prog 263 = some ([(0, 1), (1, 1), (2, 1), (3, 1)], [(.ot (.pointer none)), (.ot (.pointer none)), (.ot (.pointer none)), (.st [])]) ∧
 fldOf Tryz.prog 263 0 = some (0, 1, false) ∧
 fldOf Tryz.prog 263 1 = some (1, 1, false) ∧
 fldOf Tryz.prog 263 2 = some (2, 1, false) ∧
 fldOf Tryz.prog 263 3 = some (3, 1, false) ∧
 kdOf Tryz.prog 264 = .other ∧
 szOf Tryz.prog 264 = some (4, true) ∧
 zerOf Tryz.prog 264 = some [(.ot (.pointer none)), (.ot (.pointer none)), (.ot (.pointer none)), (.st [])] ∧
 strOf Tryz.prog 264 = some ([(0, 1), (1, 1), (2, 1), (3, 1)], [(.ot (.pointer none)), (.ot (.pointer none)), (.ot (.pointer none)), (.st [])]) ∧
 fldOf Tryz.prog 264 0 = some (0, 1, false) ∧
 fldOf Tryz.prog 264 1 = some (1, 1, false) ∧
 fldOf Tryz.prog 264 2 = some (2, 1, false) ∧
 fldOf Tryz.prog 264 3 = some (3, 1, false) ∧
 kdOf Tryz.prog 265 = .other ∧
 szOf Tryz.prog 265 = some (0, true) ∧
 areOf Tryz.prog 265 = some (0, 1, false) ∧
 zerOf Tryz.prog 265 = some [] ∧
 strOf Tryz.prog 265 = some ([], []) := by and_intros <;> kernel_rfl
theorem tf28 :
 kdOf Tryz.prog 266 = .other ∧
 szOf Tryz.prog 266 = some (0, true) ∧
 zerOf Tryz.prog 266 = some [] ∧
 strOf Tryz.prog 266 = some ([(0, 0)], []) ∧
 fldOf Tryz.prog 266 0 = some (0, 0, true) ∧
 kdOf Tryz.prog 267 = .other ∧
 szOf Tryz.prog 267 = some (0, true) ∧
 zerOf Tryz.prog 267 = some [] ∧
 strOf Tryz.prog 267 = some ([(0, 0)], []) ∧
 fldOf Tryz.prog 267 0 = some (0, 0, true) ∧
 kdOf Tryz.prog 268 = (.int .u8) ∧
 szOf Tryz.prog 268 = some (1, false) ∧
 zerOf Tryz.prog 268 = some [.it .u8 0] ∧
 kdOf Tryz.prog 269 = (.int .u8) ∧
 szOf Tryz.prog 269 = some (1, false) ∧
 zerOf Tryz.prog 269 = some [.it .u8 0] ∧
 kdOf Tryz.prog 270 = .fun ∧
 szOf Tryz.prog 270 = some (1, false) ∧
 zerOf Tryz.prog 270 = some [.ot .nilFunc] ∧
 kdOf Tryz.prog 271 = (.int .i32) ∧
 szOf Tryz.prog 271 = some (1, false) ∧
 zerOf Tryz.prog 271 = some [.it .i32 0] ∧
 kdOf Tryz.prog 272 = (.int .i32) ∧
 szOf Tryz.prog 272 = some (1, false) ∧
 zerOf Tryz.prog 272 = some [.it .i32 0] ∧
 kdOf Tryz.prog 273 = .other ∧
 szOf Tryz.prog 273 = some (11, true) ∧
 zerOf Tryz.prog 273 = some [.it .u64 0, .it .u64 0, .it .u32 0, .it .u8 0, .it .u8 0, .it .u8 0, .it .u8 0, .ot .nilFunc, (.ot (.pointer none)), .it .i32 0, .it .i32 0] ∧
 strOf Tryz.prog 273 = some ([(0, 1), (1, 1), (2, 1), (3, 1), (4, 1), (5, 1), (6, 1), (7, 1), (8, 1), (9, 1), (10, 1)], [.it .u64 0, .it .u64 0, .it .u32 0, .it .u8 0, .it .u8 0, .it .u8 0, .it .u8 0, .ot .nilFunc, (.ot (.pointer none)), .it .i32 0, .it .i32 0]) ∧
 fldOf Tryz.prog 273 0 = some (0, 1, false) ∧
 fldOf Tryz.prog 273 1 = some (1, 1, false) ∧
 fldOf Tryz.prog 273 2 = some (2, 1, false) ∧
 fldOf Tryz.prog 273 3 = some (3, 1, false) ∧
 fldOf Tryz.prog 273 4 = some (4, 1, false) ∧
 fldOf Tryz.prog 273 5 = some (5, 1, false) ∧
 fldOf Tryz.prog 273 6 = some (6, 1, false) ∧
 fldOf Tryz.prog 273 7 = some (7, 1, false) ∧
 fldOf Tryz.prog 273 8 = some (8, 1, false) ∧
 fldOf Tryz.prog 273 9 = some (9, 1, false) ∧
 fldOf Tryz.prog 273 10 = some (10, 1, false) := by and_intros <;> kernel_rfl
theorem tf29 :
 kdOf Tryz.prog 274 = .other ∧
 szOf Tryz.prog 274 = some (11, true) ∧
 zerOf Tryz.prog 274 = some [.it .u64 0, .it .u64 0, .it .u32 0, .it .u8 0, .it .u8 0, .it .u8 0, .it .u8 0, .ot .nilFunc, (.ot (.pointer none)), .it .i32 0, .it .i32 0] ∧
 strOf Tryz.prog 274 = some ([(0, 1), (1, 1), (2, 1), (3, 1), (4, 1), (5, 1), (6, 1), (7, 1), (8, 1), (9, 1), (10, 1)], [.it .u64 0, .it .u64 0, .it .u32 0, .it .u8 0, .it .u8 0, .it .u8 0, .it .u8 0, .ot .nilFunc, (.ot (.pointer none)), .it .i32 0, .it .i32 0]) ∧
 fldOf Tryz.prog 274 0 = some (0, 1, false) ∧
 fldOf Tryz.prog 274 1 = some (1, 1, false) ∧
 fldOf Tryz.prog 274 2 = some (2, 1, false) ∧
 fldOf Tryz.prog 274 3 = some (3, 1, false) ∧
 fldOf Tryz.prog 274 4 = some (4, 1, false) ∧
 fldOf Tryz.prog 274 5 = some (5, 1, false) ∧
 fldOf Tryz.prog 274 6 = some (6, 1, false) ∧
 fldOf Tryz.prog 274 7 = some (7, 1, false) ∧
 fldOf Tryz.prog 274 8 = some (8, 1, false) ∧
 fldOf Tryz.prog 274 9 = some (9, 1, false) ∧
 fldOf Tryz.prog 274 10 = some (10, 1, false) ∧
 kdOf Tryz.prog 275 = .other ∧
 szOf Tryz.prog 275 = some (1, true) ∧
 zerOf Tryz.prog 275 = some [(.st [])] ∧
 strOf Tryz.prog 275 = some ([(0, 1)], [(.st [])]) ∧
 fldOf Tryz.prog 275 0 = some (0, 1, false) ∧
 eqsOf Tryz.prog 275 = some [(9, 0, 1, false)] ∧
 Program.eqGuardType Tryz.prog (Program.depth Tryz.prog) 275 = false ∧
 kdOf Tryz.prog 276 = .other ∧
 szOf Tryz.prog 276 = some (1, true) ∧
 zerOf Tryz.prog 276 = some [(.st [])] ∧
 strOf Tryz.prog 276 = some ([(0, 1)], [(.st [])]) ∧
 fldOf Tryz.prog 276 0 = some (0, 1, false) ∧
 eqsOf Tryz.prog 276 = some [(9, 0, 1, false)] ∧
 Program.eqGuardType Tryz.prog (Program.depth Tryz.prog) 276 = false := by and_intros <;> kernel_rfl
end Go.Proofs.YtaphpbiaoofmkaaGreatDoor.Pe
end
section
namespace Go.Proofs.YtaphpbiaoofmkaaGreatDoor.Pe
open Go
variable [Tab]
set_option maxRecDepth 100000
theorem an {a b : Prop} (x : a) (y : b) : a ∧ b := ⟨x, y⟩
theorem run {A B : Prop} (h : B) (e : A = B := by
  conv =>
   lhs
   (try simp only [AWs_eq, ARgs_eq, AOps_eq, iteP_true, iteP_false])
   (try simp -implicitDefEqProofs (maxSteps := 4000000) (disch := (first | omega | (simp only [List.length_append, List.length_cons, List.length_map, List.length_nil, List.length_take, List.length_drop]; omega))) only [↓zpre, zpost, cst1, ↓reduceIte, Nat.reduceEqDiff, Nat.reduceAdd, Nat.reduceLT, Nat.reduceLeDiff, Nat.reduceMul, Nat.reduceSub, Int.reduceToNat, Int.reduceAdd, Int.reduceSub, Int.reduceMul, Int.reduceNeg, Int.reduceLE, Int.reduceLT, Int.reduceEq, Int.reduceBEq, Int.reduceBNe, Nat.reduceBEq, Nat.reduceBNe, aBin, aEq, aEqF, aNilEq, aInt, aStr, aUn, aConv, aNil, aFldAddr, aFld, aIdxAddr, aIdx, aBui, aLoad, aStore, aLits, aLit, aMake, aMakeW, aMapSet, aLook, kfind, keq, kok, lookOut, aMk, aRange, aNext, aBytes, aApp, srcOf, aSlice, aBound, modeCut, apart, aFill, aval, aGd, ACall, AV.wk, AV.wk2, AV.wk1, AV.cells, AV.solid, AV.ro, AV.ro1, ← List.map_take, ← List.map_drop, reduceCtorEq, Option.isNone_some, Option.isSome_none, tf0, tf1, tf2, tf3, tf4, tf5, tf6, tf7, tf8, tf9, tf10, tf11, tf12, tf13, tf14, tf15, tf16, tf17, tf18, tf19, tf20, tf21, tf22, tf23, tf24, tf25, tf26, tf27, tf28, tf29])
   (try simp only [iteP_true, iteP_false])) : A := e ▸ h
theorem runf {F A B : Prop} (f : F) (h : B) (e : F → A = B := by
  intro f
  conv =>
   lhs
   (try simp only [AWs_eq, ARgs_eq, AOps_eq, iteP_true, iteP_false])
   (try simp -implicitDefEqProofs (maxSteps := 4000000) (disch := (first | omega | (simp only [List.length_append, List.length_cons, List.length_map, List.length_nil, List.length_take, List.length_drop]; omega))) only [↓zpre, zpost, cst1, ↓reduceIte, Nat.reduceEqDiff, Nat.reduceAdd, Nat.reduceLT, Nat.reduceLeDiff, Nat.reduceMul, Nat.reduceSub, Int.reduceToNat, Int.reduceAdd, Int.reduceSub, Int.reduceMul, Int.reduceNeg, Int.reduceLE, Int.reduceLT, Int.reduceEq, Int.reduceBEq, Int.reduceBNe, Nat.reduceBEq, Nat.reduceBNe, aBin, aEq, aEqF, aNilEq, aInt, aStr, aUn, aConv, aNil, aFldAddr, aFld, aIdxAddr, aIdx, aBui, aLoad, aStore, aLits, aLit, aMake, aMakeW, aMapSet, aLook, kfind, keq, kok, lookOut, aMk, aRange, aNext, aBytes, aApp, srcOf, aSlice, aBound, modeCut, apart, aFill, aval, aGd, ACall, AV.wk, AV.wk2, AV.wk1, AV.cells, AV.solid, AV.ro, AV.ro1, ← List.map_take, ← List.map_drop, reduceCtorEq, Option.isNone_some, Option.isSome_none, tf0, tf1, tf2, tf3, tf4, tf5, tf6, tf7, tf8, tf9, tf10, tf11, tf12, tf13, tf14, tf15, tf16, tf17, tf18, tf19, tf20, tf21, tf22, tf23, tf24, tf25, tf26, tf27, tf28, tf29, f])
   (try simp only [iteP_true, iteP_false])) : A := e f ▸ h
section
variable {P : Program} {pf rf : List FuncId} {e : Env} {f : FuncId} {d : Option Nat} {rest : List AO} {K : Env → Store → Prop}
theorem cp {args args' : List AV} {S : Store} {v : AV} (h : AC P f args' [] v []) (h' : ARg P pf rf rest (put e d v) S K)
  (ha : args.map AV.wk = args' := by rfl) (hk : args'.all (AV.ok 0) = true := by rfl) (hv : v.ok 0 = true := by rfl) : callP (PureC P f args S) (ARgk P pf rf d rest e K) := call_pure h ha hk hv h'
theorem o0_mono {v : AV} {n m : Nat} (h : v.o0 n = true) (hm : n ≤ m) : v.o0 m = true := by
 cases v with
 | sl mo es => cases mo <;> simp_all [AV.o0]; omega
 | ptr l o => simp only [AV.o0, decide_eq_true_eq] at *; omega
 | mp l => simp only [AV.o0, decide_eq_true_eq] at *; omega
 | ws l o k c => simp only [AV.o0, decide_eq_true_eq] at *; omega
 | wr l k o => simp only [AV.o0, decide_eq_true_eq] at *; omega
 | _ => simp_all [AV.o0]
theorem o1_mono {v : AV} {n m : Nat} (h : v.o1 n = true) (hm : n ≤ m) : v.o1 m = true := by
 cases v with
 | fn g a c =>
  simp only [AV.o1, Bool.and_eq_true, List.all_eq_true] at *
  exact ⟨fun x hx => o0_mono (h.1 x hx) hm, fun x hx => o0_mono (h.2 x hx) hm⟩
 | bo b => exact o0_mono (v := .bo b) h hm
 | it k i => exact o0_mono (v := .it k i) h hm
 | st l => exact o0_mono (v := .st l) h hm
 | ot v => exact o0_mono (v := .ot v) h hm
 | sl m' es => exact o0_mono (v := .sl m' es) h hm
 | agg cs => exact o0_mono (v := .agg cs) h hm
 | tup vs => exact o0_mono (v := .tup vs) h hm
 | ptr l o => exact o0_mono (v := .ptr l o) h hm
 | pst e o => exact o0_mono (v := .pst e o) h hm
 | mp l => exact o0_mono (v := .mp l) h hm
 | fm es => exact o0_mono (v := .fm es) h hm
 | ws l o k c => exact o0_mono (v := .ws l o k c) h hm
 | wr l k o => exact o0_mono (v := .wr l k o) h hm
 | junk => exact o0_mono (v := .junk) h hm
theorem o2_mono {v : AV} {n m : Nat} (h : v.o2 n = true) (hm : n ≤ m) : v.o2 m = true := by
 cases v with
 | agg cs =>
  simp only [AV.o2, List.all_eq_true] at *
  exact fun x hx => o1_mono (h x hx) hm
 | bo b => exact o1_mono (v := .bo b) h hm
 | it k i => exact o1_mono (v := .it k i) h hm
 | st l => exact o1_mono (v := .st l) h hm
 | ot v => exact o1_mono (v := .ot v) h hm
 | sl m' es => exact o1_mono (v := .sl m' es) h hm
 | tup vs => exact o1_mono (v := .tup vs) h hm
 | ptr l o => exact o1_mono (v := .ptr l o) h hm
 | pst e o => exact o1_mono (v := .pst e o) h hm
 | fn f a c => exact o1_mono (v := .fn f a c) h hm
 | mp l => exact o1_mono (v := .mp l) h hm
 | fm es => exact o1_mono (v := .fm es) h hm
 | ws l o k c => exact o1_mono (v := .ws l o k c) h hm
 | wr l k o => exact o1_mono (v := .wr l k o) h hm
 | junk => exact o1_mono (v := .junk) h hm
theorem ok_mono {v : AV} {n m : Nat} (h : v.ok n = true) (hm : n ≤ m) : v.ok m = true := by
 cases v with
 | tup cs =>
  simp only [AV.ok, List.all_eq_true] at *
  exact fun x hx => o2_mono (h x hx) hm
 | bo b => exact o2_mono (v := .bo b) h hm
 | it k i => exact o2_mono (v := .it k i) h hm
 | st l => exact o2_mono (v := .st l) h hm
 | ot v => exact o2_mono (v := .ot v) h hm
 | sl m' es => exact o2_mono (v := .sl m' es) h hm
 | agg cs => exact o2_mono (v := .agg cs) h hm
 | ptr l o => exact o2_mono (v := .ptr l o) h hm
 | pst e o => exact o2_mono (v := .pst e o) h hm
 | fn f a c => exact o2_mono (v := .fn f a c) h hm
 | mp l => exact o2_mono (v := .mp l) h hm
 | fm es => exact o2_mono (v := .fm es) h hm
 | ws l o k c => exact o2_mono (v := .ws l o k c) h hm
 | wr l k o => exact o2_mono (v := .wr l k o) h hm
 | junk => exact o2_mono (v := .junk) h hm
theorem ren_all {us : List AV} (h : us.all (AV.ok 0) = true) (ρ : Nat → Nat) : us.map (AV.ren ρ) = us := map_id_of h fun v hv => ren_id hv (fun i hi => absurd hi (Nat.not_lt_zero _))
theorem sren0 {o : SObj} (h : o.ok 0 = true) (ρ : Nat → Nat) : o.ren ρ = o := by
 cases o with
 | cells cs =>
  have : cs.map (AV.r1 ρ) = cs := map_id_of (p := AV.o1 0) h fun v hv => by
   have := ren_id (ρ := ρ) (v := .agg [v]) (n := 0) (by simpa [AV.ok, AV.o2] using hv) (fun i hi => absurd hi (Nat.not_lt_zero _))
   simpa [AV.ren, AV.r2] using this
  show SObj.cells _ = _
  rw [this]
 | row cs e sz =>
  have : cs.map (AV.r1 ρ) = cs := map_id_of (p := AV.o1 0) h fun v hv => by
   have := ren_id (ρ := ρ) (v := .agg [v]) (n := 0) (by simpa [AV.ok, AV.o2] using hv) (fun i hi => absurd hi (Nat.not_lt_zero _))
   simpa [AV.ren, AV.r2] using this
  show SObj.row _ _ _ = _
  rw [this]
 | map es =>
  have h := List.all_eq_true.1 h
  show SObj.map _ = SObj.map es
  congr 1
  rw [List.map_congr_left (g := id) fun p hp => ?_, List.map_id]
  have := h p hp
  simp only [Bool.and_eq_true] at this
  have h1 := ren_id (ρ := ρ) (v := .agg [p.1]) (n := 0) (by simpa [AV.ok, AV.o2] using this.1) (fun i hi => absurd hi (Nat.not_lt_zero _))
  have h2 := ren_id (ρ := ρ) (v := .tup [p.2]) (n := 0) (by simpa [AV.ok] using this.2) (fun i hi => absurd hi (Nat.not_lt_zero _))
  have h1 : p.1.r1 ρ = p.1 := by simpa [AV.ren, AV.r2] using h1
  have h2 : p.2.r2 ρ = p.2 := by
   have h2 : AV.tup [p.2.r2 ρ] = AV.tup [p.2] := h2
   simp only [AV.tup.injEq, List.cons.injEq, and_true] at h2
   exact h2
  rw [h1, h2]; rfl
 | _ => rfl
theorem sok1 {o : SObj} (h : o.ok 0 = true) : o.ok 1 = true := by
 cases o with
 | cells cs =>
  refine List.all_eq_true.2 fun v hv => ?_
  have := List.all_eq_true.1 h v hv
  have := ok_mono (v := .agg [v]) (n := 0) (m := 1) (by simpa [AV.ok, AV.o2] using this) (Nat.zero_le 1)
  simpa [AV.ok, AV.o2] using this
 | row cs e sz =>
  refine List.all_eq_true.2 fun v hv => ?_
  have := List.all_eq_true.1 h v hv
  have := ok_mono (v := .agg [v]) (n := 0) (m := 1) (by simpa [AV.ok, AV.o2] using this) (Nat.zero_le 1)
  simpa [AV.ok, AV.o2] using this
 | map es =>
  refine List.all_eq_true.2 fun p hp => ?_
  have := List.all_eq_true.1 h p hp
  simp only [Bool.and_eq_true] at *
  exact ⟨o1_mono this.1 (Nat.zero_le 1), o2_mono this.2 (Nat.zero_le 1)⟩
 | _ => rfl
theorem AC.here {args : List AV} {o o' : SObj} {v : AV} (h : AC P f (.ptr 0 0 :: args) [o] v [o']) (l : Nat) (T : Store) (ho : o.ok 0 = true) (ho' : o'.ok 0 = true) (ha : args.all (AV.ok 0) = true) (hv : v.ok 0 = true) (hT : T[l]? = some o) :
  AC P f (.ptr l 0 :: args) T v (T.set l o') := by
 have ha1 : ∀ u ∈ args, u.ok 1 = true := fun u hu => ok_mono (List.all_eq_true.1 ha u hu) (Nat.zero_le 1)
 have := AC.at1 h l (by rw [sren0 ho]; exact hT) (by simp only [List.all_cons, Bool.and_eq_true]; exact ⟨rfl, List.all_eq_true.2 ha1⟩) (ok_mono hv (Nat.zero_le 1)) (sok1 ho) (sok1 ho')
 rw [List.map_cons, ren_all ha, sren0 ho', ren_id hv (fun i hi => absurd hi (Nat.not_lt_zero _))] at this
 exact this
theorem c1 {args gargs : List AV} {T : Store} {o o' : SObj} {v : AV} (l : Nat) (h : AC P f (.ptr 0 0 :: args) [o] v [o']) (h' : ARg P pf rf rest (put e d v) (T.set l o') K)
  (ho : o.ok 0 = true := by rfl) (ho' : o'.ok 0 = true := by rfl) (ha : args.all (AV.ok 0) = true := by rfl) (hv : v.ok 0 = true := by rfl) (hT : T[l]? = some o := by rfl) (hg : gargs.map AV.wk = .ptr l 0 :: args := by rfl) :
  callP (AnyC P f gargs T) (ARgk P pf rf d rest e K) :=
 call_mk (show AC P f (gargs.map AV.wk) T v (T.set l o') by rw [hg]; exact h.here l T ho ho' ha hv hT) h'
end
theorem Weak.freeze (N0 : Nat) {e : Env} {S : Store} (d l : Nat) {es : List (AV × AV)} (hd : e d = .mp l) (hS : S[l]? = some (.map es)) (hok : (SObj.map es).ok 0 = true) : Weak N0 e S (upd e d (.fm es)) (S.set l .dead) := by
 rintro N w0 g0 a w hn ⟨h1, h2, g, h3, h4, h5⟩
 have hlS := (List.getElem?_eq_some_iff.1 hS).1
 obtain ⟨hb, hown, hG, me, clock, hheap, hsz, hlt, hnd, hrel⟩ := h3.obj l _ hS
 have hln : l < g.nid := by rw [h3.nid]; exact hlS
 let g' : Gh := { g with G := fun x => if x = g.pl l then 1 else g.G x }
 have hne : ∀ b, 0 < g.G b → b ≠ g.pl l := fun b h e => by rw [e, hG] at h; exact absurd h (Nat.lt_irrefl 0)
 have hle : Le w g w g' := ⟨fun _ _ _ _ h => h, fun b o v hb _ => by
  show o < (if b = g.pl l then 1 else g.G b)
  rw [if_neg (hne b (by omega))]; exact hb, Nat.le_refl _, fun _ _ => ⟨rfl, .inl ⟨rfl, rfl, rfl⟩⟩, fun b me c hg hm => ⟨by
  show 0 < (if b = g.pl l then 1 else g.G b)
  rw [if_neg (hne b hg)]; exact hg, hm⟩⟩
 have hren : RenOk w g w g'.noid id 0 := ⟨hle.noid, fun l hl => absurd hl (Nat.not_lt_zero _)⟩
 have hall := List.all_eq_true.1 (show (es.all fun p => p.1.o1 0 && p.2.o2 0) = true from hok)
 have hko : ∀ u ∈ es, u.1.o1 0 = true ∧ u.2.o2 0 = true := fun u hu => by simpa using hall u hu
 refine ⟨h1, h2, g', ⟨by rw [List.length_set]; exact h3.nid, fun k o hk => ?_, h3.disj, h3.lt, h3.tab.le hle⟩, fun t => ?_, h5.trans ⟨hle, rfl, rfl, rfl, Nat.le_refl _, fun _ _ _ => rfl, fun _ _ hk hb _ => ⟨hk, hb⟩, fun b _ hno => if_neg (fun e => hno l hln (by rw [e]; exact hown))⟩⟩
 ·by_cases hkl : k = l
  ·subst hkl; rw [List.getElem?_set_self hlS] at hk; cases hk; trivial
  ·rw [List.getElem?_set_ne (Ne.symm hkl)] at hk
   have hkn : k < g.nid := by rw [h3.nid]; exact (List.getElem?_eq_some_iff.1 hk).1
   refine (h3.obj k o hk).keep hle rfl rfl rfl rfl rfl (fun b hb' => ?_) (fun _ _ => rfl)
   exact if_neg (fun e => hkl (h3.disj k l b hkn hln hb' (by rw [e]; exact hown)))
 ·by_cases htd : t = d
  ·subst htd
   rw [upd_same]
   have ht := h4 t
   rw [hd] at ht
   generalize a.tmps.getD t undef = cv at ht
   cases ht
   refine .fm _ es (g.pl l) me clock (by show 0 < (if g.pl l = g.pl l then 1 else _); rw [if_pos rfl]; exact Nat.one_pos) hheap hsz (fun j u x hu hx => ?_) fun j u x hu hx => ?_
   ·have := (hrel j u x hu hx).1.r1 hren (hko u (List.mem_of_getElem? hu)).1
    rwa [r1_id (hko u (List.mem_of_getElem? hu)).1 (fun i hi => absurd hi (Nat.not_lt_zero _))] at this
   ·have := (hrel j u x hu hx).2.r2 hren (hko u (List.mem_of_getElem? hu)).2
    rwa [r2_id (hko u (List.mem_of_getElem? hu)).2 (fun i hi => absurd hi (Nat.not_lt_zero _))] at this
  ·rw [upd_ne e htd]; exact (h4 t).le hle
theorem er0 {P : Program} {rs : List ResultVar} {v : AV} {e : Env} {S : Store} {vs : List AV} (h : aRes P rs e S = some vs := by rfl) (hk : v.ok 0 = true := by rfl) (hv : resV vs = v := by rfl) : finQ P rs 0 v [] .ret e S := ends_ret0 h hk hv
theorem er1 {P : Program} {rs : List ResultVar} {v : AV} {e : Env} {S : Store} {o : SObj} {vs : List AV} (h : aRes P rs e S = some vs := by rfl) (ho : o.ok 1 = true := by rfl) (hS : S[0]? = some (o.ren (idx [0])) := by rfl) (hk : v.ok 1 = true := by rfl) (hv : resV vs = v.ren (idx [0]) := by rfl) : finQ P rs 1 v [o] .ret e S :=
 ends_ret (κ := [0]) h (subOk_one 0 ho hS) rfl hk hv
theorem en1 {P : Program} {rs : List ResultVar} {v : AV} {e : Env} {S : Store} {o : SObj} {vs : List AV} (h : aRes P rs e S = some vs := by rfl) (ho : o.ok 1 = true := by rfl) (hS : S[0]? = some (o.ren (idx [0])) := by rfl) (hk : v.ok 1 = true := by rfl) (hv : resV vs = v.ren (idx [0]) := by rfl) : finQ P rs 1 v [o] .norm e S :=
 ⟨e, S, vs, [0], Weak.refl 1 e S, h, subOk_one 0 ho hS, rfl, hk, .inl hv⟩
theorem er0w {P : Program} {rs : List ResultVar} {v : AV} {e : Env} {S : Store} {vs : List AV} (h : aRes P rs e S = some vs := by rfl) (hk : v.ok 0 = true := by rfl) (hv : (resV vs).wk = v := by rfl) : finQ P rs 0 v [] .ret e S := ends_ret0w h hk hv
end Go.Proofs.YtaphpbiaoofmkaaGreatDoor.Pe
end
