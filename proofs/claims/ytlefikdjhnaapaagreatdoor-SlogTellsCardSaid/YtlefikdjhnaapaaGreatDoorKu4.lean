/- Several texts of this claim in one. -/
import Derived.Test.YtlefikdjhnaapaaGreatDoorKu3
import Derived.Test.YtlefikdjhnaapaaGreatDoorProg
import Derived.KernelRfl
import Derived.Lib.DecodeN
import Derived.Test.YtlefikdjhnaapaaGreatDoorChecked
import Derived.WalkKit
import Derived.ProofKit
import Derived.WalkSpells
import Derived.Lib.Hide
import Derived.WalkLawsBesides
import Derived.BigRegion
import Derived.RegionTactic
import Derived.BigQuiet
import Derived.Deep.RegionLaw
import Derived.Deep.RegionHeld3
set_option linter.unusedSectionVars false
set_option linter.unusedVariables false
set_option linter.unusedSimpArgs false
section
namespace Go.Proofs.YtlefikdjhnaapaaGreatDoor.Pe
open Go
set_option maxRecDepth 100000
theorem tf0 :
 kdOf Tryz.prog 0 = .other ∧
 szOf Tryz.prog 0 = some (1, false) ∧
 kdOf Tryz.prog 1 = .fun ∧
 szOf Tryz.prog 1 = some (1, false) ∧
 zerOf Tryz.prog 1 = some [.ot .nilFunc] ∧
 kdOf Tryz.prog 2 = (.int .i64) ∧
 szOf Tryz.prog 2 = some (1, false) ∧
 zerOf Tryz.prog 2 = some [.it .i64 0] ∧
 kdOf Tryz.prog 3 = (.int .i64) ∧
 szOf Tryz.prog 3 = some (1, false) ∧
 zerOf Tryz.prog 3 = some [.it .i64 0] ∧
 kdOf Tryz.prog 4 = .bool ∧
 szOf Tryz.prog 4 = some (1, false) ∧
 zerOf Tryz.prog 4 = some [.bo false] ∧
 kdOf Tryz.prog 5 = (.int .u8) ∧
 szOf Tryz.prog 5 = some (1, false) ∧
 zerOf Tryz.prog 5 = some [.it .u8 0] ∧
 kdOf Tryz.prog 6 = (.int .u8) ∧
 szOf Tryz.prog 6 = some (1, false) ∧
 zerOf Tryz.prog 6 = some [.it .u8 0] ∧
 kdOf Tryz.prog 7 = .other ∧
 szOf Tryz.prog 7 = some (4, true) ∧
 zerOf Tryz.prog 7 = some [.it .i64 0, .it .i64 0, .bo false, .it .u8 0] ∧
 strOf Tryz.prog 7 = some ([(0, 1), (1, 1), (2, 1), (3, 1)], [.it .i64 0, .it .i64 0, .bo false, .it .u8 0]) ∧
 fldOf Tryz.prog 7 0 = some (0, 1, false) ∧
 fldOf Tryz.prog 7 1 = some (1, 1, false) ∧
 fldOf Tryz.prog 7 2 = some (2, 1, false) ∧
 fldOf Tryz.prog 7 3 = some (3, 1, false) ∧
 eqsOf Tryz.prog 7 = some [(2, 0, 1, false), (3, 1, 1, false), (4, 2, 1, false), (6, 3, 1, false)] ∧
 Program.eqGuardType Tryz.prog (Program.depth Tryz.prog) 7 = false ∧
 kdOf Tryz.prog 8 = .other ∧
 szOf Tryz.prog 8 = some (4, true) ∧
 zerOf Tryz.prog 8 = some [.it .i64 0, .it .i64 0, .bo false, .it .u8 0] ∧
 strOf Tryz.prog 8 = some ([(0, 1), (1, 1), (2, 1), (3, 1)], [.it .i64 0, .it .i64 0, .bo false, .it .u8 0]) ∧
 fldOf Tryz.prog 8 0 = some (0, 1, false) ∧
 fldOf Tryz.prog 8 1 = some (1, 1, false) ∧
 fldOf Tryz.prog 8 2 = some (2, 1, false) ∧
 fldOf Tryz.prog 8 3 = some (3, 1, false) ∧
 eqsOf Tryz.prog 8 = some [(2, 0, 1, false), (3, 1, 1, false), (4, 2, 1, false), (6, 3, 1, false)] ∧
 Program.eqGuardType Tryz.prog (Program.depth Tryz.prog) 8 = false := by and_intros <;> kernel_rfl
theorem tf1 :
 kdOf Tryz.prog 9 = .str ∧
 szOf Tryz.prog 9 = some (1, false) ∧
 zerOf Tryz.prog 9 = some [(.st [])] ∧
 kdOf Tryz.prog 10 = .str ∧
 szOf Tryz.prog 10 = some (1, false) ∧
 zerOf Tryz.prog 10 = some [(.st [])] ∧
 kdOf Tryz.prog 11 = .str ∧
 szOf Tryz.prog 11 = some (1, false) ∧
 zerOf Tryz.prog 11 = some [(.st [])] ∧
 kdOf Tryz.prog 12 = (.int .u64) ∧
 szOf Tryz.prog 12 = some (1, false) ∧
 zerOf Tryz.prog 12 = some [.it .u64 0] ∧
 kdOf Tryz.prog 13 = .other ∧
 szOf Tryz.prog 13 = some (2, true) ∧
 zerOf Tryz.prog 13 = some [(.st []), .it .u64 0] ∧
 strOf Tryz.prog 13 = some ([(0, 1), (1, 1)], [(.st []), .it .u64 0]) ∧
 fldOf Tryz.prog 13 0 = some (0, 1, false) ∧
 fldOf Tryz.prog 13 1 = some (1, 1, false) ∧
 kdOf Tryz.prog 14 = .other ∧
 szOf Tryz.prog 14 = some (2, true) ∧
 zerOf Tryz.prog 14 = some [(.st []), .it .u64 0] ∧
 strOf Tryz.prog 14 = some ([(0, 1), (1, 1)], [(.st []), .it .u64 0]) ∧
 fldOf Tryz.prog 14 0 = some (0, 1, false) ∧
 fldOf Tryz.prog 14 1 = some (1, 1, false) ∧
 kdOf Tryz.prog 15 = .ptr ∧
 szOf Tryz.prog 15 = some (1, false) ∧
 zerOf Tryz.prog 15 = some [(.ot (.pointer none))] ∧
 kdOf Tryz.prog 16 = .ptr ∧
 szOf Tryz.prog 16 = some (1, false) ∧
 zerOf Tryz.prog 16 = some [(.ot (.pointer none))] ∧
 kdOf Tryz.prog 17 = .ptr ∧
 szOf Tryz.prog 17 = some (1, false) ∧
 zerOf Tryz.prog 17 = some [(.ot (.pointer none))] ∧
 kdOf Tryz.prog 18 = .other ∧
 szOf Tryz.prog 18 = some (1, true) ∧
 zerOf Tryz.prog 18 = some [(.ot (.pointer none))] ∧
 strOf Tryz.prog 18 = some ([(0, 1)], [(.ot (.pointer none))]) ∧
 fldOf Tryz.prog 18 0 = some (0, 1, false) ∧
 kdOf Tryz.prog 19 = .other ∧
 szOf Tryz.prog 19 = some (1, true) := by and_intros <;> kernel_rfl
theorem tf2 :
 zerOf Tryz.prog 19 = some [(.ot (.pointer none))] ∧
 strOf Tryz.prog 19 = some ([(0, 1)], [(.ot (.pointer none))]) ∧
 fldOf Tryz.prog 19 0 = some (0, 1, false) ∧
 kdOf Tryz.prog 20 = .other ∧
 szOf Tryz.prog 20 = some (1, false) ∧
 zerOf Tryz.prog 20 = some [.ot .nilIface] ∧
 kdOf Tryz.prog 21 = (.int .i32) ∧
 szOf Tryz.prog 21 = some (1, false) ∧
 zerOf Tryz.prog 21 = some [.it .i32 0] ∧
 kdOf Tryz.prog 22 = .other ∧
 szOf Tryz.prog 22 = some (1, false) ∧
 sleOf Tryz.prog 22 = some (60, 49, true) ∧
 appOf Tryz.prog 22 = some (60, 49, 568) ∧
 zerOf Tryz.prog 22 = some [(.sl Mode.full [])] ∧
 kdOf Tryz.prog 23 = .other ∧
 szOf Tryz.prog 23 = some (1, false) ∧
 sleOf Tryz.prog 23 = some (44, 4, true) ∧
 appOf Tryz.prog 23 = some (44, 4, 48) ∧
 zerOf Tryz.prog 23 = some [(.sl Mode.full [])] ∧
 kdOf Tryz.prog 24 = .other ∧
 szOf Tryz.prog 24 = some (4, true) ∧
 zerOf Tryz.prog 24 = some [(.st []), .it .i64 0, (.sl Mode.full []), (.sl Mode.full [])] ∧
 strOf Tryz.prog 24 = some ([(0, 1), (1, 1), (2, 1), (3, 1)], [(.st []), .it .i64 0, (.sl Mode.full []), (.sl Mode.full [])]) ∧
 fldOf Tryz.prog 24 0 = some (0, 1, false) ∧
 fldOf Tryz.prog 24 1 = some (1, 1, false) ∧
 fldOf Tryz.prog 24 2 = some (2, 1, false) ∧
 fldOf Tryz.prog 24 3 = some (3, 1, false) ∧
 eqsOf Tryz.prog 24 = some [(9, 0, 1, false), (3, 1, 1, false), (22, 2, 1, false), (23, 3, 1, false)] ∧
 Program.eqGuardType Tryz.prog (Program.depth Tryz.prog) 24 = false ∧
 kdOf Tryz.prog 25 = .other ∧
 szOf Tryz.prog 25 = some (4, true) ∧
 zerOf Tryz.prog 25 = some [(.st []), .it .i64 0, (.sl Mode.full []), (.sl Mode.full [])] ∧
 strOf Tryz.prog 25 = some ([(0, 1), (1, 1), (2, 1), (3, 1)], [(.st []), .it .i64 0, (.sl Mode.full []), (.sl Mode.full [])]) ∧
 fldOf Tryz.prog 25 0 = some (0, 1, false) ∧
 fldOf Tryz.prog 25 1 = some (1, 1, false) ∧
 fldOf Tryz.prog 25 2 = some (2, 1, false) ∧
 fldOf Tryz.prog 25 3 = some (3, 1, false) ∧
 eqsOf Tryz.prog 25 = some [(9, 0, 1, false), (3, 1, 1, false), (22, 2, 1, false), (23, 3, 1, false)] ∧
 Program.eqGuardType Tryz.prog (Program.depth Tryz.prog) 25 = false ∧
 kdOf Tryz.prog 26 = .fun := by and_intros <;> kernel_rfl
theorem tf3 :
 szOf Tryz.prog 26 = some (1, false) ∧
 zerOf Tryz.prog 26 = some [.ot .nilFunc] ∧
 kdOf Tryz.prog 27 = .fun ∧
 szOf Tryz.prog 27 = some (1, false) ∧
 zerOf Tryz.prog 27 = some [.ot .nilFunc] ∧
 kdOf Tryz.prog 28 = .other ∧
 szOf Tryz.prog 28 = some (2, true) ∧
 zerOf Tryz.prog 28 = some [.it .i64 0, .it .i64 0] ∧
 strOf Tryz.prog 28 = some ([(0, 1), (1, 1)], [.it .i64 0, .it .i64 0]) ∧
 fldOf Tryz.prog 28 0 = some (0, 1, false) ∧
 fldOf Tryz.prog 28 1 = some (1, 1, false) ∧
 eqsOf Tryz.prog 28 = some [(3, 0, 1, false), (3, 1, 1, false)] ∧
 Program.eqGuardType Tryz.prog (Program.depth Tryz.prog) 28 = false ∧
 kdOf Tryz.prog 29 = .other ∧
 szOf Tryz.prog 29 = some (2, true) ∧
 zerOf Tryz.prog 29 = some [.it .i64 0, .it .i64 0] ∧
 strOf Tryz.prog 29 = some ([(0, 1), (1, 1)], [.it .i64 0, .it .i64 0]) ∧
 fldOf Tryz.prog 29 0 = some (0, 1, false) ∧
 fldOf Tryz.prog 29 1 = some (1, 1, false) ∧
 eqsOf Tryz.prog 29 = some [(3, 0, 1, false), (3, 1, 1, false)] ∧
 Program.eqGuardType Tryz.prog (Program.depth Tryz.prog) 29 = false ∧
 kdOf Tryz.prog 30 = .fun ∧
 szOf Tryz.prog 30 = some (1, false) ∧
 zerOf Tryz.prog 30 = some [.ot .nilFunc] ∧
 kdOf Tryz.prog 31 = .ptr ∧
 szOf Tryz.prog 31 = some (1, false) ∧
 zerOf Tryz.prog 31 = some [(.ot (.pointer none))] ∧
 kdOf Tryz.prog 32 = .fun ∧
 szOf Tryz.prog 32 = some (1, false) ∧
 zerOf Tryz.prog 32 = some [.ot .nilFunc] ∧
 kdOf Tryz.prog 33 = .ptr ∧
 szOf Tryz.prog 33 = some (1, false) ∧
 zerOf Tryz.prog 33 = some [(.ot (.pointer none))] ∧
 kdOf Tryz.prog 34 = .fun ∧
 szOf Tryz.prog 34 = some (1, false) ∧
 zerOf Tryz.prog 34 = some [.ot .nilFunc] ∧
 kdOf Tryz.prog 35 = .ptr ∧
 szOf Tryz.prog 35 = some (1, false) ∧
 zerOf Tryz.prog 35 = some [(.ot (.pointer none))] ∧
 kdOf Tryz.prog 36 = (.int .i64) := by and_intros <;> kernel_rfl
theorem tf4 :
 szOf Tryz.prog 36 = some (1, false) ∧
 zerOf Tryz.prog 36 = some [.it .i64 0] ∧
 kdOf Tryz.prog 37 = .other ∧
 szOf Tryz.prog 37 = some (1, false) ∧
 kdOf Tryz.prog 38 = .fun ∧
 szOf Tryz.prog 38 = some (1, false) ∧
 zerOf Tryz.prog 38 = some [.ot .nilFunc] ∧
 kdOf Tryz.prog 39 = .ptr ∧
 szOf Tryz.prog 39 = some (1, false) ∧
 zerOf Tryz.prog 39 = some [(.ot (.pointer none))] ∧
 kdOf Tryz.prog 40 = .other ∧
 szOf Tryz.prog 40 = some (1, false) ∧
 kdOf Tryz.prog 41 = .fun ∧
 szOf Tryz.prog 41 = some (1, false) ∧
 zerOf Tryz.prog 41 = some [.ot .nilFunc] ∧
 kdOf Tryz.prog 42 = .other ∧
 szOf Tryz.prog 42 = some (1, false) ∧
 sleOf Tryz.prog 42 = some (3, 1, false) ∧
 appOf Tryz.prog 42 = some (3, 1, 8) ∧
 zerOf Tryz.prog 42 = some [(.sl Mode.full [])] ∧
 kdOf Tryz.prog 43 = .other ∧
 szOf Tryz.prog 43 = some (4, true) ∧
 zerOf Tryz.prog 43 = some [.it .i64 0, .it .i64 0, .it .i64 0, (.sl Mode.full [])] ∧
 strOf Tryz.prog 43 = some ([(0, 1), (1, 1), (2, 1), (3, 1)], [.it .i64 0, .it .i64 0, .it .i64 0, (.sl Mode.full [])]) ∧
 fldOf Tryz.prog 43 0 = some (0, 1, false) ∧
 fldOf Tryz.prog 43 1 = some (1, 1, false) ∧
 fldOf Tryz.prog 43 2 = some (2, 1, false) ∧
 fldOf Tryz.prog 43 3 = some (3, 1, false) ∧
 eqsOf Tryz.prog 43 = some [(3, 0, 1, false), (3, 1, 1, false), (3, 2, 1, false), (42, 3, 1, false)] ∧
 Program.eqGuardType Tryz.prog (Program.depth Tryz.prog) 43 = false ∧
 kdOf Tryz.prog 44 = .other ∧
 szOf Tryz.prog 44 = some (4, true) ∧
 zerOf Tryz.prog 44 = some [.it .i64 0, .it .i64 0, .it .i64 0, (.sl Mode.full [])] ∧
 strOf Tryz.prog 44 = some ([(0, 1), (1, 1), (2, 1), (3, 1)], [.it .i64 0, .it .i64 0, .it .i64 0, (.sl Mode.full [])]) ∧
 fldOf Tryz.prog 44 0 = some (0, 1, false) ∧
 fldOf Tryz.prog 44 1 = some (1, 1, false) ∧
 fldOf Tryz.prog 44 2 = some (2, 1, false) ∧
 fldOf Tryz.prog 44 3 = some (3, 1, false) ∧
 eqsOf Tryz.prog 44 = some [(3, 0, 1, false), (3, 1, 1, false), (3, 2, 1, false), (42, 3, 1, false)] ∧
 Program.eqGuardType Tryz.prog (Program.depth Tryz.prog) 44 = false := by and_intros <;> kernel_rfl
theorem tf5 :
 kdOf Tryz.prog 45 = .other ∧
 szOf Tryz.prog 45 = some (1, false) ∧
 sleOf Tryz.prog 45 = some (9, 1, false) ∧
 appOf Tryz.prog 45 = some (9, 1, 16) ∧
 zerOf Tryz.prog 45 = some [(.sl Mode.full [])] ∧
 kdOf Tryz.prog 46 = .other ∧
 szOf Tryz.prog 46 = some (3, true) ∧
 zerOf Tryz.prog 46 = some [(.st []), (.st []), (.st [])] ∧
 strOf Tryz.prog 46 = some ([(0, 1), (1, 1), (2, 1)], [(.st []), (.st []), (.st [])]) ∧
 fldOf Tryz.prog 46 0 = some (0, 1, false) ∧
 fldOf Tryz.prog 46 1 = some (1, 1, false) ∧
 fldOf Tryz.prog 46 2 = some (2, 1, false) ∧
 eqsOf Tryz.prog 46 = some [(9, 0, 1, false), (9, 1, 1, false), (9, 2, 1, false)] ∧
 Program.eqGuardType Tryz.prog (Program.depth Tryz.prog) 46 = false ∧
 kdOf Tryz.prog 47 = .other ∧
 szOf Tryz.prog 47 = some (3, true) ∧
 zerOf Tryz.prog 47 = some [(.st []), (.st []), (.st [])] ∧
 strOf Tryz.prog 47 = some ([(0, 1), (1, 1), (2, 1)], [(.st []), (.st []), (.st [])]) ∧
 fldOf Tryz.prog 47 0 = some (0, 1, false) ∧
 fldOf Tryz.prog 47 1 = some (1, 1, false) ∧
 fldOf Tryz.prog 47 2 = some (2, 1, false) ∧
 eqsOf Tryz.prog 47 = some [(9, 0, 1, false), (9, 1, 1, false), (9, 2, 1, false)] ∧
 Program.eqGuardType Tryz.prog (Program.depth Tryz.prog) 47 = false ∧
 kdOf Tryz.prog 48 = .other ∧
 szOf Tryz.prog 48 = some (1, false) ∧
 sleOf Tryz.prog 48 = some (187, 5, true) ∧
 appOf Tryz.prog 48 = some (187, 5, 64) ∧
 zerOf Tryz.prog 48 = some [(.sl Mode.full [])] ∧
 kdOf Tryz.prog 49 = .other ∧
 szOf Tryz.prog 49 = some (2, true) ∧
 zerOf Tryz.prog 49 = some [.it .i64 0, .it .i64 0] ∧
 strOf Tryz.prog 49 = some ([(0, 1), (1, 1)], [.it .i64 0, .it .i64 0]) ∧
 fldOf Tryz.prog 49 0 = some (0, 1, false) ∧
 fldOf Tryz.prog 49 1 = some (1, 1, false) ∧
 eqsOf Tryz.prog 49 = some [(3, 0, 1, false), (3, 1, 1, false)] ∧
 Program.eqGuardType Tryz.prog (Program.depth Tryz.prog) 49 = false ∧
 kdOf Tryz.prog 50 = .other ∧
 szOf Tryz.prog 50 = some (2, true) ∧
 zerOf Tryz.prog 50 = some [.it .i64 0, .it .i64 0] ∧
 strOf Tryz.prog 50 = some ([(0, 1), (1, 1)], [.it .i64 0, .it .i64 0]) := by and_intros <;> kernel_rfl
theorem tf6 :
 fldOf Tryz.prog 50 0 = some (0, 1, false) ∧
 fldOf Tryz.prog 50 1 = some (1, 1, false) ∧
 eqsOf Tryz.prog 50 = some [(3, 0, 1, false), (3, 1, 1, false)] ∧
 Program.eqGuardType Tryz.prog (Program.depth Tryz.prog) 50 = false ∧
 kdOf Tryz.prog 51 = .other ∧
 szOf Tryz.prog 51 = some (20, true) ∧
 zerOf Tryz.prog 51 = some [(.st []), .it .i64 0, (.st []), .it .i64 0, .it .i64 0, (.st []), (.st []), .it .i64 0, (.st []), (.sl Mode.full []), (.st []), (.st []), (.st []), (.st []), .it .i64 0, (.sl Mode.full []), .it .i64 0, .it .i64 0, .it .i64 0, .it .i64 0] ∧
 strOf Tryz.prog 51 = some ([(0, 1), (1, 1), (2, 1), (3, 1), (4, 1), (5, 1), (6, 1), (7, 1), (8, 1), (9, 1), (10, 1), (11, 3), (14, 1), (15, 1), (16, 1), (17, 1), (18, 2)], [(.st []), .it .i64 0, (.st []), .it .i64 0, .it .i64 0, (.st []), (.st []), .it .i64 0, (.st []), (.sl Mode.full []), (.st []), (.st []), (.st []), (.st []), .it .i64 0, (.sl Mode.full []), .it .i64 0, .it .i64 0, .it .i64 0, .it .i64 0]) ∧
 fldOf Tryz.prog 51 0 = some (0, 1, false) ∧
 fldOf Tryz.prog 51 1 = some (1, 1, false) ∧
 fldOf Tryz.prog 51 2 = some (2, 1, false) ∧
 fldOf Tryz.prog 51 3 = some (3, 1, false) ∧
 fldOf Tryz.prog 51 4 = some (4, 1, false) ∧
 fldOf Tryz.prog 51 5 = some (5, 1, false) ∧
 fldOf Tryz.prog 51 6 = some (6, 1, false) ∧
 fldOf Tryz.prog 51 7 = some (7, 1, false) ∧
 fldOf Tryz.prog 51 8 = some (8, 1, false) ∧
 fldOf Tryz.prog 51 9 = some (9, 1, false) ∧
 fldOf Tryz.prog 51 10 = some (10, 1, false) ∧
 fldOf Tryz.prog 51 11 = some (11, 3, true) ∧
 fldOf Tryz.prog 51 12 = some (14, 1, false) ∧
 fldOf Tryz.prog 51 13 = some (15, 1, false) ∧
 fldOf Tryz.prog 51 14 = some (16, 1, false) ∧
 fldOf Tryz.prog 51 15 = some (17, 1, false) ∧
 fldOf Tryz.prog 51 16 = some (18, 2, true) ∧
 eqsOf Tryz.prog 51 = some [(9, 0, 1, false), (3, 1, 1, false), (9, 2, 1, false), (3, 3, 1, false), (3, 4, 1, false), (9, 5, 1, false), (9, 6, 1, false), (3, 7, 1, false), (9, 8, 1, false), (45, 9, 1, false), (9, 10, 1, false), (47, 11, 3, true), (3, 14, 1, false), (48, 15, 1, false), (3, 16, 1, false), (3, 17, 1, false), (50, 18, 2, true)] ∧
 Program.eqGuardType Tryz.prog (Program.depth Tryz.prog) 51 = false ∧
 kdOf Tryz.prog 52 = .other ∧
 szOf Tryz.prog 52 = some (20, true) ∧
 zerOf Tryz.prog 52 = some [(.st []), .it .i64 0, (.st []), .it .i64 0, .it .i64 0, (.st []), (.st []), .it .i64 0, (.st []), (.sl Mode.full []), (.st []), (.st []), (.st []), (.st []), .it .i64 0, (.sl Mode.full []), .it .i64 0, .it .i64 0, .it .i64 0, .it .i64 0] ∧
 strOf Tryz.prog 52 = some ([(0, 1), (1, 1), (2, 1), (3, 1), (4, 1), (5, 1), (6, 1), (7, 1), (8, 1), (9, 1), (10, 1), (11, 3), (14, 1), (15, 1), (16, 1), (17, 1), (18, 2)], [(.st []), .it .i64 0, (.st []), .it .i64 0, .it .i64 0, (.st []), (.st []), .it .i64 0, (.st []), (.sl Mode.full []), (.st []), (.st []), (.st []), (.st []), .it .i64 0, (.sl Mode.full []), .it .i64 0, .it .i64 0, .it .i64 0, .it .i64 0]) ∧
 fldOf Tryz.prog 52 0 = some (0, 1, false) ∧
 fldOf Tryz.prog 52 1 = some (1, 1, false) ∧
 fldOf Tryz.prog 52 2 = some (2, 1, false) ∧
 fldOf Tryz.prog 52 3 = some (3, 1, false) ∧
 fldOf Tryz.prog 52 4 = some (4, 1, false) ∧
 fldOf Tryz.prog 52 5 = some (5, 1, false) ∧
 fldOf Tryz.prog 52 6 = some (6, 1, false) ∧
 fldOf Tryz.prog 52 7 = some (7, 1, false) ∧
 fldOf Tryz.prog 52 8 = some (8, 1, false) := by and_intros <;> kernel_rfl
theorem tf7 :
 fldOf Tryz.prog 52 9 = some (9, 1, false) ∧
 fldOf Tryz.prog 52 10 = some (10, 1, false) ∧
 fldOf Tryz.prog 52 11 = some (11, 3, true) ∧
 fldOf Tryz.prog 52 12 = some (14, 1, false) ∧
 fldOf Tryz.prog 52 13 = some (15, 1, false) ∧
 fldOf Tryz.prog 52 14 = some (16, 1, false) ∧
 fldOf Tryz.prog 52 15 = some (17, 1, false) ∧
 fldOf Tryz.prog 52 16 = some (18, 2, true) ∧
 eqsOf Tryz.prog 52 = some [(9, 0, 1, false), (3, 1, 1, false), (9, 2, 1, false), (3, 3, 1, false), (3, 4, 1, false), (9, 5, 1, false), (9, 6, 1, false), (3, 7, 1, false), (9, 8, 1, false), (45, 9, 1, false), (9, 10, 1, false), (47, 11, 3, true), (3, 14, 1, false), (48, 15, 1, false), (3, 16, 1, false), (3, 17, 1, false), (50, 18, 2, true)] ∧
 Program.eqGuardType Tryz.prog (Program.depth Tryz.prog) 52 = false ∧
 kdOf Tryz.prog 53 = .other ∧
 szOf Tryz.prog 53 = some (9, true) ∧
 zerOf Tryz.prog 53 = some [(.st []), .it .i64 0, (.st []), .it .i64 0, .it .i64 0, .it .i64 0, .it .i64 0, .it .i64 0, .it .i64 0] ∧
 strOf Tryz.prog 53 = some ([(0, 1), (1, 1), (2, 1), (3, 1), (4, 1), (5, 1), (6, 1), (7, 2)], [(.st []), .it .i64 0, (.st []), .it .i64 0, .it .i64 0, .it .i64 0, .it .i64 0, .it .i64 0, .it .i64 0]) ∧
 fldOf Tryz.prog 53 0 = some (0, 1, false) ∧
 fldOf Tryz.prog 53 1 = some (1, 1, false) ∧
 fldOf Tryz.prog 53 2 = some (2, 1, false) ∧
 fldOf Tryz.prog 53 3 = some (3, 1, false) ∧
 fldOf Tryz.prog 53 4 = some (4, 1, false) ∧
 fldOf Tryz.prog 53 5 = some (5, 1, false) ∧
 fldOf Tryz.prog 53 6 = some (6, 1, false) ∧
 fldOf Tryz.prog 53 7 = some (7, 2, true) ∧
 eqsOf Tryz.prog 53 = some [(9, 0, 1, false), (3, 1, 1, false), (9, 2, 1, false), (3, 3, 1, false), (3, 4, 1, false), (3, 5, 1, false), (3, 6, 1, false), (50, 7, 2, true)] ∧
 Program.eqGuardType Tryz.prog (Program.depth Tryz.prog) 53 = false ∧
 kdOf Tryz.prog 54 = .other ∧
 szOf Tryz.prog 54 = some (9, true) ∧
 zerOf Tryz.prog 54 = some [(.st []), .it .i64 0, (.st []), .it .i64 0, .it .i64 0, .it .i64 0, .it .i64 0, .it .i64 0, .it .i64 0] ∧
 strOf Tryz.prog 54 = some ([(0, 1), (1, 1), (2, 1), (3, 1), (4, 1), (5, 1), (6, 1), (7, 2)], [(.st []), .it .i64 0, (.st []), .it .i64 0, .it .i64 0, .it .i64 0, .it .i64 0, .it .i64 0, .it .i64 0]) ∧
 fldOf Tryz.prog 54 0 = some (0, 1, false) ∧
 fldOf Tryz.prog 54 1 = some (1, 1, false) ∧
 fldOf Tryz.prog 54 2 = some (2, 1, false) ∧
 fldOf Tryz.prog 54 3 = some (3, 1, false) ∧
 fldOf Tryz.prog 54 4 = some (4, 1, false) ∧
 fldOf Tryz.prog 54 5 = some (5, 1, false) ∧
 fldOf Tryz.prog 54 6 = some (6, 1, false) ∧
 fldOf Tryz.prog 54 7 = some (7, 2, true) ∧
 eqsOf Tryz.prog 54 = some [(9, 0, 1, false), (3, 1, 1, false), (9, 2, 1, false), (3, 3, 1, false), (3, 4, 1, false), (3, 5, 1, false), (3, 6, 1, false), (50, 7, 2, true)] ∧
 Program.eqGuardType Tryz.prog (Program.depth Tryz.prog) 54 = false ∧
 kdOf Tryz.prog 55 = .other ∧
 szOf Tryz.prog 55 = some (7, true) := by and_intros <;> kernel_rfl
theorem tf8 :
 zerOf Tryz.prog 55 = some [.it .i64 0, (.st []), .it .i64 0, (.st []), .it .i64 0, .it .i64 0, .it .i64 0] ∧
 strOf Tryz.prog 55 = some ([(0, 1), (1, 1), (2, 1), (3, 1), (4, 1), (5, 2)], [.it .i64 0, (.st []), .it .i64 0, (.st []), .it .i64 0, .it .i64 0, .it .i64 0]) ∧
 fldOf Tryz.prog 55 0 = some (0, 1, false) ∧
 fldOf Tryz.prog 55 1 = some (1, 1, false) ∧
 fldOf Tryz.prog 55 2 = some (2, 1, false) ∧
 fldOf Tryz.prog 55 3 = some (3, 1, false) ∧
 fldOf Tryz.prog 55 4 = some (4, 1, false) ∧
 fldOf Tryz.prog 55 5 = some (5, 2, true) ∧
 eqsOf Tryz.prog 55 = some [(3, 0, 1, false), (9, 1, 1, false), (3, 2, 1, false), (9, 3, 1, false), (3, 4, 1, false), (50, 5, 2, true)] ∧
 Program.eqGuardType Tryz.prog (Program.depth Tryz.prog) 55 = false ∧
 kdOf Tryz.prog 56 = .other ∧
 szOf Tryz.prog 56 = some (7, true) ∧
 zerOf Tryz.prog 56 = some [.it .i64 0, (.st []), .it .i64 0, (.st []), .it .i64 0, .it .i64 0, .it .i64 0] ∧
 strOf Tryz.prog 56 = some ([(0, 1), (1, 1), (2, 1), (3, 1), (4, 1), (5, 2)], [.it .i64 0, (.st []), .it .i64 0, (.st []), .it .i64 0, .it .i64 0, .it .i64 0]) ∧
 fldOf Tryz.prog 56 0 = some (0, 1, false) ∧
 fldOf Tryz.prog 56 1 = some (1, 1, false) ∧
 fldOf Tryz.prog 56 2 = some (2, 1, false) ∧
 fldOf Tryz.prog 56 3 = some (3, 1, false) ∧
 fldOf Tryz.prog 56 4 = some (4, 1, false) ∧
 fldOf Tryz.prog 56 5 = some (5, 2, true) ∧
 eqsOf Tryz.prog 56 = some [(3, 0, 1, false), (9, 1, 1, false), (3, 2, 1, false), (9, 3, 1, false), (3, 4, 1, false), (50, 5, 2, true)] ∧
 Program.eqGuardType Tryz.prog (Program.depth Tryz.prog) 56 = false ∧
 kdOf Tryz.prog 57 = .other ∧
 szOf Tryz.prog 57 = some (12, true) ∧
 zerOf Tryz.prog 57 = some [.it .i64 0, .it .i64 0, .it .i64 0, (.st []), (.st []), (.st []), (.sl Mode.full []), .it .i64 0, .it .i64 0, .it .i64 0, .it .i64 0, .it .i64 0] ∧
 strOf Tryz.prog 57 = some ([(0, 1), (1, 1), (2, 1), (3, 1), (4, 1), (5, 1), (6, 1), (7, 1), (8, 1), (9, 1), (10, 2)], [.it .i64 0, .it .i64 0, .it .i64 0, (.st []), (.st []), (.st []), (.sl Mode.full []), .it .i64 0, .it .i64 0, .it .i64 0, .it .i64 0, .it .i64 0]) ∧
 fldOf Tryz.prog 57 0 = some (0, 1, false) ∧
 fldOf Tryz.prog 57 1 = some (1, 1, false) ∧
 fldOf Tryz.prog 57 2 = some (2, 1, false) ∧
 fldOf Tryz.prog 57 3 = some (3, 1, false) ∧
 fldOf Tryz.prog 57 4 = some (4, 1, false) ∧
 fldOf Tryz.prog 57 5 = some (5, 1, false) ∧
 fldOf Tryz.prog 57 6 = some (6, 1, false) ∧
 fldOf Tryz.prog 57 7 = some (7, 1, false) ∧
 fldOf Tryz.prog 57 8 = some (8, 1, false) ∧
 fldOf Tryz.prog 57 9 = some (9, 1, false) ∧
 fldOf Tryz.prog 57 10 = some (10, 2, true) ∧
 eqsOf Tryz.prog 57 = some [(3, 0, 1, false), (3, 1, 1, false), (3, 2, 1, false), (9, 3, 1, false), (9, 4, 1, false), (9, 5, 1, false), (45, 6, 1, false), (3, 7, 1, false), (3, 8, 1, false), (3, 9, 1, false), (50, 10, 2, true)] ∧
 Program.eqGuardType Tryz.prog (Program.depth Tryz.prog) 57 = false ∧
 kdOf Tryz.prog 58 = .other := by and_intros <;> kernel_rfl
theorem tf9 :
 szOf Tryz.prog 58 = some (12, true) ∧
 zerOf Tryz.prog 58 = some [.it .i64 0, .it .i64 0, .it .i64 0, (.st []), (.st []), (.st []), (.sl Mode.full []), .it .i64 0, .it .i64 0, .it .i64 0, .it .i64 0, .it .i64 0] ∧
 strOf Tryz.prog 58 = some ([(0, 1), (1, 1), (2, 1), (3, 1), (4, 1), (5, 1), (6, 1), (7, 1), (8, 1), (9, 1), (10, 2)], [.it .i64 0, .it .i64 0, .it .i64 0, (.st []), (.st []), (.st []), (.sl Mode.full []), .it .i64 0, .it .i64 0, .it .i64 0, .it .i64 0, .it .i64 0]) ∧
 fldOf Tryz.prog 58 0 = some (0, 1, false) ∧
 fldOf Tryz.prog 58 1 = some (1, 1, false) ∧
 fldOf Tryz.prog 58 2 = some (2, 1, false) ∧
 fldOf Tryz.prog 58 3 = some (3, 1, false) ∧
 fldOf Tryz.prog 58 4 = some (4, 1, false) ∧
 fldOf Tryz.prog 58 5 = some (5, 1, false) ∧
 fldOf Tryz.prog 58 6 = some (6, 1, false) ∧
 fldOf Tryz.prog 58 7 = some (7, 1, false) ∧
 fldOf Tryz.prog 58 8 = some (8, 1, false) ∧
 fldOf Tryz.prog 58 9 = some (9, 1, false) ∧
 fldOf Tryz.prog 58 10 = some (10, 2, true) ∧
 eqsOf Tryz.prog 58 = some [(3, 0, 1, false), (3, 1, 1, false), (3, 2, 1, false), (9, 3, 1, false), (9, 4, 1, false), (9, 5, 1, false), (45, 6, 1, false), (3, 7, 1, false), (3, 8, 1, false), (3, 9, 1, false), (50, 10, 2, true)] ∧
 Program.eqGuardType Tryz.prog (Program.depth Tryz.prog) 58 = false ∧
 kdOf Tryz.prog 59 = .other ∧
 szOf Tryz.prog 59 = some (49, true) ∧
 zerOf Tryz.prog 59 = some [.it .i64 0, (.st []), .it .i64 0, (.st []), .it .i64 0, .it .i64 0, (.st []), (.st []), .it .i64 0, (.st []), (.sl Mode.full []), (.st []), (.st []), (.st []), (.st []), .it .i64 0, (.sl Mode.full []), .it .i64 0, .it .i64 0, .it .i64 0, .it .i64 0, (.st []), .it .i64 0, (.st []), .it .i64 0, .it .i64 0, .it .i64 0, .it .i64 0, .it .i64 0, .it .i64 0, .it .i64 0, (.st []), .it .i64 0, (.st []), .it .i64 0, .it .i64 0, .it .i64 0, .it .i64 0, .it .i64 0, .it .i64 0, (.st []), (.st []), (.st []), (.sl Mode.full []), .it .i64 0, .it .i64 0, .it .i64 0, .it .i64 0, .it .i64 0] ∧
 strOf Tryz.prog 59 = some ([(0, 1), (1, 20), (21, 9), (30, 7), (37, 12)], [.it .i64 0, (.st []), .it .i64 0, (.st []), .it .i64 0, .it .i64 0, (.st []), (.st []), .it .i64 0, (.st []), (.sl Mode.full []), (.st []), (.st []), (.st []), (.st []), .it .i64 0, (.sl Mode.full []), .it .i64 0, .it .i64 0, .it .i64 0, .it .i64 0, (.st []), .it .i64 0, (.st []), .it .i64 0, .it .i64 0, .it .i64 0, .it .i64 0, .it .i64 0, .it .i64 0, .it .i64 0, (.st []), .it .i64 0, (.st []), .it .i64 0, .it .i64 0, .it .i64 0, .it .i64 0, .it .i64 0, .it .i64 0, (.st []), (.st []), (.st []), (.sl Mode.full []), .it .i64 0, .it .i64 0, .it .i64 0, .it .i64 0, .it .i64 0]) ∧
 fldOf Tryz.prog 59 0 = some (0, 1, false) ∧
 fldOf Tryz.prog 59 1 = some (1, 20, true) ∧
 fldOf Tryz.prog 59 2 = some (21, 9, true) ∧
 fldOf Tryz.prog 59 3 = some (30, 7, true) ∧
 fldOf Tryz.prog 59 4 = some (37, 12, true) ∧
 eqsOf Tryz.prog 59 = some [(3, 0, 1, false), (52, 1, 20, true), (54, 21, 9, true), (56, 30, 7, true), (58, 37, 12, true)] ∧
 Program.eqGuardType Tryz.prog (Program.depth Tryz.prog) 59 = false ∧
 kdOf Tryz.prog 60 = .other ∧
 szOf Tryz.prog 60 = some (49, true) ∧
 zerOf Tryz.prog 60 = some [.it .i64 0, (.st []), .it .i64 0, (.st []), .it .i64 0, .it .i64 0, (.st []), (.st []), .it .i64 0, (.st []), (.sl Mode.full []), (.st []), (.st []), (.st []), (.st []), .it .i64 0, (.sl Mode.full []), .it .i64 0, .it .i64 0, .it .i64 0, .it .i64 0, (.st []), .it .i64 0, (.st []), .it .i64 0, .it .i64 0, .it .i64 0, .it .i64 0, .it .i64 0, .it .i64 0, .it .i64 0, (.st []), .it .i64 0, (.st []), .it .i64 0, .it .i64 0, .it .i64 0, .it .i64 0, .it .i64 0, .it .i64 0, (.st []), (.st []), (.st []), (.sl Mode.full []), .it .i64 0, .it .i64 0, .it .i64 0, .it .i64 0, .it .i64 0] ∧
 strOf Tryz.prog 60 = some ([(0, 1), (1, 20), (21, 9), (30, 7), (37, 12)], [.it .i64 0, (.st []), .it .i64 0, (.st []), .it .i64 0, .it .i64 0, (.st []), (.st []), .it .i64 0, (.st []), (.sl Mode.full []), (.st []), (.st []), (.st []), (.st []), .it .i64 0, (.sl Mode.full []), .it .i64 0, .it .i64 0, .it .i64 0, .it .i64 0, (.st []), .it .i64 0, (.st []), .it .i64 0, .it .i64 0, .it .i64 0, .it .i64 0, .it .i64 0, .it .i64 0, .it .i64 0, (.st []), .it .i64 0, (.st []), .it .i64 0, .it .i64 0, .it .i64 0, .it .i64 0, .it .i64 0, .it .i64 0, (.st []), (.st []), (.st []), (.sl Mode.full []), .it .i64 0, .it .i64 0, .it .i64 0, .it .i64 0, .it .i64 0]) ∧
 fldOf Tryz.prog 60 0 = some (0, 1, false) ∧
 fldOf Tryz.prog 60 1 = some (1, 20, true) ∧
 fldOf Tryz.prog 60 2 = some (21, 9, true) ∧
 fldOf Tryz.prog 60 3 = some (30, 7, true) ∧
 fldOf Tryz.prog 60 4 = some (37, 12, true) ∧
 eqsOf Tryz.prog 60 = some [(3, 0, 1, false), (52, 1, 20, true), (54, 21, 9, true), (56, 30, 7, true), (58, 37, 12, true)] ∧
 Program.eqGuardType Tryz.prog (Program.depth Tryz.prog) 60 = false ∧
 kdOf Tryz.prog 61 = .fun ∧
 szOf Tryz.prog 61 = some (1, false) := by and_intros <;> kernel_rfl
theorem tf10 :
 zerOf Tryz.prog 61 = some [.ot .nilFunc] ∧
 kdOf Tryz.prog 62 = .other ∧
 szOf Tryz.prog 62 = some (1, false) ∧
 kdOf Tryz.prog 63 = .fun ∧
 szOf Tryz.prog 63 = some (1, false) ∧
 zerOf Tryz.prog 63 = some [.ot .nilFunc] ∧
 kdOf Tryz.prog 64 = .fun ∧
 szOf Tryz.prog 64 = some (1, false) ∧
 zerOf Tryz.prog 64 = some [.ot .nilFunc] ∧
 kdOf Tryz.prog 65 = .fun ∧
 szOf Tryz.prog 65 = some (1, false) ∧
 zerOf Tryz.prog 65 = some [.ot .nilFunc] ∧
 kdOf Tryz.prog 66 = .fun ∧
 szOf Tryz.prog 66 = some (1, false) ∧
 zerOf Tryz.prog 66 = some [.ot .nilFunc] ∧
 kdOf Tryz.prog 67 = .fun ∧
 szOf Tryz.prog 67 = some (1, false) ∧
 zerOf Tryz.prog 67 = some [.ot .nilFunc] ∧
 kdOf Tryz.prog 68 = .other ∧
 szOf Tryz.prog 68 = some (1, false) ∧
 sleOf Tryz.prog 68 = some (84, 50, true) ∧
 appOf Tryz.prog 68 = some (84, 50, 576) ∧
 zerOf Tryz.prog 68 = some [(.sl Mode.full [])] ∧
 kdOf Tryz.prog 69 = .fun ∧
 szOf Tryz.prog 69 = some (1, false) ∧
 zerOf Tryz.prog 69 = some [.ot .nilFunc] ∧
 kdOf Tryz.prog 70 = .fun ∧
 szOf Tryz.prog 70 = some (1, false) ∧
 zerOf Tryz.prog 70 = some [.ot .nilFunc] ∧
 kdOf Tryz.prog 71 = .ptr ∧
 szOf Tryz.prog 71 = some (1, false) ∧
 zerOf Tryz.prog 71 = some [(.ot (.pointer none))] ∧
 kdOf Tryz.prog 72 = .other ∧
 szOf Tryz.prog 72 = some (6, true) ∧
 zerOf Tryz.prog 72 = some [(.ot (.pointer none)), .it .i64 0, .it .i64 0, .it .i64 0, (.sl Mode.full []), .it .i64 0] ∧
 strOf Tryz.prog 72 = some ([(0, 1), (1, 1), (2, 2), (4, 1), (5, 1)], [(.ot (.pointer none)), .it .i64 0, .it .i64 0, .it .i64 0, (.sl Mode.full []), .it .i64 0]) ∧
 fldOf Tryz.prog 72 0 = some (0, 1, false) ∧
 fldOf Tryz.prog 72 1 = some (1, 1, false) ∧
 fldOf Tryz.prog 72 2 = some (2, 2, true) ∧
 fldOf Tryz.prog 72 3 = some (4, 1, false) := by and_intros <;> kernel_rfl
theorem tf11 :
 fldOf Tryz.prog 72 4 = some (5, 1, false) ∧
 eqsOf Tryz.prog 72 = some [(71, 0, 1, false), (3, 1, 1, false), (29, 2, 2, true), (68, 4, 1, false), (3, 5, 1, false)] ∧
 Program.eqGuardType Tryz.prog (Program.depth Tryz.prog) 72 = false ∧
 kdOf Tryz.prog 73 = .other ∧
 szOf Tryz.prog 73 = some (6, true) ∧
 zerOf Tryz.prog 73 = some [(.ot (.pointer none)), .it .i64 0, .it .i64 0, .it .i64 0, (.sl Mode.full []), .it .i64 0] ∧
 strOf Tryz.prog 73 = some ([(0, 1), (1, 1), (2, 2), (4, 1), (5, 1)], [(.ot (.pointer none)), .it .i64 0, .it .i64 0, .it .i64 0, (.sl Mode.full []), .it .i64 0]) ∧
 fldOf Tryz.prog 73 0 = some (0, 1, false) ∧
 fldOf Tryz.prog 73 1 = some (1, 1, false) ∧
 fldOf Tryz.prog 73 2 = some (2, 2, true) ∧
 fldOf Tryz.prog 73 3 = some (4, 1, false) ∧
 fldOf Tryz.prog 73 4 = some (5, 1, false) ∧
 eqsOf Tryz.prog 73 = some [(71, 0, 1, false), (3, 1, 1, false), (29, 2, 2, true), (68, 4, 1, false), (3, 5, 1, false)] ∧
 Program.eqGuardType Tryz.prog (Program.depth Tryz.prog) 73 = false ∧
 kdOf Tryz.prog 74 = .other ∧
 szOf Tryz.prog 74 = some (6, true) ∧
 zerOf Tryz.prog 74 = some [.it .i64 0, .it .i64 0, (.st []), .it .i64 0, .it .i64 0, .it .i64 0] ∧
 strOf Tryz.prog 74 = some ([(0, 1), (1, 1), (2, 1), (3, 1), (4, 2)], [.it .i64 0, .it .i64 0, (.st []), .it .i64 0, .it .i64 0, .it .i64 0]) ∧
 fldOf Tryz.prog 74 0 = some (0, 1, false) ∧
 fldOf Tryz.prog 74 1 = some (1, 1, false) ∧
 fldOf Tryz.prog 74 2 = some (2, 1, false) ∧
 fldOf Tryz.prog 74 3 = some (3, 1, false) ∧
 fldOf Tryz.prog 74 4 = some (4, 2, true) ∧
 eqsOf Tryz.prog 74 = some [(3, 0, 1, false), (3, 1, 1, false), (9, 2, 1, false), (3, 3, 1, false), (50, 4, 2, true)] ∧
 Program.eqGuardType Tryz.prog (Program.depth Tryz.prog) 74 = false ∧
 kdOf Tryz.prog 75 = .other ∧
 szOf Tryz.prog 75 = some (6, true) ∧
 zerOf Tryz.prog 75 = some [.it .i64 0, .it .i64 0, (.st []), .it .i64 0, .it .i64 0, .it .i64 0] ∧
 strOf Tryz.prog 75 = some ([(0, 1), (1, 1), (2, 1), (3, 1), (4, 2)], [.it .i64 0, .it .i64 0, (.st []), .it .i64 0, .it .i64 0, .it .i64 0]) ∧
 fldOf Tryz.prog 75 0 = some (0, 1, false) ∧
 fldOf Tryz.prog 75 1 = some (1, 1, false) ∧
 fldOf Tryz.prog 75 2 = some (2, 1, false) ∧
 fldOf Tryz.prog 75 3 = some (3, 1, false) ∧
 fldOf Tryz.prog 75 4 = some (4, 2, true) ∧
 eqsOf Tryz.prog 75 = some [(3, 0, 1, false), (3, 1, 1, false), (9, 2, 1, false), (3, 3, 1, false), (50, 4, 2, true)] ∧
 Program.eqGuardType Tryz.prog (Program.depth Tryz.prog) 75 = false ∧
 kdOf Tryz.prog 76 = .fun ∧
 szOf Tryz.prog 76 = some (1, false) ∧
 zerOf Tryz.prog 76 = some [.ot .nilFunc] ∧
 kdOf Tryz.prog 77 = .fun := by and_intros <;> kernel_rfl
theorem tf12 :
 szOf Tryz.prog 77 = some (1, false) ∧
 zerOf Tryz.prog 77 = some [.ot .nilFunc] ∧
 kdOf Tryz.prog 78 = .other ∧
 szOf Tryz.prog 78 = some (1, false) ∧
 sleOf Tryz.prog 78 = some (75, 6, true) ∧
 appOf Tryz.prog 78 = some (75, 6, 56) ∧
 zerOf Tryz.prog 78 = some [(.sl Mode.full [])] ∧
 kdOf Tryz.prog 79 = .other ∧
 szOf Tryz.prog 79 = some (1, false) ∧
 sleOf Tryz.prog 79 = some (68, 1, false) ∧
 appOf Tryz.prog 79 = some (68, 1, 24) ∧
 zerOf Tryz.prog 79 = some [(.sl Mode.full [])] ∧
 kdOf Tryz.prog 80 = .other ∧
 szOf Tryz.prog 80 = some (1, false) ∧
 kdOf Tryz.prog 81 = .fun ∧
 szOf Tryz.prog 81 = some (1, false) ∧
 zerOf Tryz.prog 81 = some [.ot .nilFunc] ∧
 kdOf Tryz.prog 82 = .fun ∧
 szOf Tryz.prog 82 = some (1, false) ∧
 zerOf Tryz.prog 82 = some [.ot .nilFunc] ∧
 kdOf Tryz.prog 83 = .other ∧
 szOf Tryz.prog 83 = some (50, true) ∧
 zerOf Tryz.prog 83 = some [.it .i64 0, .it .i64 0, (.st []), .it .i64 0, (.st []), .it .i64 0, .it .i64 0, (.st []), (.st []), .it .i64 0, (.st []), (.sl Mode.full []), (.st []), (.st []), (.st []), (.st []), .it .i64 0, (.sl Mode.full []), .it .i64 0, .it .i64 0, .it .i64 0, .it .i64 0, (.st []), .it .i64 0, (.st []), .it .i64 0, .it .i64 0, .it .i64 0, .it .i64 0, .it .i64 0, .it .i64 0, .it .i64 0, (.st []), .it .i64 0, (.st []), .it .i64 0, .it .i64 0, .it .i64 0, .it .i64 0, .it .i64 0, .it .i64 0, (.st []), (.st []), (.st []), (.sl Mode.full []), .it .i64 0, .it .i64 0, .it .i64 0, .it .i64 0, .it .i64 0] ∧
 strOf Tryz.prog 83 = some ([(0, 1), (1, 49)], [.it .i64 0, .it .i64 0, (.st []), .it .i64 0, (.st []), .it .i64 0, .it .i64 0, (.st []), (.st []), .it .i64 0, (.st []), (.sl Mode.full []), (.st []), (.st []), (.st []), (.st []), .it .i64 0, (.sl Mode.full []), .it .i64 0, .it .i64 0, .it .i64 0, .it .i64 0, (.st []), .it .i64 0, (.st []), .it .i64 0, .it .i64 0, .it .i64 0, .it .i64 0, .it .i64 0, .it .i64 0, .it .i64 0, (.st []), .it .i64 0, (.st []), .it .i64 0, .it .i64 0, .it .i64 0, .it .i64 0, .it .i64 0, .it .i64 0, (.st []), (.st []), (.st []), (.sl Mode.full []), .it .i64 0, .it .i64 0, .it .i64 0, .it .i64 0, .it .i64 0]) ∧
 fldOf Tryz.prog 83 0 = some (0, 1, false) ∧
 fldOf Tryz.prog 83 1 = some (1, 49, true) ∧
 eqsOf Tryz.prog 83 = some [(3, 0, 1, false), (60, 1, 49, true)] ∧
 Program.eqGuardType Tryz.prog (Program.depth Tryz.prog) 83 = false ∧
 kdOf Tryz.prog 84 = .other ∧
 szOf Tryz.prog 84 = some (50, true) ∧
 zerOf Tryz.prog 84 = some [.it .i64 0, .it .i64 0, (.st []), .it .i64 0, (.st []), .it .i64 0, .it .i64 0, (.st []), (.st []), .it .i64 0, (.st []), (.sl Mode.full []), (.st []), (.st []), (.st []), (.st []), .it .i64 0, (.sl Mode.full []), .it .i64 0, .it .i64 0, .it .i64 0, .it .i64 0, (.st []), .it .i64 0, (.st []), .it .i64 0, .it .i64 0, .it .i64 0, .it .i64 0, .it .i64 0, .it .i64 0, .it .i64 0, (.st []), .it .i64 0, (.st []), .it .i64 0, .it .i64 0, .it .i64 0, .it .i64 0, .it .i64 0, .it .i64 0, (.st []), (.st []), (.st []), (.sl Mode.full []), .it .i64 0, .it .i64 0, .it .i64 0, .it .i64 0, .it .i64 0] ∧
 strOf Tryz.prog 84 = some ([(0, 1), (1, 49)], [.it .i64 0, .it .i64 0, (.st []), .it .i64 0, (.st []), .it .i64 0, .it .i64 0, (.st []), (.st []), .it .i64 0, (.st []), (.sl Mode.full []), (.st []), (.st []), (.st []), (.st []), .it .i64 0, (.sl Mode.full []), .it .i64 0, .it .i64 0, .it .i64 0, .it .i64 0, (.st []), .it .i64 0, (.st []), .it .i64 0, .it .i64 0, .it .i64 0, .it .i64 0, .it .i64 0, .it .i64 0, .it .i64 0, (.st []), .it .i64 0, (.st []), .it .i64 0, .it .i64 0, .it .i64 0, .it .i64 0, .it .i64 0, .it .i64 0, (.st []), (.st []), (.st []), (.sl Mode.full []), .it .i64 0, .it .i64 0, .it .i64 0, .it .i64 0, .it .i64 0]) ∧
 fldOf Tryz.prog 84 0 = some (0, 1, false) ∧
 fldOf Tryz.prog 84 1 = some (1, 49, true) ∧
 eqsOf Tryz.prog 84 = some [(3, 0, 1, false), (60, 1, 49, true)] ∧
 Program.eqGuardType Tryz.prog (Program.depth Tryz.prog) 84 = false ∧
 kdOf Tryz.prog 85 = .fun ∧
 szOf Tryz.prog 85 = some (1, false) ∧
 zerOf Tryz.prog 85 = some [.ot .nilFunc] ∧
 kdOf Tryz.prog 86 = .fun := by and_intros <;> kernel_rfl
theorem tf13 :
 szOf Tryz.prog 86 = some (1, false) ∧
 zerOf Tryz.prog 86 = some [.ot .nilFunc] ∧
 kdOf Tryz.prog 87 = .fun ∧
 szOf Tryz.prog 87 = some (1, false) ∧
 zerOf Tryz.prog 87 = some [.ot .nilFunc] ∧
 kdOf Tryz.prog 88 = .fun ∧
 szOf Tryz.prog 88 = some (1, false) ∧
 zerOf Tryz.prog 88 = some [.ot .nilFunc] ∧
 kdOf Tryz.prog 89 = .other ∧
 szOf Tryz.prog 89 = some (18, true) ∧
 zerOf Tryz.prog 89 = some [.it .i64 0, .it .i64 0, (.st []), .it .i64 0, .it .i64 0, .it .i64 0, .it .i64 0, .it .i64 0, (.st []), .it .i64 0, .it .i64 0, .it .i64 0, .it .i64 0, .it .i64 0, (.sl Mode.full []), (.st []), .it .i64 0, .it .i64 0] ∧
 strOf Tryz.prog 89 = some ([(0, 6), (6, 6), (12, 2), (14, 1), (15, 1), (16, 1), (17, 1)], [.it .i64 0, .it .i64 0, (.st []), .it .i64 0, .it .i64 0, .it .i64 0, .it .i64 0, .it .i64 0, (.st []), .it .i64 0, .it .i64 0, .it .i64 0, .it .i64 0, .it .i64 0, (.sl Mode.full []), (.st []), .it .i64 0, .it .i64 0]) ∧
 fldOf Tryz.prog 89 0 = some (0, 6, true) ∧
 fldOf Tryz.prog 89 1 = some (6, 6, true) ∧
 fldOf Tryz.prog 89 2 = some (12, 2, true) ∧
 fldOf Tryz.prog 89 3 = some (14, 1, false) ∧
 fldOf Tryz.prog 89 4 = some (15, 1, false) ∧
 fldOf Tryz.prog 89 5 = some (16, 1, false) ∧
 fldOf Tryz.prog 89 6 = some (17, 1, false) ∧
 eqsOf Tryz.prog 89 = some [(75, 0, 6, true), (75, 6, 6, true), (29, 12, 2, true), (68, 14, 1, false), (9, 15, 1, false), (3, 16, 1, false), (3, 17, 1, false)] ∧
 Program.eqGuardType Tryz.prog (Program.depth Tryz.prog) 89 = false ∧
 kdOf Tryz.prog 90 = .other ∧
 szOf Tryz.prog 90 = some (18, true) ∧
 zerOf Tryz.prog 90 = some [.it .i64 0, .it .i64 0, (.st []), .it .i64 0, .it .i64 0, .it .i64 0, .it .i64 0, .it .i64 0, (.st []), .it .i64 0, .it .i64 0, .it .i64 0, .it .i64 0, .it .i64 0, (.sl Mode.full []), (.st []), .it .i64 0, .it .i64 0] ∧
 strOf Tryz.prog 90 = some ([(0, 6), (6, 6), (12, 2), (14, 1), (15, 1), (16, 1), (17, 1)], [.it .i64 0, .it .i64 0, (.st []), .it .i64 0, .it .i64 0, .it .i64 0, .it .i64 0, .it .i64 0, (.st []), .it .i64 0, .it .i64 0, .it .i64 0, .it .i64 0, .it .i64 0, (.sl Mode.full []), (.st []), .it .i64 0, .it .i64 0]) ∧
 fldOf Tryz.prog 90 0 = some (0, 6, true) ∧
 fldOf Tryz.prog 90 1 = some (6, 6, true) ∧
 fldOf Tryz.prog 90 2 = some (12, 2, true) ∧
 fldOf Tryz.prog 90 3 = some (14, 1, false) ∧
 fldOf Tryz.prog 90 4 = some (15, 1, false) ∧
 fldOf Tryz.prog 90 5 = some (16, 1, false) ∧
 fldOf Tryz.prog 90 6 = some (17, 1, false) ∧
 eqsOf Tryz.prog 90 = some [(75, 0, 6, true), (75, 6, 6, true), (29, 12, 2, true), (68, 14, 1, false), (9, 15, 1, false), (3, 16, 1, false), (3, 17, 1, false)] ∧
 Program.eqGuardType Tryz.prog (Program.depth Tryz.prog) 90 = false ∧
 kdOf Tryz.prog 91 = .fun ∧
 szOf Tryz.prog 91 = some (1, false) ∧
 zerOf Tryz.prog 91 = some [.ot .nilFunc] ∧
 kdOf Tryz.prog 92 = .other ∧
 szOf Tryz.prog 92 = some (1, false) ∧
 kdOf Tryz.prog 93 = .fun := by and_intros <;> kernel_rfl
theorem tf14 :
 szOf Tryz.prog 93 = some (1, false) ∧
 zerOf Tryz.prog 93 = some [.ot .nilFunc] ∧
 kdOf Tryz.prog 94 = .fun ∧
 szOf Tryz.prog 94 = some (1, false) ∧
 zerOf Tryz.prog 94 = some [.ot .nilFunc] ∧
 kdOf Tryz.prog 95 = .fun ∧
 szOf Tryz.prog 95 = some (1, false) ∧
 zerOf Tryz.prog 95 = some [.ot .nilFunc] ∧
 kdOf Tryz.prog 96 = .fun ∧
 szOf Tryz.prog 96 = some (1, false) ∧
 zerOf Tryz.prog 96 = some [.ot .nilFunc] ∧
 kdOf Tryz.prog 97 = .fun ∧
 szOf Tryz.prog 97 = some (1, false) ∧
 zerOf Tryz.prog 97 = some [.ot .nilFunc] ∧
 kdOf Tryz.prog 98 = .fun ∧
 szOf Tryz.prog 98 = some (1, false) ∧
 zerOf Tryz.prog 98 = some [.ot .nilFunc] ∧
 kdOf Tryz.prog 99 = .fun ∧
 szOf Tryz.prog 99 = some (1, false) ∧
 zerOf Tryz.prog 99 = some [.ot .nilFunc] ∧
 kdOf Tryz.prog 100 = .fun ∧
 szOf Tryz.prog 100 = some (1, false) ∧
 zerOf Tryz.prog 100 = some [.ot .nilFunc] ∧
 kdOf Tryz.prog 101 = .fun ∧
 szOf Tryz.prog 101 = some (1, false) ∧
 zerOf Tryz.prog 101 = some [.ot .nilFunc] ∧
 kdOf Tryz.prog 102 = .fun ∧
 szOf Tryz.prog 102 = some (1, false) ∧
 zerOf Tryz.prog 102 = some [.ot .nilFunc] ∧
 kdOf Tryz.prog 103 = .fun ∧
 szOf Tryz.prog 103 = some (1, false) ∧
 zerOf Tryz.prog 103 = some [.ot .nilFunc] ∧
 kdOf Tryz.prog 104 = .fun ∧
 szOf Tryz.prog 104 = some (1, false) ∧
 zerOf Tryz.prog 104 = some [.ot .nilFunc] ∧
 kdOf Tryz.prog 105 = .other ∧
 szOf Tryz.prog 105 = some (1, false) ∧
 kdOf Tryz.prog 106 = .fun ∧
 szOf Tryz.prog 106 = some (1, false) ∧
 zerOf Tryz.prog 106 = some [.ot .nilFunc] := by and_intros <;> kernel_rfl
theorem tf15 :
 kdOf Tryz.prog 107 = .fun ∧
 szOf Tryz.prog 107 = some (1, false) ∧
 zerOf Tryz.prog 107 = some [.ot .nilFunc] ∧
 kdOf Tryz.prog 108 = .fun ∧
 szOf Tryz.prog 108 = some (1, false) ∧
 zerOf Tryz.prog 108 = some [.ot .nilFunc] ∧
 kdOf Tryz.prog 109 = .fun ∧
 szOf Tryz.prog 109 = some (1, false) ∧
 zerOf Tryz.prog 109 = some [.ot .nilFunc] ∧
 kdOf Tryz.prog 110 = .fun ∧
 szOf Tryz.prog 110 = some (1, false) ∧
 zerOf Tryz.prog 110 = some [.ot .nilFunc] ∧
 kdOf Tryz.prog 111 = .fun ∧
 szOf Tryz.prog 111 = some (1, false) ∧
 zerOf Tryz.prog 111 = some [.ot .nilFunc] ∧
 kdOf Tryz.prog 112 = .fun ∧
 szOf Tryz.prog 112 = some (1, false) ∧
 zerOf Tryz.prog 112 = some [.ot .nilFunc] ∧
 kdOf Tryz.prog 113 = .fun ∧
 szOf Tryz.prog 113 = some (1, false) ∧
 zerOf Tryz.prog 113 = some [.ot .nilFunc] ∧
 kdOf Tryz.prog 114 = .bytes ∧
 szOf Tryz.prog 114 = some (1, false) ∧
 sleOf Tryz.prog 114 = some (5, 1, false) ∧
 appOf Tryz.prog 114 = some (5, 1, 1) ∧
 bytOf Tryz.prog 114 = some 5 ∧
 zerOf Tryz.prog 114 = some [(.sl Mode.full [])] ∧
 kdOf Tryz.prog 115 = .other ∧
 szOf Tryz.prog 115 = some (2, true) ∧
 zerOf Tryz.prog 115 = some [(.sl Mode.full []), .it .i64 0] ∧
 strOf Tryz.prog 115 = some ([(0, 1), (1, 1)], [(.sl Mode.full []), .it .i64 0]) ∧
 fldOf Tryz.prog 115 0 = some (0, 1, false) ∧
 fldOf Tryz.prog 115 1 = some (1, 1, false) ∧
 eqsOf Tryz.prog 115 = some [(114, 0, 1, false), (3, 1, 1, false)] ∧
 Program.eqGuardType Tryz.prog (Program.depth Tryz.prog) 115 = false ∧
 kdOf Tryz.prog 116 = .other ∧
 szOf Tryz.prog 116 = some (2, true) ∧
 zerOf Tryz.prog 116 = some [(.sl Mode.full []), .it .i64 0] ∧
 strOf Tryz.prog 116 = some ([(0, 1), (1, 1)], [(.sl Mode.full []), .it .i64 0]) ∧
 fldOf Tryz.prog 116 0 = some (0, 1, false) := by and_intros <;> kernel_rfl
theorem tf16 :
 fldOf Tryz.prog 116 1 = some (1, 1, false) ∧
 eqsOf Tryz.prog 116 = some [(114, 0, 1, false), (3, 1, 1, false)] ∧
 Program.eqGuardType Tryz.prog (Program.depth Tryz.prog) 116 = false ∧
 kdOf Tryz.prog 117 = .other ∧
 szOf Tryz.prog 117 = some (16, true) ∧
 areOf Tryz.prog 117 = some (8, 2, true) ∧
 zerOf Tryz.prog 117 = some [(.sl Mode.full []), .it .i64 0, (.sl Mode.full []), .it .i64 0, (.sl Mode.full []), .it .i64 0, (.sl Mode.full []), .it .i64 0, (.sl Mode.full []), .it .i64 0, (.sl Mode.full []), .it .i64 0, (.sl Mode.full []), .it .i64 0, (.sl Mode.full []), .it .i64 0] ∧
 strOf Tryz.prog 117 = some ([(0, 2), (2, 2), (4, 2), (6, 2), (8, 2), (10, 2), (12, 2), (14, 2)], [(.sl Mode.full []), .it .i64 0, (.sl Mode.full []), .it .i64 0, (.sl Mode.full []), .it .i64 0, (.sl Mode.full []), .it .i64 0, (.sl Mode.full []), .it .i64 0, (.sl Mode.full []), .it .i64 0, (.sl Mode.full []), .it .i64 0, (.sl Mode.full []), .it .i64 0]) ∧
 kdOf Tryz.prog 118 = .other ∧
 szOf Tryz.prog 118 = some (20, true) ∧
 zerOf Tryz.prog 118 = some [(.sl Mode.full []), .it .i64 0, (.sl Mode.full []), .it .i64 0, (.sl Mode.full []), .it .i64 0, (.sl Mode.full []), .it .i64 0, (.sl Mode.full []), .it .i64 0, (.sl Mode.full []), .it .i64 0, (.sl Mode.full []), .it .i64 0, (.sl Mode.full []), .it .i64 0, .bo false, .it .i64 0, .it .i64 0, (.sl Mode.full [])] ∧
 strOf Tryz.prog 118 = some ([(0, 16), (16, 1), (17, 1), (18, 1), (19, 1)], [(.sl Mode.full []), .it .i64 0, (.sl Mode.full []), .it .i64 0, (.sl Mode.full []), .it .i64 0, (.sl Mode.full []), .it .i64 0, (.sl Mode.full []), .it .i64 0, (.sl Mode.full []), .it .i64 0, (.sl Mode.full []), .it .i64 0, (.sl Mode.full []), .it .i64 0, .bo false, .it .i64 0, .it .i64 0, (.sl Mode.full [])]) ∧
 fldOf Tryz.prog 118 0 = some (0, 16, true) ∧
 fldOf Tryz.prog 118 1 = some (16, 1, false) ∧
 fldOf Tryz.prog 118 2 = some (17, 1, false) ∧
 fldOf Tryz.prog 118 3 = some (18, 1, false) ∧
 fldOf Tryz.prog 118 4 = some (19, 1, false) ∧
 eqsOf Tryz.prog 118 = some [(117, 0, 16, true), (4, 16, 1, false), (3, 17, 1, false), (3, 18, 1, false), (42, 19, 1, false)] ∧
 Program.eqGuardType Tryz.prog (Program.depth Tryz.prog) 118 = false ∧
 kdOf Tryz.prog 119 = .other ∧
 szOf Tryz.prog 119 = some (20, true) ∧
 zerOf Tryz.prog 119 = some [(.sl Mode.full []), .it .i64 0, (.sl Mode.full []), .it .i64 0, (.sl Mode.full []), .it .i64 0, (.sl Mode.full []), .it .i64 0, (.sl Mode.full []), .it .i64 0, (.sl Mode.full []), .it .i64 0, (.sl Mode.full []), .it .i64 0, (.sl Mode.full []), .it .i64 0, .bo false, .it .i64 0, .it .i64 0, (.sl Mode.full [])] ∧
 strOf Tryz.prog 119 = some ([(0, 16), (16, 1), (17, 1), (18, 1), (19, 1)], [(.sl Mode.full []), .it .i64 0, (.sl Mode.full []), .it .i64 0, (.sl Mode.full []), .it .i64 0, (.sl Mode.full []), .it .i64 0, (.sl Mode.full []), .it .i64 0, (.sl Mode.full []), .it .i64 0, (.sl Mode.full []), .it .i64 0, (.sl Mode.full []), .it .i64 0, .bo false, .it .i64 0, .it .i64 0, (.sl Mode.full [])]) ∧
 fldOf Tryz.prog 119 0 = some (0, 16, true) ∧
 fldOf Tryz.prog 119 1 = some (16, 1, false) ∧
 fldOf Tryz.prog 119 2 = some (17, 1, false) ∧
 fldOf Tryz.prog 119 3 = some (18, 1, false) ∧
 fldOf Tryz.prog 119 4 = some (19, 1, false) ∧
 eqsOf Tryz.prog 119 = some [(117, 0, 16, true), (4, 16, 1, false), (3, 17, 1, false), (3, 18, 1, false), (42, 19, 1, false)] ∧
 Program.eqGuardType Tryz.prog (Program.depth Tryz.prog) 119 = false ∧
 kdOf Tryz.prog 120 = .other ∧
 szOf Tryz.prog 120 = some (1, false) ∧
 sleOf Tryz.prog 120 = some (139, 2, true) ∧
 appOf Tryz.prog 120 = some (139, 2, 32) ∧
 zerOf Tryz.prog 120 = some [(.sl Mode.full [])] ∧
 kdOf Tryz.prog 121 = .other ∧
 szOf Tryz.prog 121 = some (5, true) ∧
 zerOf Tryz.prog 121 = some [(.sl Mode.full []), .it .i64 0, .bo false, .it .i64 0, (.sl Mode.full [])] ∧
 strOf Tryz.prog 121 = some ([(0, 1), (1, 1), (2, 1), (3, 1), (4, 1)], [(.sl Mode.full []), .it .i64 0, .bo false, .it .i64 0, (.sl Mode.full [])]) ∧
 fldOf Tryz.prog 121 0 = some (0, 1, false) := by and_intros <;> kernel_rfl
theorem tf17 :
 fldOf Tryz.prog 121 1 = some (1, 1, false) ∧
 fldOf Tryz.prog 121 2 = some (2, 1, false) ∧
 fldOf Tryz.prog 121 3 = some (3, 1, false) ∧
 fldOf Tryz.prog 121 4 = some (4, 1, false) ∧
 eqsOf Tryz.prog 121 = some [(120, 0, 1, false), (3, 1, 1, false), (4, 2, 1, false), (3, 3, 1, false), (42, 4, 1, false)] ∧
 Program.eqGuardType Tryz.prog (Program.depth Tryz.prog) 121 = false ∧
 kdOf Tryz.prog 122 = .other ∧
 szOf Tryz.prog 122 = some (5, true) ∧
 zerOf Tryz.prog 122 = some [(.sl Mode.full []), .it .i64 0, .bo false, .it .i64 0, (.sl Mode.full [])] ∧
 strOf Tryz.prog 122 = some ([(0, 1), (1, 1), (2, 1), (3, 1), (4, 1)], [(.sl Mode.full []), .it .i64 0, .bo false, .it .i64 0, (.sl Mode.full [])]) ∧
 fldOf Tryz.prog 122 0 = some (0, 1, false) ∧
 fldOf Tryz.prog 122 1 = some (1, 1, false) ∧
 fldOf Tryz.prog 122 2 = some (2, 1, false) ∧
 fldOf Tryz.prog 122 3 = some (3, 1, false) ∧
 fldOf Tryz.prog 122 4 = some (4, 1, false) ∧
 eqsOf Tryz.prog 122 = some [(120, 0, 1, false), (3, 1, 1, false), (4, 2, 1, false), (3, 3, 1, false), (42, 4, 1, false)] ∧
 Program.eqGuardType Tryz.prog (Program.depth Tryz.prog) 122 = false ∧
 kdOf Tryz.prog 123 = .ptr ∧
 szOf Tryz.prog 123 = some (1, false) ∧
 zerOf Tryz.prog 123 = some [(.ot (.pointer none))] ∧
 kdOf Tryz.prog 124 = .other ∧
 szOf Tryz.prog 124 = some (1, false) ∧
 kdOf Tryz.prog 125 = .fun ∧
 szOf Tryz.prog 125 = some (1, false) ∧
 zerOf Tryz.prog 125 = some [.ot .nilFunc] ∧
 kdOf Tryz.prog 126 = .other ∧
 szOf Tryz.prog 126 = some (1, false) ∧
 zerOf Tryz.prog 126 = some [(.ot (.map none))] ∧
 mapOf Tryz.prog 126 = some (none, .bo false) ∧
 kdOf Tryz.prog 127 = .other ∧
 szOf Tryz.prog 127 = some (7, true) ∧
 zerOf Tryz.prog 127 = some [(.ot (.pointer none)), .it .i64 0, .it .i64 0, .it .i64 0, (.sl Mode.full []), (.ot (.map none)), .it .i64 0] ∧
 strOf Tryz.prog 127 = some ([(0, 1), (1, 1), (2, 2), (4, 1), (5, 1), (6, 1)], [(.ot (.pointer none)), .it .i64 0, .it .i64 0, .it .i64 0, (.sl Mode.full []), (.ot (.map none)), .it .i64 0]) ∧
 fldOf Tryz.prog 127 0 = some (0, 1, false) ∧
 fldOf Tryz.prog 127 1 = some (1, 1, false) ∧
 fldOf Tryz.prog 127 2 = some (2, 2, true) ∧
 fldOf Tryz.prog 127 3 = some (4, 1, false) ∧
 fldOf Tryz.prog 127 4 = some (5, 1, false) ∧
 fldOf Tryz.prog 127 5 = some (6, 1, false) ∧
 eqsOf Tryz.prog 127 = some [(123, 0, 1, false), (3, 1, 1, false), (29, 2, 2, true), (68, 4, 1, false), (126, 5, 1, false), (3, 6, 1, false)] := by and_intros <;> kernel_rfl
theorem tf18 :
 Program.eqGuardType Tryz.prog (Program.depth Tryz.prog) 127 = false ∧
 kdOf Tryz.prog 128 = .other ∧
 szOf Tryz.prog 128 = some (7, true) ∧
 zerOf Tryz.prog 128 = some [(.ot (.pointer none)), .it .i64 0, .it .i64 0, .it .i64 0, (.sl Mode.full []), (.ot (.map none)), .it .i64 0] ∧
 strOf Tryz.prog 128 = some ([(0, 1), (1, 1), (2, 2), (4, 1), (5, 1), (6, 1)], [(.ot (.pointer none)), .it .i64 0, .it .i64 0, .it .i64 0, (.sl Mode.full []), (.ot (.map none)), .it .i64 0]) ∧
 fldOf Tryz.prog 128 0 = some (0, 1, false) ∧
 fldOf Tryz.prog 128 1 = some (1, 1, false) ∧
 fldOf Tryz.prog 128 2 = some (2, 2, true) ∧
 fldOf Tryz.prog 128 3 = some (4, 1, false) ∧
 fldOf Tryz.prog 128 4 = some (5, 1, false) ∧
 fldOf Tryz.prog 128 5 = some (6, 1, false) ∧
 eqsOf Tryz.prog 128 = some [(123, 0, 1, false), (3, 1, 1, false), (29, 2, 2, true), (68, 4, 1, false), (126, 5, 1, false), (3, 6, 1, false)] ∧
 Program.eqGuardType Tryz.prog (Program.depth Tryz.prog) 128 = false ∧
 kdOf Tryz.prog 129 = .fun ∧
 szOf Tryz.prog 129 = some (1, false) ∧
 zerOf Tryz.prog 129 = some [.ot .nilFunc] ∧
 kdOf Tryz.prog 130 = .other ∧
 szOf Tryz.prog 130 = some (1, false) ∧
 kdOf Tryz.prog 131 = .fun ∧
 szOf Tryz.prog 131 = some (1, false) ∧
 zerOf Tryz.prog 131 = some [.ot .nilFunc] ∧
 kdOf Tryz.prog 132 = .other ∧
 szOf Tryz.prog 132 = some (1, false) ∧
 kdOf Tryz.prog 133 = .fun ∧
 szOf Tryz.prog 133 = some (1, false) ∧
 zerOf Tryz.prog 133 = some [.ot .nilFunc] ∧
 kdOf Tryz.prog 134 = .fun ∧
 szOf Tryz.prog 134 = some (1, false) ∧
 zerOf Tryz.prog 134 = some [.ot .nilFunc] ∧
 kdOf Tryz.prog 135 = .fun ∧
 szOf Tryz.prog 135 = some (1, false) ∧
 zerOf Tryz.prog 135 = some [.ot .nilFunc] ∧
 kdOf Tryz.prog 136 = .fun ∧
 szOf Tryz.prog 136 = some (1, false) ∧
 zerOf Tryz.prog 136 = some [.ot .nilFunc] ∧
 kdOf Tryz.prog 137 = .ptr ∧
 szOf Tryz.prog 137 = some (1, false) ∧
 zerOf Tryz.prog 137 = some [(.ot (.pointer none))] ∧
 kdOf Tryz.prog 138 = .other ∧
 szOf Tryz.prog 138 = some (2, true) := by and_intros <;> kernel_rfl
theorem tf19 :
 zerOf Tryz.prog 138 = some [(.st []), (.st [])] ∧
 strOf Tryz.prog 138 = some ([(0, 1), (1, 1)], [(.st []), (.st [])]) ∧
 fldOf Tryz.prog 138 0 = some (0, 1, false) ∧
 fldOf Tryz.prog 138 1 = some (1, 1, false) ∧
 eqsOf Tryz.prog 138 = some [(9, 0, 1, false), (9, 1, 1, false)] ∧
 Program.eqGuardType Tryz.prog (Program.depth Tryz.prog) 138 = false ∧
 kdOf Tryz.prog 139 = .other ∧
 szOf Tryz.prog 139 = some (2, true) ∧
 zerOf Tryz.prog 139 = some [(.st []), (.st [])] ∧
 strOf Tryz.prog 139 = some ([(0, 1), (1, 1)], [(.st []), (.st [])]) ∧
 fldOf Tryz.prog 139 0 = some (0, 1, false) ∧
 fldOf Tryz.prog 139 1 = some (1, 1, false) ∧
 eqsOf Tryz.prog 139 = some [(9, 0, 1, false), (9, 1, 1, false)] ∧
 Program.eqGuardType Tryz.prog (Program.depth Tryz.prog) 139 = false ∧
 kdOf Tryz.prog 140 = .fun ∧
 szOf Tryz.prog 140 = some (1, false) ∧
 zerOf Tryz.prog 140 = some [.ot .nilFunc] ∧
 kdOf Tryz.prog 141 = .fun ∧
 szOf Tryz.prog 141 = some (1, false) ∧
 zerOf Tryz.prog 141 = some [.ot .nilFunc] ∧
 kdOf Tryz.prog 142 = .fun ∧
 szOf Tryz.prog 142 = some (1, false) ∧
 zerOf Tryz.prog 142 = some [.ot .nilFunc] ∧
 kdOf Tryz.prog 143 = .fun ∧
 szOf Tryz.prog 143 = some (1, false) ∧
 zerOf Tryz.prog 143 = some [.ot .nilFunc] ∧
 kdOf Tryz.prog 144 = .fun ∧
 szOf Tryz.prog 144 = some (1, false) ∧
 zerOf Tryz.prog 144 = some [.ot .nilFunc] ∧
 kdOf Tryz.prog 145 = .fun ∧
 szOf Tryz.prog 145 = some (1, false) ∧
 zerOf Tryz.prog 145 = some [.ot .nilFunc] ∧
 kdOf Tryz.prog 146 = .fun ∧
 szOf Tryz.prog 146 = some (1, false) ∧
 zerOf Tryz.prog 146 = some [.ot .nilFunc] ∧
 kdOf Tryz.prog 147 = .fun ∧
 szOf Tryz.prog 147 = some (1, false) ∧
 zerOf Tryz.prog 147 = some [.ot .nilFunc] ∧
 kdOf Tryz.prog 148 = .ptr ∧
 szOf Tryz.prog 148 = some (1, false) := by and_intros <;> kernel_rfl
theorem tf20 :
 zerOf Tryz.prog 148 = some [(.ot (.pointer none))] ∧
 kdOf Tryz.prog 149 = .fun ∧
 szOf Tryz.prog 149 = some (1, false) ∧
 zerOf Tryz.prog 149 = some [.ot .nilFunc] ∧
 kdOf Tryz.prog 150 = .fun ∧
 szOf Tryz.prog 150 = some (1, false) ∧
 zerOf Tryz.prog 150 = some [.ot .nilFunc] ∧
 kdOf Tryz.prog 151 = .ptr ∧
 szOf Tryz.prog 151 = some (1, false) ∧
 zerOf Tryz.prog 151 = some [(.ot (.pointer none))] ∧
 kdOf Tryz.prog 152 = .fun ∧
 szOf Tryz.prog 152 = some (1, false) ∧
 zerOf Tryz.prog 152 = some [.ot .nilFunc] ∧
 kdOf Tryz.prog 153 = .fun ∧
 szOf Tryz.prog 153 = some (1, false) ∧
 zerOf Tryz.prog 153 = some [.ot .nilFunc] ∧
 kdOf Tryz.prog 154 = .other ∧
 szOf Tryz.prog 154 = some (1, false) ∧
 kdOf Tryz.prog 155 = .fun ∧
 szOf Tryz.prog 155 = some (1, false) ∧
 zerOf Tryz.prog 155 = some [.ot .nilFunc] ∧
 kdOf Tryz.prog 156 = .fun ∧
 szOf Tryz.prog 156 = some (1, false) ∧
 zerOf Tryz.prog 156 = some [.ot .nilFunc] ∧
 kdOf Tryz.prog 157 = .fun ∧
 szOf Tryz.prog 157 = some (1, false) ∧
 zerOf Tryz.prog 157 = some [.ot .nilFunc] ∧
 kdOf Tryz.prog 158 = .fun ∧
 szOf Tryz.prog 158 = some (1, false) ∧
 zerOf Tryz.prog 158 = some [.ot .nilFunc] ∧
 kdOf Tryz.prog 159 = .fun ∧
 szOf Tryz.prog 159 = some (1, false) ∧
 zerOf Tryz.prog 159 = some [.ot .nilFunc] ∧
 kdOf Tryz.prog 160 = .fun ∧
 szOf Tryz.prog 160 = some (1, false) ∧
 zerOf Tryz.prog 160 = some [.ot .nilFunc] ∧
 kdOf Tryz.prog 161 = .other ∧
 szOf Tryz.prog 161 = some (1, false) ∧
 kdOf Tryz.prog 162 = .fun ∧
 szOf Tryz.prog 162 = some (1, false) := by and_intros <;> kernel_rfl
theorem tf21 :
 zerOf Tryz.prog 162 = some [.ot .nilFunc] ∧
 kdOf Tryz.prog 163 = .fun ∧
 szOf Tryz.prog 163 = some (1, false) ∧
 zerOf Tryz.prog 163 = some [.ot .nilFunc] ∧
 kdOf Tryz.prog 164 = .other ∧
 szOf Tryz.prog 164 = some (1, false) ∧
 kdOf Tryz.prog 165 = .fun ∧
 szOf Tryz.prog 165 = some (1, false) ∧
 zerOf Tryz.prog 165 = some [.ot .nilFunc] ∧
 kdOf Tryz.prog 166 = .fun ∧
 szOf Tryz.prog 166 = some (1, false) ∧
 zerOf Tryz.prog 166 = some [.ot .nilFunc] ∧
 kdOf Tryz.prog 167 = .fun ∧
 szOf Tryz.prog 167 = some (1, false) ∧
 zerOf Tryz.prog 167 = some [.ot .nilFunc] ∧
 kdOf Tryz.prog 168 = .fun ∧
 szOf Tryz.prog 168 = some (1, false) ∧
 zerOf Tryz.prog 168 = some [.ot .nilFunc] ∧
 kdOf Tryz.prog 169 = .other ∧
 szOf Tryz.prog 169 = some (1, false) ∧
 kdOf Tryz.prog 170 = .fun ∧
 szOf Tryz.prog 170 = some (1, false) ∧
 zerOf Tryz.prog 170 = some [.ot .nilFunc] ∧
 kdOf Tryz.prog 171 = .other ∧
 szOf Tryz.prog 171 = some (3, true) ∧
 zerOf Tryz.prog 171 = some [(.ot (.pointer none)), .it .i64 0, (.sl Mode.full [])] ∧
 strOf Tryz.prog 171 = some ([(0, 1), (1, 1), (2, 1)], [(.ot (.pointer none)), .it .i64 0, (.sl Mode.full [])]) ∧
 fldOf Tryz.prog 171 0 = some (0, 1, false) ∧
 fldOf Tryz.prog 171 1 = some (1, 1, false) ∧
 fldOf Tryz.prog 171 2 = some (2, 1, false) ∧
 eqsOf Tryz.prog 171 = some [(31, 0, 1, false), (3, 1, 1, false), (45, 2, 1, false)] ∧
 Program.eqGuardType Tryz.prog (Program.depth Tryz.prog) 171 = false ∧
 kdOf Tryz.prog 172 = .other ∧
 szOf Tryz.prog 172 = some (3, true) ∧
 zerOf Tryz.prog 172 = some [(.ot (.pointer none)), .it .i64 0, (.sl Mode.full [])] ∧
 strOf Tryz.prog 172 = some ([(0, 1), (1, 1), (2, 1)], [(.ot (.pointer none)), .it .i64 0, (.sl Mode.full [])]) ∧
 fldOf Tryz.prog 172 0 = some (0, 1, false) ∧
 fldOf Tryz.prog 172 1 = some (1, 1, false) ∧
 fldOf Tryz.prog 172 2 = some (2, 1, false) ∧
 eqsOf Tryz.prog 172 = some [(31, 0, 1, false), (3, 1, 1, false), (45, 2, 1, false)] := by and_intros <;> kernel_rfl
theorem tf22 :
 Program.eqGuardType Tryz.prog (Program.depth Tryz.prog) 172 = false ∧
 kdOf Tryz.prog 173 = .fun ∧
 szOf Tryz.prog 173 = some (1, false) ∧
 zerOf Tryz.prog 173 = some [.ot .nilFunc] ∧
 kdOf Tryz.prog 174 = .fun ∧
 szOf Tryz.prog 174 = some (1, false) ∧
 zerOf Tryz.prog 174 = some [.ot .nilFunc] ∧
 kdOf Tryz.prog 175 = .fun ∧
 szOf Tryz.prog 175 = some (1, false) ∧
 zerOf Tryz.prog 175 = some [.ot .nilFunc] ∧
 kdOf Tryz.prog 176 = .fun ∧
 szOf Tryz.prog 176 = some (1, false) ∧
 zerOf Tryz.prog 176 = some [.ot .nilFunc] ∧
 kdOf Tryz.prog 177 = .fun ∧
 szOf Tryz.prog 177 = some (1, false) ∧
 zerOf Tryz.prog 177 = some [.ot .nilFunc] ∧
 kdOf Tryz.prog 178 = .fun ∧
 szOf Tryz.prog 178 = some (1, false) ∧
 zerOf Tryz.prog 178 = some [.ot .nilFunc] ∧
 kdOf Tryz.prog 179 = .other ∧
 szOf Tryz.prog 179 = some (1, false) ∧
 kdOf Tryz.prog 180 = .fun ∧
 szOf Tryz.prog 180 = some (1, false) ∧
 zerOf Tryz.prog 180 = some [.ot .nilFunc] ∧
 kdOf Tryz.prog 181 = .other ∧
 szOf Tryz.prog 181 = some (1, false) ∧
 kdOf Tryz.prog 182 = .fun ∧
 szOf Tryz.prog 182 = some (1, false) ∧
 zerOf Tryz.prog 182 = some [.ot .nilFunc] ∧
 kdOf Tryz.prog 183 = .other ∧
 szOf Tryz.prog 183 = some (3, true) ∧
 zerOf Tryz.prog 183 = some [(.ot (.pointer none)), .it .i64 0, (.sl Mode.full [])] ∧
 strOf Tryz.prog 183 = some ([(0, 1), (1, 1), (2, 1)], [(.ot (.pointer none)), .it .i64 0, (.sl Mode.full [])]) ∧
 fldOf Tryz.prog 183 0 = some (0, 1, false) ∧
 fldOf Tryz.prog 183 1 = some (1, 1, false) ∧
 fldOf Tryz.prog 183 2 = some (2, 1, false) ∧
 eqsOf Tryz.prog 183 = some [(33, 0, 1, false), (3, 1, 1, false), (45, 2, 1, false)] ∧
 Program.eqGuardType Tryz.prog (Program.depth Tryz.prog) 183 = false ∧
 kdOf Tryz.prog 184 = .other ∧
 szOf Tryz.prog 184 = some (3, true) := by and_intros <;> kernel_rfl
theorem tf23 :
 zerOf Tryz.prog 184 = some [(.ot (.pointer none)), .it .i64 0, (.sl Mode.full [])] ∧
 strOf Tryz.prog 184 = some ([(0, 1), (1, 1), (2, 1)], [(.ot (.pointer none)), .it .i64 0, (.sl Mode.full [])]) ∧
 fldOf Tryz.prog 184 0 = some (0, 1, false) ∧
 fldOf Tryz.prog 184 1 = some (1, 1, false) ∧
 fldOf Tryz.prog 184 2 = some (2, 1, false) ∧
 eqsOf Tryz.prog 184 = some [(33, 0, 1, false), (3, 1, 1, false), (45, 2, 1, false)] ∧
 Program.eqGuardType Tryz.prog (Program.depth Tryz.prog) 184 = false ∧
 kdOf Tryz.prog 185 = .fun ∧
 szOf Tryz.prog 185 = some (1, false) ∧
 zerOf Tryz.prog 185 = some [.ot .nilFunc] ∧
 kdOf Tryz.prog 186 = .other ∧
 szOf Tryz.prog 186 = some (5, true) ∧
 zerOf Tryz.prog 186 = some [.it .i64 0, .it .i64 0, (.st []), (.st []), (.st [])] ∧
 strOf Tryz.prog 186 = some ([(0, 1), (1, 1), (2, 3)], [.it .i64 0, .it .i64 0, (.st []), (.st []), (.st [])]) ∧
 fldOf Tryz.prog 186 0 = some (0, 1, false) ∧
 fldOf Tryz.prog 186 1 = some (1, 1, false) ∧
 fldOf Tryz.prog 186 2 = some (2, 3, true) ∧
 eqsOf Tryz.prog 186 = some [(3, 0, 1, false), (3, 1, 1, false), (47, 2, 3, true)] ∧
 Program.eqGuardType Tryz.prog (Program.depth Tryz.prog) 186 = false ∧
 kdOf Tryz.prog 187 = .other ∧
 szOf Tryz.prog 187 = some (5, true) ∧
 zerOf Tryz.prog 187 = some [.it .i64 0, .it .i64 0, (.st []), (.st []), (.st [])] ∧
 strOf Tryz.prog 187 = some ([(0, 1), (1, 1), (2, 3)], [.it .i64 0, .it .i64 0, (.st []), (.st []), (.st [])]) ∧
 fldOf Tryz.prog 187 0 = some (0, 1, false) ∧
 fldOf Tryz.prog 187 1 = some (1, 1, false) ∧
 fldOf Tryz.prog 187 2 = some (2, 3, true) ∧
 eqsOf Tryz.prog 187 = some [(3, 0, 1, false), (3, 1, 1, false), (47, 2, 3, true)] ∧
 Program.eqGuardType Tryz.prog (Program.depth Tryz.prog) 187 = false ∧
 kdOf Tryz.prog 188 = .fun ∧
 szOf Tryz.prog 188 = some (1, false) ∧
 zerOf Tryz.prog 188 = some [.ot .nilFunc] ∧
 kdOf Tryz.prog 189 = .fun ∧
 szOf Tryz.prog 189 = some (1, false) ∧
 zerOf Tryz.prog 189 = some [.ot .nilFunc] ∧
 kdOf Tryz.prog 190 = .other ∧
 szOf Tryz.prog 190 = some (2, true) ∧
 zerOf Tryz.prog 190 = some [.it .i64 0, .ot .nilFunc] ∧
 strOf Tryz.prog 190 = some ([(0, 1), (1, 1)], [.it .i64 0, .ot .nilFunc]) ∧
 fldOf Tryz.prog 190 0 = some (0, 1, false) ∧
 fldOf Tryz.prog 190 1 = some (1, 1, false) := by and_intros <;> kernel_rfl
theorem tf24 :
 eqsOf Tryz.prog 190 = some [(3, 0, 1, false), (140, 1, 1, false)] ∧
 Program.eqGuardType Tryz.prog (Program.depth Tryz.prog) 190 = false ∧
 kdOf Tryz.prog 191 = .other ∧
 szOf Tryz.prog 191 = some (2, true) ∧
 zerOf Tryz.prog 191 = some [.it .i64 0, .ot .nilFunc] ∧
 strOf Tryz.prog 191 = some ([(0, 1), (1, 1)], [.it .i64 0, .ot .nilFunc]) ∧
 fldOf Tryz.prog 191 0 = some (0, 1, false) ∧
 fldOf Tryz.prog 191 1 = some (1, 1, false) ∧
 eqsOf Tryz.prog 191 = some [(3, 0, 1, false), (140, 1, 1, false)] ∧
 Program.eqGuardType Tryz.prog (Program.depth Tryz.prog) 191 = false ∧
 kdOf Tryz.prog 192 = .other ∧
 szOf Tryz.prog 192 = some (1, false) ∧
 kdOf Tryz.prog 193 = .other ∧
 szOf Tryz.prog 193 = some (1, false) ∧
 zerOf Tryz.prog 193 = some [(.ot (.map none))] ∧
 mapOf Tryz.prog 193 = some (some .i64, (.agg [.it .i64 0, .ot .nilFunc])) ∧
 kdOf Tryz.prog 194 = .fun ∧
 szOf Tryz.prog 194 = some (1, false) ∧
 zerOf Tryz.prog 194 = some [.ot .nilFunc] ∧
 kdOf Tryz.prog 195 = .fun ∧
 szOf Tryz.prog 195 = some (1, false) ∧
 zerOf Tryz.prog 195 = some [.ot .nilFunc] ∧
 kdOf Tryz.prog 196 = .fun ∧
 szOf Tryz.prog 196 = some (1, false) ∧
 zerOf Tryz.prog 196 = some [.ot .nilFunc] ∧
 kdOf Tryz.prog 197 = .other ∧
 szOf Tryz.prog 197 = some (1, true) ∧
 zerOf Tryz.prog 197 = some [(.sl Mode.full [])] ∧
 strOf Tryz.prog 197 = some ([(0, 1)], [(.sl Mode.full [])]) ∧
 fldOf Tryz.prog 197 0 = some (0, 1, false) ∧
 eqsOf Tryz.prog 197 = some [(114, 0, 1, false)] ∧
 Program.eqGuardType Tryz.prog (Program.depth Tryz.prog) 197 = false ∧
 kdOf Tryz.prog 198 = .other ∧
 szOf Tryz.prog 198 = some (1, true) ∧
 zerOf Tryz.prog 198 = some [(.sl Mode.full [])] ∧
 strOf Tryz.prog 198 = some ([(0, 1)], [(.sl Mode.full [])]) ∧
 fldOf Tryz.prog 198 0 = some (0, 1, false) ∧
 eqsOf Tryz.prog 198 = some [(114, 0, 1, false)] ∧
 Program.eqGuardType Tryz.prog (Program.depth Tryz.prog) 198 = false ∧
 kdOf Tryz.prog 199 = .fun := by and_intros <;> kernel_rfl
theorem tf25 :
 szOf Tryz.prog 199 = some (1, false) ∧
 zerOf Tryz.prog 199 = some [.ot .nilFunc] ∧
 kdOf Tryz.prog 200 = .fun ∧
 szOf Tryz.prog 200 = some (1, false) ∧
 zerOf Tryz.prog 200 = some [.ot .nilFunc] ∧
 kdOf Tryz.prog 201 = .fun ∧
 szOf Tryz.prog 201 = some (1, false) ∧
 zerOf Tryz.prog 201 = some [.ot .nilFunc] ∧
 kdOf Tryz.prog 202 = .other ∧
 szOf Tryz.prog 202 = some (4, true) ∧
 zerOf Tryz.prog 202 = some [(.st []), .ot .nilFunc, .it .i64 0, .it .i64 0] ∧
 strOf Tryz.prog 202 = some ([(0, 1), (1, 1), (2, 2)], [(.st []), .ot .nilFunc, .it .i64 0, .it .i64 0]) ∧
 fldOf Tryz.prog 202 0 = some (0, 1, false) ∧
 fldOf Tryz.prog 202 1 = some (1, 1, false) ∧
 fldOf Tryz.prog 202 2 = some (2, 2, true) ∧
 eqsOf Tryz.prog 202 = some [(9, 0, 1, false), (201, 1, 1, false), (50, 2, 2, true)] ∧
 Program.eqGuardType Tryz.prog (Program.depth Tryz.prog) 202 = false ∧
 kdOf Tryz.prog 203 = .other ∧
 szOf Tryz.prog 203 = some (4, true) ∧
 zerOf Tryz.prog 203 = some [(.st []), .ot .nilFunc, .it .i64 0, .it .i64 0] ∧
 strOf Tryz.prog 203 = some ([(0, 1), (1, 1), (2, 2)], [(.st []), .ot .nilFunc, .it .i64 0, .it .i64 0]) ∧
 fldOf Tryz.prog 203 0 = some (0, 1, false) ∧
 fldOf Tryz.prog 203 1 = some (1, 1, false) ∧
 fldOf Tryz.prog 203 2 = some (2, 2, true) ∧
 eqsOf Tryz.prog 203 = some [(9, 0, 1, false), (201, 1, 1, false), (50, 2, 2, true)] ∧
 Program.eqGuardType Tryz.prog (Program.depth Tryz.prog) 203 = false ∧
 kdOf Tryz.prog 204 = .fun ∧
 szOf Tryz.prog 204 = some (1, false) ∧
 zerOf Tryz.prog 204 = some [.ot .nilFunc] ∧
 kdOf Tryz.prog 205 = .ptr ∧
 szOf Tryz.prog 205 = some (1, false) ∧
 zerOf Tryz.prog 205 = some [(.ot (.pointer none))] ∧
 kdOf Tryz.prog 206 = (.int .u32) ∧
 szOf Tryz.prog 206 = some (1, false) ∧
 zerOf Tryz.prog 206 = some [.it .u32 0] ∧
 kdOf Tryz.prog 207 = .other ∧
 szOf Tryz.prog 207 = some (8, true) ∧
 areOf Tryz.prog 207 = some (8, 1, false) ∧
 zerOf Tryz.prog 207 = some [.it .u32 0, .it .u32 0, .it .u32 0, .it .u32 0, .it .u32 0, .it .u32 0, .it .u32 0, .it .u32 0] ∧
 strOf Tryz.prog 207 = some ([(0, 1), (1, 1), (2, 1), (3, 1), (4, 1), (5, 1), (6, 1), (7, 1)], [.it .u32 0, .it .u32 0, .it .u32 0, .it .u32 0, .it .u32 0, .it .u32 0, .it .u32 0, .it .u32 0]) := by and_intros <;> kernel_rfl
theorem tf26 :
 kdOf Tryz.prog 208 = .fun ∧
 szOf Tryz.prog 208 = some (1, false) ∧
 zerOf Tryz.prog 208 = some [.ot .nilFunc] ∧
 kdOf Tryz.prog 209 = .fun ∧
 szOf Tryz.prog 209 = some (1, false) ∧
 zerOf Tryz.prog 209 = some [.ot .nilFunc] ∧
 kdOf Tryz.prog 210 = (.int .u64) ∧
 szOf Tryz.prog 210 = some (1, false) ∧
 zerOf Tryz.prog 210 = some [.it .u64 0] ∧
 kdOf Tryz.prog 211 = .fun ∧
 szOf Tryz.prog 211 = some (1, false) ∧
 zerOf Tryz.prog 211 = some [.ot .nilFunc] ∧
 kdOf Tryz.prog 212 = .fun ∧
 szOf Tryz.prog 212 = some (1, false) ∧
 zerOf Tryz.prog 212 = some [.ot .nilFunc] ∧
 kdOf Tryz.prog 213 = .other ∧
 szOf Tryz.prog 213 = some (2, true) ∧
 zerOf Tryz.prog 213 = some [(.st []), .bo false] ∧
 strOf Tryz.prog 213 = some ([(0, 1), (1, 1)], [(.st []), .bo false]) ∧
 fldOf Tryz.prog 213 0 = some (0, 1, false) ∧
 fldOf Tryz.prog 213 1 = some (1, 1, false) ∧
 eqsOf Tryz.prog 213 = some [(9, 0, 1, false), (4, 1, 1, false)] ∧
 Program.eqGuardType Tryz.prog (Program.depth Tryz.prog) 213 = false ∧
 kdOf Tryz.prog 214 = .other ∧
 szOf Tryz.prog 214 = some (2, true) ∧
 zerOf Tryz.prog 214 = some [(.st []), .bo false] ∧
 strOf Tryz.prog 214 = some ([(0, 1), (1, 1)], [(.st []), .bo false]) ∧
 fldOf Tryz.prog 214 0 = some (0, 1, false) ∧
 fldOf Tryz.prog 214 1 = some (1, 1, false) ∧
 eqsOf Tryz.prog 214 = some [(9, 0, 1, false), (4, 1, 1, false)] ∧
 Program.eqGuardType Tryz.prog (Program.depth Tryz.prog) 214 = false ∧
 kdOf Tryz.prog 215 = .other ∧
 szOf Tryz.prog 215 = some (2, true) ∧
 zerOf Tryz.prog 215 = some [(.st []), .bo false] ∧
 strOf Tryz.prog 215 = some ([(0, 1), (1, 1)], [(.st []), .bo false]) ∧
 fldOf Tryz.prog 215 0 = some (0, 1, false) ∧
 fldOf Tryz.prog 215 1 = some (1, 1, false) ∧
 eqsOf Tryz.prog 215 = some [(9, 0, 1, false), (4, 1, 1, false)] ∧
 Program.eqGuardType Tryz.prog (Program.depth Tryz.prog) 215 = false ∧
 kdOf Tryz.prog 216 = .other := by and_intros <;> kernel_rfl
theorem tf27 :
 szOf Tryz.prog 216 = some (2, true) ∧
 zerOf Tryz.prog 216 = some [(.st []), .bo false] ∧
 strOf Tryz.prog 216 = some ([(0, 1), (1, 1)], [(.st []), .bo false]) ∧
 fldOf Tryz.prog 216 0 = some (0, 1, false) ∧
 fldOf Tryz.prog 216 1 = some (1, 1, false) ∧
 eqsOf Tryz.prog 216 = some [(9, 0, 1, false), (4, 1, 1, false)] ∧
 Program.eqGuardType Tryz.prog (Program.depth Tryz.prog) 216 = false ∧
 kdOf Tryz.prog 217 = .fun ∧
 szOf Tryz.prog 217 = some (1, false) ∧
 zerOf Tryz.prog 217 = some [.ot .nilFunc] ∧
 kdOf Tryz.prog 218 = .fun ∧
 szOf Tryz.prog 218 = some (1, false) ∧
 zerOf Tryz.prog 218 = some [.ot .nilFunc] ∧
 kdOf Tryz.prog 219 = .fun ∧
 szOf Tryz.prog 219 = some (1, false) ∧
 zerOf Tryz.prog 219 = some [.ot .nilFunc] ∧
 kdOf Tryz.prog 220 = .fun ∧
 szOf Tryz.prog 220 = some (1, false) ∧
 zerOf Tryz.prog 220 = some [.ot .nilFunc] ∧
 kdOf Tryz.prog 221 = (.int .u64) ∧
 szOf Tryz.prog 221 = some (1, false) ∧
 zerOf Tryz.prog 221 = some [.it .u64 0] ∧
 kdOf Tryz.prog 222 = .ptr ∧
 szOf Tryz.prog 222 = some (1, false) ∧
 zerOf Tryz.prog 222 = some [(.ot (.pointer none))] ∧
 kdOf Tryz.prog 223 = .other ∧
 szOf Tryz.prog 223 = some (2, true) ∧
 zerOf Tryz.prog 223 = some [(.ot (.pointer none)), (.sl Mode.full [])] ∧
 strOf Tryz.prog 223 = some ([(0, 1), (1, 1)], [(.ot (.pointer none)), (.sl Mode.full [])]) ∧
 fldOf Tryz.prog 223 0 = some (0, 1, false) ∧
 fldOf Tryz.prog 223 1 = some (1, 1, false) ∧
 eqsOf Tryz.prog 223 = some [(222, 0, 1, false), (114, 1, 1, false)] ∧
 Program.eqGuardType Tryz.prog (Program.depth Tryz.prog) 223 = false ∧
 kdOf Tryz.prog 224 = .other ∧
 szOf Tryz.prog 224 = some (2, true) ∧
 zerOf Tryz.prog 224 = some [(.ot (.pointer none)), (.sl Mode.full [])] ∧
 strOf Tryz.prog 224 = some ([(0, 1), (1, 1)], [(.ot (.pointer none)), (.sl Mode.full [])]) ∧
 fldOf Tryz.prog 224 0 = some (0, 1, false) ∧
 fldOf Tryz.prog 224 1 = some (1, 1, false) ∧
 eqsOf Tryz.prog 224 = some [(222, 0, 1, false), (114, 1, 1, false)] := by and_intros <;> kernel_rfl
theorem tf28 :
 Program.eqGuardType Tryz.prog (Program.depth Tryz.prog) 224 = false ∧
 kdOf Tryz.prog 225 = .other ∧
 szOf Tryz.prog 225 = some (1, false) ∧
 zerOf Tryz.prog 225 = some [.ot .nilIface] ∧
 kdOf Tryz.prog 226 = .other ∧
 szOf Tryz.prog 226 = some (1, false) ∧
 zerOf Tryz.prog 226 = some [.ot .nilIface] ∧
 kdOf Tryz.prog 227 = .other ∧
 szOf Tryz.prog 227 = some (1, false) ∧
 kdOf Tryz.prog 228 = .fun ∧
 szOf Tryz.prog 228 = some (1, false) ∧
 zerOf Tryz.prog 228 = some [.ot .nilFunc] ∧
 kdOf Tryz.prog 229 = .fun ∧
 szOf Tryz.prog 229 = some (1, false) ∧
 zerOf Tryz.prog 229 = some [.ot .nilFunc] ∧
 kdOf Tryz.prog 230 = .fun ∧
 szOf Tryz.prog 230 = some (1, false) ∧
 zerOf Tryz.prog 230 = some [.ot .nilFunc] ∧
 kdOf Tryz.prog 231 = .other ∧
 szOf Tryz.prog 231 = some (1, false) ∧
 kdOf Tryz.prog 232 = .fun ∧
 szOf Tryz.prog 232 = some (1, false) ∧
 zerOf Tryz.prog 232 = some [.ot .nilFunc] ∧
 kdOf Tryz.prog 233 = .fun ∧
 szOf Tryz.prog 233 = some (1, false) ∧
 zerOf Tryz.prog 233 = some [.ot .nilFunc] ∧
 kdOf Tryz.prog 234 = .fun ∧
 szOf Tryz.prog 234 = some (1, false) ∧
 zerOf Tryz.prog 234 = some [.ot .nilFunc] ∧
 kdOf Tryz.prog 235 = .fun ∧
 szOf Tryz.prog 235 = some (1, false) ∧
 zerOf Tryz.prog 235 = some [.ot .nilFunc] ∧
 kdOf Tryz.prog 236 = .other ∧
 szOf Tryz.prog 236 = some (1, false) ∧
 kdOf Tryz.prog 237 = .fun ∧
 szOf Tryz.prog 237 = some (1, false) ∧
 zerOf Tryz.prog 237 = some [.ot .nilFunc] ∧
 kdOf Tryz.prog 238 = .fun ∧
 szOf Tryz.prog 238 = some (1, false) ∧
 zerOf Tryz.prog 238 = some [.ot .nilFunc] := by and_intros <;> kernel_rfl
theorem tf29 :
 kdOf Tryz.prog 239 = .fun ∧
 szOf Tryz.prog 239 = some (1, false) ∧
 zerOf Tryz.prog 239 = some [.ot .nilFunc] ∧
 kdOf Tryz.prog 240 = .fun ∧
 szOf Tryz.prog 240 = some (1, false) ∧
 zerOf Tryz.prog 240 = some [.ot .nilFunc] ∧
 kdOf Tryz.prog 241 = .fun ∧
 szOf Tryz.prog 241 = some (1, false) ∧
 zerOf Tryz.prog 241 = some [.ot .nilFunc] ∧
 kdOf Tryz.prog 242 = .fun ∧
 szOf Tryz.prog 242 = some (1, false) ∧
 zerOf Tryz.prog 242 = some [.ot .nilFunc] ∧
 kdOf Tryz.prog 243 = .fun ∧
 szOf Tryz.prog 243 = some (1, false) ∧
 zerOf Tryz.prog 243 = some [.ot .nilFunc] ∧
 kdOf Tryz.prog 244 = .other ∧
 szOf Tryz.prog 244 = some (1, false) ∧
 sleOf Tryz.prog 244 = some (206, 1, false) ∧
 appOf Tryz.prog 244 = some (206, 1, 4) ∧
 zerOf Tryz.prog 244 = some [(.sl Mode.full [])] ∧
 kdOf Tryz.prog 245 = .fun ∧
 szOf Tryz.prog 245 = some (1, false) ∧
 zerOf Tryz.prog 245 = some [.ot .nilFunc] ∧
 kdOf Tryz.prog 246 = .fun ∧
 szOf Tryz.prog 246 = some (1, false) ∧
 zerOf Tryz.prog 246 = some [.ot .nilFunc] ∧
 kdOf Tryz.prog 247 = .fun ∧
 szOf Tryz.prog 247 = some (1, false) ∧
 zerOf Tryz.prog 247 = some [.ot .nilFunc] ∧
 kdOf Tryz.prog 248 = .fun ∧
 szOf Tryz.prog 248 = some (1, false) ∧
 zerOf Tryz.prog 248 = some [.ot .nilFunc] ∧
 kdOf Tryz.prog 249 = .fun ∧
 szOf Tryz.prog 249 = some (1, false) ∧
 zerOf Tryz.prog 249 = some [.ot .nilFunc] ∧
 kdOf Tryz.prog 250 = .fun ∧
 szOf Tryz.prog 250 = some (1, false) ∧
 zerOf Tryz.prog 250 = some [.ot .nilFunc] ∧
 kdOf Tryz.prog 251 = .other ∧
 szOf Tryz.prog 251 = some (64, true) := by and_intros <;> kernel_rfl
theorem tf30 :
 areOf Tryz.prog 251 = some (64, 1, false) ∧
 zerOf Tryz.prog 251 = some [.it .u32 0, .it .u32 0, .it .u32 0, .it .u32 0, .it .u32 0, .it .u32 0, .it .u32 0, .it .u32 0, .it .u32 0, .it .u32 0, .it .u32 0, .it .u32 0, .it .u32 0, .it .u32 0, .it .u32 0, .it .u32 0, .it .u32 0, .it .u32 0, .it .u32 0, .it .u32 0, .it .u32 0, .it .u32 0, .it .u32 0, .it .u32 0, .it .u32 0, .it .u32 0, .it .u32 0, .it .u32 0, .it .u32 0, .it .u32 0, .it .u32 0, .it .u32 0, .it .u32 0, .it .u32 0, .it .u32 0, .it .u32 0, .it .u32 0, .it .u32 0, .it .u32 0, .it .u32 0, .it .u32 0, .it .u32 0, .it .u32 0, .it .u32 0, .it .u32 0, .it .u32 0, .it .u32 0, .it .u32 0, .it .u32 0, .it .u32 0, .it .u32 0, .it .u32 0, .it .u32 0, .it .u32 0, .it .u32 0, .it .u32 0, .it .u32 0, .it .u32 0, .it .u32 0, .it .u32 0, .it .u32 0, .it .u32 0, .it .u32 0, .it .u32 0] ∧
 strOf Tryz.prog 251 = some ([(0, 1), (1, 1), (2, 1), (3, 1), (4, 1), (5, 1), (6, 1), (7, 1), (8, 1), (9, 1), (10, 1), (11, 1), (12, 1), (13, 1), (14, 1), (15, 1), (16, 1), (17, 1), (18, 1), (19, 1), (20, 1), (21, 1), (22, 1), (23, 1), (24, 1), (25, 1), (26, 1), (27, 1), (28, 1), (29, 1), (30, 1), (31, 1), (32, 1), (33, 1), (34, 1), (35, 1), (36, 1), (37, 1), (38, 1), (39, 1), (40, 1), (41, 1), (42, 1), (43, 1), (44, 1), (45, 1), (46, 1), (47, 1), (48, 1), (49, 1), (50, 1), (51, 1), (52, 1), (53, 1), (54, 1), (55, 1), (56, 1), (57, 1), (58, 1), (59, 1), (60, 1), (61, 1), (62, 1), (63, 1)], [.it .u32 0, .it .u32 0, .it .u32 0, .it .u32 0, .it .u32 0, .it .u32 0, .it .u32 0, .it .u32 0, .it .u32 0, .it .u32 0, .it .u32 0, .it .u32 0, .it .u32 0, .it .u32 0, .it .u32 0, .it .u32 0, .it .u32 0, .it .u32 0, .it .u32 0, .it .u32 0, .it .u32 0, .it .u32 0, .it .u32 0, .it .u32 0, .it .u32 0, .it .u32 0, .it .u32 0, .it .u32 0, .it .u32 0, .it .u32 0, .it .u32 0, .it .u32 0, .it .u32 0, .it .u32 0, .it .u32 0, .it .u32 0, .it .u32 0, .it .u32 0, .it .u32 0, .it .u32 0, .it .u32 0, .it .u32 0, .it .u32 0, .it .u32 0, .it .u32 0, .it .u32 0, .it .u32 0, .it .u32 0, .it .u32 0, .it .u32 0, .it .u32 0, .it .u32 0, .it .u32 0, .it .u32 0, .it .u32 0, .it .u32 0, .it .u32 0, .it .u32 0, .it .u32 0, .it .u32 0, .it .u32 0, .it .u32 0, .it .u32 0, .it .u32 0]) ∧
 kdOf Tryz.prog 252 = .fun ∧
 szOf Tryz.prog 252 = some (1, false) ∧
 zerOf Tryz.prog 252 = some [.ot .nilFunc] ∧
 kdOf Tryz.prog 253 = .fun ∧
 szOf Tryz.prog 253 = some (1, false) ∧
 zerOf Tryz.prog 253 = some [.ot .nilFunc] ∧
 kdOf Tryz.prog 254 = .other ∧
 szOf Tryz.prog 254 = some (1, false) ∧
 kdOf Tryz.prog 255 = .fun ∧
 szOf Tryz.prog 255 = some (1, false) ∧
 zerOf Tryz.prog 255 = some [.ot .nilFunc] ∧
 kdOf Tryz.prog 256 = .other ∧
 szOf Tryz.prog 256 = some (1, false) ∧
 kdOf Tryz.prog 257 = .fun ∧
 szOf Tryz.prog 257 = some (1, false) ∧
 zerOf Tryz.prog 257 = some [.ot .nilFunc] ∧
 kdOf Tryz.prog 258 = .fun ∧
 szOf Tryz.prog 258 = some (1, false) ∧
 zerOf Tryz.prog 258 = some [.ot .nilFunc] ∧
 kdOf Tryz.prog 259 = .ptr ∧
 szOf Tryz.prog 259 = some (1, false) ∧
 zerOf Tryz.prog 259 = some [(.ot (.pointer none))] ∧
 kdOf Tryz.prog 260 = .fun ∧
 szOf Tryz.prog 260 = some (1, false) ∧
 zerOf Tryz.prog 260 = some [.ot .nilFunc] ∧
 kdOf Tryz.prog 261 = .fun ∧
 szOf Tryz.prog 261 = some (1, false) ∧
 zerOf Tryz.prog 261 = some [.ot .nilFunc] ∧
 kdOf Tryz.prog 262 = .fun ∧
 szOf Tryz.prog 262 = some (1, false) ∧
 zerOf Tryz.prog 262 = some [.ot .nilFunc] ∧
 kdOf Tryz.prog 263 = .fun ∧
 szOf Tryz.prog 263 = some (1, false) ∧
 zerOf Tryz.prog 263 = some [.ot .nilFunc] ∧
 kdOf Tryz.prog 264 = .fun ∧
 szOf Tryz.prog 264 = some (1, false) ∧
 zerOf Tryz.prog 264 = some [.ot .nilFunc] := by and_intros <;> kernel_rfl
theorem tf31 :
 kdOf Tryz.prog 265 = .fun ∧
 szOf Tryz.prog 265 = some (1, false) ∧
 zerOf Tryz.prog 265 = some [.ot .nilFunc] ∧
 kdOf Tryz.prog 266 = .fun ∧
 szOf Tryz.prog 266 = some (1, false) ∧
 zerOf Tryz.prog 266 = some [.ot .nilFunc] ∧
 kdOf Tryz.prog 267 = .fun ∧
 szOf Tryz.prog 267 = some (1, false) ∧
 zerOf Tryz.prog 267 = some [.ot .nilFunc] ∧
 kdOf Tryz.prog 268 = .fun ∧
 szOf Tryz.prog 268 = some (1, false) ∧
 zerOf Tryz.prog 268 = some [.ot .nilFunc] ∧
 kdOf Tryz.prog 269 = .fun ∧
 szOf Tryz.prog 269 = some (1, false) ∧
 zerOf Tryz.prog 269 = some [.ot .nilFunc] ∧
 kdOf Tryz.prog 270 = .fun ∧
 szOf Tryz.prog 270 = some (1, false) ∧
 zerOf Tryz.prog 270 = some [.ot .nilFunc] ∧
 kdOf Tryz.prog 271 = .other ∧
 szOf Tryz.prog 271 = some (1, false) ∧
 zerOf Tryz.prog 271 = some [(.ot (.pointer none))] ∧
 kdOf Tryz.prog 272 = .fun ∧
 szOf Tryz.prog 272 = some (1, false) ∧
 zerOf Tryz.prog 272 = some [.ot .nilFunc] ∧
 kdOf Tryz.prog 273 = .fun ∧
 szOf Tryz.prog 273 = some (1, false) ∧
 zerOf Tryz.prog 273 = some [.ot .nilFunc] ∧
 kdOf Tryz.prog 274 = .fun ∧
 szOf Tryz.prog 274 = some (1, false) ∧
 zerOf Tryz.prog 274 = some [.ot .nilFunc] ∧
 kdOf Tryz.prog 275 = .fun ∧
 szOf Tryz.prog 275 = some (1, false) ∧
 zerOf Tryz.prog 275 = some [.ot .nilFunc] ∧
 kdOf Tryz.prog 276 = .fun ∧
 szOf Tryz.prog 276 = some (1, false) ∧
 zerOf Tryz.prog 276 = some [.ot .nilFunc] ∧
 kdOf Tryz.prog 277 = .ptr ∧
 szOf Tryz.prog 277 = some (1, false) ∧
 zerOf Tryz.prog 277 = some [(.ot (.pointer none))] ∧
 kdOf Tryz.prog 278 = .other := by and_intros <;> kernel_rfl
theorem tf32 :
 szOf Tryz.prog 278 = some (4, true) ∧
 zerOf Tryz.prog 278 = some [(.ot (.pointer none)), (.ot (.pointer none)), (.ot (.pointer none)), (.st [])] ∧
 strOf Tryz.prog 278 = some ([(0, 1), (1, 1), (2, 1), (3, 1)], [(.ot (.pointer none)), (.ot (.pointer none)), (.ot (.pointer none)), (.st [])]) ∧
 fldOf Tryz.prog 278 0 = some (0, 1, false) ∧
 fldOf Tryz.prog 278 1 = some (1, 1, false) ∧
 fldOf Tryz.prog 278 2 = some (2, 1, false) ∧
 fldOf Tryz.prog 278 3 = some (3, 1, false) ∧
 kdOf Tryz.prog 279 = .other ∧
 szOf Tryz.prog 279 = some (4, true) ∧
 zerOf Tryz.prog 279 = some [(.ot (.pointer none)), (.ot (.pointer none)), (.ot (.pointer none)), (.st [])] ∧
 strOf Tryz.prog 279 = some ([(0, 1), (1, 1), (2, 1), (3, 1)], [(.ot (.pointer none)), (.ot (.pointer none)), (.ot (.pointer none)), (.st [])]) ∧
 fldOf Tryz.prog 279 0 = some (0, 1, false) ∧
 fldOf Tryz.prog 279 1 = some (1, 1, false) ∧
 fldOf Tryz.prog 279 2 = some (2, 1, false) ∧
 fldOf Tryz.prog 279 3 = some (3, 1, false) ∧
 kdOf Tryz.prog 280 = .other ∧
 szOf Tryz.prog 280 = some (0, true) ∧
 areOf Tryz.prog 280 = some (0, 1, false) ∧
 zerOf Tryz.prog 280 = some [] ∧
 strOf Tryz.prog 280 = some ([], []) ∧
 kdOf Tryz.prog 281 = .other ∧
 szOf Tryz.prog 281 = some (0, true) ∧
 zerOf Tryz.prog 281 = some [] ∧
 strOf Tryz.prog 281 = some ([(0, 0)], []) ∧
 fldOf Tryz.prog 281 0 = some (0, 0, true) ∧
 kdOf Tryz.prog 282 = .other ∧
 szOf Tryz.prog 282 = some (0, true) ∧
 zerOf Tryz.prog 282 = some [] ∧
 strOf Tryz.prog 282 = some ([(0, 0)], []) ∧
 fldOf Tryz.prog 282 0 = some (0, 0, true) ∧
 kdOf Tryz.prog 283 = (.int .u8) ∧
 szOf Tryz.prog 283 = some (1, false) ∧
 zerOf Tryz.prog 283 = some [.it .u8 0] ∧
 kdOf Tryz.prog 284 = (.int .u8) ∧
 szOf Tryz.prog 284 = some (1, false) ∧
 zerOf Tryz.prog 284 = some [.it .u8 0] ∧
 kdOf Tryz.prog 285 = .fun ∧
 szOf Tryz.prog 285 = some (1, false) ∧
 zerOf Tryz.prog 285 = some [.ot .nilFunc] ∧
 kdOf Tryz.prog 286 = (.int .i32) := by and_intros <;> kernel_rfl
theorem tf33 :
 szOf Tryz.prog 286 = some (1, false) ∧
 zerOf Tryz.prog 286 = some [.it .i32 0] ∧
 kdOf Tryz.prog 287 = (.int .i32) ∧
 szOf Tryz.prog 287 = some (1, false) ∧
 zerOf Tryz.prog 287 = some [.it .i32 0] ∧
 kdOf Tryz.prog 288 = .other ∧
 szOf Tryz.prog 288 = some (11, true) ∧
 zerOf Tryz.prog 288 = some [.it .u64 0, .it .u64 0, .it .u32 0, .it .u8 0, .it .u8 0, .it .u8 0, .it .u8 0, .ot .nilFunc, (.ot (.pointer none)), .it .i32 0, .it .i32 0] ∧
 strOf Tryz.prog 288 = some ([(0, 1), (1, 1), (2, 1), (3, 1), (4, 1), (5, 1), (6, 1), (7, 1), (8, 1), (9, 1), (10, 1)], [.it .u64 0, .it .u64 0, .it .u32 0, .it .u8 0, .it .u8 0, .it .u8 0, .it .u8 0, .ot .nilFunc, (.ot (.pointer none)), .it .i32 0, .it .i32 0]) ∧
 fldOf Tryz.prog 288 0 = some (0, 1, false) ∧
 fldOf Tryz.prog 288 1 = some (1, 1, false) ∧
 fldOf Tryz.prog 288 2 = some (2, 1, false) ∧
 fldOf Tryz.prog 288 3 = some (3, 1, false) ∧
 fldOf Tryz.prog 288 4 = some (4, 1, false) ∧
 fldOf Tryz.prog 288 5 = some (5, 1, false) ∧
 fldOf Tryz.prog 288 6 = some (6, 1, false) ∧
 fldOf Tryz.prog 288 7 = some (7, 1, false) ∧
 fldOf Tryz.prog 288 8 = some (8, 1, false) ∧
 fldOf Tryz.prog 288 9 = some (9, 1, false) ∧
 fldOf Tryz.prog 288 10 = some (10, 1, false) ∧
 kdOf Tryz.prog 289 = .other ∧
 szOf Tryz.prog 289 = some (11, true) ∧
 zerOf Tryz.prog 289 = some [.it .u64 0, .it .u64 0, .it .u32 0, .it .u8 0, .it .u8 0, .it .u8 0, .it .u8 0, .ot .nilFunc, (.ot (.pointer none)), .it .i32 0, .it .i32 0] ∧
 strOf Tryz.prog 289 = some ([(0, 1), (1, 1), (2, 1), (3, 1), (4, 1), (5, 1), (6, 1), (7, 1), (8, 1), (9, 1), (10, 1)], [.it .u64 0, .it .u64 0, .it .u32 0, .it .u8 0, .it .u8 0, .it .u8 0, .it .u8 0, .ot .nilFunc, (.ot (.pointer none)), .it .i32 0, .it .i32 0]) ∧
 fldOf Tryz.prog 289 0 = some (0, 1, false) ∧
 fldOf Tryz.prog 289 1 = some (1, 1, false) ∧
 fldOf Tryz.prog 289 2 = some (2, 1, false) ∧
 fldOf Tryz.prog 289 3 = some (3, 1, false) ∧
 fldOf Tryz.prog 289 4 = some (4, 1, false) ∧
 fldOf Tryz.prog 289 5 = some (5, 1, false) ∧
 fldOf Tryz.prog 289 6 = some (6, 1, false) ∧
 fldOf Tryz.prog 289 7 = some (7, 1, false) ∧
 fldOf Tryz.prog 289 8 = some (8, 1, false) ∧
 fldOf Tryz.prog 289 9 = some (9, 1, false) ∧
 fldOf Tryz.prog 289 10 = some (10, 1, false) ∧
 kdOf Tryz.prog 290 = .other ∧
 szOf Tryz.prog 290 = some (1, true) ∧
 zerOf Tryz.prog 290 = some [(.st [])] ∧
 strOf Tryz.prog 290 = some ([(0, 1)], [(.st [])]) ∧
 fldOf Tryz.prog 290 0 = some (0, 1, false) := by and_intros <;> kernel_rfl
theorem tf34 :
 eqsOf Tryz.prog 290 = some [(9, 0, 1, false)] ∧
 Program.eqGuardType Tryz.prog (Program.depth Tryz.prog) 290 = false ∧
 kdOf Tryz.prog 291 = .other ∧
 szOf Tryz.prog 291 = some (1, true) ∧
 zerOf Tryz.prog 291 = some [(.st [])] ∧
 strOf Tryz.prog 291 = some ([(0, 1)], [(.st [])]) ∧
 fldOf Tryz.prog 291 0 = some (0, 1, false) ∧
 eqsOf Tryz.prog 291 = some [(9, 0, 1, false)] ∧
 Program.eqGuardType Tryz.prog (Program.depth Tryz.prog) 291 = false := by and_intros <;> kernel_rfl
end Go.Proofs.YtlefikdjhnaapaaGreatDoor.Pe
end
section
namespace Go.Proofs.YtlefikdjhnaapaaGreatDoor.Pe
open Go
variable [Tab]
set_option maxRecDepth 100000
theorem an {a b : Prop} (x : a) (y : b) : a ∧ b := ⟨x, y⟩
theorem zev {A B : Prop} (h : B) (e : A = B := by
    conv =>
      lhs
      simp only [eraseC, eraseG, eraseO, List.map_cons, List.map_nil, List.map_toArray, List.getElem?_toArray, List.getElem?_cons_zero, List.getElem?_cons_succ, Option.bind_some, Option.bind_none, List.append_eq, List.cons_append, List.nil_append]) : A := e ▸ h
theorem zsl {A : Prop} (h : A := by first | rfl | (simp only [↓upd_apply, ↓put_some, ↓reduceIte, Nat.reduceEqDiff, ↓argEnv_zero, ↓argEnv_succ, *]; done)) : A := h
theorem znl {a b : Nat} (h : Nat.ble a b = true := by rfl) : a ≤ b := Nat.le_of_ble_eq_true h
theorem run {A B : Prop} (h : B) (e : A = B := by
  conv =>
   lhs
   (try simp only [AWs_eq, ARgs_eq, AOps_eq, iteP_true, iteP_false])
   (try simp -implicitDefEqProofs (maxSteps := 4000000) (disch := (first | omega | (simp only [List.length_append, List.length_cons, List.length_map, List.length_nil, List.length_take, List.length_drop]; omega))) only [↓zpre, zpost, cst1, ↓reduceIte, Nat.reduceEqDiff, Nat.reduceAdd, Nat.reduceLT, Nat.reduceLeDiff, Nat.reduceMul, Nat.reduceSub, Int.reduceToNat, Int.reduceAdd, Int.reduceSub, Int.reduceMul, Int.reduceNeg, Int.reduceLE, Int.reduceLT, Int.reduceEq, Int.reduceBEq, Int.reduceBNe, Nat.reduceBEq, Nat.reduceBNe, aBin, aEq, aEqF, aNilEq, aInt, aStr, aUn, aConv, aNil, aFldAddr, aFld, aIdxAddr, aIdx, aBui, aLoad, aStore, aLits, aLit, aMake, aMakeW, aMapSet, aLook, kfind, keq, kok, lookOut, aMk, aRange, aNext, aBytes, aApp, srcOf, aSlice, aBound, modeCut, apart, aFill, aval, aGd, zobj, zfr, ACall, AV.wk, AV.wk2, AV.wk1, AV.cells, AV.solid, AV.ro, AV.ro1, ← List.map_take, ← List.map_drop, reduceCtorEq, Option.isNone_some, Option.isSome_none, tf0, tf1, tf2, tf3, tf4, tf5, tf6, tf7, tf8, tf9, tf10, tf11, tf12, tf13, tf14, tf15, tf16, tf17, tf18, tf19, tf20, tf21, tf22, tf23, tf24, tf25, tf26, tf27, tf28, tf29, tf30, tf31, tf32, tf33, tf34])
   (try simp only [iteP_true, iteP_false])) : A := e ▸ h
theorem runf {F A B : Prop} (f : F) (h : B) (e : F → A = B := by
  intro f
  conv =>
   lhs
   (try simp only [AWs_eq, ARgs_eq, AOps_eq, iteP_true, iteP_false])
   (try simp -implicitDefEqProofs (maxSteps := 4000000) (disch := (first | omega | (simp only [List.length_append, List.length_cons, List.length_map, List.length_nil, List.length_take, List.length_drop]; omega))) only [↓zpre, zpost, cst1, ↓reduceIte, Nat.reduceEqDiff, Nat.reduceAdd, Nat.reduceLT, Nat.reduceLeDiff, Nat.reduceMul, Nat.reduceSub, Int.reduceToNat, Int.reduceAdd, Int.reduceSub, Int.reduceMul, Int.reduceNeg, Int.reduceLE, Int.reduceLT, Int.reduceEq, Int.reduceBEq, Int.reduceBNe, Nat.reduceBEq, Nat.reduceBNe, aBin, aEq, aEqF, aNilEq, aInt, aStr, aUn, aConv, aNil, aFldAddr, aFld, aIdxAddr, aIdx, aBui, aLoad, aStore, aLits, aLit, aMake, aMakeW, aMapSet, aLook, kfind, keq, kok, lookOut, aMk, aRange, aNext, aBytes, aApp, srcOf, aSlice, aBound, modeCut, apart, aFill, aval, aGd, zobj, zfr, ACall, AV.wk, AV.wk2, AV.wk1, AV.cells, AV.solid, AV.ro, AV.ro1, ← List.map_take, ← List.map_drop, reduceCtorEq, Option.isNone_some, Option.isSome_none, tf0, tf1, tf2, tf3, tf4, tf5, tf6, tf7, tf8, tf9, tf10, tf11, tf12, tf13, tf14, tf15, tf16, tf17, tf18, tf19, tf20, tf21, tf22, tf23, tf24, tf25, tf26, tf27, tf28, tf29, tf30, tf31, tf32, tf33, tf34, f])
   (try simp only [iteP_true, iteP_false])) : A := e f ▸ h
section
variable {P : Program} {pf rf : List FuncId} {e : Env} {f : FuncId} {d : Option Nat} {rest : List AO} {K : Env → Store → Prop}
theorem cp {args args' : List AV} {S : Store} {v : AV} (h : AC P f args' [] v []) (h' : ARg P pf rf rest (put e d v) S K)
  (ha : args.map AV.wk = args' := by rfl) (hk : args'.all (AV.ok 0) = true := by rfl) (hv : v.ok 0 = true := by rfl) : callP (PureC P f args S) (ARgk P pf rf d rest e K) := call_pure h ha hk hv h'
theorem o0_mono {v : AV} {n m : Nat} (h : v.o0 n = true) (hm : n ≤ m) : v.o0 m = true := by
 cases v with
 | sl mo es => cases mo <;> simp_all [AV.o0]; omega
 | ptr l o => simp only [AV.o0, decide_eq_true_eq] at *; omega
 | mp l => simp only [AV.o0, decide_eq_true_eq] at *; omega
 | ws l o k c => simp only [AV.o0, decide_eq_true_eq] at *; omega
 | wr l k o => simp only [AV.o0, decide_eq_true_eq] at *; omega
 | _ => simp_all [AV.o0]
theorem o1_mono {v : AV} {n m : Nat} (h : v.o1 n = true) (hm : n ≤ m) : v.o1 m = true := by
 cases v with
 | fn g a c =>
  simp only [AV.o1, Bool.and_eq_true, List.all_eq_true] at *
  exact ⟨fun x hx => o0_mono (h.1 x hx) hm, fun x hx => o0_mono (h.2 x hx) hm⟩
 | bo b => exact o0_mono (v := .bo b) h hm
 | it k i => exact o0_mono (v := .it k i) h hm
 | st l => exact o0_mono (v := .st l) h hm
 | ot v => exact o0_mono (v := .ot v) h hm
 | sl m' es => exact o0_mono (v := .sl m' es) h hm
 | agg cs => exact o0_mono (v := .agg cs) h hm
 | tup vs => exact o0_mono (v := .tup vs) h hm
 | ptr l o => exact o0_mono (v := .ptr l o) h hm
 | pst e o => exact o0_mono (v := .pst e o) h hm
 | mp l => exact o0_mono (v := .mp l) h hm
 | fm es => exact o0_mono (v := .fm es) h hm
 | ws l o k c => exact o0_mono (v := .ws l o k c) h hm
 | wr l k o => exact o0_mono (v := .wr l k o) h hm
 | junk => exact o0_mono (v := .junk) h hm
theorem o2_mono {v : AV} {n m : Nat} (h : v.o2 n = true) (hm : n ≤ m) : v.o2 m = true := by
 cases v with
 | agg cs =>
  simp only [AV.o2, List.all_eq_true] at *
  exact fun x hx => o1_mono (h x hx) hm
 | bo b => exact o1_mono (v := .bo b) h hm
 | it k i => exact o1_mono (v := .it k i) h hm
 | st l => exact o1_mono (v := .st l) h hm
 | ot v => exact o1_mono (v := .ot v) h hm
 | sl m' es => exact o1_mono (v := .sl m' es) h hm
 | tup vs => exact o1_mono (v := .tup vs) h hm
 | ptr l o => exact o1_mono (v := .ptr l o) h hm
 | pst e o => exact o1_mono (v := .pst e o) h hm
 | fn f a c => exact o1_mono (v := .fn f a c) h hm
 | mp l => exact o1_mono (v := .mp l) h hm
 | fm es => exact o1_mono (v := .fm es) h hm
 | ws l o k c => exact o1_mono (v := .ws l o k c) h hm
 | wr l k o => exact o1_mono (v := .wr l k o) h hm
 | junk => exact o1_mono (v := .junk) h hm
theorem ok_mono {v : AV} {n m : Nat} (h : v.ok n = true) (hm : n ≤ m) : v.ok m = true := by
 cases v with
 | tup cs =>
  simp only [AV.ok, List.all_eq_true] at *
  exact fun x hx => o2_mono (h x hx) hm
 | bo b => exact o2_mono (v := .bo b) h hm
 | it k i => exact o2_mono (v := .it k i) h hm
 | st l => exact o2_mono (v := .st l) h hm
 | ot v => exact o2_mono (v := .ot v) h hm
 | sl m' es => exact o2_mono (v := .sl m' es) h hm
 | agg cs => exact o2_mono (v := .agg cs) h hm
 | ptr l o => exact o2_mono (v := .ptr l o) h hm
 | pst e o => exact o2_mono (v := .pst e o) h hm
 | fn f a c => exact o2_mono (v := .fn f a c) h hm
 | mp l => exact o2_mono (v := .mp l) h hm
 | fm es => exact o2_mono (v := .fm es) h hm
 | ws l o k c => exact o2_mono (v := .ws l o k c) h hm
 | wr l k o => exact o2_mono (v := .wr l k o) h hm
 | junk => exact o2_mono (v := .junk) h hm
theorem ren_all {us : List AV} (h : us.all (AV.ok 0) = true) (ρ : Nat → Nat) : us.map (AV.ren ρ) = us := map_id_of h fun v hv => ren_id hv (fun i hi => absurd hi (Nat.not_lt_zero _))
theorem sren0 {o : SObj} (h : o.ok 0 = true) (ρ : Nat → Nat) : o.ren ρ = o := by
 cases o with
 | cells cs =>
  have : cs.map (AV.r1 ρ) = cs := map_id_of (p := AV.o1 0) h fun v hv => by
   have := ren_id (ρ := ρ) (v := .agg [v]) (n := 0) (by simpa [AV.ok, AV.o2] using hv) (fun i hi => absurd hi (Nat.not_lt_zero _))
   simpa [AV.ren, AV.r2] using this
  show SObj.cells _ = _
  rw [this]
 | row cs e sz =>
  have : cs.map (AV.r1 ρ) = cs := map_id_of (p := AV.o1 0) h fun v hv => by
   have := ren_id (ρ := ρ) (v := .agg [v]) (n := 0) (by simpa [AV.ok, AV.o2] using hv) (fun i hi => absurd hi (Nat.not_lt_zero _))
   simpa [AV.ren, AV.r2] using this
  show SObj.row _ _ _ = _
  rw [this]
 | map es =>
  have h := List.all_eq_true.1 h
  show SObj.map _ = SObj.map es
  congr 1
  rw [List.map_congr_left (g := id) fun p hp => ?_, List.map_id]
  have := h p hp
  simp only [Bool.and_eq_true] at this
  have h1 := ren_id (ρ := ρ) (v := .agg [p.1]) (n := 0) (by simpa [AV.ok, AV.o2] using this.1) (fun i hi => absurd hi (Nat.not_lt_zero _))
  have h2 := ren_id (ρ := ρ) (v := .tup [p.2]) (n := 0) (by simpa [AV.ok] using this.2) (fun i hi => absurd hi (Nat.not_lt_zero _))
  have h1 : p.1.r1 ρ = p.1 := by simpa [AV.ren, AV.r2] using h1
  have h2 : p.2.r2 ρ = p.2 := by
   have h2 : AV.tup [p.2.r2 ρ] = AV.tup [p.2] := h2
   simp only [AV.tup.injEq, List.cons.injEq, and_true] at h2
   exact h2
  rw [h1, h2]; rfl
 | loop b D fn es ps asn bdy st =>
  have : es.map (AV.ren ρ) = es := map_id_of (p := AV.ok 0) h fun v hv => ren_id hv (fun i hi => absurd hi (Nat.not_lt_zero _))
  show SObj.loop _ _ _ _ _ _ _ _ = _
  rw [this]
 | _ => rfl
theorem sok1 {o : SObj} (h : o.ok 0 = true) : o.ok 1 = true := by
 cases o with
 | cells cs =>
  refine List.all_eq_true.2 fun v hv => ?_
  have := List.all_eq_true.1 h v hv
  have := ok_mono (v := .agg [v]) (n := 0) (m := 1) (by simpa [AV.ok, AV.o2] using this) (Nat.zero_le 1)
  simpa [AV.ok, AV.o2] using this
 | row cs e sz =>
  refine List.all_eq_true.2 fun v hv => ?_
  have := List.all_eq_true.1 h v hv
  have := ok_mono (v := .agg [v]) (n := 0) (m := 1) (by simpa [AV.ok, AV.o2] using this) (Nat.zero_le 1)
  simpa [AV.ok, AV.o2] using this
 | map es =>
  refine List.all_eq_true.2 fun p hp => ?_
  have := List.all_eq_true.1 h p hp
  simp only [Bool.and_eq_true] at *
  exact ⟨o1_mono this.1 (Nat.zero_le 1), o2_mono this.2 (Nat.zero_le 1)⟩
 | loop b D fn es ps asn bdy st => exact List.all_eq_true.2 fun v hv => ok_mono (List.all_eq_true.1 h v hv) (Nat.zero_le 1)
 | _ => rfl
theorem AC.here {args : List AV} {o o' : SObj} {v : AV} (h : AC P f (.ptr 0 0 :: args) [o] v [o']) (l : Nat) (T : Store) (ho : o.ok 0 = true) (ho' : o'.ok 0 = true) (ha : args.all (AV.ok 0) = true) (hv : v.ok 0 = true) (hT : T[l]? = some o) :
  AC P f (.ptr l 0 :: args) T v (T.set l o') := by
 have ha1 : ∀ u ∈ args, u.ok 1 = true := fun u hu => ok_mono (List.all_eq_true.1 ha u hu) (Nat.zero_le 1)
 have := AC.at1 h l (by rw [sren0 ho]; exact hT) (by simp only [List.all_cons, Bool.and_eq_true]; exact ⟨rfl, List.all_eq_true.2 ha1⟩) (ok_mono hv (Nat.zero_le 1)) (sok1 ho) (sok1 ho')
 rw [List.map_cons, ren_all ha, sren0 ho', ren_id hv (fun i hi => absurd hi (Nat.not_lt_zero _))] at this
 exact this
theorem c1 {args gargs : List AV} {T : Store} {o o' : SObj} {v : AV} (l : Nat) (h : AC P f (.ptr 0 0 :: args) [o] v [o']) (h' : ARg P pf rf rest (put e d v) (T.set l o') K)
  (ho : o.ok 0 = true := by rfl) (ho' : o'.ok 0 = true := by rfl) (ha : args.all (AV.ok 0) = true := by rfl) (hv : v.ok 0 = true := by rfl) (hT : T[l]? = some o := by rfl) (hg : gargs.map AV.wk = .ptr l 0 :: args := by rfl) :
  callP (AnyC P f gargs T) (ARgk P pf rf d rest e K) :=
 call_mk (show AC P f (gargs.map AV.wk) T v (T.set l o') by rw [hg]; exact h.here l T ho ho' ha hv hT) h'
theorem c1r {args gargs : List AV} {T : Store} {o : SObj} {v : AV} (l : Nat) (h : AC P f (.ptr 0 0 :: args) [o] v [o]) (h' : ARg P pf rf rest (put e d v) T K)
  (ho : o.ok 0 = true := by rfl) (ha : args.all (AV.ok 0) = true := by rfl) (hv : v.ok 0 = true := by rfl) (hT : T[l]? = some o := by rfl) (hg : gargs.map AV.wk = .ptr l 0 :: args := by rfl) (hset : T.set l o = T := by rfl) :
  callP (ReadC P f gargs T) (ARgk P pf rf d rest e K) :=
 call_mk (show (∀ R, AC P f (gargs.map AV.wk) (T ++ R) v (T ++ R)) ∧ T = T from ⟨fun R => by
  rw [hg]
  have := h.here l (T ++ R) ho ho ha hv (get_app hT R)
  rw [List.set_append_left _ _ (List.getElem?_eq_some_iff.1 hT).1, hset] at this
  exact this, rfl⟩) h'
end
theorem Weak.freeze (N0 : Nat) {e : Env} {S : Store} (d l : Nat) {es : List (AV × AV)} (hd : e d = .mp l) (hS : S[l]? = some (.map es)) (hok : (SObj.map es).ok 0 = true) : Weak N0 e S (upd e d (.fm es)) (S.set l .dead) := by
 rintro N w0 g0 a w hn ⟨h1, h2, g, h3, h4, h5⟩
 have hlS := (List.getElem?_eq_some_iff.1 hS).1
 obtain ⟨hb, hown, hG, me, clock, hheap, hsz, hlt, hnd, hrel⟩ := h3.obj l _ hS
 have hln : l < g.nid := by rw [h3.nid]; exact hlS
 let g' : Gh := { g with G := fun x => if x = g.pl l then 1 else g.G x }
 have hne : ∀ b, 0 < g.G b → b ≠ g.pl l := fun b h e => by rw [e, hG] at h; exact absurd h (Nat.lt_irrefl 0)
 have hle : Le w g w g' := ⟨fun _ _ _ _ h => h, fun b o v hb _ => by
  show o < (if b = g.pl l then 1 else g.G b)
  rw [if_neg (hne b (by omega))]; exact hb, Nat.le_refl _, fun _ _ => ⟨rfl, .inl ⟨rfl, rfl, rfl⟩⟩, fun b me c hg hm => ⟨by
  show 0 < (if b = g.pl l then 1 else g.G b)
  rw [if_neg (hne b hg)]; exact hg, hm⟩⟩
 have hren : RenOk w g w g'.noid id 0 := ⟨hle.noid, fun l hl => absurd hl (Nat.not_lt_zero _)⟩
 have hall := List.all_eq_true.1 (show (es.all fun p => p.1.o1 0 && p.2.o2 0) = true from hok)
 have hko : ∀ u ∈ es, u.1.o1 0 = true ∧ u.2.o2 0 = true := fun u hu => by simpa using hall u hu
 refine ⟨h1, h2, g', ⟨by rw [List.length_set]; exact h3.nid, fun k o hk => ?_, h3.disj, h3.lt, h3.tab.le hle⟩, fun t => ?_, h5.trans ⟨hle, rfl, rfl, rfl, Nat.le_refl _, fun _ _ _ => rfl, fun _ _ hk hb _ => ⟨hk, hb⟩, fun b _ hno => if_neg (fun e => hno l hln (by rw [e]; exact hown))⟩⟩
 ·by_cases hkl : k = l
  ·subst hkl; rw [List.getElem?_set_self hlS] at hk; cases hk; trivial
  ·rw [List.getElem?_set_ne (Ne.symm hkl)] at hk
   have hkn : k < g.nid := by rw [h3.nid]; exact (List.getElem?_eq_some_iff.1 hk).1
   refine (h3.obj k o hk).keep hle rfl rfl rfl rfl rfl (fun b hb' => ?_) (fun _ _ => rfl)
   exact if_neg (fun e => hkl (h3.disj k l b hkn hln hb' (by rw [e]; exact hown)))
 ·by_cases htd : t = d
  ·subst htd
   rw [upd_same]
   have ht := h4 t
   rw [hd] at ht
   generalize a.tmps.getD t undef = cv at ht
   cases ht
   refine .fm _ es (g.pl l) me clock (by show 0 < (if g.pl l = g.pl l then 1 else _); rw [if_pos rfl]; exact Nat.one_pos) hheap hsz (fun j u x hu hx => ?_) fun j u x hu hx => ?_
   ·have := (hrel j u x hu hx).1.r1 hren (hko u (List.mem_of_getElem? hu)).1
    rwa [r1_id (hko u (List.mem_of_getElem? hu)).1 (fun i hi => absurd hi (Nat.not_lt_zero _))] at this
   ·have := (hrel j u x hu hx).2.r2 hren (hko u (List.mem_of_getElem? hu)).2
    rwa [r2_id (hko u (List.mem_of_getElem? hu)).2 (fun i hi => absurd hi (Nat.not_lt_zero _))] at this
  ·rw [upd_ne e htd]; exact (h4 t).le hle
theorem AC.newAt {P : Program} {f : FuncId} {args : List AV} {o : SObj} (h : AC P f args [] (.ptr 0 0) [o]) (T : Store) (ha : args.all (AV.ok 0) = true := by rfl) (ho : o.ok 0 = true := by rfl) : AC P f args T (.ptr T.length 0) (T ++ [o]) := by
 have := AC.fresh1 h ha rfl (sok1 ho) T
 rw [sren0 ho] at this
 simpa [AV.ren, AV.r2, AV.r1, AV.r0] using this
theorem er0 {P : Program} {rs : List ResultVar} {v : AV} {e : Env} {S : Store} {vs : List AV} (h : aRes P rs e S = some vs := by rfl) (hk : v.ok 0 = true := by rfl) (hv : resV vs = v := by rfl) : finQ P rs 0 v [] .ret e S := ends_ret0 h hk hv
theorem er1 {P : Program} {rs : List ResultVar} {v : AV} {e : Env} {S : Store} {o : SObj} {vs : List AV} (h : aRes P rs e S = some vs := by rfl) (ho : o.ok 1 = true := by rfl) (hS : S[0]? = some (o.ren (idx [0])) := by rfl) (hk : v.ok 1 = true := by rfl) (hv : resV vs = v.ren (idx [0]) := by rfl) : finQ P rs 1 v [o] .ret e S :=
 ends_ret (κ := [0]) h (subOk_one 0 ho hS) rfl hk hv
theorem en1 {P : Program} {rs : List ResultVar} {v : AV} {e : Env} {S : Store} {o : SObj} {vs : List AV} (h : aRes P rs e S = some vs := by rfl) (ho : o.ok 1 = true := by rfl) (hS : S[0]? = some (o.ren (idx [0])) := by rfl) (hk : v.ok 1 = true := by rfl) (hv : resV vs = v.ren (idx [0]) := by rfl) : finQ P rs 1 v [o] .norm e S :=
 ⟨e, S, vs, [0], Weak.refl 1 e S, h, subOk_one 0 ho hS, rfl, hk, .inl hv⟩
theorem er0w {P : Program} {rs : List ResultVar} {v : AV} {e : Env} {S : Store} {vs : List AV} (h : aRes P rs e S = some vs := by rfl) (hk : v.ok 0 = true := by rfl) (hv : (resV vs).wk = v := by rfl) : finQ P rs 0 v [] .ret e S := ends_ret0w h hk hv
end Go.Proofs.YtlefikdjhnaapaaGreatDoor.Pe
end
section
namespace Go.Proofs.YtlefikdjhnaapaaGreatDoor.Pe
open Go Co
variable [Tab]
set_option maxRecDepth 100000
abbrev sls (l : List By) : AV := .sl .ro (l.map .st)
abbrev rd (x : R) : SObj := .cells [.st x.rest, .bo x.bad]
theorem wrap8 {n : Int} (h : 0 ≤ n) (h' : n < 256) : IntKind.u8.wrap n = n := by
 show n % 2 ^ 8 = n
 omega
theorem ofNat8 {n : Nat} (h : n < 256) : (UInt8.ofNat n).toNat = n := by
 rw [UInt8.toNat_ofNat']; omega
theorem snoc8 (acc : By) (b : UInt8) : acc.map u8 ++ [AV.it .u8 (b.toNat : Int)] = (acc ++ [b]).map u8 := by simp [u8]
theorem num_c (n : Int) (h : n < 9223372036854775808) (h0 : -9223372036854775808 ≤ n) : AC Tryz.prog 57 [.it .i64 n] [] (.st (numI n)) [] := by
 refine AC.enter [] [] Tryz.func57 rfl (by decide) (by decide) znl (by kernel_rfl) ?_; refine zev ?_
 by_cases hn : n < 0
 ·rw [show numI n = [] from if_pos hn]
  refine run ?_
  exact er0
 obtain ⟨k, rfl⟩ := Int.eq_ofNat_of_zero_le (show 0 ≤ n by omega)
 rw [numI_nat]
 refine run ?_
 refine loop_mk' (fun m e S => ∃ (acc : By) (j : Nat), e 0 = .it .i64 (j : Int) ∧ e 3 = .sl (.own 0) (acc.map u8) ∧ S = [.buf acc.length 5 1] ∧ acc ++ num j = num k ∧ j ≤ k ∧ acc.length + j ≤ k ∧ m = j) k _ _ (Weak.reserve 0 3 (es := []) (by rfl) 5 1) ⟨[], k, zsl, zsl, rfl, rfl, Nat.le_refl _, by simp, rfl⟩ ?_
 rintro q e S ⟨acc, q, s0, s3, rfl, hnum, hj, hacc, rfl⟩
 have hal : acc.length ≤ 8 := by
  have e1 := congrArg List.length hnum
  have e2 := num_le 8 k (by omega)
  have e3 := num_len q
  rw [List.length_append] at e1
  omega
 by_cases hs : q < 128
 ·have hb : IntKind.u8.wrap (q : Int) = ((UInt8.ofNat q).toNat : Int) := by rw [wrap8 (by omega) (by omega), ofNat8 (by omega)]
  have hsn := snoc8 acc (UInt8.ofNat q)
  rw [num_small hs] at hnum
  refine runf (an @s0 (an @s3 (an @hb @hsn))) ?_
  rw [← hnum]
  exact er0
 ·have ht : (q : Int).tmod 128 = ((q % 128 : Nat) : Int) := by rw [Int.tmod_eq_emod_of_nonneg (by omega)]; omega
  have hd : (q : Int).tdiv 128 = ((q / 128 : Nat) : Int) := by rw [Int.tdiv_eq_ediv_of_nonneg (by omega)]; omega
  have hb : IntKind.u8.wrap (128 + ((q % 128 : Nat) : Int)) = ((UInt8.ofNat (128 + q % 128)).toNat : Int) := by rw [wrap8 (by omega) (by omega), ofNat8 (by omega)]; omega
  rw [num_big hs] at hnum
  refine runf (an @s0 (an @s3 (an @ht (an @hd @hb)))) ?_
  refine round_mk (q / 128) (by omega) ⟨acc ++ [UInt8.ofNat (128 + q % 128)], q / 128, zsl, by rw [← snoc8]; exact zsl, by rw [List.length_append]; rfl, by rw [List.append_assoc]; exact hnum, by omega, by rw [List.length_append, List.length_singleton]; omega, rfl⟩
theorem text_c (s : By) (h : s.length ≤ 140737488355328) : AC Tryz.prog 56 [.st s] [] (.st (text s)) [] := by
 refine AC.enter [57] [] Tryz.func56 rfl (by decide) (by decide) znl (by kernel_rfl) ?_; refine zev ?_
 have hl := numI_le (s.length : Int) (by omega)
 refine run ?_
 refine cp (num_c s.length (by omega) (by omega)) ?_
 rw [numI_nat] at *
 refine run ?_
 exact er0
theorem open_c (s : By) : AC Tryz.prog 96 [.st s] [] (.ptr 0 0) [rd ⟨s, false⟩] := by
 refine AC.enter [] [] Tryz.func96 rfl (by decide) (by decide) znl (by kernel_rfl) ?_; refine zev ?_
 refine run ?_
 exact ends_ret [0] (by rfl) (subOk_one 0 (by rfl) (by rfl)) (by rfl) (by rfl) (by rfl)
theorem fail_c (x : R) : AC Tryz.prog 177 [.ptr 0 0] [rd x] (.tup []) [rd Co.fail] := by
 refine AC.enter [] [] Tryz.func177 rfl (by decide) (by decide) znl (by kernel_rfl) ?_; refine zev ?_
 refine run ?_
 exact en1
theorem left_c (x : R) : AC Tryz.prog 135 [.ptr 0 0] [rd x] (.it .i64 x.rest.length) [rd x] := by
 refine AC.enter [] [] Tryz.func135 rfl (by decide) (by decide) znl (by kernel_rfl) ?_; refine zev ?_
 refine run ?_
 exact er1
theorem done_c (x : R) : AC Tryz.prog 99 [.ptr 0 0] [rd x] (.bo (!x.bad && x.rest == [])) [rd x] := by
 refine AC.enter [] [] Tryz.func99 rfl (by decide) (by decide) znl (by kernel_rfl) ?_; refine zev ?_
 obtain ⟨r, b⟩ := x
 cases b
 ·refine run ?_
  exact er1
 ·refine run ?_
  exact er1
theorem take_c (x : R) (n : Nat) (hn : n < 9223372036854775808) (hx : x.rest.length < 9223372036854775808) : AC Tryz.prog 134 [.ptr 0 0, .it .i64 n] [rd x] (.st (x.take n).1) [rd (x.take n).2] := by
 refine AC.enter [] [] Tryz.func134 rfl (by decide) (by decide) znl (by kernel_rfl) ?_; refine zev ?_
 obtain ⟨r, b⟩ := x
 unfold R.take
 cases b
 rotate_left
 ·rw [if_pos (.inl rfl)]
  refine run ?_
  refine c1 0 (fail_c ⟨r, true⟩) ?_
  refine run ?_
  exact er1
 by_cases h : r.length < n
 ·rw [if_pos (.inr h)]
  refine run ?_
  refine c1 0 (fail_c ⟨r, false⟩) ?_
  refine run ?_
  exact er1
 ·rw [if_neg (by simp; omega)]
  refine run ?_
  exact er1
set_option maxHeartbeats 3200000 in
theorem rnum_c (x : R) (hx : x.rest.length < 9223372036854775808) : AC Tryz.prog 98 [.ptr 0 0] [rd x] (.it .i64 x.num.1) [rd x.num.2] := by
 refine AC.enter [] [] Tryz.func98 rfl (by decide) (by decide) znl (by kernel_rfl) ?_; refine zev ?_
 refine run ?_
 refine loop_mk (fun m e S => ∃ (i acc : Nat), e 0 = .ptr 0 0 ∧ e 3 = .it .i64 (acc : Int) ∧ e 4 = .it .i64 (i : Int) ∧ S = [rd x] ∧ i ≤ 9 ∧ i ≤ x.rest.length ∧ acc < 2 ^ (7 * i) ∧ rdN x.rest 0 0 = rdN (x.rest.drop i) i acc ∧ m = 9 - i) 9 ⟨0, 0, zsl, zsl, zsl, rfl, by omega, by omega, by simp, rfl, rfl⟩ ?_
 rintro m e S ⟨i, acc, s0, s3, s4, rfl, hi, hil, hacc, hrd, rfl⟩
 by_cases hlt : i < x.rest.length
 rotate_left
 ·have hnum : x.num = (0, Co.fail) := by unfold R.num; rw [hrd, List.drop_eq_nil_of_le (by omega)]; rfl
  rw [hnum]
  refine runf (an @s0 (an @s3 @s4)) ?_
  refine c1 0 (fail_c x) ?_
  refine runf (an @s0 (an @s3 @s4)) ?_
  exact er1
 have hdr : x.rest.drop i = x.rest[i] :: x.rest.drop (i + 1) := List.drop_eq_getElem_cons hlt
 have hg : x.rest[i]? = some x.rest[i] := List.getElem?_eq_getElem hlt
 generalize x.rest[i] = d at *
 have hu : u8 d = .it .u8 (d.toNat : Int) := rfl
 rw [hdr, rdN_cons] at hrd
 by_cases h9 : 9 ≤ i
 ·rw [if_pos h9] at hrd
  have hnum : x.num = (0, Co.fail) := by unfold R.num; rw [hrd]
  rw [hnum]
  refine runf (an @s0 (an @s3 @s4)) ?_
  refine c1 0 (fail_c x) ?_
  refine runf (an @s0 (an @s3 @s4)) ?_
  exact er1
 rw [if_neg h9] at hrd
 have hd : d.toNat < 256 := d.toNat_lt
 have hp : 2 ^ (7 * (i + 1)) = 128 * 2 ^ (7 * i) := by rw [show 7 * (i + 1) = 7 + 7 * i from by omega, Nat.pow_add]
 have hq : 2 ^ (7 * (i + 1)) ≤ 2 ^ 63 := Nat.pow_le_pow_right (by omega) (by omega)
 have hshl : ∀ c : Nat, c ≤ 127 → aShl .i64 (c : Int) (7 * (i : Int)) = some (.it .i64 ((c * 2 ^ (7 * i) : Nat) : Int)) := fun c hc => by
  have hc' : c * 2 ^ (7 * i) ≤ 127 * 2 ^ (7 * i) := Nat.mul_le_mul_right _ hc
  unfold aShl
  rw [if_pos (by omega)]
  congr 2
  rw [show ((7 : Int) * (i : Int)).toNat = 7 * i from by omega, show min (7 * i) IntKind.i64.bits = 7 * i from Nat.min_eq_left (by show _ ≤ 64; omega)]
  rw [show ((c : Int) * 2 ^ (7 * i)) = ((c * 2 ^ (7 * i) : Nat) : Int) from by push_cast; rfl]
  exact wrap64 (by omega) (by omega)
 by_cases h128 : 128 ≤ d.toNat
 ·rw [if_pos h128] at hrd
  have hc : (d.toNat - 128) * 2 ^ (7 * i) ≤ 127 * 2 ^ (7 * i) := Nat.mul_le_mul_right _ (by omega)
  have hsub : IntKind.u8.wrap ((d.toNat : Int) - 128) = ((d.toNat - 128 : Nat) : Int) := by rw [wrap8 (by omega) (by omega)]; omega
  have hsh := hshl (d.toNat - 128) (by omega)
  have hor := or_add acc (d.toNat - 128) (7 * i) hacc (by omega)
  generalize (d.toNat - 128) * 2 ^ (7 * i) = c at *
  refine runf (an @s0 (an @s3 (an @s4 (an @hg (an @hu (an @hsub (an @hsh @hor))))))) ?_
  exact round_mk (9 - (i + 1)) (by omega) ⟨i + 1, acc + c, zsl, zsl, zsl, rfl, by omega, by omega, by omega, hrd, rfl⟩
 rw [if_neg h128] at hrd
 by_cases hz : d.toNat = 0 ∧ 0 < i
 ·rw [if_pos hz] at hrd
  have hnum : x.num = (0, Co.fail) := by unfold R.num; rw [hrd]
  have hz0 := hz.1
  have hz1 := hz.2
  rw [hnum]
  refine runf (an @s0 (an @s3 (an @s4 (an @hg (an @hu @hz0))))) ?_
  refine c1 0 (fail_c x) ?_
  refine runf (an @s0 (an @s3 @s4)) ?_
  exact er1
 ·rw [if_neg hz] at hrd
  have hnum : x.num = (acc + d.toNat * 2 ^ (7 * i), ⟨x.rest.drop (i + 1), x.bad⟩) := by unfold R.num; rw [hrd]
  have hc : d.toNat * 2 ^ (7 * i) ≤ 127 * 2 ^ (7 * i) := Nat.mul_le_mul_right _ (by omega)
  have hsh := hshl d.toNat (by omega)
  have hor := or_add acc d.toNat (7 * i) hacc (by omega)
  rw [hnum]
  generalize d.toNat * 2 ^ (7 * i) = c at *
  have hdd : x.rest.take x.rest.length = x.rest := List.take_length
  by_cases hz0 : d.toNat = 0
  ·have hi0 : i = 0 := by omega
   subst hi0
   refine runf (an @s0 (an @s3 (an @s4 (an @hg (an @hu (an @hsh (an @hor @hdd))))))) ?_
   exact er1
  ·refine runf (an @s0 (an @s3 (an @s4 (an @hg (an @hu (an @hsh (an @hor @hdd))))))) ?_
   exact er1
theorem rtext_c (x : R) (hx : x.rest.length < 9223372036854775808) : AC Tryz.prog 97 [.ptr 0 0] [rd x] (.st x.text.1) [rd x.text.2] := by
 refine AC.enter [] [] Tryz.func97 rfl (by decide) (by decide) znl (by kernel_rfl) ?_; refine zev ?_
 have h1 := num_lt x
 have h2 := num_rest x
 refine run ?_
 refine c1 0 (rnum_c x hx) ?_
 refine run ?_
 refine c1 0 (take_c x.num.2 x.num.1 (by omega) (by omega)) ?_
 refine run ?_
 exact er1
theorem num_len9 {n : Nat} (h : n < 9223372036854775808) : (num n).length ≤ 9 := num_le 8 n (by omega)
theorem text_len {s : By} (h : s.length ≤ 1000000) : (text s).length ≤ 1000009 := by
 have := num_len9 (n := s.length) (by omega)
 unfold text; rw [List.length_append]; omega
theorem fl_take {l : List By} {k : Nat} (hk : k < l.length) : ((l.take (k + 1)).map text).flatten = ((l.take k).map text).flatten ++ text l[k] := by
 rw [List.take_succ_eq_append_getElem hk, List.map_append, List.flatten_append]
 congr 1
 exact List.append_nil _
theorem fl_len {l : List By} (hx : ∀ x ∈ l, x.length ≤ 1000000) : (l.map text).flatten.length ≤ l.length * 1000009 := by
 induction l with
 | nil => simp
 | cons a l ih =>
  have h1 := ih fun x h => hx x (by simp [h])
  have h2 := text_len (hx a (by simp))
  rw [List.map_cons, List.flatten_cons, List.length_append, List.length_cons, Nat.succ_mul]; omega
theorem list_len {l : List By} (hl : l.length ≤ 1000000) (hx : ∀ x ∈ l, x.length ≤ 1000000) : (list l).length ≤ 1000009000009 := by
 have := num_len9 (n := l.length) (by omega)
 have h2 := fl_len hx
 have h3 : l.length * 1000009 ≤ 1000000 * 1000009 := Nat.mul_le_mul_right _ hl
 unfold list; rw [List.length_append]; omega
theorem writeList_c (l : List By) (hl : l.length ≤ 1000000) (hx : ∀ x ∈ l, x.length ≤ 1000000) : AC Tryz.prog 298 [sls l, .fn (.func 56) [] []] [] (.st (list l)) [] := by
 refine AC.enter [57, 1000019] [] Tryz.func298 rfl (by decide) (by decide) znl (by kernel_rfl) ?_; refine zev ?_
 have hn9 := num_len9 (n := l.length) (by omega)
 refine run ?_
 refine cp (num_c l.length (by omega) (by omega)) ?_
 rw [numI_nat]
 refine run ?_
 refine loop_mk (fun m e S => e 1 = .fn (.func 56) [] [] ∧ e 12 = sls l ∧ e 13 = .it .i64 (l.length : Int) ∧ ∃ (k : Nat) (acc : By), e 5 = .sl (.own 0) (acc.map u8) ∧ e 14 = .it .i64 (k : Int) ∧ S = [.buf acc.length 5 1] ∧ acc = num l.length ++ ((l.take k).map text).flatten ∧ k ≤ l.length ∧ m = l.length - k) l.length
  ⟨zsl, zsl, zsl, 0, num l.length, zsl, zsl, rfl, by simp, by omega, rfl⟩ ?_
 rintro m e S ⟨s1, s12, s13, k, acc, s5, s14, rfl, hacc, hk, rfl⟩
 by_cases hlt : k < l.length
 ·have ga : l[k]? = some l[k] := List.getElem?_eq_getElem hlt
  have hxk := hx l[k] (List.getElem_mem hlt)
  have htl := text_len hxk
  have hal : acc.length ≤ 1000009000009 := by
   have h1 := fl_len (l := l.take k) fun x h => hx x (List.mem_of_mem_take h)
   have h2 : (l.take k).length * 1000009 ≤ 1000000 * 1000009 := Nat.mul_le_mul_right _ (by rw [List.length_take]; omega)
   rw [hacc, List.length_append]; omega
  have hft := fl_take hlt
  generalize l[k] = x at *
  refine runf (an @s1 (an @s5 (an @s12 (an @s13 (an @s14 @ga))))) ?_
  refine cp (text_c x (by omega)) ?_
  refine runf (an @s1 (an @s5 (an @s12 (an @s13 @s14)))) ?_
  refine round_mk (l.length - (k + 1)) (by omega) ⟨zsl, zsl, zsl, k + 1, acc ++ text x, by rw [List.map_append]; exact zsl, zsl, by rw [List.length_append], by rw [hacc, hft, List.append_assoc], by omega, rfl⟩
 ·obtain rfl : k = l.length := by omega
  rw [List.take_length] at hacc
  refine runf (an @s1 (an @s5 (an @s12 (an @s13 @s14)))) ?_
  rw [show list l = acc from hacc.symm]
  exact er0
theorem list_c (l : List By) (hl : l.length ≤ 1000000) (hx : ∀ x ∈ l, x.length ≤ 1000000) : AC Tryz.prog 284 [sls l] [] (.st (list l)) [] := by
 refine AC.enter [298] [] Tryz.func284 rfl (by decide) (by decide) znl (by kernel_rfl) ?_; refine zev ?_
 refine run ?_
 refine cp (writeList_c l hl hx) ?_
 refine run ?_
 exact er0
end Go.Proofs.YtlefikdjhnaapaaGreatDoor.Pe
end
section
namespace Go.Proofs.YtlefikdjhnaapaaGreatDoor.Pe
open Go Co Ac
variable [Tab]
set_option maxRecDepth 100000
theorem dec_big (n b0 b1 b2 b3 : Nat) (h : 128 ≤ b0) : 128 ≤ (Lib.decodeN n b0 b1 b2 b3).1 := by
 unfold Lib.decodeN
 rw [if_neg (by omega)]
 split
 ·split
  ·assumption
  ·decide
 split
 ·split
  ·rename_i h; exact Nat.le_trans (by decide) h.1
  ·decide
 split
 ·split
  ·rename_i h; exact Nat.le_trans (by decide) h.1
  ·decide
 ·decide
theorem rune_at (l : By) (i : Nat) (h : i < l.length) : ∃ r w, runeAt l i = (r, w) ∧ (l[i].toNat < 128 → r = l[i].toNat ∧ w = 1) ∧ (128 ≤ l[i].toNat → 128 ≤ r) := by
 have hg : ((⟨l.toArray⟩ : ByteArray).get! i).toNat = l[i].toNat := by
  show (l.toArray[i]!).toNat = _
  rw [getElem!_pos l.toArray i (by simpa using h)]
  simp
 have e : ∃ n b1 b2 b3, runeAt l i = Lib.decodeN n l[i].toNat b1 b2 b3 := by
  unfold runeAt
  rw [Lib.decode_at, hg]
  exact ⟨_, _, _, _, rfl⟩
 obtain ⟨n, b1, b2, b3, e⟩ := e
 refine ⟨(runeAt l i).1, (runeAt l i).2, rfl, fun hb => ?_, fun hb => ?_⟩
 ·rw [e]
  unfold Lib.decodeN
  rw [if_pos hb]
  exact ⟨rfl, rfl⟩
 ·rw [e]
  exact dec_big _ _ _ _ _ hb
theorem isdigit_c (n : Int) : AC Tryz.prog 225 [.it .i32 n] [] (.bo (decide (48 ≤ n) && decide (n ≤ 57))) [] := by
 refine AC.enter [] [] Tryz.func225 rfl (by decide) (by decide) znl (by kernel_rfl) ?_; refine zev ?_
 by_cases h : 48 ≤ n
 ·rw [decide_eq_true h]
  refine run ?_
  exact er0
 ·rw [decide_eq_false h]
  refine run ?_
  exact er0
theorem idright_c (s : By) (hs : s.length ≤ 140737488355328) : AC Tryz.prog 158 [.st s] [] (.bo (idR s)) [] := by
 refine AC.enter [225] [] Tryz.func158 rfl (by decide) (by decide) znl (by kernel_rfl) ?_; refine zev ?_
 unfold idR
 by_cases hl : s.length = 16
 rotate_left
 ·rw [decide_eq_false hl]
  refine run ?_
  exact er0
 rw [decide_eq_true hl]
 refine run ?_
 refine loop_mk (fun m e S => e 0 = .st s ∧ e 9 = .ptr 0 0 ∧ ∃ k : Nat, S = [.siter s k] ∧ k ≤ s.length ∧ (s.take k).all hexc = true ∧ m = s.length - k) s.length ⟨zsl, zsl, 0, rfl, by omega, rfl, rfl⟩ ?_
 rintro m e S ⟨s0, s9, k, rfl, hk, hall, rfl⟩
 by_cases hlt : k < s.length
 rotate_left
 ·obtain rfl : k = s.length := by omega
  rw [List.take_length] at hall
  rw [hall]
  refine runf (an @s0 (an @s9 @hlt)) ?_
  exact er0
 obtain ⟨r, w, hr, h1, h2⟩ := rune_at s k hlt
 have hx : hexc s[k] = true ↔ (48 ≤ r ∧ r ≤ 57) ∨ (97 ≤ r ∧ r ≤ 102) := by
  unfold hexc
  simp only [Bool.or_eq_true, Bool.and_eq_true, decide_eq_true_eq]
  by_cases h : s[k].toNat < 128
  ·rw [(h1 h).1]
  ·have := h2 (by omega); omega
 have hstep : s.take (k + 1) = s.take k ++ [s[k]] := List.take_succ_eq_append_getElem hlt
 have hbad : hexc s[k] = false → s.all hexc = false := fun h => List.all_eq_false.2 ⟨s[k], List.getElem_mem hlt, by simp [h]⟩
 have hgood : hexc s[k] = true → w = 1 := fun h => by
  refine (h1 ?_).2
  refine Nat.lt_of_not_le fun h' => ?_
  have := h2 h'
  have := hx.1 h
  omega
 generalize s[k] = b at *
 clear h1 h2
 cases hb : hexc b with
 | true =>
  obtain rfl := hgood hb
  have hc := hx.1 hb
  refine runf (an @s0 (an @s9 (an @hlt @hr))) ?_
  refine cp (isdigit_c r) ?_
  rcases hc with ⟨c1, c2⟩ | ⟨c1, c2⟩
  ·refine runf (an @s0 @s9) ?_
   exact round_mk (s.length - (k + 1)) (by omega) ⟨zsl, zsl, k + 1, rfl, by omega, by rw [hstep, List.all_append, hall]; simp [hb], rfl⟩
  ·refine runf (an @s0 @s9) ?_
   exact round_mk (s.length - (k + 1)) (by omega) ⟨zsl, zsl, k + 1, rfl, by omega, by rw [hstep, List.all_append, hall]; simp [hb], rfl⟩
 | false =>
  rw [hbad hb]
  have hc : ¬ ((48 ≤ r ∧ r ≤ 57) ∨ (97 ≤ r ∧ r ≤ 102)) := fun h => by rw [hx.2 h] at hb; cases hb
  clear hbad hgood hx
  refine runf (an @s0 (an @s9 (an @hlt @hr))) ?_
  refine cp (isdigit_c r) ?_
  by_cases c1 : r < 48
  ·refine runf (an @s0 @s9) ?_
   exact er0
  by_cases c2 : r < 97
  ·refine runf (an @s0 @s9) ?_
   exact er0
  ·refine runf (an @s0 @s9) ?_
   exact er0
theorem nameR_false {s : By} {k : Nat} (hk : k < s.length) (h : (if k = 0 then letter s[k] else namec s[k]) = false) : nameR s = false := by
 cases s with
 | nil => rfl
 | cons c r =>
  show (decide (r.length ≤ 23) && letter c && r.all namec) = false
  cases k with
  | zero => simp at h; simp [h]
  | succ k =>
   simp only [List.getElem_cons_succ, Nat.add_one_ne_zero, if_false] at h
   have : r.all namec = false := List.all_eq_false.2 ⟨_, List.getElem_mem (by simpa using hk), by rw [h]; simp⟩
   rw [this]
   simp
theorem nameR_true {s : By} (h0 : 0 < s.length) (hl : s.length ≤ 24) (h : ∀ j (hj : j < s.length), (if j = 0 then letter s[j] else namec s[j]) = true) : nameR s = true := by
 cases s with
 | nil => simp at h0
 | cons c r =>
  show (decide (r.length ≤ 23) && letter c && r.all namec) = true
  have h1 := h 0 (by simp)
  simp only [List.getElem_cons_zero, if_true] at h1
  have h2 : r.all namec = true := List.all_eq_true.2 fun x hx => by
   obtain ⟨j, hj, rfl⟩ := List.getElem_of_mem hx
   have := h (j + 1) (by simp; omega)
   simpa using this
  simp only [List.length_cons] at hl
  rw [h1, h2, decide_eq_true (by omega)]
  rfl
theorem nameR_long {s : By} (h : 24 < s.length) : nameR s = false := by
 cases s with
 | nil => rfl
 | cons c r =>
  simp only [List.length_cons] at h
  show (decide (r.length ≤ 23) && letter c && r.all namec) = false
  rw [decide_eq_false (by omega)]
  rfl
set_option maxHeartbeats 1600000 in
theorem name_c (s : By) (hs : s.length ≤ 140737488355328) : AC Tryz.prog 234 [.st s] [] (.bo (nameR s)) [] := by
 refine AC.enter [225] [] Tryz.func234 rfl (by decide) (by decide) znl (by kernel_rfl) ?_; refine zev ?_
 by_cases h0 : s = []
 ·subst h0
  rw [show nameR [] = false from rfl]
  refine run ?_
  exact er0
 have hne : (s == []) = false := by simpa using h0
 have hpos : 0 < s.length := List.length_pos_iff.2 h0
 by_cases hl : 24 < s.length
 ·rw [nameR_long hl]
  refine runf @hne ?_
  exact er0
 refine runf @hne ?_
 refine loop_mk (fun m e S => e 0 = .st s ∧ e 14 = .ptr 0 0 ∧ ∃ k : Nat, S = [.siter s k] ∧ k ≤ s.length ∧ (∀ j (hj : j < s.length), j < k → (if j = 0 then letter s[j] else namec s[j]) = true) ∧ m = s.length - k) s.length ⟨zsl, zsl, 0, rfl, by omega, fun j _ h => absurd h (Nat.not_lt_zero _), rfl⟩ ?_
 rintro m e S ⟨s0, s14, k, rfl, hk, hall, rfl⟩
 by_cases hlt : k < s.length
 rotate_left
 ·rw [nameR_true hpos (by omega) fun j hj => hall j hj (by omega)]
  refine runf (an @s0 (an @s14 @hlt)) ?_
  exact er0
 obtain ⟨r, w, hr, h1, h2⟩ := rune_at s k hlt
 have hx : (if k = 0 then letter s[k] else namec s[k]) = true ↔ (97 ≤ r ∧ r ≤ 122) ∨ (k ≠ 0 ∧ ((48 ≤ r ∧ r ≤ 57) ∨ r = 95)) := by
  have h3 : s[k].toNat = r ∨ (128 ≤ s[k].toNat ∧ 128 ≤ r) := by
   by_cases h : s[k].toNat < 128
   ·exact .inl (h1 h).1.symm
   ·exact .inr ⟨by omega, h2 (by omega)⟩
  split
  ·rename_i hk0
   simp only [letter, Bool.and_eq_true, decide_eq_true_eq]
   omega
  ·rename_i hk0
   simp only [namec, letter, Bool.or_eq_true, Bool.and_eq_true, decide_eq_true_eq]
   omega
 have hbad := fun h => nameR_false (s := s) (k := k) hlt h
 have hgood : (if k = 0 then letter s[k] else namec s[k]) = true → w = 1 := fun h => by
  refine (h1 ?_).2
  refine Nat.lt_of_not_le fun h' => ?_
  have := h2 h'
  have := hx.1 h
  omega
 have hnext : (if k = 0 then letter s[k] else namec s[k]) = true → ∀ j (hj : j < s.length), j < k + 1 → (if j = 0 then letter s[j] else namec s[j]) = true := fun h j hj hjk => by
  by_cases e : j = k
  ·subst e; exact h
  ·exact hall j hj (by omega)
 generalize (if k = 0 then letter s[k] else namec s[k]) = b at *
 clear h1 h2
 cases b with
 | true =>
  obtain rfl := hgood rfl
  have hc := hx.1 rfl
  have hn := hnext rfl
  clear hbad hgood hx hnext
  rcases hc with c1 | ⟨c0, c1⟩
  ·refine runf (an @s0 (an @s14 (an @hlt @hr))) ?_
   exact round_mk (s.length - (k + 1)) (by omega) ⟨zsl, zsl, k + 1, rfl, by omega, hn, rfl⟩
  ·have c00 : ¬ ((k : Int) = 0) := by omega
   by_cases cl : r < 97
   focus
    refine runf (an @s0 (an @s14 (an @hlt @hr))) ?_
    refine cp (isdigit_c r) ?_
    rcases c1 with c1 | c1
    ·refine runf (an @s0 @s14) ?_
     exact round_mk (s.length - (k + 1)) (by omega) ⟨zsl, zsl, k + 1, rfl, by omega, hn, rfl⟩
    ·subst c1
     refine runf (an @s0 @s14) ?_
     exact round_mk (s.length - (k + 1)) (by omega) ⟨zsl, zsl, k + 1, rfl, by omega, hn, rfl⟩
   exact absurd c1 (by omega)
 | false =>
  rw [hbad rfl]
  have hc : ¬ ((97 ≤ r ∧ r ≤ 122) ∨ (k ≠ 0 ∧ ((48 ≤ r ∧ r ≤ 57) ∨ r = 95))) := fun h => by have := hx.2 h; cases this
  clear hbad hgood hx hnext hall
  by_cases hk0 : k = 0
  ·subst hk0
   by_cases c1 : r < 97
   ·refine runf (an @s0 (an @s14 (an @hlt @hr))) ?_
    exact er0
   ·refine runf (an @s0 (an @s14 (an @hlt @hr))) ?_
    exact er0
  by_cases c1 : r < 97
  focus
   refine runf (an @s0 (an @s14 (an @hlt @hr))) ?_
   refine cp (isdigit_c r) ?_
   by_cases c2 : r < 48
   ·refine runf (an @s0 @s14) ?_
    exact er0
   ·refine runf (an @s0 @s14) ?_
    exact er0
  focus
   refine runf (an @s0 (an @s14 (an @hlt @hr))) ?_
   refine cp (isdigit_c r) ?_
   refine runf (an @s0 @s14) ?_
   exact er0
theorem asc_true : ∀ {l : List By}, (∀ j (h : j + 1 < l.length), (Op.bytesLess l[j + 1] l[j] || l[j + 1] == l[j]) = false) → asc l = true
 | [], _ => rfl
 | [_], _ => rfl
 | a :: b :: r, h => by
  unfold asc
  have h0 := h 0 (by simp)
  simp only [List.getElem_cons_succ, List.getElem_cons_zero] at h0
  rw [h0, asc_true fun j hj => by
   have := h (j + 1) (by simp at hj ⊢; omega)
   simpa using this]
  rfl
theorem asc_false : ∀ {l : List By} {j : Nat} (h : j + 1 < l.length), (Op.bytesLess l[j + 1] l[j] || l[j + 1] == l[j]) = true → asc l = false
 | [], _, h, _ => by simp at h
 | [_], _, h, _ => by simp at h
 | a :: b :: r, 0, _, h => by
  simp only [List.getElem_cons_succ, List.getElem_cons_zero] at h
  unfold asc
  rw [h]
  rfl
 | a :: b :: r, j + 1, hj, h => by
  unfold asc
  rw [asc_false (l := b :: r) (j := j) (by simp at hj ⊢; omega) (by simpa using h)]
  simp
set_option maxHeartbeats 1600000 in
theorem ids_c (l : List By) (hs : ∀ s ∈ l, s.length ≤ 140737488355328) (hl : l.length ≤ 140737488355328) : AC Tryz.prog 237 [sls l] [] (.bo (idsR l)) [] := by
 refine AC.enter [158] [] Tryz.func237 rfl (by decide) (by decide) znl (by kernel_rfl) ?_; refine zev ?_
 unfold idsR
 by_cases h64 : l.length ≤ 64
 rotate_left
 ·rw [decide_eq_false h64]
  refine run ?_
  exact er0
 rw [decide_eq_true h64]
 refine run ?_
 refine loop_mk (fun m e S => S = [] ∧ e 0 = sls l ∧ e 8 = sls l ∧ e 9 = .it .i64 (l.length : Int) ∧ ∃ k : Nat, e 10 = .it .i64 (k : Int) ∧ k ≤ l.length ∧ (∀ j (h : j < l.length), j < k → idR l[j] = true) ∧
  (∀ j (h : j + 1 < l.length), j + 1 < k → (Op.bytesLess l[j + 1] l[j] || l[j + 1] == l[j]) = false) ∧ m = l.length - k) l.length ⟨rfl, zsl, zsl, zsl, 0, zsl, by omega, fun j _ h => absurd h (Nat.not_lt_zero _), fun j _ h => absurd h (Nat.not_lt_zero _), rfl⟩ ?_
 rintro m e S ⟨rfl, s0, s8, s9, k, s10, hk, hid, hasc, rfl⟩
 by_cases hlt : k < l.length
 rotate_left
 ·obtain rfl : k = l.length := by omega
  have h1 : l.all idR = true := List.all_eq_true.2 fun x hx => by
   obtain ⟨j, hj, rfl⟩ := List.getElem_of_mem hx
   exact hid j hj hj
  rw [h1, asc_true fun j h => hasc j h h]
  refine runf (an @s0 (an @s8 (an @s9 @s10))) ?_
  exact er0
 have hg : l[k]? = some l[k] := List.getElem?_eq_getElem hlt
 have hsk := hs l[k] (List.getElem_mem hlt)
 refine runf (an @s0 (an @s8 (an @s9 (an @s10 @hg)))) ?_
 refine cp (idright_c l[k] hsk) ?_
 cases hb : idR l[k] with
 | false =>
  have : l.all idR = false := List.all_eq_false.2 ⟨l[k], List.getElem_mem hlt, by simp [hb]⟩
  rw [this]
  refine runf (an @s0 (an @s8 (an @s9 @s10))) ?_
  exact er0
 | true =>
  have hid' : ∀ j (h : j < l.length), j < k + 1 → idR l[j] = true := fun j h hj => by
   by_cases e : j = k
   ·subst e; exact hb
   ·exact hid j h (by omega)
  cases k with
  | zero =>
   refine runf (an @s0 (an @s8 (an @s9 (an @s10 @hg)))) ?_
   exact round_mk (l.length - 1) (by omega) ⟨rfl, zsl, zsl, zsl, 1, zsl, by omega, hid', fun j _ h => by omega, rfl⟩
  | succ k =>
   have hg' : l[k]? = some l[k] := List.getElem?_eq_getElem (by omega)
   have hc : ((k + 1 : Nat) : Int) - 1 = (k : Int) := by omega
   have hpos : (0 : Int) < ((k + 1 : Nat) : Int) := by omega
   cases hcmp : (Op.bytesLess l[k + 1] l[k] || l[k + 1] == l[k]) with
   | true =>
    rw [asc_false (j := k) hlt hcmp, Bool.and_false]
    refine runf (an @s0 (an @s8 (an @s9 (an @s10 (an @hg (an @hg' (an @hc @hcmp))))))) ?_
    exact er0
   | false =>
    refine runf (an @s0 (an @s8 (an @s9 (an @s10 (an @hg (an @hg' (an @hc @hcmp))))))) ?_
    exact round_mk (l.length - (k + 1 + 1)) (by omega) ⟨rfl, zsl, zsl, zsl, k + 1 + 1, zsl, by omega, hid', fun j h hj => by
     by_cases e : j = k
     ·subst e; exact hcmp
     ·exact hasc j h (by omega), rfl⟩
end Go.Proofs.YtlefikdjhnaapaaGreatDoor.Pe
end
section
namespace Go.Proofs.YtlefikdjhnaapaaGreatDoor.Pe
open Go
variable [Tab]
set_option maxRecDepth 100000
def blen (n : Nat) : Nat := if n = 0 then 0 else Nat.log2 n + 1
theorem blen_shift {n s : Nat} (h : 2 ^ s ≤ n) : blen n = blen (n / 2 ^ s) + s := by
 have hp : 0 < 2 ^ s := Nat.pow_pos (by omega)
 have h1 : 0 < n / 2 ^ s := Nat.div_pos h hp
 unfold blen
 rw [if_neg (by omega), if_neg (by omega)]
 have e : Nat.log2 n = Nat.log2 (n / 2 ^ s) + s := by
  have h2 := (Nat.log2_eq_iff (n := n / 2 ^ s) (k := Nat.log2 (n / 2 ^ s)) (by omega)).1 rfl
  refine (Nat.log2_eq_iff (by omega)).2 ⟨?_, ?_⟩
  ·rw [Nat.pow_add]
   exact (Nat.le_div_iff_mul_le hp).1 h2.1
  ·rw [show Nat.log2 (n / 2 ^ s) + s + 1 = (Nat.log2 (n / 2 ^ s) + 1) + s from by omega, Nat.pow_add]
   exact (Nat.div_lt_iff_lt_mul hp).1 h2.2
 omega
theorem shr_lit (n : Nat) (b : Int) (s : Nat) (h : b = (s : Int)) (h' : s ≤ 64) : aShr .u64 (n : Int) b = some (.it .u64 ((n / 2 ^ s : Nat) : Int)) := by
 subst h
 unfold aShr
 rw [if_pos (by omega)]
 congr 2
 rw [Int.toNat_natCast, show min s IntKind.u64.bits = s from Nat.min_eq_left h']
 rw [Int.fdiv_eq_ediv_of_nonneg _ (by exact Int.le_of_lt (Int.pow_pos (by omega)))]
 norm_cast
theorem u8_small (x : Nat) (h : x < 256) : IntKind.u8.wrap (x : Int) = (x : Int) := by
 rw [wrap8n]
 simp; omega
theorem blen_le (x : Nat) : blen x ≤ x + 1 := by
 unfold blen
 split
 ·omega
 ·have := Nat.log2_lt (n := x) (k := x) (by assumption)
  have := this.2 Nat.lt_two_pow_self
  omega
theorem tab_idx (L : List UInt8) (hL : ∀ x, x < 256 → L[x]? = some (UInt8.ofNat (blen x))) (x : Nat) (h : x < 256) : (if 0 ≤ (x : Int) then Option.map u8 L[x]? else none) = some (.it .u8 (blen x : Int)) := by
 rw [if_pos (by omega), hL x h]
 have : blen x < 256 := by
  have : blen x ≤ 8 := by
   unfold blen
   split
   ·omega
   ·have := (Nat.log2_lt (n := x) (k := 8) (by assumption)).2 (by omega)
    omega
  omega
 simp only [u8, Option.map_some]
 congr 2
 simp; omega
set_option maxHeartbeats 2000000 in
theorem len64_c (n : Nat) (h : n < 18446744073709551616) : AC Tryz.prog 195 [.it .u64 n] [] (.it .i64 (blen n)) [] := by
 have s8 : ∀ n : Nat, aShr .u64 (n : Int) 8 = some (.it .u64 ((n / 2 ^ 8 : Nat) : Int)) := fun n => shr_lit n 8 8 rfl (by omega)
 have s16 : ∀ n : Nat, aShr .u64 (n : Int) 16 = some (.it .u64 ((n / 2 ^ 16 : Nat) : Int)) := fun n => shr_lit n 16 16 rfl (by omega)
 have s32 : ∀ n : Nat, aShr .u64 (n : Int) 32 = some (.it .u64 ((n / 2 ^ 32 : Nat) : Int)) := fun n => shr_lit n 32 32 rfl (by omega)
 refine AC.enter [] [] Tryz.func195 rfl (by decide) (by decide) znl (by kernel_rfl) ?_; refine zev ?_
 refine run ?_
 refine iteP_mk (fun h1 => ?_) (fun h1 => ?_)
 ·have l32 : 4294967296 ≤ n := by have := of_decide_eq_true h1; omega
  have e32 := blen_shift (n := n) (s := 32) l32
  have m32 : n / 2 ^ 32 < 4294967296 := by omega
  refine runf (an @s32 (an @s16 @s8)) ?_
  generalize n / 2 ^ 32 = x at *
  refine iteP_mk (fun h1 => ?_) (fun h1 => ?_)
  ·have l16 : 65536 ≤ x := by have := of_decide_eq_true h1; omega
   have e16 := blen_shift (n := x) (s := 16) l16
   have m16 : x / 2 ^ 16 < 65536 := by omega
   refine runf (an @s32 (an @s16 @s8)) ?_
   generalize x / 2 ^ 16 = y at *
   refine iteP_mk (fun h1 => ?_) (fun h1 => ?_)
   ·have l8 : 256 ≤ y := by have := of_decide_eq_true h1; omega
    have e8 := blen_shift (n := y) (s := 8) l8
    have m8 : y / 2 ^ 8 < 256 := by omega
    refine runf (an @s32 (an @s16 @s8)) ?_
    generalize y / 2 ^ 8 = z at *
    have t1 := u8_small z (by omega)
    have t3 := blen_le z
    refine runf @t1 ?_
    refine bindV_mk _ (tab_idx _ (by decide +kernel) z (by omega)) ?_
    refine runf @Int.zero_add ?_
    refine ends_ret0 (by rfl) (by rfl) ?_
    exact congrArg (AV.it .i64) (by omega)
   ·have l8 : y < 256 := by have := of_decide_eq_false h1; omega
    refine run ?_
    have t1 := u8_small y (by omega)
    have t3 := blen_le y
    refine runf @t1 ?_
    refine bindV_mk _ (tab_idx _ (by decide +kernel) y (by omega)) ?_
    refine runf @Int.zero_add ?_
    refine ends_ret0 (by rfl) (by rfl) ?_
    exact congrArg (AV.it .i64) (by omega)
  ·have l16 : x < 65536 := by have := of_decide_eq_false h1; omega
   refine run ?_
   refine iteP_mk (fun h1 => ?_) (fun h1 => ?_)
   ·have l8 : 256 ≤ x := by have := of_decide_eq_true h1; omega
    have e8 := blen_shift (n := x) (s := 8) l8
    have m8 : x / 2 ^ 8 < 256 := by omega
    refine runf (an @s32 (an @s16 @s8)) ?_
    generalize x / 2 ^ 8 = z at *
    have t1 := u8_small z (by omega)
    have t3 := blen_le z
    refine runf @t1 ?_
    refine bindV_mk _ (tab_idx _ (by decide +kernel) z (by omega)) ?_
    refine runf @Int.zero_add ?_
    refine ends_ret0 (by rfl) (by rfl) ?_
    exact congrArg (AV.it .i64) (by omega)
   ·have l8 : x < 256 := by have := of_decide_eq_false h1; omega
    refine run ?_
    have t1 := u8_small x (by omega)
    have t3 := blen_le x
    refine runf @t1 ?_
    refine bindV_mk _ (tab_idx _ (by decide +kernel) x (by omega)) ?_
    refine runf @Int.zero_add ?_
    refine ends_ret0 (by rfl) (by rfl) ?_
    exact congrArg (AV.it .i64) (by omega)
 ·have l32 : n < 4294967296 := by have := of_decide_eq_false h1; omega
  refine run ?_
  refine iteP_mk (fun h1 => ?_) (fun h1 => ?_)
  ·have l16 : 65536 ≤ n := by have := of_decide_eq_true h1; omega
   have e16 := blen_shift (n := n) (s := 16) l16
   have m16 : n / 2 ^ 16 < 65536 := by omega
   refine runf (an @s32 (an @s16 @s8)) ?_
   generalize n / 2 ^ 16 = y at *
   refine iteP_mk (fun h1 => ?_) (fun h1 => ?_)
   ·have l8 : 256 ≤ y := by have := of_decide_eq_true h1; omega
    have e8 := blen_shift (n := y) (s := 8) l8
    have m8 : y / 2 ^ 8 < 256 := by omega
    refine runf (an @s32 (an @s16 @s8)) ?_
    generalize y / 2 ^ 8 = z at *
    have t1 := u8_small z (by omega)
    have t3 := blen_le z
    refine runf @t1 ?_
    refine bindV_mk _ (tab_idx _ (by decide +kernel) z (by omega)) ?_
    refine runf @Int.zero_add ?_
    refine ends_ret0 (by rfl) (by rfl) ?_
    exact congrArg (AV.it .i64) (by omega)
   ·have l8 : y < 256 := by have := of_decide_eq_false h1; omega
    refine run ?_
    have t1 := u8_small y (by omega)
    have t3 := blen_le y
    refine runf @t1 ?_
    refine bindV_mk _ (tab_idx _ (by decide +kernel) y (by omega)) ?_
    refine runf @Int.zero_add ?_
    refine ends_ret0 (by rfl) (by rfl) ?_
    exact congrArg (AV.it .i64) (by omega)
  ·have l16 : n < 65536 := by have := of_decide_eq_false h1; omega
   refine run ?_
   refine iteP_mk (fun h1 => ?_) (fun h1 => ?_)
   ·have l8 : 256 ≤ n := by have := of_decide_eq_true h1; omega
    have e8 := blen_shift (n := n) (s := 8) l8
    have m8 : n / 2 ^ 8 < 256 := by omega
    refine runf (an @s32 (an @s16 @s8)) ?_
    generalize n / 2 ^ 8 = z at *
    have t1 := u8_small z (by omega)
    have t3 := blen_le z
    refine runf @t1 ?_
    refine bindV_mk _ (tab_idx _ (by decide +kernel) z (by omega)) ?_
    refine runf @Int.zero_add ?_
    refine ends_ret0 (by rfl) (by rfl) ?_
    exact congrArg (AV.it .i64) (by omega)
   ·have l8 : n < 256 := by have := of_decide_eq_false h1; omega
    refine run ?_
    have t1 := u8_small n (by omega)
    have t3 := blen_le n
    refine runf @t1 ?_
    refine bindV_mk _ (tab_idx _ (by decide +kernel) n (by omega)) ?_
    refine runf @Int.zero_add ?_
    refine ends_ret0 (by rfl) (by rfl) ?_
    exact congrArg (AV.it .i64) (by omega)
end Go.Proofs.YtlefikdjhnaapaaGreatDoor.Pe
end
section
namespace Go.Proofs.YtlefikdjhnaapaaGreatDoor
open Go.RowKit Sm
set_option maxRecDepth 100000
theorem ret_int {k : IntKind} {a b : Int} (h : a = b) : Ending.returned (.int k a) = .returned (.int k b) := by rw [h]
theorem val_int {k : IntKind} {a b : Int} (h : a = b) : Value.int k a = .int k b := by rw [h]
theorem val32 {a b : BitVec 32} (h : a = b) : w32 a = w32 b := by rw [h]
theorem ret32 {a b : BitVec 32} (h : a = b) : Ending.returned (w32 a) = .returned (w32 b) := by rw [h]
set_option maxHeartbeats 400000 in
theorem crc_any (s : ByteArray) (w : World) (hs : s.size ≤ 9223372036854775807) :
  Calls Tryz.prog 260 #[.string s] w fun e w' => e = .returned (w32 (crc s.data.toList)) ∧ w = w' := by
 go_enter Tryz.func260, Tryz.ntmps260
 go_wp2
 go_loop [3, 4, 5, 8, 17] (fun r _ _ i _ => ∃ k : Nat, k ≤ s.size ∧ i = .int .i64 k ∧ r = w32 (creg (s.data.toList.take k))) (fun _ _ _ i _ => s.size - (intOf i).toNat)
 case atStart => exact ⟨0, Nat.zero_le _, rfl, rfl⟩
 case round =>
  obtain ⟨k, hk, rfl, rfl⟩ := hrel
  generalize hr : creg (s.data.toList.take k) = r0
  have Hr := Veil.mk hr; clear hr
  by_cases hlt : k < s.size
  ·go_wp2
   go_loop [3, 5, 17] (fun r _ i => ∃ j : Nat, j ≤ 8 ∧ i = .int .i64 j ∧ r = w32 (csteps j (r0 ^^^ bw s[k]))) (fun _ _ i => 8 - (intOf i).toNat)
   case atStart => exact ⟨0, by omega, rfl, rfl⟩
   case round =>
    obtain ⟨j, hj, rfl, rfl⟩ := hrel
    by_cases hlt2 : j < 8
    ·go_wp2
     all_goals
      go_round
      case rel => exact ⟨j + 1, by omega, by go_num, val32 (by first | exact cstep_odd _ ‹_› | exact cstep_even _ ‹_›)⟩
      case measure => simp [intOf]; omega
    ·obtain rfl : j = 8 := by omega
     go_wp2
     go_round
     case rel => exact ⟨k + 1, by omega, by go_num, val32 (by rw [take_snoc s k hlt, creg_snoc, Hr.out]; rfl)⟩
     case measure => simp [intOf]; omega
  ·have e := take_all s k hlt
   have E := Veil.mk e; clear e
   go_wp2
   go_ret
   exact ⟨ret32 (by rw [← Hr.out, E.out, crc]), rfl⟩
def rowU (w : World) (b : Nat) (t : TypeId) (n : Nat) (ws : List (BitVec 32)) : Prop := w.rowIs b t n (fun j => w32 (ws.getD j 0))
theorem rowU_push {w : World} {b : Nat} {t : TypeId} {n : Nat} {ws : List (BitVec 32)} (h : rowU w b t n ws) (x : BitVec 32) : rowU (w.setCell ⟨b, ws.length, none⟩ (w32 x)) b t n (ws ++ [x]) := by
 refine World.rowIs.congr (World.rowIs.set h ws.length (w32 x)) fun i _ => ?_
 rw [getD_app]
 split <;> rfl
theorem rowU_zero {w : World} {b : Nat} (n : Nat) (cs : Array Value) (t : TypeId) (hb : b = w.heap.size) (h : cs = (List.replicate n (Value.int .u32 0)).toArray) : rowU (w.alloc (.cells cs t)) b t n [] := by
 subst h hb
 have := World.rowIs_alloc w (List.replicate n (Value.int .u32 0)).toArray t (fun _ => w32 0) (fun i hi => by
  simp at hi
  simp [List.getElem?_replicate, hi]
  rfl)
 simpa [rowU] using this
theorem turn_any (x : BitVec 32) (n : Int) (w : World) (h0 : 0 < n) (h : n < 32) :
  Calls Tryz.prog 249 #[w32 x, .int .i64 n] w fun e w' => e = .returned (w32 (rot x n.toNat)) ∧ w = w' := by
 have e := rot_eq x n h0 h
 have E := Veil.mk e; clear e
 go_enter Tryz.func249, Tryz.ntmps249
 go_wp2
 go_ret
 rw [← E.out]
 exact ⟨rfl, rfl⟩
theorem rowU_nil {w : World} {b : Nat} {t : TypeId} {n : Nat} (h : rowU w b t n []) : rowU w b t n (List.replicate n 0) :=
 World.rowIs.congr h (fun i hi => by simp [List.getElem?_replicate, hi])
theorem rowU_heap {w : World} {b : Nat} {t : TypeId} {n : Nat} {ws : List (BitVec 32)} (h : rowU w b t n ws) (hl : ws.length = n) : w.heap[b]? = some (.cells (ws.map w32).toArray t (0, 0)) := by
 obtain ⟨cs, hc, hs, he⟩ := h
 rw [hc]
 have : cs = (ws.map w32).toArray := by
  apply Array.ext
  ·simp [hs, hl]
  ·intro i h1 h2
   have := he i (by omega)
   rw [Array.getElem?_eq_getElem h1] at this
   injection this with this
   rw [this]
   simp at h2
   simp [List.getElem?_eq_getElem h2]
 rw [this]
theorem info64 : (Tryz.prog.info? 251).map (·.size) = some 64 := by kernel_rfl
theorem info8 : (Tryz.prog.info? 207).map (·.size) = some 8 := by kernel_rfl
set_option maxRecDepth 100000 in
set_option maxHeartbeats 4000000 in
theorem sched_any (s : ByteArray) (w : World) (hs : s.size = 64) :
  Calls Tryz.prog 248 #[.string s] w fun e w' => e = .returned (.agg ((sched s.data.toList).map w32).toArray) ∧ Below w.heap.size w w' := by
 have Hs := Veil.mk hs; clear hs
 go_enter Tryz.func248, Tryz.ntmps248
 go_wp2
 go_loopw [4, 5, 11] (fun _ _ i wr => ∃ k : Nat, k ≤ 16 ∧ i = .int .i64 k ∧ rowU wr w.heap.size 251 64 [] ∧ rowU wr (w.heap.size + 1) 251 64 (firstW s.data.toList k) ∧ Below w.heap.size w wr) (fun _ _ i _ => 16 - (intOf i).toNat)
 case atStart =>
  refine ⟨0, by omega, rfl, World.rowIs.alloc (rowU_zero 64 _ _ rfl rfl) _, ?_, ?_⟩
  ·exact rowU_zero 64 _ _ (by simp) rfl
  ·exact ((Below.refl _ _).alloc (Nat.le_refl _) _).alloc (by simp) _
 case round =>
  obtain ⟨k, hk, rfl, h0, h1, hb⟩ := hrel
  by_cases hlt : k < 16
  ·have hs := Hs.out
   have a1 : 4 * k + 4 ≤ s.size := by omega
   clear hs
   have H0 := Veil.mk h0; clear h0
   have H1 := Veil.mk h1
   have c1 := h1.cell (i := k) (by omega)
   have f1 := h1.frozen k
   clear h1
   go_wp2
   generalize hx : s.extract (4 * k) (4 * k + 4) = x
   have ht : 4 ≤ x.size := by subst hx; rw [ByteArray.size_extract]; omega
   have key : ∀ i (h' : i < x.size) (_ : i < 4), x[i] = s.data.toList.getD (4 * k + i) 0 := by
    subst hx; intro i h' h; exact extract_getD s _ _ i (by omega) a1 h'
   have Key := Veil.mk key
   clear key hx
   have i0 : 0 < x.size := by omega
   have i1 : (1 : Int) < x.size := by omega
   have i2 : (2 : Int) < x.size := by omega
   have i3 : (3 : Int) < x.size := by omega
   go_region
   go_wp2
   go_roundw
   case rel =>
    have e := rowU_push H1.out (word4 x[0] x[1] x[2] x[3])
    rw [firstW_length] at e
    refine ⟨k + 1, by omega, by go_num, World.rowIs.setOther H0.out (by simp) _, ?_, (hb.setCell (by simp) _).drew⟩
    rw [firstW_snoc, wordAt]
    rw [Key.out 0 (by omega) (by omega), Key.out 1 (by omega) (by omega), Key.out 2 (by omega) (by omega), Key.out 3 (by omega) (by omega)] at e ⊢
    exact e
   case measure => simp [intOf]; omega
  ·have hk16 : 16 ≤ k := by omega
   clear hlt
   go_wp2
   go_loopw [6, 7, 8] (fun i _ _ wr => ∃ m : Nat, 16 ≤ m ∧ m ≤ 64 ∧ i = .int .i64 m ∧ rowU wr w.heap.size 251 64 [] ∧ rowU wr (w.heap.size + 1) 251 64 (schedN s.data.toList (m - 16)) ∧ Below w.heap.size w wr) (fun i _ _ _ => 64 - (intOf i).toNat)
   case atStart =>
    obtain rfl : k = 16 := by omega
    exact ⟨16, by omega, by omega, rfl, h0, h1, hb⟩
   case round =>
    obtain ⟨m, hm0, hm, rfl, h0, h1, hb⟩ := hrel
    by_cases hlt : m < 64
    ·have H0 := Veil.mk h0; clear h0
     have H1 := Veil.mk h1
     have c15 := h1.cell (i := m - 15) (by omega)
     have c2 := h1.cell (i := m - 2) (by omega)
     have c7 := h1.cell (i := m - 7) (by omega)
     have c16 := h1.cell (i := m - 16) (by omega)
     have c0 := h1.cell (i := m) (by omega)
     have f0 := h1.frozen m
     clear h1
     go_wp2
     go_quiet (fail)
     go_wp2_with (go_at_call 249; refine (turn_any _ _ _ (by omega) (by omega)).mono ?_; rintro e w' ⟨rfl, rfl⟩)
     go_region
     go_wp2
     go_roundw
     case rel =>
      have e := rowU_push H1.out (nextW (schedN s.data.toList (m - 16)) m)
      rw [schedN_length, show 16 + (m - 16) = m from by omega] at e
      refine ⟨m + 1, by omega, by omega, by go_num, World.rowIs.setOther H0.out (by simp) _, ?_, (belowDrewN (hb.setCell (by simp) _) _)⟩
      rw [show m + 1 - 16 = m - 16 + 1 from by omega, schedN, show 16 + (m - 16) = m from by omega]
      exact e
     case measure => simp [intOf]; omega
    ·have hm64 : 64 ≤ m := by omega
     have e : sched s.data.toList = schedN s.data.toList (m - 16) := by rw [sched, show m - 16 = 48 from by omega]
     have E := Veil.mk e; clear e
     have hl : (schedN s.data.toList (m - 16)).length = 64 := by rw [schedN_length]; omega
     generalize hws : schedN s.data.toList (m - 16) = ws at h1 hl
     have Ews := Veil.mk hws; clear hws hlt
     have hr0 := rowU_heap (rowU_nil h0) (by simp)
     have hr1 := rowU_heap h1 hl
     have Hr1 := Veil.mk hr1
     have Hr0 := Veil.mk hr0
     have Hl := Veil.mk hl
     clear h0 h1 hr0 hr1 hl
     have Hc : Veil (∀ j u, (ws.map w32)[j]? = some u → (ws.map w32).toArray[0 + j]? = some u) := ⟨fun j u hu => by simpa using hu⟩
     have Hf : Veil ((ws.map w32).length = (List.map w32 (List.replicate 64 0)).toArray.size) := ⟨by simp [Hl.out]⟩
     have Ho : Veil (∀ u ∈ ws.map w32, u.oneCell' = true) := ⟨oneCell_map32 _⟩
     have Hi : Veil (some 64 = some (ws.map w32).length) := ⟨by rw [List.length_map, Hl.out]⟩
     go_wp2_with (first
      | (refine ld_row rfl _ (.tmp 3) rfl (w.heap.size + 1) 0 rfl Hr1.out Tryz.underlying251 rfl (ws.map w32) (info64.trans Hi.out) Hc.out ?_)
      | (refine st_all rfl _ (.tmp 2) (.tmp 85) rfl w.heap.size rfl (ws.map w32) rfl Hr0.out (info64.trans Hi.out) Hf.out Ho.out ?_))
     refine bodyPost_ret (results_cell_row rfl _ _ w.heap.size _ _ _ _ rfl (setRow_heap wr w.heap.size _ _ _ _ Hr0.out) Tryz.underlying251 rfl (info64.trans (by rw [Hi.out]; simp))) rfl ?_
     exact ⟨by rw [E.out, Ews.out], belowSetRow hb (Nat.le_refl _) _⟩
def Tabs (w : World) : Prop := (∀ i, i < 64 → w.cell? ⟨1, i, none⟩ = some (w32 (tabK.getD i 0))) ∧ (∀ i, i < 8 → w.cell? ⟨0, i, none⟩ = some (w32 (init8.list.getD i 0)))
theorem Tabs.keep {w w' : World} (h : Tabs w) (hk : ∀ b, b < w.heap.size → w'.heap[b]? = w.heap[b]?) : Tabs w' := by
 refine ⟨fun i hi => ?_, fun i hi => ?_⟩
 ·rw [World.cell?_of_block (hk _ (World.block_lt_of_cell? w _ (h.1 i hi)))]
  exact h.1 i hi
 ·rw [World.cell?_of_block (hk _ (World.block_lt_of_cell? w _ (h.2 i hi)))]
  exact h.2 i hi
theorem Tabs.below {w w' : World} (h : Tabs w) {B : Nat} (hb : Below B w w') (hB : w.heap.size ≤ B) : Tabs w' := h.keep fun b hlt => hb.block b (by omega)
theorem Tabs.drew {w : World} (h : Tabs w) : Tabs w.drew := h
theorem Tabs.alloc {w : World} (h : Tabs w) (o : Obj) : Tabs (w.alloc o) := h.keep fun b hb => heap_alloc_old w o hb
set_option maxRecDepth 100000 in
set_option maxHeartbeats 4000000 in
theorem mix_any (st : S8) (s : ByteArray) (w : World) (hs : s.size = 64) (hT : Tabs w) :
  Calls Tryz.prog 171 #[.agg st.cells.toArray, .string s] w fun e w' => e = .returned (.agg (mix8 st s.data.toList).cells.toArray) ∧ Below w.heap.size w w' := by
 have Hs := Veil.mk hs; clear hs
 have HT := Veil.mk hT; clear hT
 obtain ⟨va, vb, vc, vd, ve, vf, vg, vh⟩ := st
 simp only [S8.cells]
 go_enter Tryz.func171, Tryz.ntmps171
 go_wp2_with (first
  | (go_at_call 248; refine (sched_any s _ Hs.out).mono ?_; rintro e w1 ⟨rfl, hb1⟩)
  | (refine st_new _ rfl _ (.tmp 5) (.tmp 18) rfl rfl ((sched s.data.toList).map w32) rfl ?_ ?_ (oneCell_map32 _) ?_))
 ·exact info64.trans (by rw [List.length_map, sched_length])
 ·rw [List.length_map, sched_length]; rfl
 have hbs : Below w.heap.size w w1 := (((Below.refl _ _).alloc (Nat.le_refl _) _).alloc (by simp) _).trans (hb1.mono (by simp; omega))
 have hsz : w.heap.size + 2 ≤ w1.heap.size := by have := hb1.size; simp at this; omega
 have g0 : w1.heap[w.heap.size]? = some (.cells #[w32 va, w32 vb, w32 vc, w32 vd, w32 ve, w32 vf, w32 vg, w32 vh] 207 (0, 0)) :=
  (hb1.block _ (by simp; omega)).trans (heap_alloc2_old w _ _)
 have g1 : w1.heap[w.heap.size + 1]? = some (.cells #[.int .u32 0, .int .u32 0, .int .u32 0, .int .u32 0, .int .u32 0, .int .u32 0, .int .u32 0, .int .u32 0] 207 (0, 0)) :=
  (hb1.block _ (by simp)).trans (heap_alloc2_new w _ _)
 have hT1 : Tabs w1 := HT.out.below hbs (Nat.le_refl _)
 clear hb1
 have k0 : (w1.alloc (.cells ((sched s.data.toList).map w32).toArray 251)).heap[w.heap.size]? = _ := (heap_alloc_old w1 _ (by omega)).trans g0
 have k1 : (w1.alloc (.cells ((sched s.data.toList).map w32).toArray 251)).heap[w.heap.size + 1]? = _ := (heap_alloc_old w1 _ (by omega)).trans g1
 have k2 := heap_alloc_new w1 (.cells ((sched s.data.toList).map w32).toArray 251)
 have kT := hT1.alloc (.cells ((sched s.data.toList).map w32).toArray 251)
 have kb := hbs.alloc hbs.size (.cells ((sched s.data.toList).map w32).toArray 251)
 clear g0 g1 hT1 hbs
 generalize w1.alloc (.cells ((sched s.data.toList).map w32).toArray 251) = w2 at k0 k1 k2 kT kb ⊢
 generalize hW : w1.heap.size = bw at k2 hsz ⊢
 clear hW
 have x0 := cell_of_row w2 w.heap.size 0 _ _ _ k0
 have x1 := cell_of_row w2 w.heap.size 1 _ _ _ k0
 have x2 := cell_of_row w2 w.heap.size 2 _ _ _ k0
 have x3 := cell_of_row w2 w.heap.size 3 _ _ _ k0
 have x4 := cell_of_row w2 w.heap.size 4 _ _ _ k0
 have x5 := cell_of_row w2 w.heap.size 5 _ _ _ k0
 have x6 := cell_of_row w2 w.heap.size 6 _ _ _ k0
 have x7 := cell_of_row w2 w.heap.size 7 _ _ _ k0
 have K0 := Veil.mk k0
 have K1 := Veil.mk k1
 have K2 := Veil.mk k2
 have KT := Veil.mk kT
 have Kb := Veil.mk kb
 clear k0 k1 k2 kT kb
 go_wp2
 go_quiet (fail)
 go_wp2
 go_quiet (fail)
 clear x0 x1 x2 x3 x4 x5 x6 x7
 go_wp2
 go_loopw [6, 7, 8, 9, 10, 11, 12, 13, 14, 15, 16, 35] (fun a b c d e f g h _ _ _ i wr => ∃ n r : Nat, n ≤ 64 ∧ i = .int .i64 n ∧ wr = w2.drewN r ∧ ∃ st : S8, st = rounds8 s.data.toList ⟨va, vb, vc, vd, ve, vf, vg, vh⟩ n ∧ a = w32 st.a ∧ b = w32 st.b ∧ c = w32 st.c ∧ d = w32 st.d ∧ e = w32 st.e ∧ f = w32 st.f ∧ g = w32 st.g ∧ h = w32 st.h) (fun _ _ _ _ _ _ _ _ _ _ _ i _ => 64 - (intOf i).toNat)
 case atStart => exact ⟨0, _, by omega, rfl, World.drewN_drewN _ _ _, _, rfl, rfl, rfl, rfl, rfl, rfl, rfl, rfl, rfl⟩
 case round =>
  obtain ⟨n, r, hn, rfl, rfl, ⟨sa, sb, sc, sd, se, sf, sg, sh⟩, hst, rfl, rfl, rfl, rfl, rfl, rfl, rfl, rfl⟩ := hrel
  have Hst := Veil.mk hst; clear hst
  by_cases hlt : n < 64
  ·have cK : (w2.drewN r).cell? ⟨1, n, none⟩ = some (w32 (tabK.getD n 0)) := KT.out.1 n hlt
   have cW : (w2.drewN r).cell? ⟨bw, n, none⟩ = some (w32 ((sched s.data.toList).getD n 0)) := by
    show w2.cell? _ = _
    rw [cell_of_row w2 bw n _ _ _ K2.out]
    simp [List.getD_eq_getElem?_getD, List.getElem?_eq_getElem (show n < (sched s.data.toList).length from by rw [sched_length]; exact hlt)]
   generalize hk : tabK.getD n 0 = kn at cK
   generalize hx : (sched s.data.toList).getD n 0 = xn at cW
   have Hk := Veil.mk hk; clear hk
   have Hx := Veil.mk hx; clear hx
   generalize hwr : w2.drewN r = wr at cK cW ⊢
   have Hwr := Veil.mk hwr; clear hwr
   go_wp2
   go_quiet ((go_at_call 249; exact Calls.quiet_of_same ((turn_any _ _ _ (by omega) (by omega)).mono fun _ _ h => ⟨h.1, h.2.symm⟩)))
   go_wp2_with (go_at_call 249; refine (turn_any _ _ _ (by omega) (by omega)).mono ?_; rintro e w' ⟨rfl, rfl⟩)
   go_roundw
   case rel =>
    refine ⟨n + 1, _, by omega, by go_num, by rw [← Hwr.out]; exact World.drewN_drewN _ _ _, round8 kn xn ⟨sa, sb, sc, sd, se, sf, sg, sh⟩, ?_, ?_⟩
    ·rw [rounds8, ← Hst.out, Hk.out, Hx.out]
    ·exact ⟨rfl, rfl, rfl, rfl, rfl, rfl, rfl, rfl⟩
   case measure => simp [intOf]; omega
  ·have hn64 : 64 ≤ n := by omega
   have hm : mix8 ⟨va, vb, vc, vd, ve, vf, vg, vh⟩ s.data.toList = S8.add ⟨va, vb, vc, vd, ve, vf, vg, vh⟩ ⟨sa, sb, sc, sd, se, sf, sg, sh⟩ := by
    obtain rfl : n = 64 := by omega
    rw [mix8, ← Hst.out]
   have Hm := Veil.mk hm; clear hm hlt
   have k0 : (w2.drewN r).heap[w.heap.size]? = _ := K0.out
   have k1 : (w2.drewN r).heap[w.heap.size + 1]? = _ := K1.out
   have kb := belowDrewN Kb.out r
   generalize w2.drewN r = wr at k0 k1 kb ⊢
   have x0 := cell_of_row wr w.heap.size 0 _ _ _ k0
   have x1 := cell_of_row wr w.heap.size 1 _ _ _ k0
   have x2 := cell_of_row wr w.heap.size 2 _ _ _ k0
   have x3 := cell_of_row wr w.heap.size 3 _ _ _ k0
   have x4 := cell_of_row wr w.heap.size 4 _ _ _ k0
   have x5 := cell_of_row wr w.heap.size 5 _ _ _ k0
   have x6 := cell_of_row wr w.heap.size 6 _ _ _ k0
   have x7 := cell_of_row wr w.heap.size 7 _ _ _ k0
   have K1 := Veil.mk k1
   have Kb := Veil.mk kb
   clear k0 k1 kb
   have Hi : Veil (some 8 = some [w32 (va + sa), w32 (vb + sb), w32 (vc + sc), w32 (vd + sd), w32 (ve + se), w32 (vf + sf), w32 (vg + sg), w32 (vh + sh)].length) := ⟨rfl⟩
   go_wp2_with (refine st_all rfl _ (.tmp 4) (.tmp 130) rfl (w.heap.size + 1) rfl [w32 (va + sa), w32 (vb + sb), w32 (vc + sc), w32 (vd + sd), w32 (ve + se), w32 (vf + sf), w32 (vg + sg), w32 (vh + sh)] rfl K1.out (info8.trans Hi.out) rfl (by simp [Value.oneCell', w32]) ?_)
   refine bodyPost_ret (results_cell_row rfl _ _ (w.heap.size + 1) _ _ _ _ rfl (setRow_heap wr (w.heap.size + 1) _ _ _ _ K1.out) Tryz.underlying207 rfl (info8.trans Hi.out)) rfl ?_
   exact ⟨by rw [Hm.out]; rfl, belowSetRow Kb.out (by omega) _⟩
theorem elem8 : ElemOk Tryz.prog 114 5 1 1 := ElemOk.mk' (z := .int .u8 0) Tryz.underlying114 (by kernel_rfl) rfl (by omega)
def lenOf : Value → Nat | .slice _ n _ => n | _ => 0
set_option maxHeartbeats 1000000 in
theorem ending_any (s : ByteArray) (n : Int) (w : World) (hs : s.size ≤ 64) :
  Calls Tryz.prog 172 #[.string s, .int .i64 n] w fun e w' => e = .returned (.string ⟨(ending s.data.toList n).toArray⟩) ∧ Below w.heap.size w w' := by
 have hm : s.size ≤ maxLen := by unfold maxLen; omega
 go_enter Tryz.func172, Tryz.ntmps172
 go_wp2_with (first
  | (refine bytes_arm w rfl _ _ (.tmp 8) rfl 5 s rfl Tryz.underlying9 Tryz.underlying114 Tryz.underlying5 hm (base := w.heap.size) (Nat.le_refl _) ?_; intro v0 w0 own0 gr0 hx; clear hx)
  | (at_builtin; refine ap_lit w0 rfl _ _ _ rfl elem8 [.int .u8 128] own0 rfl rfl ?_ ?_ ?_ ?_ ?_))
 ·exact one1 rfl
 ·simp; omega
 ·simp; omega
 ·exact gr0.size
 intro v1 w1 own1 gr1
 have hb1 : Below w.heap.size w w1 := belowOwn ((Below.refl _ _).grown gr0 (Nat.le_refl _) (fun k hk => by cases hk)) gr1 own0 (Nat.le_refl _) gr0.size
 have own1' : Own w1 w.heap.size 5 1 v1 ((endZ s.data.toList 0).map w8) := by
  rw [show ((endZ s.data.toList 0).map w8) = s.data.toList.map w8 ++ [.int .u8 128] from by simp [endZ]; rfl]
  exact own1
 clear own0 gr0 gr1 own1
 have hl : s.data.toList.length = s.size := by simp
 generalize hs0 : s.data.toList = l at own1' hl ⊢
 have Hl := Veil.mk hl
 have Hs0 := Veil.mk hs0
 clear hl hs0
 go_wp2
 go_loopw [5] (fun v wr => ∃ (N z : Nat) (A : Option Addr) (c : Nat), v = .slice A N c ∧ Veil (N = l.length + 1 + z) ∧ z ≤ zerosN (l.length + 1) ∧ Own wr w.heap.size 5 1 (.slice A N c) ((endZ l z).map w8) ∧ Below w.heap.size w wr) (fun v _ => l.length + 1 + zerosN (l.length + 1) - lenOf v)
 case atStart =>
  obtain ⟨A, c, rfl⟩ := own1'.len1
  exact ⟨_, 0, A, c, rfl, ⟨by rw [List.length_map, endZ_length]⟩, Nat.zero_le _, own1', hb1⟩
 case round =>
  obtain ⟨N, z, A, c, rfl, HN, hz, hown, hb⟩ := hrel
  have hzl := zerosN_le (l.length + 1)
  have hNs : N ≤ 200 := by have := HN.out; have := Hl.out; omega
  have hmod : ((N : Int) % 64 != 56) = decide (z < zerosN (l.length + 1)) := by
   have h1 := zerosN_at (l.length + 1)
   have h2 := zerosN_before (l.length + 1) z
   rw [HN.out]
   by_cases hlt : z < zerosN (l.length + 1)
   ·have := h2 hlt
    simp only [hlt, decide_true, bne_iff_ne]
    omega
   ·obtain rfl : z = zerosN (l.length + 1) := by omega
    simp only [hlt, decide_false, bne_eq_false_iff_eq]
    omega
  have hle := hb.size
  by_cases hlt : z < zerosN (l.length + 1)
  ·have ht : ((N : Int) % 64 != 56) = true := by rw [hmod]; simpa using hlt
   clear hmod
   go_wp2_with (at_builtin; refine ap_lit wr rfl _ _ _ rfl elem8 [.int .u8 0] hown rfl rfl ?_ ?_ ?_ hle ?_; rotate_left 3; intro v' w' own' gr')
   rotate_left 1
   ·exact one1 rfl
   ·rw [List.length_map, endZ_length, ← HN.out]; simp; omega
   ·rw [List.length_map, endZ_length, ← HN.out]; simp; omega
   have hb' := belowOwn hb gr' hown (Nat.le_refl _) hle
   have own2 : Own w' w.heap.size 5 1 v' ((endZ l (z + 1)).map w8) := by rw [endZ_snoc, List.map_append]; exact own'
   clear own' gr' hown hb
   go_wp2
   go_roundw
   obtain ⟨A', c', rfl⟩ := own2.len1
   case rel => exact ⟨_, z + 1, A', c', rfl, ⟨by rw [List.length_map, endZ_length]⟩, by omega, own2, hb'⟩
   case measure =>
    obtain ⟨A', c', rfl⟩ := own2.len1
    simp only [lenOf, List.length_map, endZ_length]
    have := HN.out
    omega
  ·have ht : ((N : Int) % 64 != 56) = false := by rw [hmod]; simpa using hlt
   obtain rfl : z = zerosN (l.length + 1) := by omega
   clear hmod
   go_wp2
   go_loopw [5, 7] (fun v i wr => ∃ (M j : Nat) (A : Option Addr) (c : Nat), v = .slice A M c ∧ j ≤ 8 ∧ i = .int .i64 (56 - 8 * (j : Int)) ∧ Own wr w.heap.size 5 1 (.slice A M c) ((endZ l (zerosN (l.length + 1)) ++ beN (BitVec.ofInt 64 n * 8#64) j).map w8) ∧ Below w.heap.size w wr) (fun _ i _ => (intOf i + 8).toNat)
   case atStart => exact ⟨N, 0, A, c, rfl, by omega, rfl, by simpa [beN] using hown, hb⟩
   case round =>
    obtain ⟨M, j, A', c', rfl, hj, rfl, hown, hb⟩ := hrel
    have hle := hb.size
    have hlen : (endZ l (zerosN (l.length + 1)) ++ beN (BitVec.ofInt 64 n * 8#64) j).length ≤ 200 := by
     rw [List.length_append, endZ_length]
     have : (beN (BitVec.ofInt 64 n * 8#64) j).length ≤ 8 := by simp [beN, be8]; omega
     have := Hl.out
     omega
    by_cases hlt : j < 8
    ·have hge : (0 : Int) ≤ 56 - 8 * (j : Int) := by omega
     go_wp2_with (at_builtin; refine ap_lit wr rfl _ _ _ rfl elem8 [_] hown rfl rfl ?_ ?_ ?_ hle ?_; rotate_left 3; intro v' w' own' gr')
     rotate_left 1
     ·exact one1 rfl
     ·rw [List.length_map]; simp only [List.length_singleton]; omega
     ·rw [List.length_map]; simp only [List.length_singleton]; omega
     have hb' := belowOwn hb gr' hown (Nat.le_refl _) hle
     have own2 : Own w' w.heap.size 5 1 v' ((endZ l (zerosN (l.length + 1)) ++ beN (BitVec.ofInt 64 n * 8#64) (j + 1)).map w8) := by
      rw [beN_snoc _ _ hlt, ← List.append_assoc, List.map_append]; exact own'
     clear own' gr' hown hb
     obtain ⟨A2, c2, rfl⟩ := own2.len1
     go_wp2
     go_roundw
     case rel => exact ⟨_, j + 1, A2, c2, rfl, by omega, by go_num, own2, hb'⟩
     case measure => simp [intOf]; omega
    ·obtain rfl : j = 8 := by omega
     have hc := str_run (P := Tryz.prog) wr 114 9 5 Tryz.underlying114 Tryz.underlying5 Tryz.underlying9 hown.rd
     go_wp2
     go_ret
     exact ⟨by rw [Hs0.out]; rfl, hb⟩
theorem idx8 (st : S8) (j : Nat) (hj : j < 8) : ∀ W : World, (Instr.index 207 (.agg st.cells.toArray) (.int .i64 (j : Int))).run Tryz.prog W = .ok (w32 (st.list.getD j 0)) W := by
 intro W
 rcases j with _ | _ | _ | _ | _ | _ | _ | _ | j
 all_goals first | omega | kernel_rfl
theorem keep1 {w w1 : World} {g : Nat} {o : Obj} (hb : Below w.drew.heap.size w.drew w1) (hlt : g < w.heap.size) (h : w.heap[g]? = some o) : w1.heap[g]? = some o := (hb.block g hlt).trans h
set_option maxRecDepth 100000 in
set_option maxHeartbeats 400000 in
theorem sha_any (s : ByteArray) (w : World) (hs : s.size ≤ 9223372036854775807) (hT : Tabs w) :
  Calls Tryz.prog 91 #[.string s] w fun e w' => e = .returned (.string ⟨(sha s.data.toList).toArray⟩) ∧ Below w.heap.size w w' := by
 have HT := Veil.mk hT
 have HI : Veil (∀ j u, init8.cells[j]? = some u → w.cell? ⟨0, 0 + j, none⟩ = some u) := ⟨fun j u hu => by
  rw [Nat.zero_add]
  have hj : j < 8 := (List.getElem?_eq_some_iff.1 hu).1
  rw [hT.2 j hj]
  rw [← hu]
  rcases j with _ | _ | _ | _ | _ | _ | _ | _ | j
  all_goals first | omega | rfl⟩
 clear hT
 have Hc8 : Veil (∀ (st : S8) j u, st.cells[j]? = some u → st.cells.toArray[0 + j]? = some u) := ⟨fun st j u hu => by simpa using hu⟩
 have Ho8 : Veil (∀ (st : S8), ∀ u ∈ st.cells, u.oneCell' = true) := ⟨fun st u hu => by
  simp only [S8.cells, List.mem_cons, List.not_mem_nil, or_false] at hu
  rcases hu with rfl | rfl | rfl | rfl | rfl | rfl | rfl | rfl <;> rfl⟩
 go_enter Tryz.func91, Tryz.ntmps91
 go_wp2_with (first
  | (refine ld_cells rfl _ (.global 0) rfl 0 0 rfl Tryz.underlying207 rfl init8.cells info8 HI.out ?_)
  | (refine st_new _ rfl _ (.tmp 3) (.tmp 8) rfl rfl init8.cells rfl info8 rfl (Ho8.out _) ?_))
 have k0 := heap_alloc_new w (.cells init8.cells.toArray 207)
 have b0 := (Below.refl w.heap.size w).alloc (Nat.le_refl _) (.cells init8.cells.toArray 207)
 generalize w.alloc (.cells init8.cells.toArray 207) = w2 at k0 b0 ⊢
 go_loopw [4] (fun r wr => ∃ (n : Nat) (x : ByteArray), r = .string x ∧ x.size ≤ 9223372036854775807 ∧ Veil (x.data.toList = s.data.toList.drop (64 * n)) ∧ 64 * n ≤ s.size ∧ wr.heap[w.heap.size]? = some (.cells (absorb s.data.toList init8 n).cells.toArray 207 (0, 0)) ∧ Below w.heap.size w wr) (fun r _ => match r with | .string x => x.size | _ => 0)
 case atStart => exact ⟨0, s, rfl, hs, ⟨by simp⟩, by omega, k0, b0⟩
 case round =>
  obtain ⟨n, x, rfl, hx, Hx, hn, k, hb⟩ := hrel
  have hxl : x.size = s.size - 64 * n := by have := congrArg List.length Hx.out; simpa using this
  have Hxl := Veil.mk hxl; clear hxl
  have HTr := Veil.mk (HT.out.below hb (Nat.le_refl _))
  have K := Veil.mk k; clear k
  have Hb := Veil.mk hb; clear hb
  by_cases hlt : 64 ≤ x.size
  ·go_wp2
   have hgl := (Array.getElem?_eq_some_iff.1 K.out).1
   refine wp_region_still_tail 3 (by kernel_rfl) (by kernel_rfl) ?_
   simp only [List.take_succ_cons, List.take_zero, List.drop_succ_cons, List.drop_zero]
   refine still_ld_row rfl _ (.tmp 3) rfl w.heap.size 0 rfl K.out Tryz.underlying207 rfl (absorb s.data.toList init8 n).cells (info8.trans (congrArg some (cells_length _).symm)) (Hc8.out _) ?_
   repeat still_step
   refine wpStill_nil ?_
   change wpList _ _ _ _ _ wr.drew
   go_wp2_with (first
    | (go_at_call 171; refine (mix_any (absorb s.data.toList init8 n) _ _ (size64 x hlt) HTr.out.drew).mono ?_; rintro e w1 ⟨rfl, hb1⟩; generalize hs2 : mix8 (absorb s.data.toList init8 n) (x.extract 0 64).data.toList = st2; have Hs2 := Veil.mk hs2; clear hs2; have hk1 := Veil.mk (keep1 hb1 hgl K.out); have Hb1 := Veil.mk hb1; clear hb1)
    | (refine st_all rfl _ (.tmp 3) (.tmp 16) rfl w.heap.size rfl st2.cells rfl hk1.out (info8.trans (congrArg some (cells_length st2).symm)) (cells_fit st2 _) (Ho8.out _) ?_))
   have hk := Veil.mk (setRow_heap w1 w.heap.size _ st2.cells.toArray _ _ hk1.out)
   have hbe := Veil.mk (belowSetRow (Hb.out.drew.trans (Hb1.out.mono Hb.out.size)) (Nat.le_refl _) st2.cells.toArray)
   generalize w1.setRow w.heap.size st2.cells.toArray = w3 at hk hbe ⊢
   go_roundw
   case rel =>
    have hx64 := drop64 x x.size (Nat.le_refl _)
    refine ⟨n + 1, _, rfl, ?_, ⟨?_⟩, ?_, ?_, hbe.out⟩
    ·rw [ByteArray.size_extract]; omega
    ·rw [hx64, Hx.out, List.drop_drop]; congr 1
    ·have := Hxl.out; omega
    ·rw [absorb]
     rw [← Hx.out, ← take64, Hs2.out]
     exact hk.out
   case measure => simp only [ByteArray.size_extract]; omega
  ·have hnq : s.size / 64 = n := by have := Hxl.out; omega
   have Hnq := Veil.mk hnq; clear hnq
   generalize hst : absorb s.data.toList init8 n = st1
   have Hst := Veil.mk hst; clear hst
   go_wp2_with (go_at_call 172; refine (ending_any x _ _ (by omega)).mono ?_; rintro e w1 ⟨rfl, hb1⟩)
   have hblk := ending_blocks x.data.toList s.size
   have htl := ending_length x.data.toList s.size
   generalize hT : Sm.ending x.data.toList s.size = T at hblk htl ⊢
   have HTl := Veil.mk hT; clear hT
   have hk1 := Veil.mk ((hb1.block _ ((Array.getElem?_eq_some_iff.1 K.out).1)).trans K.out)
   have hb1' := Veil.mk (Hb.out.trans (hb1.mono Hb.out.size))
   have hTs : T.length ≤ 300 := by
    have := zerosN_le (x.data.toList.length + 1)
    have : x.data.toList.length = x.size := by simp
    omega
   clear hb1 htl
   have Hblk := Veil.mk hblk; clear hblk
   go_loopw [4] (fun r wr => ∃ (n : Nat) (x : ByteArray), r = .string x ∧ x.size ≤ 300 ∧ Veil (x.data.toList = T.drop (64 * n)) ∧ 64 * n ≤ T.length ∧ Veil (wr.heap[w.heap.size]? = some (.cells (absorb T st1 n).cells.toArray 207 (0, 0))) ∧ Veil (Below w.heap.size w wr)) (fun r _ => match r with | .string x => x.size | _ => 0)
   case atStart => exact ⟨0, _, rfl, by simpa [ByteArray.size] using hTs, ⟨by simp⟩, by omega, ⟨by rw [absorb, ← Hst.out]; exact hk1.out⟩, hb1'⟩
   case round =>
    obtain ⟨m, y, rfl, hy, Hy, hm, K, Hb⟩ := hrel
    have hyl : y.size = T.length - 64 * m := by have := congrArg List.length Hy.out; simpa using this
    have Hyl := Veil.mk hyl; clear hyl
    have HTr := Veil.mk (HT.out.below Hb.out (Nat.le_refl _))
    by_cases hlt : 0 < y.size
    ·have h64 : 64 ≤ y.size := by have := Hyl.out; have := Hblk.out; omega
     have hem := nonempty_of hlt
     have h64i : (64 : Int) ≤ y.size := by omega
     have hgl := (Array.getElem?_eq_some_iff.1 K.out).1
     go_wp2
     refine wp_region_still_tail 3 (by kernel_rfl) (by kernel_rfl) ?_
     simp only [List.take_succ_cons, List.take_zero, List.drop_succ_cons, List.drop_zero]
     refine still_ld_row rfl _ (.tmp 3) rfl w.heap.size 0 rfl K.out Tryz.underlying207 rfl (absorb T st1 m).cells (info8.trans (congrArg some (cells_length _).symm)) (Hc8.out _) ?_
     repeat still_step
     refine wpStill_nil ?_
     change wpList _ _ _ _ _ wr.drew
     go_wp2_with (first
      | (go_at_call 171; refine (mix_any (absorb T st1 m) _ _ (size64 y h64) HTr.out.drew).mono ?_; rintro e w1 ⟨rfl, hb1⟩; generalize hs2 : mix8 (absorb T st1 m) (y.extract 0 64).data.toList = st2; have Hs2 := Veil.mk hs2; clear hs2; have hk1 := Veil.mk (keep1 hb1 hgl K.out); have Hb1 := Veil.mk hb1; clear hb1)
      | (refine st_all rfl _ (.tmp 3) (.tmp 30) rfl w.heap.size rfl st2.cells rfl hk1.out (info8.trans (congrArg some (cells_length st2).symm)) (cells_fit st2 _) (Ho8.out _) ?_))
     have hk := Veil.mk (setRow_heap w1 w.heap.size _ st2.cells.toArray _ _ hk1.out)
     have hbe := Veil.mk (belowSetRow (Hb.out.drew.trans (Hb1.out.mono Hb.out.size)) (Nat.le_refl _) st2.cells.toArray)
     generalize w1.setRow w.heap.size st2.cells.toArray = w3 at hk hbe ⊢
     go_roundw
     case rel =>
      have hx64 := drop64 y y.size (Nat.le_refl _)
      refine ⟨m + 1, _, rfl, ?_, ⟨?_⟩, ?_, ⟨?_⟩, hbe⟩
      ·rw [ByteArray.size_extract]; omega
      ·rw [hx64, Hy.out, List.drop_drop]; congr 1
      ·have := Hyl.out; omega
      ·rw [absorb]
       rw [← Hy.out, ← take64, Hs2.out]
       exact hk.out
     case measure => simp only [ByteArray.size_extract]; omega
    ·have hem := empty_of hlt
     have hmq : T.length / 64 = m := by have := Hyl.out; omega
     have hfin : shaState s.data.toList = absorb T st1 m := by
      have hsl : s.data.toList.length = s.size := by simp
      rw [shaState, hsl, Hnq.out, Hst.out, ← hmq, ← HTl.out, Hx.out]
     have Hfin := Veil.mk hfin; clear hfin hmq
     have hgl := (Array.getElem?_eq_some_iff.1 K.out).1
     generalize hst : absorb T st1 m = st at K Hfin
     clear hst
     have H32 : Veil ((32 : Nat) ≤ maxLen) := ⟨by unfold maxLen; omega⟩
     have hmk : ∀ W : World, (Instr.makeSlice 114 (.int .i64 0) (.int .i64 32)).run Tryz.prog W = .ok (.slice (some ⟨W.heap.size, 0, none⟩) 0 32) (W.alloc (.cells #[.int .u8 0, .int .u8 0, .int .u8 0, .int .u8 0, .int .u8 0, .int .u8 0, .int .u8 0, .int .u8 0, .int .u8 0, .int .u8 0, .int .u8 0, .int .u8 0, .int .u8 0, .int .u8 0, .int .u8 0, .int .u8 0, .int .u8 0, .int .u8 0, .int .u8 0, .int .u8 0, .int .u8 0, .int .u8 0, .int .u8 0, .int .u8 0, .int .u8 0, .int .u8 0, .int .u8 0, .int .u8 0, .int .u8 0, .int .u8 0, .int .u8 0, .int .u8 0] 5)) := fun _ => by kernel_rfl
     go_wp2_with (refine ld_row rfl _ (.tmp 3) rfl w.heap.size 0 rfl ((heap_alloc_old _ _ hgl).trans K.out) Tryz.underlying207 rfl st.cells (info8.trans (congrArg some (cells_length _).symm)) (Hc8.out _) ?_)
     have own0 : Own (wr.alloc (.cells #[.int .u8 0, .int .u8 0, .int .u8 0, .int .u8 0, .int .u8 0, .int .u8 0, .int .u8 0, .int .u8 0, .int .u8 0, .int .u8 0, .int .u8 0, .int .u8 0, .int .u8 0, .int .u8 0, .int .u8 0, .int .u8 0, .int .u8 0, .int .u8 0, .int .u8 0, .int .u8 0, .int .u8 0, .int .u8 0, .int .u8 0, .int .u8 0, .int .u8 0, .int .u8 0, .int .u8 0, .int .u8 0, .int .u8 0, .int .u8 0, .int .u8 0, .int .u8 0] 5)) w.heap.size 5 1 (.slice (some ⟨wr.heap.size, 0, none⟩) 0 32) [] := Own.made Hb.out.size H32.out rfl
     have hb3 := Hb.out.alloc Hb.out.size (.cells #[.int .u8 0, .int .u8 0, .int .u8 0, .int .u8 0, .int .u8 0, .int .u8 0, .int .u8 0, .int .u8 0, .int .u8 0, .int .u8 0, .int .u8 0, .int .u8 0, .int .u8 0, .int .u8 0, .int .u8 0, .int .u8 0, .int .u8 0, .int .u8 0, .int .u8 0, .int .u8 0, .int .u8 0, .int .u8 0, .int .u8 0, .int .u8 0, .int .u8 0, .int .u8 0, .int .u8 0, .int .u8 0, .int .u8 0, .int .u8 0, .int .u8 0, .int .u8 0] 5)
     go_loopw [5, 7, 33] (fun v _ i wx => ∃ j : Nat, j ≤ 8 ∧ i = .int .i64 j ∧ Own wx w.heap.size 5 1 v (((st.list.take j).flatMap be4).map w8) ∧ Below w.heap.size w wx) (fun _ _ i _ => 8 - (intOf i).toNat)
     case atStart => exact ⟨0, by omega, rfl, own0, hb3⟩
     case round =>
      obtain ⟨j, hj, rfl, hown, hbx⟩ := hrel
      have hle := hbx.size
      by_cases hlt : j < 8
      ·have hi := idx8 st j hlt
       have hlen : ((st.list.take j).flatMap be4).length ≤ 32 := by
        rcases j with _ | _ | _ | _ | _ | _ | _ | _ | j
        all_goals first | (simp [S8.list, be4]; done) | omega
       generalize hxj : st.list.getD j 0 = xj at hi
       have Hxj := Veil.mk hxj; clear hxj
       have Hlen := Veil.mk hlen; clear hlen
       go_wp2_with (at_builtin; refine ap_lit wr rfl _ _ _ rfl elem8 [_, _, _, _] hown rfl rfl ?_ ?_ ?_ hle ?_; rotate_left 3; intro v' w' own' gr')
       rotate_left 1
       ·exact oneCell_map8 (be4 xj)
       ·rw [List.length_map]; have := Hlen.out; simp only [List.length_cons, List.length_nil]; omega
       ·rw [List.length_map]; have := Hlen.out; simp only [List.length_cons, List.length_nil]; omega
       have own2 : Own w' w.heap.size 5 1 v' (((st.list.take (j + 1)).flatMap be4).map w8) := by
        rw [digest_snoc _ _ hlt, List.map_append, Hxj.out]; exact own'
       have hb' := belowOwn hbx gr' hown (Nat.le_refl _) hle
       clear own' gr' hown hbx
       go_wp2
       go_roundw
       case rel => exact ⟨j + 1, by omega, by go_num, own2, hb'⟩
       case measure => simp [intOf]; omega
      ·obtain rfl : j = 8 := by omega
       have hc := str_run (P := Tryz.prog) wr 114 9 5 Tryz.underlying114 Tryz.underlying5 Tryz.underlying9 hown.rd
       go_wp2
       go_ret
       exact ⟨by rw [sha, Hfin.out]; rfl, hbx⟩
theorem num_any (s : ByteArray) (w : World) (hs : s.size ≤ 9223372036854775807) :
  Calls Tryz.prog 125 #[.string s] w fun e w' => e = .returned (.int .i64 (num s.data.toList)) ∧ w = w' := by
 go_enter Tryz.func125, Tryz.ntmps125
 go_wp2
 go_loop [3, 4, 5] (fun r _ i => ∃ k : Nat, k ≤ 8 ∧ i = .int .i64 k ∧ r = w64 (BitVec.ofNat 64 (nat8 s.data.toList k))) (fun _ _ i => 8 - (intOf i).toNat)
 case atStart => exact ⟨0, by omega, rfl, rfl⟩
 case round =>
  obtain ⟨k, hk, rfl, rfl⟩ := hrel
  by_cases hlt : k < 8
  ·have st := num_step s.data.toList k hlt
   have sk := num_skip s.data.toList k hlt
   have ek : ∀ (h : k < s.size), s.data.toList.getD k 0 = s[k] := by
    intro h
    rw [List.getD_eq_getElem?_getD, List.getElem?_eq_getElem (by simpa using h)]; rfl
   generalize hn : BitVec.ofNat 64 (nat8 s.data.toList k) = n at st sk
   have Hn := Veil.mk hn
   have St := Veil.mk st
   have Sk := Veil.mk sk
   have Ek := Veil.mk ek
   clear hn st sk ek
   by_cases hl : k < s.size
   ·go_wp2
    go_round
    case rel => exact ⟨k + 1, by omega, by go_num, by rw [← St.out, Ek.out hl]⟩
    case measure => simp [intOf]; omega
   ·go_wp2
    go_round
    case rel => exact ⟨k + 1, by omega, by go_num, by rw [← Sk.out (by simp; omega)]⟩
    case measure => simp [intOf]; omega
  ·obtain rfl : k = 8 := by omega
   have e := num_end s.data.toList
   generalize hn : BitVec.ofNat 64 (nat8 s.data.toList 8) = n at e ⊢
   clear hn
   have E := Veil.mk e; clear e
   go_wp2
   go_ret
   exact ⟨ret_int E.out, rfl⟩
@[go_sem] theorem index_w8 {P : Program} (w : World) (t : TypeId) (s : ByteArray) (b : UInt8) (h : P.underlying t = some .string) :
  (Instr.index t (.string s) (w8 b)).run P w = if hi : b.toNat < s.size then .ok (w8 (s[b.toNat]'hi)) w else (boundsPanic .u8 b.toNat s.size .index).run P w := by
 show (Instr.index t (.string s) (.int .u8 _)).run P w = _
 rw [run_index_string w t s .u8 _ h]
 by_cases hi : b.toNat < s.size
 ·rw [dif_pos hi, dif_pos ⟨by omega, by omega⟩]; rfl
 ·rw [dif_neg hi, dif_neg (by omega)]
end Go.Proofs.YtlefikdjhnaapaaGreatDoor
end
section
namespace Go.Proofs.YtlefikdjhnaapaaGreatDoor
open Go
section
variable {P : Program} {t : TypeId}
theorem quo32 (a b : BitVec 32) (h : b.toNat ≠ 0) : binOp .quo t (w32 a) (w32 b) = pure (w32 (a / b)) := by
 show binOp .quo t (.int .u32 _) (.int .u32 _) = _
 rw [binOp_quo]
 have ha := a.isLt
 have hz' : ¬ (b.toNat : Int) = 0 := by omega
 unfold w32
 rw [BitVec.toNat_udiv]
 have hd : a.toNat / b.toNat < 4294967296 := Nat.lt_of_le_of_lt (Nat.div_le_self _ _) ha
 simp only [Op.intDiv, if_neg hz', IntKind.wrap_u32']
 congr 2
 rw [← Int.ofNat_tdiv]
 generalize a.toNat / b.toNat = q at hd ⊢
 omega
theorem rem32 (a b : BitVec 32) (h : b.toNat ≠ 0) : binOp .rem t (w32 a) (w32 b) = pure (w32 (a % b)) := by
 show binOp .rem t (.int .u32 _) (.int .u32 _) = _
 rw [binOp_rem]
 have hz' : ¬ (b.toNat : Int) = 0 := by omega
 unfold w32
 rw [BitVec.toNat_umod]
 simp only [Op.intDiv, if_neg hz']
 congr 2
@[go_sem] theorem quo32r (a : BitVec 32) (n : Nat) (h : n < 4294967296) (h0 : 0 < n) : binOp .quo t (w32 a) (.int .u32 (no_index (OfNat.ofNat n))) = pure (w32 (a / (BitVec.ofNat 32 n))) := by
 rw [lit32 n h, quo32]; rw [BitVec.toNat_ofNat, Nat.mod_eq_of_lt h]; omega
@[go_sem] theorem rem32r (a : BitVec 32) (n : Nat) (h : n < 4294967296) (h0 : 0 < n) : binOp .rem t (w32 a) (.int .u32 (no_index (OfNat.ofNat n))) = pure (w32 (a % (BitVec.ofNat 32 n))) := by
 rw [lit32 n h, rem32]; rw [BitVec.toNat_ofNat, Nat.mod_eq_of_lt h]; omega
end
namespace Sm
theorem rot_back (x : BitVec 32) (n : Int) (h0 : 0 < n) (h : n < 32) : (x >>> n.toNat ||| x <<< (32 - n).toNat) = rot x n.toNat := by
 rw [rot, BitVec.or_comm, show (32 - n).toNat = 32 - n.toNat from by omega]
theorem num_last (l : List UInt8) : 32 * (nat8 l 7 : Int) + ((l.getD 7 0).toNat : Int) / 8 = (num l : Int) := by
 have h : nat8 l 8 = 256 * nat8 l 7 + (l.getD 7 0).toNat := rfl
 unfold num
 rw [h]
 generalize nat8 l 7 = n
 generalize (l.getD 7 0).toNat = b
 omega
theorem word4_nat (a b c d : Nat) (ha : a < 256) (hb : b < 256) (hc : c < 256) (hd : d < 256) :
  (((a * 2 ^ 24 % 2 ^ 32 ||| b * 2 ^ 16 % 2 ^ 32) ||| c * 2 ^ 8 % 2 ^ 32) ||| d) = a * 16777216 + b * 65536 + c * 256 + d := by
 rw [Nat.mod_eq_of_lt (show a * 2 ^ 24 < 2 ^ 32 from by omega), Nat.mod_eq_of_lt (show b * 2 ^ 16 < 2 ^ 32 from by omega), Nat.mod_eq_of_lt (show c * 2 ^ 8 < 2 ^ 32 from by omega)]
 rw [nat_join 24 (a * 2 ^ 24) (b * 2 ^ 16) (by omega) (by omega), nat_join 16 (a * 2 ^ 24 + b * 2 ^ 16) (c * 2 ^ 8) (by omega) (by omega), nat_join 8 (a * 2 ^ 24 + b * 2 ^ 16 + c * 2 ^ 8) d (by omega) (by omega)]
theorem mul_toNat (x : BitVec 32) (n : Nat) (hx : x.toNat < 256) (hn : n ≤ 16777216) : (x * BitVec.ofNat 32 n).toNat = x.toNat * n := by
 rw [BitVec.toNat_mul, BitVec.toNat_ofNat, Nat.mod_eq_of_lt (show n < 2 ^ 32 from by omega)]
 have h : x.toNat * n ≤ 255 * 16777216 := Nat.mul_le_mul (by omega) hn
 exact Nat.mod_eq_of_lt (by omega)
theorem add_toNat (x y : BitVec 32) (h : x.toNat + y.toNat < 4294967296) : (x + y).toNat = x.toNat + y.toNat := by
 rw [BitVec.toNat_add]
 exact Nat.mod_eq_of_lt (by omega)
theorem word4_sum (a b c d : UInt8) : bw a * 16777216#32 + bw b * 65536#32 + bw c * 256#32 + bw d = word4 a b c d := by
 have q : ∀ x : UInt8, (bw x).toNat = x.toNat := fun x => by
  have := x.toNat_lt
  unfold bw
  rw [BitVec.toNat_setWidth, UInt8.toNat_toBitVec, Nat.mod_eq_of_lt (by omega)]
 have ha := a.toNat_lt
 have hb := b.toNat_lt
 have hc := c.toNat_lt
 have hd := d.toNat_lt
 apply BitVec.eq_of_toNat_eq
 have m1 := mul_toNat (bw a) 16777216 (by rw [q]; exact ha) (by omega)
 have m2 := mul_toNat (bw b) 65536 (by rw [q]; exact hb) (by omega)
 have m3 := mul_toNat (bw c) 256 (by rw [q]; exact hc) (by omega)
 rw [q] at m1 m2 m3
 have s1 := add_toNat (bw a * 16777216#32) (bw b * 65536#32) (by rw [m1, m2]; omega)
 have s2 := add_toNat (bw a * 16777216#32 + bw b * 65536#32) (bw c * 256#32) (by rw [s1, m1, m2, m3]; omega)
 have s3 := add_toNat (bw a * 16777216#32 + bw b * 65536#32 + bw c * 256#32) (bw d) (by rw [s2, s1, m1, m2, m3, q]; omega)
 rw [s3, s2, s1, m1, m2, m3, q]
 unfold word4
 rw [BitVec.toNat_or, BitVec.toNat_or, BitVec.toNat_or, BitVec.toNat_shiftLeft, BitVec.toNat_shiftLeft, BitVec.toNat_shiftLeft, Nat.shiftLeft_eq, Nat.shiftLeft_eq, Nat.shiftLeft_eq, q, q, q, q]
 exact (word4_nat _ _ _ _ ha hb hc hd).symm
def padded (l : List UInt8) : List UInt8 := ending l l.length
theorem absorb_add (l : List UInt8) (st : S8) (n m : Nat) : absorb l st (n + m) = absorb (l.drop (64 * n)) (absorb l st n) m := by
 induction m with
 | zero => rfl
 | succ m ih => rw [← Nat.add_assoc, absorb, absorb, ih, List.drop_drop, show 64 * n + 64 * m = 64 * (n + m) from by omega]
theorem absorb_prefix (l r : List UInt8) (st : S8) (n : Nat) (h : 64 * n ≤ l.length) : absorb (l ++ r) st n = absorb l st n := by
 induction n with
 | zero => rfl
 | succ n ih =>
  rw [absorb, absorb, ih (by omega), List.drop_append_of_le_length (by omega), List.take_append_of_le_length (by rw [List.length_drop]; omega)]
theorem padded_split (l : List UInt8) : padded l = l.take (64 * (l.length / 64)) ++ ending (l.drop (64 * (l.length / 64))) l.length := by
 unfold padded ending
 have hz : zerosN ((l.drop (64 * (l.length / 64))).length + 1) = zerosN (l.length + 1) := by
  rw [List.length_drop]
  unfold zerosN
  omega
 rw [hz]
 simp only [← List.append_assoc, List.take_append_drop]
theorem padded_state (l : List UInt8) : absorb (padded l) init8 ((padded l).length / 64) = shaState l := by
 unfold shaState
 have hl : (l.take (64 * (l.length / 64))).length = 64 * (l.length / 64) := by rw [List.length_take]; omega
 have hs := padded_split l
 have hlen : (padded l).length / 64 = l.length / 64 + (ending (l.drop (64 * (l.length / 64))) l.length).length / 64 := by
  rw [hs, List.length_append, hl]
  omega
 rw [hlen, absorb_add]
 have e1 : (padded l).drop (64 * (l.length / 64)) = ending (l.drop (64 * (l.length / 64))) l.length := by
  rw [hs]
  exact List.drop_left' hl
 have e2 : absorb (padded l) init8 (l.length / 64) = absorb l init8 (l.length / 64) := by
  rw [hs, absorb_prefix _ _ _ _ (by omega)]
  have e := absorb_prefix (l.take (64 * (l.length / 64))) (l.drop (64 * (l.length / 64))) init8 (l.length / 64) (by rw [hl]; exact Nat.le_refl _)
  rw [List.take_append_drop] at e
  exact e.symm
 rw [e1, e2]
def outR (st : S8) (k : Nat) : List UInt8 := (List.range k).map fun i => wb (st.list.getD (i / 4) 0 >>> (24 - 8 * (i % 4)))
theorem outR_snoc (st : S8) (k : Nat) : outR st (k + 1) = outR st k ++ [wb (st.list.getD (k / 4) 0 >>> (24 - 8 * (k % 4)))] := by simp [outR, List.range_succ]
theorem outR_length (st : S8) (k : Nat) : (outR st k).length = k := by simp [outR]
theorem outR_all (st : S8) : outR st 32 = st.list.flatMap be4 := by
 obtain ⟨a, b, c, d, e, f, g, h⟩ := st
 have z : ∀ x : BitVec 32, x >>> 0 = x := fun x => by simp
 show [wb (a >>> 24), wb (a >>> 16), wb (a >>> 8), wb (a >>> 0), wb (b >>> 24), wb (b >>> 16), wb (b >>> 8), wb (b >>> 0), wb (c >>> 24), wb (c >>> 16), wb (c >>> 8), wb (c >>> 0), wb (d >>> 24), wb (d >>> 16), wb (d >>> 8), wb (d >>> 0), wb (e >>> 24), wb (e >>> 16), wb (e >>> 8), wb (e >>> 0), wb (f >>> 24), wb (f >>> 16), wb (f >>> 8), wb (f >>> 0), wb (g >>> 24), wb (g >>> 16), wb (g >>> 8), wb (g >>> 0), wb (h >>> 24), wb (h >>> 16), wb (h >>> 8), wb (h >>> 0)] = _
 simp only [z]
 rfl
end Sm
end Go.Proofs.YtlefikdjhnaapaaGreatDoor
namespace Go.Proofs.YtlefikdjhnaapaaGreatDoor.Sm
def addTo (r s : List (BitVec 32)) : Nat → List (BitVec 32)
 | 0 => r
 | k + 1 => (addTo r s k).set k ((addTo r s k).getD k 0 + s.getD k 0)
theorem addTo_length (r s : List (BitVec 32)) (k : Nat) : (addTo r s k).length = r.length := by
 induction k with
 | zero => rfl
 | succ k ih => rw [addTo, List.length_set, ih]
theorem addTo_all (r s : S8) : (addTo r.list s.list 8).map w32 = (s.add r).cells := by
 obtain ⟨a, b, c, d, e, f, g, h⟩ := r
 obtain ⟨a', b', c', d', e', f', g', h'⟩ := s
 show [w32 (a + a'), w32 (b + b'), w32 (c + c'), w32 (d + d'), w32 (e + e'), w32 (f + f'), w32 (g + g'), w32 (h + h')] = [w32 (a' + a), w32 (b' + b), w32 (c' + c), w32 (d' + d), w32 (e' + e), w32 (f' + f), w32 (g' + g), w32 (h' + h)]
 rw [BitVec.add_comm a, BitVec.add_comm b, BitVec.add_comm c, BitVec.add_comm d, BitVec.add_comm e, BitVec.add_comm f, BitVec.add_comm g, BitVec.add_comm h]
theorem cells_list (s : S8) : s.cells = s.list.map w32 := rfl
theorem list_length (s : S8) : s.list.length = 8 := rfl
theorem tabK_length : tabK.length = 64 := rfl
end Go.Proofs.YtlefikdjhnaapaaGreatDoor.Sm
end
section
namespace Go.Proofs.YtlefikdjhnaapaaGreatDoor
open Go.RowKit Sm
theorem rturn_any (x : BitVec 32) (n : Int) (w : World) (h0 : 0 < n) (h : n < 32) :
  Calls Tryz.prog 271 #[w32 x, .int .i64 n] w fun e w' => e = .returned (w32 (rot x n.toNat)) ∧ ∃ m, w' = w.drewN m := by
 have e := rot_back x n h0 h
 have E := Veil.mk e; clear e
 have q0 : 0 ≤ n := by omega
 have q1 : 0 ≤ 32 - n := by omega
 have q2 : n ≤ 32 := by omega
 go_enter Tryz.func271, Tryz.ntmps271
 go_wp2
 go_quiet (fail)
 go_wp2
 go_ret
 rw [← E.out]
 exact ⟨rfl, _, rfl⟩
theorem rnum_any (s : ByteArray) (w : World) (hs : s.size ≤ 9223372036854775807) :
  Calls Tryz.prog 288 #[.string s] w fun e w' => e = .returned (.int .i64 (num s.data.toList)) ∧ w = w' := by
 go_enter Tryz.func288, Tryz.ntmps288
 go_wp2
 go_loop [3, 4, 5] (fun r i _ => ∃ k : Nat, k ≤ 8 ∧ i = .int .i64 k ∧ r = .int .i64 (if k ≤ 7 then (nat8 s.data.toList k : Int) else (num s.data.toList : Int))) (fun _ i _ => 8 - (intOf i).toNat)
 case atStart => exact ⟨0, by omega, rfl, rfl⟩
 case round =>
  obtain ⟨k, hk, rfl, rfl⟩ := hrel
  by_cases hlt : k < 8
  ·have h7 : k ≤ 7 := by omega
   rw [if_pos h7]
   have hn := nat8_lt s.data.toList k
   have hp : 256 ^ k ≤ 256 ^ 7 := Nat.pow_le_pow_right (by omega) h7
   have hnb : nat8 s.data.toList k < 72057594037927936 := by omega
   clear hn hp
   obtain ⟨b, hb⟩ : ∃ b : Nat, b = (s.data.toList.getD k 0).toNat := ⟨_, rfl⟩
   have hb8 : b < 256 := by have := (s.data.toList.getD k 0).toNat_lt; omega
   have st : k < 7 → ((nat8 s.data.toList (k + 1) : Nat) : Int) = 256 * (nat8 s.data.toList k : Int) + (b : Int) := by
    intro _; rw [nat8, hb]; omega
   have hsm : k < 7 → nat8 s.data.toList k < 281474976710656 := by
    intro h
    have h1 := nat8_lt s.data.toList k
    have h2 : 256 ^ k ≤ 256 ^ 6 := Nat.pow_le_pow_right (by omega) (by omega)
    omega
   have sl : k = 7 → (num s.data.toList : Int) = 32 * (nat8 s.data.toList k : Int) + (b : Int) / 8 := by
    intro h; subst h; rw [hb]; exact (num_last _).symm
   have ek : ∀ (h : k < s.size), ((s[k]).toNat : Int) = (b : Int) := by
    intro h
    rw [hb, List.getD_eq_getElem?_getD, List.getElem?_eq_getElem (by simpa using h)]; rfl
   have e0 : ¬ k < s.size → (b : Int) = 0 := by
    intro h
    rw [hb, List.getD_eq_getElem?_getD, List.getElem?_eq_none (by simp; omega)]; rfl
   clear hb
   generalize hn : nat8 s.data.toList k = n at st sl hnb hsm ⊢
   have Hn := Veil.mk hn
   have St := Veil.mk st
   have Sl := Veil.mk sl
   have Ek := Veil.mk ek
   have E0 := Veil.mk e0
   have Hsm := Veil.mk hsm
   clear hn st sl ek e0 hsm
   by_cases hl : k < s.size
   ·have ek := Ek.out hl
    by_cases hk7 : k < 7
    ·have hsm := Hsm.out hk7
     go_wp2
     go_round
     case rel => exact ⟨k + 1, by omega, by go_num, val_int (by rw [if_pos (by omega), St.out hk7])⟩
     case measure => simp [intOf]; omega
    ·go_wp2
     go_round
     case rel => exact ⟨k + 1, by omega, by go_num, val_int (by rw [if_neg (by omega), Sl.out (by omega)])⟩
     case measure => simp [intOf]; omega
   ·by_cases hk7 : k < 7
    ·have hsm := Hsm.out hk7
     go_wp2
     go_round
     case rel => exact ⟨k + 1, by omega, by go_num, val_int (by rw [if_pos (by omega), St.out hk7, E0.out hl, Int.add_zero])⟩
     case measure => simp [intOf]; omega
    ·go_wp2
     go_round
     case rel => exact ⟨k + 1, by omega, by go_num, val_int (by rw [if_neg (by omega), Sl.out (by omega), E0.out hl]; rfl)⟩
     case measure => simp [intOf]; omega
  ·obtain rfl : k = 8 := by omega
   rw [if_neg (by omega)]
   go_wp2
   go_ret
   exact ⟨rfl, rfl⟩
theorem elem32 : ElemOk Tryz.prog 244 206 1 4 := ElemOk.mk' (z := .int .u32 0) Tryz.underlying244 (by kernel_rfl) rfl (by decide)
set_option maxRecDepth 100000 in
set_option maxHeartbeats 4000000 in
theorem rwords_any (g o c : Nat) (l : List UInt8) (w : World) (hcell : ∀ j, j < 64 → w.cell? ⟨g, o + j, none⟩ = some (w8 (l.getD j 0))) (hl : l.length = 64) (_hc : 64 ≤ c) (hB : g < w.heap.size) :
  Calls Tryz.prog 269 #[.slice (some ⟨g, o, none⟩) 64 c] w fun e w' => ∃ v', e = .returned v' ∧ Own w' w.heap.size 206 1 v' ((sched l).map w32) ∧ Below w.heap.size w w' := by
 have Hcell := Veil.mk hcell; clear hcell
 have Hl := Veil.mk hl; clear hl
 go_enter Tryz.func269, Tryz.ntmps269
 go_wp2
 go_loopw [3, 4] (fun v i wr => ∃ k : Nat, k ≤ 16 ∧ i = .int .i64 k ∧ Own wr w.heap.size 206 1 v ((firstW l k).map w32) ∧ Below w.heap.size w wr) (fun _ i _ => 16 - (intOf i).toNat)
 case atStart => exact ⟨0, by omega, rfl, Own.nil _ _ _ _, Below.refl _ _⟩
 case round =>
  obtain ⟨k, hk, rfl, hown, hb⟩ := hrel
  have hle := hb.size
  by_cases hlt : k < 16
  ·have rd : ∀ j, j < 64 → wr.cell? ⟨g, o + j, none⟩ = some (w8 (l.getD j 0)) := fun j hj => (hb.cell hB).trans (Hcell.out j hj)
   have c0 := rd (4 * k) (by omega)
   have c1 := rd (4 * k + 1) (by omega)
   have c2 := rd (4 * k + 2) (by omega)
   have c3 := rd (4 * k + 3) (by omega)
   clear rd
   have hw : word4 (l.getD (4 * k) 0) (l.getD (4 * k + 1) 0) (l.getD (4 * k + 2) 0) (l.getD (4 * k + 3) 0) = wordAt l k := rfl
   have Hw := Veil.mk hw; clear hw
   generalize l.getD (4 * k) 0 = b0 at c0 Hw
   generalize l.getD (4 * k + 1) 0 = b1 at c1 Hw
   generalize l.getD (4 * k + 2) 0 = b2 at c2 Hw
   generalize l.getD (4 * k + 3) 0 = b3 at c3 Hw
   have c2' : wr.cell? ⟨g, o + (4 * k + 1 + 1), none⟩ = some (w8 b2) := c2
   have c3' : wr.cell? ⟨g, o + (4 * k + 2 + 1), none⟩ = some (w8 b3) := c3
   clear c2 c3
   have hC : ∀ {W : World}, Below w.heap.size w W → W.cell? ⟨g, o + 4 * k, none⟩ = some (w8 b0) ∧ W.cell? ⟨g, o + (4 * k + 1), none⟩ = some (w8 b1) ∧ W.cell? ⟨g, o + (4 * k + 1 + 1), none⟩ = some (w8 b2) ∧ W.cell? ⟨g, o + (4 * k + 2 + 1), none⟩ = some (w8 b3) := fun hB' =>
    ⟨(hB'.cell hB).trans ((hb.cell hB).symm.trans c0), (hB'.cell hB).trans ((hb.cell hB).symm.trans c1), (hB'.cell hB).trans ((hb.cell hB).symm.trans c2'), (hB'.cell hB).trans ((hb.cell hB).symm.trans c3')⟩
   have HC := Veil.mk @hC; clear hC
   have hsum := word4_sum b0 b1 b2 b3
   have Hsum := Veil.mk (hsum.trans Hw.out); clear hsum Hw
   have i0 : (4 : Int) * (k : Int) < 64 := by omega
   have i1 : (4 : Int) * (k : Int) + 1 < 64 := by omega
   have i2 : (4 : Int) * (k : Int) + 2 < 64 := by omega
   have i3 : (4 : Int) * (k : Int) + 3 < 64 := by omega
   have w0 : IntKind.i64.wrap (4 * (k : Int)) = 4 * (k : Int) := by rw [IntKind.wrap_i64]; omega
   have w1 : IntKind.i64.wrap (4 * (k : Int) + 1) = 4 * (k : Int) + 1 := by rw [IntKind.wrap_i64]; omega
   have w2 : IntKind.i64.wrap (4 * (k : Int) + 2) = 4 * (k : Int) + 2 := by rw [IntKind.wrap_i64]; omega
   have w3 : IntKind.i64.wrap (4 * (k : Int) + 3) = 4 * (k : Int) + 3 := by rw [IntKind.wrap_i64]; omega
   have t0 : (4 * (k : Int)).toNat = 4 * k := by omega
   have t1 : (4 * (k : Int) + 1).toNat = 4 * k + 1 := by omega
   have t2 : (4 * (k : Int) + 2).toNat = 4 * k + 2 := by omega
   have t3 : (4 * (k : Int) + 3).toNat = 4 * k + 3 := by omega
   have p0 : 0 ≤ 4 * (k : Int) := by omega
   have p1 : 0 ≤ 4 * (k : Int) + 1 := by omega
   have p2 : 0 ≤ 4 * (k : Int) + 2 := by omega
   have p3 : 0 ≤ 4 * (k : Int) + 3 := by omega
   have hl1 : (((firstW l k).map w32).length + [w32 (bw b0 * 16777216#32 + bw b1 * 65536#32 + bw b2 * 256#32 + bw b3)].length) * 4 ≤ 140737488355328 := by
    rw [List.length_map, firstW_length]; simp only [List.length_singleton]; omega
   have hl2 : ((firstW l k).map w32).length + [w32 (bw b0 * 16777216#32 + bw b1 * 65536#32 + bw b2 * 256#32 + bw b3)].length ≤ 140737488355328 := by
    rw [List.length_map, firstW_length]; simp only [List.length_singleton]; omega
   have HL1 := Veil.mk hl1
   have HL2 := Veil.mk hl2
   clear hl1 hl2
   go_wp2
   have Hb := Veil.mk hb; have Hown := Veil.mk hown; have HlE := Veil.mk hle; clear hb hown hle
   go_region_held3 (fun W => W.cell? ⟨g, o + 4 * k, none⟩ = some (w8 b0) ∧ W.cell? ⟨g, o + (4 * k + 1), none⟩ = some (w8 b1) ∧ W.cell? ⟨g, o + (4 * k + 1 + 1), none⟩ = some (w8 b2) ∧ W.cell? ⟨g, o + (4 * k + 2 + 1), none⟩ = some (w8 b3)) (first | go_keep | exact HC.out hb') (first | (refine step_ap_lit wr.drew rfl (.tmp 14) (.tmp 48) _ rfl elem32 [w32 (bw b0 * 16777216#32 + bw b1 * 65536#32 + bw b2 * 256#32 + bw b3)] Hown.out.drew rfl rfl (one1 rfl) HL1.out HL2.out HlE.out ?_; intro v' w' own' gr'; have hb' := belowOwn Hb.out.drew gr' Hown.out.drew (Nat.le_refl _) HlE.out))
   all_goals
    have hb := Hb.out
    have hown := Hown.out
    have hle := HlE.out
    have own2 : Own w' w.heap.size 206 1 v' ((firstW l (k + 1)).map w32) := by
     rw [firstW_snoc, List.map_append, ← Hsum.out]; exact own'
    clear own' gr'
    go_wp2
    go_roundw
    case rel => exact ⟨k + 1, by omega, by go_num, own2, hb'⟩
    case measure => simp [intOf]; omega
  ·have hk16 : 16 ≤ k := by omega
   have hown := Veil.mk (show Own wr w.heap.size 206 1 _ ((schedN l (16 - 16)).map w32) by
    obtain rfl : k = 16 := by omega
    exact hown)
   clear hlt
   go_wp2
   go_loopw [3, 5, 6, 7, 8, 9] (fun v i _ _ _ _ wr => ∃ m : Nat, 16 ≤ m ∧ m ≤ 64 ∧ i = .int .i64 m ∧ Own wr w.heap.size 206 1 v ((schedN l (m - 16)).map w32) ∧ Below w.heap.size w wr) (fun _ i _ _ _ _ _ => 64 - (intOf i).toNat)
   case atStart => exact ⟨16, by omega, by omega, rfl, hown.out, hb⟩
   case round =>
    clear hown hb hle
    obtain ⟨m, hm0, hm, rfl, hown, hb⟩ := hrel
    have hle := hb.size
    by_cases hlt : m < 64
    ·have hlen := schedN_length l (m - 16)
     obtain ⟨gw, cw, rfl, hcw, hbw, hgw, hcellw⟩ := hown.form (by rw [List.length_map]; omega)
     rw [List.length_map, hlen, show 16 + (m - 16) = m from by omega] at hown hcw ⊢
     have rd : ∀ j, j < m → wr.cell? ⟨gw, j, none⟩ = some (w32 ((schedN l (m - 16)).getD j 0)) := fun j hj => hcellw j _ (by
      rw [List.getElem?_map, List.getElem?_eq_getElem (by omega), List.getD_eq_getElem?_getD, List.getElem?_eq_getElem (by omega)]; rfl)
     clear hcellw
     have c15 := rd (m - 15) (by omega)
     have c2 := rd (m - 2) (by omega)
     have c7 := rd (m - 7) (by omega)
     have c16 := rd (m - 16) (by omega)
     clear rd
     have hnx : nextW (schedN l (m - 16)) m = (schedN l (m - 16)).getD (m - 16) 0 + sig0 ((schedN l (m - 16)).getD (m - 15) 0) + (schedN l (m - 16)).getD (m - 7) 0 + sig1 ((schedN l (m - 16)).getD (m - 2) 0) := rfl
     generalize (schedN l (m - 16)).getD (m - 16) 0 = x16 at c16 hnx
     generalize (schedN l (m - 16)).getD (m - 15) 0 = x15 at c15 hnx
     generalize (schedN l (m - 16)).getD (m - 7) 0 = x7 at c7 hnx
     generalize (schedN l (m - 16)).getD (m - 2) 0 = x2 at c2 hnx
     have Hnx := Veil.mk hnx; clear hnx
     have Hlen := Veil.mk hlen; clear hlen
     have Hown := Veil.mk hown; have Hb := Veil.mk hb; clear hown hb
     have b1 : 16 ≤ (m : Int) := by omega
     have b2 : (m : Int) < 64 := by omega
     go_wp2_with (go_at_call 271; refine (rturn_any _ _ _ (by omega) (by omega)).mono ?_; rintro e w' ⟨rfl, mm, rfl⟩)
     generalize hwz : World.drewN wr _ = wz
     have c16 : wz.cell? ⟨gw, m - 16, none⟩ = some (w32 x16) := by rw [← hwz]; exact c16
     have c7 : wz.cell? ⟨gw, m - 7, none⟩ = some (w32 x7) := by rw [← hwz]; exact c7
     have Hown2 := Veil.mk (show Own wz w.heap.size 206 1 (.slice (some ⟨gw, 0, none⟩) m cw) ((schedN l (m - 16)).map w32) by rw [← hwz]; exact Hown.out.drewN _)
     have Hb2 := Veil.mk (show Below w.heap.size w wz by rw [← hwz]; exact belowDrewN Hb.out _)
     have hle2 := Hb2.out.size
     clear hwz c15 c2
     have w16 : IntKind.i64.wrap ((m : Int) - 16) = (m : Int) - 16 := by rw [IntKind.wrap_i64]; omega
     have w7 : IntKind.i64.wrap ((m : Int) - 7) = (m : Int) - 7 := by rw [IntKind.wrap_i64]; omega
     have t16 : ((m : Int) - 16).toNat = m - 16 := by omega
     have t7 : ((m : Int) - 7).toNat = m - 7 := by omega
     have p16 : 0 ≤ (m : Int) - 16 := by omega
     have p7 : 0 ≤ (m : Int) - 7 := by omega
     have b7 : 7 ≤ (m : Int) := by omega
     have i16 : (m : Int) - 16 < m := by omega
     have i7 : (m : Int) - 7 < m := by omega
     generalize hX : x16 + (rot x15 7 ^^^ rot x15 18 ^^^ x15 >>> 3) + x7 + (rot x2 17 ^^^ rot x2 19 ^^^ x2 >>> 10) = X
     have HX : Veil (X = nextW (schedN l (m - 16)) m) := ⟨by rw [← hX, Hnx.out]; rfl⟩
     have hl1 : (((schedN l (m - 16)).map w32).length + [w32 X].length) * 4 ≤ 140737488355328 := by
      rw [List.length_map, Hlen.out]; simp only [List.length_singleton]; omega
     have hl2 : ((schedN l (m - 16)).map w32).length + [w32 X].length ≤ 140737488355328 := by
      rw [List.length_map, Hlen.out]; simp only [List.length_singleton]; omega
     have HL1 := Veil.mk hl1
     have HL2 := Veil.mk hl2
     clear hl1 hl2 Hb Hown
     go_region_law (refine step_ap_lit wz.drew rfl (.tmp 80) (.tmp 96) _ rfl elem32 [w32 X] Hown2.out.drew rfl rfl (one1 rfl) HL1.out HL2.out hle2 ?_; intro v' w' own' gr')
     all_goals
      have own2 : Own w' w.heap.size 206 1 v' ((schedN l (m + 1 - 16)).map w32) := by
       rw [show m + 1 - 16 = m - 16 + 1 from by omega, schedN, show 16 + (m - 16) = m from by omega, List.map_append, ← HX.out]; exact own'
      have hb' := belowOwn Hb2.out.drew gr' Hown2.out.drew (Nat.le_refl _) hle2
      clear own' gr' w16 w7 t16 t7 p16 p7 i16 i7
      go_wp2
      go_roundw
      case rel => exact ⟨m + 1, by omega, by omega, by go_num, own2, hb'⟩
      case measure => simp [intOf]; omega
    ·have hm64 : m = 64 := by omega
     subst hm64
     have hown : Own wr w.heap.size 206 1 _ ((sched l).map w32) := hown
     go_wp2
     go_ret
     exact ⟨_, rfl, hown, hb⟩
theorem quiet_more {P : Program} {f : FuncId} {args : Array Value} {w : World} {j n : Nat} {v : Value}
  (h : Calls P f args (w.drewN (j + n)) fun e w' => e = .returned v ∧ ∃ m, w' = (w.drewN (j + n)).drewN m) : Calls P f args (w.drewN (j + n)) fun e w'' => e = .returned v ∧ ∃ m, w'' = w.drewN (j + m) :=
 h.mono fun _ _ ⟨he, m, hm⟩ => ⟨he, n + m, by rw [hm, World.drewN_drewN, Nat.add_assoc]⟩
theorem tabK_cells : (tabK.map w32).toArray = #[.int .u32 1116352408, .int .u32 1899447441, .int .u32 3049323471, .int .u32 3921009573, .int .u32 961987163, .int .u32 1508970993, .int .u32 2453635748, .int .u32 2870763221, .int .u32 3624381080, .int .u32 310598401, .int .u32 607225278, .int .u32 1426881987, .int .u32 1925078388, .int .u32 2162078206, .int .u32 2614888103, .int .u32 3248222580, .int .u32 3835390401, .int .u32 4022224774, .int .u32 264347078, .int .u32 604807628, .int .u32 770255983, .int .u32 1249150122, .int .u32 1555081692, .int .u32 1996064986, .int .u32 2554220882, .int .u32 2821834349, .int .u32 2952996808, .int .u32 3210313671, .int .u32 3336571891, .int .u32 3584528711, .int .u32 113926993, .int .u32 338241895, .int .u32 666307205, .int .u32 773529912, .int .u32 1294757372, .int .u32 1396182291, .int .u32 1695183700, .int .u32 1986661051, .int .u32 2177026350, .int .u32 2456956037, .int .u32 2730485921, .int .u32 2820302411, .int .u32 3259730800, .int .u32 3345764771, .int .u32 3516065817, .int .u32 3600352804, .int .u32 4094571909, .int .u32 275423344, .int .u32 430227734, .int .u32 506948616, .int .u32 659060556, .int .u32 883997877, .int .u32 958139571, .int .u32 1322822218, .int .u32 1537002063, .int .u32 1747873779, .int .u32 1955562222, .int .u32 2024104815, .int .u32 2227730452, .int .u32 2361852424, .int .u32 2428436474, .int .u32 2756734187, .int .u32 3204031479, .int .u32 3329325298] := by kernel_rfl
theorem cells_of {w : World} {g : Nat} {l : List (BitVec 32)} (h : ∀ j u, (l.map w32)[j]? = some u → w.cell? ⟨g, j, none⟩ = some u) (j : Nat) (hj : j < l.length) : w.cell? ⟨g, j, none⟩ = some (w32 (l.getD j 0)) :=
 h j _ (by rw [List.getElem?_map, List.getElem?_eq_getElem hj, List.getD_eq_getElem?_getD, List.getElem?_eq_getElem hj]; rfl)
theorem radds_any (w : World) : Calls Tryz.prog 270 #[] w fun e w' => ∃ v, e = .returned v ∧ Own w' w.heap.size 206 1 v (tabK.map w32) ∧ Below w.heap.size w w' := by
 go_enter Tryz.func270, Tryz.ntmps270
 go_wp2
 go_ret
 refine ⟨_, rfl, ?_, (Below.refl _ _).alloc (Nat.le_refl _) _⟩
 have h := Own.lit (e := 206) (base := w.heap.size) (size := 1) w (tabK.map w32) 64 (Nat.le_refl _) (by unfold maxLen; omega) (by rw [List.length_map, tabK_length])
 rw [tabK_cells] at h
 exact h
theorem init8_cells : init8.cells.toArray = #[.int .u32 1779033703, .int .u32 3144134277, .int .u32 1013904242, .int .u32 2773480762, .int .u32 1359893119, .int .u32 2600822924, .int .u32 528734635, .int .u32 1541459225] := by kernel_rfl
theorem rfirsts_any (w : World) : Calls Tryz.prog 217 #[] w fun e w' => ∃ v, e = .returned v ∧ Own w' w.heap.size 206 1 v init8.cells ∧ Below w.heap.size w w' := by
 go_enter Tryz.func217, Tryz.ntmps217
 go_wp2
 go_ret
 refine ⟨_, rfl, ?_, (Below.refl _ _).alloc (Nat.le_refl _) _⟩
 have h := Own.lit (e := 206) (base := w.heap.size) (size := 1) w init8.cells 8 (Nat.le_refl _) (by unfold maxLen; omega) (by rw [cells_length])
 rw [init8_cells] at h
 exact h
set_option maxRecDepth 100000 in
set_option maxHeartbeats 4000000 in
theorem rnext_any (st : S8) (gh ch g o c : Nat) (l : List UInt8) (w : World) (hh : ∀ j, j < 8 → w.cell? ⟨gh, j, none⟩ = some (w32 (st.list.getD j 0))) (hgh : gh < w.heap.size) (hch : 8 ≤ ch)
  (hcell : ∀ j, j < 64 → w.cell? ⟨g, o + j, none⟩ = some (w8 (l.getD j 0))) (hl : l.length = 64) (hc : 64 ≤ c) (hB : g < w.heap.size) :
  Calls Tryz.prog 218 #[.slice (some ⟨gh, 0, none⟩) 8 ch, .slice (some ⟨g, o, none⟩) 64 c] w fun e w' => ∃ v', e = .returned v' ∧ Own w' w.heap.size 206 1 v' (mix8 st l).cells ∧ Below w.heap.size w w' := by
 have Hh := Veil.mk hh; clear hh
 have Hcell := Veil.mk hcell; clear hcell
 have Hl := Veil.mk hl; clear hl
 have Hr : Rd w w.heap.size 1 (.slice (some ⟨gh, 0, none⟩) 8 ch) st.cells := ⟨_, 8, ch, rfl, hch, rfl, fun _ => ⟨_, rfl, hgh, fun j u hu => by
  have hj : j < 8 := (List.getElem?_eq_some_iff.1 hu).1
  rw [Addr.add_lit, Nat.zero_add, Hh.out j hj]
  rw [cells_list, List.getElem?_map] at hu
  rw [List.getD_eq_getElem?_getD]
  obtain ⟨x, hx, rfl⟩ := Option.map_eq_some_iff.1 hu
  rw [hx]; rfl⟩⟩
 have HR := Veil.mk Hr; clear Hr
 go_enter Tryz.func218, Tryz.ntmps218
 go_wp2_with (first
  | (go_at_call 269
     refine (rwords_any g o c l _ Hcell.out Hl.out hc hB).mono ?_
     rintro e w1 ⟨vw, rfl, ownw, hb1⟩
     have hs1 := hb1.size
     have HB1 := Veil.mk hb1; clear hb1)
  | (go_at_call 270
     refine (radds_any _).mono ?_
     rintro e w2 ⟨vk, rfl, ownk, hb2⟩
     have hs2 := hb2.size
     have HB2 := Veil.mk hb2; clear hb2
     have Hownw := Veil.mk (ownw.below HB2.out (Nat.le_refl _)); clear ownw
     have Hownk := Veil.mk ownk; clear ownk
     have HB := Veil.mk (HB1.out.trans (HB2.out.mono hs1)); clear HB1 HB2
     have HR2 := Veil.mk (HR.out.below HB.out)
     have HO8 := Veil.mk (oneCell_map32 st.list)
     have H0 := Veil.mk (Own.lit (e := 206) (base := w.heap.size) (size := 1) w2 [] 0 (by omega) (by unfold maxLen; omega) rfl)
     have HR3 := Veil.mk (HR2.out.alloc (Nat.le_trans hs1 hs2) (.cells #[] 206))
     have hle2 : w.heap.size ≤ (w2.alloc (.cells #[] 206)).heap.size := by simp; omega
     clear HR HR2)
  | (at_builtin
     go_loud (refine ap_any (w2.alloc (.cells #[] 206)) rfl _ _ _ rfl elem32 H0.out rfl HR3.out rfl HO8.out ?_ ?_ hle2 ?_)
     rotate_left 2
     intro v3 w3 own3 gr3 hx3
     clear hx3
     have gr3 : w2.grownBy w3 (some w2.heap.size) := grown_of_alloc gr3
     have hs3 := gr3.size
     have HBw : Below w.heap.size w w3 := HB.out.grown gr3 (by omega) (fun k hk => by cases hk; omega)
     have own3 : Own w3 w.heap.size 206 1 v3 (st.list.map w32) := own3
     have hw3 := Hownw.out.grown gr3 (fun g hg => by have := (Hownw.out.block g hg).2; simp; omega)
     have hk3 := Hownk.out.grown gr3 (fun g hg => by have := (Hownk.out.block g hg).2; simp; omega)
     clear gr3 H0 HR3 HO8))
 rotate_left 1
 ·show (0 + 8) * 4 ≤ _; omega
 ·show 0 + 8 ≤ _; omega
 obtain ⟨gw, cw, rfl, hcw, hbw, hgw, hcellw⟩ := hw3.form (by rw [List.length_map, sched_length]; omega)
 obtain ⟨gk, ck, rfl, hck, hbk, hgk, hcellk⟩ := hk3.form (by rw [List.length_map, tabK_length]; omega)
 have CW := Veil.mk (cells_of hcellw); clear hcellw hw3 Hownw
 have CK := Veil.mk (cells_of hcellk); clear hcellk hk3 Hownk
 rw [List.length_map, sched_length] at hcw ⊢
 rw [List.length_map, tabK_length] at hck ⊢
 have HBw := Veil.mk HBw
 have HB3 := Veil.mk (Below.refl w3.heap.size w3)
 have Own3 := Veil.mk own3
 clear own3
 go_loopw [7, 8, 9, 10, 11, 12] (fun v i _ _ _ _ wr => ∃ (n : Nat) (s : S8), n ≤ 64 ∧ i = .int .i64 n ∧ Veil (Own wr w.heap.size 206 1 v (s.list.map w32)) ∧ Veil (s = rounds8 l st n) ∧ Veil (Below w3.heap.size w3 wr)) (fun _ i _ _ _ _ _ => 64 - (intOf i).toNat)
 case atStart => exact ⟨0, st, by omega, rfl, Own3, ⟨rfl⟩, HB3⟩
 case round =>
  obtain ⟨n, s, hn, rfl, Hown, Hs, HBr⟩ := hrel
  obtain ⟨gv, cv, rfl, hcv, hbv, hgv, hcellv⟩ := Hown.out.form (by rw [List.length_map, list_length]; omega)
  rw [List.length_map, list_length] at hcv ⊢
  have CV := Veil.mk (cells_of hcellv); clear hcellv
  by_cases hlt : n < 64
  ·have ck := (HBr.out.cell hgk).trans (CK.out n (by rw [tabK_length]; exact hlt))
   have cw := (HBr.out.cell hgw).trans (CW.out n (by rw [sched_length]; exact hlt))
   have hrd : rounds8 l st (n + 1) = round8 (tabK.getD n 0) ((sched l).getD n 0) s := by rw [rounds8, ← Hs.out]
   generalize tabK.getD n 0 = kn at ck hrd
   generalize (sched l).getD n 0 = xn at cw hrd
   have Hrd := Veil.mk hrd; clear hrd
   obtain ⟨sa, sb, sc, sd, se, sf, sg, sh⟩ := s
   have c0 : wr.cell? ⟨gv, 0, none⟩ = some (w32 sa) := CV.out 0 (by show 0 < 8; omega)
   have c1 : wr.cell? ⟨gv, 1, none⟩ = some (w32 sb) := CV.out 1 (by show 1 < 8; omega)
   have c2 : wr.cell? ⟨gv, 2, none⟩ = some (w32 sc) := CV.out 2 (by show 2 < 8; omega)
   have c3 : wr.cell? ⟨gv, 3, none⟩ = some (w32 sd) := CV.out 3 (by show 3 < 8; omega)
   have c4 : wr.cell? ⟨gv, 4, none⟩ = some (w32 se) := CV.out 4 (by show 4 < 8; omega)
   have c5 : wr.cell? ⟨gv, 5, none⟩ = some (w32 sf) := CV.out 5 (by show 5 < 8; omega)
   have c6 : wr.cell? ⟨gv, 6, none⟩ = some (w32 sg) := CV.out 6 (by show 6 < 8; omega)
   have c7 : wr.cell? ⟨gv, 7, none⟩ = some (w32 sh) := CV.out 7 (by show 7 < 8; omega)
   clear CV
   go_wp2
   go_quiet ((go_at_call 271; first | exact Calls.quiet_of (rturn_any _ _ _ (by omega) (by omega)) | exact quiet_more (rturn_any _ _ _ (by omega) (by omega))))
   go_wp2
   go_quiet (fail)
   go_wp2
   generalize hwq : World.drewN (World.drewN wr _) _ = wq
   have c0 : wq.cell? ⟨gv, 0, none⟩ = some (w32 sa) := by rw [← hwq]; exact c0
   have c1 : wq.cell? ⟨gv, 1, none⟩ = some (w32 sb) := by rw [← hwq]; exact c1
   have c2 : wq.cell? ⟨gv, 2, none⟩ = some (w32 sc) := by rw [← hwq]; exact c2
   have c3 : wq.cell? ⟨gv, 3, none⟩ = some (w32 sd) := by rw [← hwq]; exact c3
   have c4 : wq.cell? ⟨gv, 4, none⟩ = some (w32 se) := by rw [← hwq]; exact c4
   have c5 : wq.cell? ⟨gv, 5, none⟩ = some (w32 sf) := by rw [← hwq]; exact c5
   have c6 : wq.cell? ⟨gv, 6, none⟩ = some (w32 sg) := by rw [← hwq]; exact c6
   have c7 : wq.cell? ⟨gv, 7, none⟩ = some (w32 sh) := by rw [← hwq]; exact c7
   have HBq := Veil.mk (show Below w3.heap.size w3 wq by rw [← hwq]; exact belowDrewN (belowDrewN HBr.out _) _)
   clear hwq ck cw
   go_quiet ((go_at_call 271; first | exact Calls.quiet_of (rturn_any _ _ _ (by omega) (by omega)) | (refine quiet_more ?_; exact rturn_any _ _ _ (by omega) (by omega))))
   go_wp2
   go_quiet (fail)
   go_wp2
   generalize hwz : World.drewN (World.drewN wq _) _ = wz
   have c0 : wz.cell? ⟨gv, 0, none⟩ = some (w32 sa) := by rw [← hwz]; exact c0
   have c1 : wz.cell? ⟨gv, 1, none⟩ = some (w32 sb) := by rw [← hwz]; exact c1
   have c2 : wz.cell? ⟨gv, 2, none⟩ = some (w32 sc) := by rw [← hwz]; exact c2
   have c3 : wz.cell? ⟨gv, 3, none⟩ = some (w32 sd) := by rw [← hwz]; exact c3
   have c4 : wz.cell? ⟨gv, 4, none⟩ = some (w32 se) := by rw [← hwz]; exact c4
   have c5 : wz.cell? ⟨gv, 5, none⟩ = some (w32 sf) := by rw [← hwz]; exact c5
   have c6 : wz.cell? ⟨gv, 6, none⟩ = some (w32 sg) := by rw [← hwz]; exact c6
   have HBz := Veil.mk (show Below w3.heap.size w3 wz by rw [← hwz]; exact belowDrewN (belowDrewN HBq.out _) _)
   clear hwz HBq
   have hsz := HBz.out.size
   refine wp_region_still_tail 26 (by kernel_rfl) (by kernel_rfl) ?_
   simp only [List.take_succ_cons, List.take_zero, List.drop_succ_cons, List.drop_zero]
   repeat still_step
   refine wpStill_nil ?_
   change wpList _ _ _ _ _ wz.drew
   go_wp2
   have HBn := Veil.mk ((HBz.out.drew).alloc hsz (.cells (round8 kn xn ⟨sa, sb, sc, sd, se, sf, sg, sh⟩).cells.toArray 206))
   have HOn := Veil.mk (Own.lit (e := 206) (base := w.heap.size) (size := 1) wz.drew (round8 kn xn ⟨sa, sb, sc, sd, se, sf, sg, sh⟩).cells 8 (Nat.le_trans HBw.out.size hsz) (by unfold maxLen; omega) rfl)
   go_roundw
   case rel => exact ⟨n + 1, round8 kn xn ⟨sa, sb, sc, sd, se, sf, sg, sh⟩, by omega, by go_num, HOn, ⟨Hrd.out.symm⟩, HBn⟩
   case measure => simp [intOf]; omega
  ·have hn64 : 64 ≤ n := by omega
   have Hm : Veil (mix8 st l = st.add s) := ⟨by
    obtain rfl : n = 64 := by omega
    rw [mix8, ← Hs.out]⟩
   have HBw2 := Veil.mk (HBw.out.trans (HBr.out.mono HBw.out.size))
   clear CV hlt HBr Hs
   go_wp2
   go_loopw [13] (fun i wr => ∃ k : Nat, k ≤ 8 ∧ i = .int .i64 k ∧ Veil (Own wr w.heap.size 206 1 (.slice (some ⟨gv, 0, none⟩) 8 cv) ((addTo s.list st.list k).map w32)) ∧ Veil (Below w.heap.size w wr)) (fun i _ => 8 - (intOf i).toNat)
   case atStart => exact ⟨0, by omega, rfl, Hown, HBw2⟩
   case round =>
    clear Hown HBw2 hgv
    obtain ⟨k, hk, rfl, Hown, HB⟩ := hrel
    by_cases hlt : k < 8
    ·have hal := addTo_length s.list st.list k
     rw [list_length] at hal
     obtain ⟨gv', cv', hv', _, hbg, hgv, hcellv⟩ := Hown.out.form (by rw [List.length_map]; omega)
     obtain ⟨rfl, rfl⟩ : gv = gv' ∧ cv = cv' := by
      simp only [Value.slice.injEq, Option.some.injEq, Addr.mk.injEq] at hv'
      exact ⟨hv'.1.1, hv'.2.2⟩
     clear hv'
     have cv := cells_of hcellv k (by omega)
     have chh := (HB.out.cell hgh).trans (Hh.out k hlt)
     have hfz := Hown.out.free k (by rw [List.length_map]; omega)
     clear hcellv
     have hset : addTo s.list st.list (k + 1) = (addTo s.list st.list k).set k ((addTo s.list st.list k).getD k 0 + st.list.getD k 0) := rfl
     generalize (addTo s.list st.list k).getD k 0 = x at cv hset
     generalize st.list.getD k 0 = y at chh hset
     have Hset := Veil.mk hset; clear hset
     have Hal := Veil.mk hal; clear hal
     have k8 : (k : Int) < 8 := by omega
     go_wp2
     refine wp_region_still_tail 12 (by kernel_rfl) (by kernel_rfl) ?_
     simp only [List.take_succ_cons, List.take_zero, List.drop_succ_cons, List.drop_zero]
     repeat still_step
     refine wpStill_nil ?_
     change wpList _ _ _ _ _ wr.drew
     go_wp2
     have HOn := Veil.mk (Hown.out.drew.set k (by rw [List.length_map]; have := Hal.out; omega) (w32 (x + y)))
     have HBn := Veil.mk ((belowDrewN HB.out 1).setCell (p := ⟨gv, k, none⟩) hbg (w32 (x + y)))
     go_roundw
     case rel => exact ⟨k + 1, by omega, by go_num, ⟨by rw [Hset.out, List.map_set]; exact HOn.out⟩, HBn⟩
     case measure => simp [intOf]; omega
    ·have hk8 : 8 ≤ k := by omega
     have hfin : (addTo s.list st.list k).map w32 = (mix8 st l).cells := by
      obtain rfl : k = 8 := by omega
      rw [Hm.out, addTo_all]
     have Hf := Veil.mk hfin; clear hfin
     clear hlt
     go_wp2
     go_ret
     exact ⟨_, rfl, by rw [← Hf.out]; exact Hown.out, HB.out⟩
end Go.Proofs.YtlefikdjhnaapaaGreatDoor
namespace Go.Proofs.YtlefikdjhnaapaaGreatDoor
open Go.RowKit Sm
set_option maxRecDepth 100000 in
set_option maxHeartbeats 2000000 in
theorem rsha_any (s : ByteArray) (w : World) (hs : s.size ≤ 70368744177664) :
  Calls Tryz.prog 145 #[.string s] w fun e w' => e = .returned (.string ⟨(sha s.data.toList).toArray⟩) ∧ Below w.heap.size w w' := by
 have hm : s.size ≤ maxLen := by unfold maxLen; omega
 go_enter Tryz.func145, Tryz.ntmps145
 go_wp2_with (first
  | (refine bytes_arm w rfl _ _ (.tmp 10) rfl 5 s rfl Tryz.underlying9 Tryz.underlying114 Tryz.underlying5 hm (base := w.heap.size) (Nat.le_refl _) ?_; intro v0 w0 own0 gr0 hx; clear hx)
  | (at_builtin; refine ap_lit w0 rfl _ _ _ rfl elem8 [.int .u8 128] own0 rfl rfl ?_ ?_ ?_ ?_ ?_; rotate_left 4; intro v1 w1 own1 gr1))
 rotate_left 1
 ·exact one1 rfl
 ·simp; omega
 ·simp; omega
 ·exact gr0.size
 have hb1 : Below w.heap.size w w1 := belowOwn ((Below.refl _ _).grown gr0 (Nat.le_refl _) (fun k hk => by cases hk)) gr1 own0 (Nat.le_refl _) gr0.size
 have own1' : Own w1 w.heap.size 5 1 v1 ((endZ s.data.toList 0).map w8) := by
  rw [show ((endZ s.data.toList 0).map w8) = s.data.toList.map w8 ++ [.int .u8 128] from by simp [endZ]; rfl]
  exact own1
 clear own0 gr0 gr1 own1
 have hl : s.data.toList.length = s.size := by simp
 generalize hs0 : s.data.toList = l at own1' hl ⊢
 have Hl := Veil.mk hl
 have Hs0 := Veil.mk hs0
 clear hl hs0
 go_loopw [3] (fun v wr => ∃ (N z : Nat) (A : Option Addr) (c : Nat), v = .slice A N c ∧ Veil (N = l.length + 1 + z) ∧ z ≤ zerosN (l.length + 1) ∧ Own wr w.heap.size 5 1 (.slice A N c) ((endZ l z).map w8) ∧ Below w.heap.size w wr) (fun v _ => l.length + 1 + zerosN (l.length + 1) - lenOf v)
 case atStart =>
  obtain ⟨A, c, rfl⟩ := own1'.len1
  exact ⟨_, 0, A, c, rfl, ⟨by rw [List.length_map, endZ_length]⟩, Nat.zero_le _, own1', hb1⟩
 case round =>
  obtain ⟨N, z, A, c, rfl, HN, hz, hown, hb⟩ := hrel
  have hzl := zerosN_le (l.length + 1)
  have hNs : N ≤ 70368744177964 := by have := HN.out; have := Hl.out; omega
  have hmod : ((N : Int) % 64 != 56) = decide (z < zerosN (l.length + 1)) := by
   have h1 := zerosN_at (l.length + 1)
   have h2 := zerosN_before (l.length + 1) z
   rw [HN.out]
   by_cases hlt : z < zerosN (l.length + 1)
   ·have := h2 hlt
    simp only [hlt, decide_true, bne_iff_ne]
    omega
   ·obtain rfl : z = zerosN (l.length + 1) := by omega
    simp only [hlt, decide_false, bne_eq_false_iff_eq]
    omega
  have hle := hb.size
  by_cases hlt : z < zerosN (l.length + 1)
  ·have ht : ((N : Int) % 64 != 56) = true := by rw [hmod]; simpa using hlt
   clear hmod
   go_wp2_with (at_builtin; refine ap_lit wr rfl _ _ _ rfl elem8 [.int .u8 0] hown rfl rfl ?_ ?_ ?_ hle ?_; rotate_left 3; intro v' w' own' gr')
   rotate_left 1
   ·exact one1 rfl
   ·rw [List.length_map, endZ_length, ← HN.out]; simp; omega
   ·rw [List.length_map, endZ_length, ← HN.out]; simp; omega
   have hb' := belowOwn hb gr' hown (Nat.le_refl _) hle
   have own2 : Own w' w.heap.size 5 1 v' ((endZ l (z + 1)).map w8) := by rw [endZ_snoc, List.map_append]; exact own'
   clear own' gr' hown hb
   go_wp2
   go_roundw
   obtain ⟨A', c', rfl⟩ := own2.len1
   case rel => exact ⟨_, z + 1, A', c', rfl, ⟨by rw [List.length_map, endZ_length]⟩, by omega, own2, hb'⟩
   case measure =>
    obtain ⟨A', c', rfl⟩ := own2.len1
    simp only [lenOf, List.length_map, endZ_length]
    have := HN.out
    omega
  ·have ht : ((N : Int) % 64 != 56) = false := by rw [hmod]; simpa using hlt
   obtain rfl : z = zerosN (l.length + 1) := by omega
   clear hmod
   go_wp2
   generalize hX : 8#64 * BitVec.ofNat 64 s.size = X
   have HX : Veil (X = BitVec.ofInt 64 (l.length : Int) * 8#64) := ⟨by rw [← hX, Hl.out, BitVec.mul_comm, BitVec.ofInt_natCast]⟩
   clear hX
   go_loopw [3, 5] (fun v i wr => ∃ (M j : Nat) (A : Option Addr) (c : Nat), v = .slice A M c ∧ j ≤ 8 ∧ i = .int .i64 (56 - 8 * (j : Int)) ∧ Own wr w.heap.size 5 1 (.slice A M c) ((endZ l (zerosN (l.length + 1)) ++ beN X j).map w8) ∧ Below w.heap.size w wr) (fun _ i _ => (intOf i + 8).toNat)
   case atStart => exact ⟨N, 0, A, c, rfl, by omega, rfl, by simpa [beN] using hown, hb⟩
   case round =>
    clear hown hb hle
    obtain ⟨M, j, A', c', rfl, hj, rfl, hown, hb⟩ := hrel
    have hle := hb.size
    have hlen : (endZ l (zerosN (l.length + 1)) ++ beN X j).length ≤ 70368744177964 := by
     rw [List.length_append, endZ_length]
     have : (beN X j).length ≤ 8 := by simp [beN, be8]; omega
     have := Hl.out
     omega
    by_cases hlt : j < 8
    ·have hge : (0 : Int) ≤ 56 - 8 * (j : Int) := by omega
     go_wp2_with (at_builtin; refine ap_lit wr rfl _ _ _ rfl elem8 [_] hown rfl rfl ?_ ?_ ?_ hle ?_; rotate_left 3; intro v' w' own' gr')
     rotate_left 1
     ·exact one1 rfl
     ·rw [List.length_map]; simp only [List.length_singleton]; omega
     ·rw [List.length_map]; simp only [List.length_singleton]; omega
     have hb' := belowOwn hb gr' hown (Nat.le_refl _) hle
     have own2 : Own w' w.heap.size 5 1 v' ((endZ l (zerosN (l.length + 1)) ++ beN X (j + 1)).map w8) := by
      rw [beN_snoc _ _ hlt, ← List.append_assoc, List.map_append]; exact own'
     clear own' gr' hown hb
     obtain ⟨A2, c2, rfl⟩ := own2.len1
     go_wp2
     go_roundw
     case rel => exact ⟨_, j + 1, A2, c2, rfl, by omega, by go_num, own2, hb'⟩
     case measure => simp [intOf]; omega
    ·have hj8 : 8 ≤ j := by omega
     have hP : endZ l (zerosN (l.length + 1)) ++ beN X j = padded l := by
      obtain rfl : j = 8 := by omega
      rw [HX.out]
      rfl
     rw [hP] at hown hlen
     have hPl : (padded l).length % 64 = 0 := ending_blocks l l.length
     have hP0 : 0 < (padded l).length := by unfold padded; rw [ending_length]; omega
     have hst := padded_state l
     generalize padded l = P at hown hlen hPl hP0 hst
     have Hst := Veil.mk hst; clear hst hP
     obtain ⟨gp, cp, hv, hcp, hbp, hgp, hcellp⟩ := hown.form (by rw [List.length_map]; exact hP0)
     rw [hv] at hown ⊢
     clear hv
     rw [List.length_map] at hcp hown ⊢
     have HP := Veil.mk hcellp; clear hcellp
     have hneg : ¬ (0 : Int) ≤ 56 - 8 * (j : Int) := by omega
     go_wp2_with (go_at_call 217; refine (rfirsts_any _).mono ?_; rintro e w2 ⟨vh, rfl, ownh, hb2⟩)
     have hbB := Veil.mk (hb.trans (hb2.mono hle))
     have hownh := Veil.mk (ownh.less hle)
     have Hown2 := Veil.mk (hown.below hb2 (Nat.le_refl _))
     have hs2 := hb2.size
     clear hown hb ownh hb2 HP
     go_loopw [6, 7] (fun v i wr => ∃ (m gh ch : Nat), v = .slice (some ⟨gh, 0, none⟩) 8 ch ∧ 64 * m ≤ P.length ∧ i = .int .i64 (64 * (m : Int)) ∧ Veil (Own wr w.heap.size 206 1 (.slice (some ⟨gh, 0, none⟩) 8 ch) ((absorb P init8 m).list.map w32)) ∧ Veil (Own wr w.heap.size 5 1 (.slice (some ⟨gp, 0, none⟩) P.length cp) (P.map w8)) ∧ Veil (Below w.heap.size w wr)) (fun _ i _ => P.length - (intOf i).toNat)
     case atStart =>
      obtain ⟨gh, ch, hv, _⟩ := hownh.out.form (by show 0 < 8; omega)
      subst hv
      exact ⟨0, gh, ch, rfl, by omega, rfl, hownh, Hown2, hbB⟩
     case round =>
      clear hownh Hown2 hbB hle hs2 hgp hbp
      obtain ⟨m, gh, ch, rfl, hm, rfl, Hown, HownP, HB⟩ := hrel
      have hle := HB.out.size
      obtain ⟨gh', ch', hv, hch, hbh, hgh, hcellh⟩ := Hown.out.form (by rw [List.length_map, list_length]; omega)
      obtain ⟨rfl, rfl⟩ : gh = gh' ∧ ch = ch' := by
       simp only [Value.slice.injEq, Option.some.injEq, Addr.mk.injEq] at hv
       exact ⟨hv.1.1, hv.2.2⟩
      clear hv
      rw [List.length_map, list_length] at hch
      have CH := Veil.mk (cells_of hcellh); clear hcellh
      by_cases hlt : 64 * m < P.length
      ·have h64 : 64 * m + 64 ≤ P.length := by omega
       obtain ⟨gp', cp', hv, _, hbp, hgp, hcellp⟩ := HownP.out.form (by rw [List.length_map]; exact hP0)
       obtain ⟨rfl, rfl⟩ : gp = gp' ∧ cp = cp' := by
        simp only [Value.slice.injEq, Option.some.injEq, Addr.mk.injEq] at hv
        exact ⟨hv.1.1, hv.2.2⟩
       clear hv
       have CP : Veil (∀ j, j < 64 → wr.cell? ⟨gp, 64 * m + j, none⟩ = some (w8 (((P.drop (64 * m)).take 64).getD j 0))) := ⟨fun j hj => hcellp _ _ (by
        rw [List.getElem?_map, List.getElem?_eq_getElem (by omega), List.getD_eq_getElem?_getD, List.getElem?_take_of_lt hj, List.getElem?_drop, List.getElem?_eq_getElem (by omega)]; rfl)⟩
       clear hcellp
       have hbl : ((P.drop (64 * m)).take 64).length = 64 := by rw [List.length_take, List.length_drop]; omega
       have Hbl := Veil.mk hbl; clear hbl
       have hcap : 64 * m < cp := by omega
       have hcap1 : (64 : Int) * (m : Int) < cp := by omega
       have hcap2 : (64 : Int) * (m : Int) + 64 ≤ cp := by omega
       have hcap3 : ¬ (cp = 64 * m) := by omega
       have hcap4 : 64 ≤ cp - 64 * m := by omega
       go_wp2_with (go_at_call 218; go_loud (refine (rnext_any (absorb P init8 m) gh ch gp (64 * m) (cp - 64 * m) ((P.drop (64 * m)).take 64) _ CH.out hgh hch CP.out Hbl.out hcap4 hgp).mono ?_); rintro e w' ⟨v', rfl, ownv, hb'⟩)
       have hab : absorb P init8 (m + 1) = mix8 (absorb P init8 m) ((P.drop (64 * m)).take 64) := rfl
       have Hab := Veil.mk hab; clear hab
       have ownv2 : Veil (Own w' w.heap.size 206 1 v' ((absorb P init8 (m + 1)).list.map w32)) := ⟨by rw [Hab.out]; exact ownv.less hle⟩
       have HownP2 := Veil.mk (HownP.out.below hb' (Nat.le_refl _))
       have HB2 := Veil.mk (HB.out.trans (hb'.mono hle))
       clear ownv hb' Hown HownP HB CP CH
       obtain ⟨gh2, ch2, hv, _⟩ := ownv2.out.form (by rw [List.length_map, list_length]; omega)
       subst hv
       go_roundw
       case rel => exact ⟨m + 1, gh2, ch2, rfl, by omega, by go_num, ownv2, HownP2, HB2⟩
       case measure => simp [intOf]; omega
      ·have hm64 : ¬ (64 : Int) * (m : Int) < P.length := by omega
       have hfin : shaState l = absorb P init8 m := by
        rw [← Hst.out]
        congr 1
        omega
       have Hfin := Veil.mk hfin; clear hfin
       generalize absorb P init8 m = st at Hfin CH Hown
       clear HownP
       go_wp2
       go_loopw [8, 9] (fun v i wx => ∃ k : Nat, k ≤ 32 ∧ i = .int .i64 k ∧ Own wx wr.heap.size 5 1 v ((outR st k).map w8) ∧ Below wr.heap.size wr wx) (fun _ i _ => 32 - (intOf i).toNat)
       case atStart => exact ⟨0, by omega, rfl, Own.nil _ _ _ _, Below.refl _ _⟩
       case round =>
        obtain ⟨k, hk, rfl, hown, hb⟩ := hrel
        have hle := hb.size
        by_cases hlt : k < 32
        ·have ch4 := (hb.cell (p := ⟨gh, k / 4, none⟩) hgh).trans (CH.out (k / 4) (by rw [list_length]; omega))
         have hsn := outR_snoc st k
         generalize st.list.getD (k / 4) 0 = x at ch4 hsn
         have Hsn := Veil.mk hsn; clear hsn
         have q0 : 0 ≤ (k : Int) / 4 := by omega
         have q1 : (k : Int) / 4 < 8 := by omega
         have q2 : ((k : Int) / 4).toNat = k / 4 := by omega
         have q3 : 8 * ((k : Int) % 4) ≤ 24 := by omega
         have q4 : (24 - 8 * ((k : Int) % 4)).toNat = 24 - 8 * (k % 4) := by omega
         have Hlen := Veil.mk (outR_length st k)
         go_wp2_with (at_builtin; refine ap_lit wr rfl _ _ _ rfl elem8 [_] hown rfl rfl ?_ ?_ ?_ hle ?_; rotate_left 3; intro v' w' own' gr')
         rotate_left 1
         ·exact one1 rfl
         ·rw [List.length_map, Hlen.out]; simp only [List.length_singleton]; omega
         ·rw [List.length_map, Hlen.out]; simp only [List.length_singleton]; omega
         have own2 := own'
         rw [show ∀ y, (outR st k).map w8 ++ [w8 y] = ((outR st k) ++ [y]).map w8 from fun y => by rw [List.map_append]; rfl, ← Hsn.out] at own2
         have hb' := belowOwn hb gr' hown (Nat.le_refl _) hle
         clear own' gr' hown hb q0 q1 q2 q3 q4
         go_roundw
         case rel => exact ⟨k + 1, by omega, by go_num, own2, hb'⟩
         case measure => simp [intOf]; omega
        ·obtain rfl : k = 32 := by omega
         have hc := str_run (P := Tryz.prog) wr 114 9 5 Tryz.underlying114 Tryz.underlying5 Tryz.underlying9 hown.rd
         have hfin : (outR st 32) = sha l := by rw [outR_all, sha, Hfin.out]
         have Hfin2 := Veil.mk hfin; clear hfin
         have HBf := Veil.mk (HB.out.trans (hb.mono HB.out.size))
         go_wp2
         go_ret
         exact ⟨by rw [Hs0.out, ← Hfin2.out]; rfl, HBf.out⟩
end Go.Proofs.YtlefikdjhnaapaaGreatDoor
end
