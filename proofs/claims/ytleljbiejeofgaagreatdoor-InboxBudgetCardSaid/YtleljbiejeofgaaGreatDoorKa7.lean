/- Several texts in one, without what this claim does not use (tools/shake.py). -/
import Derived.Test.YtleljbiejeofgaaGreatDoorKa5
import Derived.Test.YtleljbiejeofgaaGreatDoorProg
import Derived.KernelRfl
set_option linter.unusedSectionVars false
set_option linter.unusedVariables false
set_option linter.unusedSimpArgs false
section
namespace Go.Proofs.YtleljbiejeofgaaGreatDoor.Pe
open Go
set_option maxRecDepth 100000
theorem tf0 :
 kdOf Tryz.prog 3 = (.int .i64) ∧
 szOf Tryz.prog 3 = some (1, false) ∧
 zerOf Tryz.prog 3 = some [.it .i64 0] ∧
 kdOf Tryz.prog 4 = .bool ∧
 szOf Tryz.prog 4 = some (1, false) ∧
 zerOf Tryz.prog 4 = some [.bo false] ∧
 kdOf Tryz.prog 5 = (.int .u8) ∧
 zerOf Tryz.prog 5 = some [.it .u8 0] := by and_intros <;> kernel_rfl
theorem tf1 :
 kdOf Tryz.prog 9 = .str ∧
 szOf Tryz.prog 9 = some (1, false) ∧
 zerOf Tryz.prog 9 = some [(.st [])] := by and_intros <;> kernel_rfl
theorem tf2 :
 szOf Tryz.prog 22 = some (1, false) ∧
 sleOf Tryz.prog 22 = some (3, 1, false) ∧
 appOf Tryz.prog 22 = some (3, 1, 8) ∧
 sleOf Tryz.prog 23 = some (4, 1, false) ∧
 kdOf Tryz.prog 25 = .ptr ∧
 szOf Tryz.prog 25 = some (1, false) ∧
 kdOf Tryz.prog 27 = .ptr ∧
 szOf Tryz.prog 27 = some (1, false) ∧
 szOf Tryz.prog 29 = some (1, false) ∧
 sleOf Tryz.prog 29 = some (92, 50, true) ∧
 appOf Tryz.prog 29 = some (92, 50, 576) ∧
 zerOf Tryz.prog 29 = some [(.sl Mode.full [])] := by and_intros <;> kernel_rfl
theorem tf3 :
 kdOf Tryz.prog 33 = .other ∧
 szOf Tryz.prog 33 = some (2, true) ∧
 zerOf Tryz.prog 33 = some [.it .i64 0, .it .i64 0] ∧
 strOf Tryz.prog 33 = some ([(0, 1), (1, 1)], [.it .i64 0, .it .i64 0]) ∧
 fldOf Tryz.prog 33 0 = some (0, 1, false) ∧
 fldOf Tryz.prog 33 1 = some (1, 1, false) ∧
 eqsOf Tryz.prog 33 = some [(3, 0, 1, false), (3, 1, 1, false)] ∧
 Program.eqGuardType Tryz.prog (Program.depth Tryz.prog) 33 = false ∧
 szOf Tryz.prog 35 = some (6, true) ∧
 zerOf Tryz.prog 35 = some [.it .i64 0, .it .i64 0, (.st []), .it .i64 0, .it .i64 0, .it .i64 0] ∧
 strOf Tryz.prog 35 = some ([(0, 1), (1, 1), (2, 1), (3, 1), (4, 2)], [.it .i64 0, .it .i64 0, (.st []), .it .i64 0, .it .i64 0, .it .i64 0]) ∧
 fldOf Tryz.prog 35 0 = some (0, 1, false) ∧
 fldOf Tryz.prog 35 1 = some (1, 1, false) ∧
 fldOf Tryz.prog 35 2 = some (2, 1, false) ∧
 fldOf Tryz.prog 35 3 = some (3, 1, false) := by and_intros <;> kernel_rfl
theorem tf4 :
 fldOf Tryz.prog 35 4 = some (4, 2, true) ∧
 szOf Tryz.prog 37 = some (8, true) ∧
 zerOf Tryz.prog 37 = some [.it .i64 0, .it .i64 0, (.st []), .it .i64 0, .it .i64 0, .it .i64 0, .it .i64 0, (.sl Mode.full [])] ∧
 strOf Tryz.prog 37 = some ([(0, 6), (6, 1), (7, 1)], [.it .i64 0, .it .i64 0, (.st []), .it .i64 0, .it .i64 0, .it .i64 0, .it .i64 0, (.sl Mode.full [])]) ∧
 fldOf Tryz.prog 37 0 = some (0, 6, true) ∧
 fldOf Tryz.prog 37 1 = some (6, 1, false) ∧
 fldOf Tryz.prog 37 2 = some (7, 1, false) := by and_intros <;> kernel_rfl
theorem tf5 :
 szOf Tryz.prog 40 = some (1, false) ∧
 sleOf Tryz.prog 40 = some (9, 1, false) ∧
 appOf Tryz.prog 40 = some (9, 1, 16) ∧
 szOf Tryz.prog 42 = some (14, true) ∧
 zerOf Tryz.prog 42 = some [.it .i64 0, .it .i64 0, (.st []), .it .i64 0, .it .i64 0, .it .i64 0, .it .i64 0, .it .i64 0, (.st []), .it .i64 0, .it .i64 0, .it .i64 0, (.st []), (.sl Mode.full [])] ∧
 strOf Tryz.prog 42 = some ([(0, 6), (6, 6), (12, 1), (13, 1)], [.it .i64 0, .it .i64 0, (.st []), .it .i64 0, .it .i64 0, .it .i64 0, .it .i64 0, .it .i64 0, (.st []), .it .i64 0, .it .i64 0, .it .i64 0, (.st []), (.sl Mode.full [])]) ∧
 fldOf Tryz.prog 42 0 = some (0, 6, true) ∧
 fldOf Tryz.prog 42 1 = some (6, 6, true) ∧
 fldOf Tryz.prog 42 2 = some (12, 1, false) ∧
 fldOf Tryz.prog 42 3 = some (13, 1, false) ∧
 szOf Tryz.prog 44 = some (34, true) ∧
 zerOf Tryz.prog 44 = some [.it .i64 0, .it .i64 0, .it .i64 0, .it .i64 0, .it .i64 0, (.st []), .it .i64 0, .it .i64 0, .it .i64 0, .it .i64 0, (.sl Mode.full []), .it .i64 0, .it .i64 0, .it .i64 0, (.st []), .it .i64 0, .it .i64 0, .it .i64 0, .it .i64 0, .it .i64 0, .it .i64 0, .it .i64 0, (.st []), .it .i64 0, .it .i64 0, .it .i64 0, .it .i64 0, .it .i64 0, (.st []), .it .i64 0, .it .i64 0, .it .i64 0, (.st []), (.sl Mode.full [])] ∧
 strOf Tryz.prog 44 = some ([(0, 1), (1, 1), (2, 1), (3, 8), (11, 9), (20, 14)], [.it .i64 0, .it .i64 0, .it .i64 0, .it .i64 0, .it .i64 0, (.st []), .it .i64 0, .it .i64 0, .it .i64 0, .it .i64 0, (.sl Mode.full []), .it .i64 0, .it .i64 0, .it .i64 0, (.st []), .it .i64 0, .it .i64 0, .it .i64 0, .it .i64 0, .it .i64 0, .it .i64 0, .it .i64 0, (.st []), .it .i64 0, .it .i64 0, .it .i64 0, .it .i64 0, .it .i64 0, (.st []), .it .i64 0, .it .i64 0, .it .i64 0, (.st []), (.sl Mode.full [])]) := by and_intros <;> kernel_rfl
theorem tf6 :
 fldOf Tryz.prog 44 0 = some (0, 1, false) ∧
 fldOf Tryz.prog 44 1 = some (1, 1, false) ∧
 fldOf Tryz.prog 44 2 = some (2, 1, false) ∧
 fldOf Tryz.prog 44 3 = some (3, 8, true) ∧
 fldOf Tryz.prog 44 5 = some (20, 14, true) ∧
 kdOf Tryz.prog 51 = .other ∧
 szOf Tryz.prog 51 = some (2, true) ∧
 zerOf Tryz.prog 51 = some [.it .i64 0, .it .i64 0] ∧
 strOf Tryz.prog 51 = some ([(0, 1), (1, 1)], [.it .i64 0, .it .i64 0]) ∧
 fldOf Tryz.prog 51 0 = some (0, 1, false) ∧
 fldOf Tryz.prog 51 1 = some (1, 1, false) ∧
 eqsOf Tryz.prog 51 = some [(3, 0, 1, false), (3, 1, 1, false)] ∧
 Program.eqGuardType Tryz.prog (Program.depth Tryz.prog) 51 = false := by and_intros <;> kernel_rfl
theorem tf7 :
 szOf Tryz.prog 56 = some (1, false) ∧
 sleOf Tryz.prog 56 = some (35, 6, true) ∧
 appOf Tryz.prog 56 = some (35, 6, 56) ∧
 szOf Tryz.prog 58 = some (3, true) ∧
 zerOf Tryz.prog 58 = some [.it .i64 0, (.sl Mode.full []), (.sl Mode.full [])] ∧
 strOf Tryz.prog 58 = some ([(0, 1), (1, 1), (2, 1)], [.it .i64 0, (.sl Mode.full []), (.sl Mode.full [])]) ∧
 fldOf Tryz.prog 58 0 = some (0, 1, false) ∧
 fldOf Tryz.prog 58 1 = some (1, 1, false) ∧
 fldOf Tryz.prog 58 2 = some (2, 1, false) ∧
 sleOf Tryz.prog 60 = some (89, 49, true) ∧
 appOf Tryz.prog 60 = some (89, 49, 568) := by and_intros <;> kernel_rfl
theorem tf8 :
 sleOf Tryz.prog 63 = some (65, 2, true) ∧
 fldOf Tryz.prog 65 0 = some (0, 1, false) ∧
 fldOf Tryz.prog 65 1 = some (1, 1, false) := by and_intros <;> kernel_rfl
theorem tf9 :
 kdOf Tryz.prog 71 = .bytes ∧
 szOf Tryz.prog 71 = some (1, false) ∧
 sleOf Tryz.prog 71 = some (5, 1, false) ∧
 appOf Tryz.prog 71 = some (5, 1, 1) ∧
 bytOf Tryz.prog 71 = some 5 := by and_intros <;> kernel_rfl
theorem tf10 :
 kdOf Tryz.prog 78 = .other ∧
 szOf Tryz.prog 78 = some (3, true) ∧
 strOf Tryz.prog 78 = some ([(0, 1), (1, 1), (2, 1)], [(.st []), (.st []), (.st [])]) ∧
 fldOf Tryz.prog 78 0 = some (0, 1, false) ∧
 fldOf Tryz.prog 78 1 = some (1, 1, false) ∧
 fldOf Tryz.prog 78 2 = some (2, 1, false) ∧
 eqsOf Tryz.prog 78 = some [(9, 0, 1, false), (9, 1, 1, false), (9, 2, 1, false)] ∧
 Program.eqGuardType Tryz.prog (Program.depth Tryz.prog) 78 = false ∧
 szOf Tryz.prog 79 = some (1, false) ∧
 sleOf Tryz.prog 79 = some (204, 5, true) ∧
 appOf Tryz.prog 79 = some (204, 5, 64) := by and_intros <;> kernel_rfl
theorem tf11 :
 szOf Tryz.prog 81 = some (20, true) ∧
 strOf Tryz.prog 81 = some ([(0, 1), (1, 1), (2, 1), (3, 1), (4, 1), (5, 1), (6, 1), (7, 1), (8, 1), (9, 1), (10, 1), (11, 3), (14, 1), (15, 1), (16, 1), (17, 1), (18, 2)], [(.st []), .it .i64 0, (.st []), .it .i64 0, .it .i64 0, (.st []), (.st []), .it .i64 0, (.st []), (.sl Mode.full []), (.st []), (.st []), (.st []), (.st []), .it .i64 0, (.sl Mode.full []), .it .i64 0, .it .i64 0, .it .i64 0, .it .i64 0]) ∧
 fldOf Tryz.prog 81 0 = some (0, 1, false) ∧
 fldOf Tryz.prog 81 1 = some (1, 1, false) ∧
 fldOf Tryz.prog 81 2 = some (2, 1, false) ∧
 fldOf Tryz.prog 81 3 = some (3, 1, false) ∧
 fldOf Tryz.prog 81 4 = some (4, 1, false) ∧
 fldOf Tryz.prog 81 5 = some (5, 1, false) ∧
 fldOf Tryz.prog 81 6 = some (6, 1, false) ∧
 fldOf Tryz.prog 81 7 = some (7, 1, false) ∧
 fldOf Tryz.prog 81 8 = some (8, 1, false) ∧
 fldOf Tryz.prog 81 9 = some (9, 1, false) ∧
 fldOf Tryz.prog 81 10 = some (10, 1, false) ∧
 fldOf Tryz.prog 81 11 = some (11, 3, true) ∧
 fldOf Tryz.prog 81 12 = some (14, 1, false) ∧
 fldOf Tryz.prog 81 13 = some (15, 1, false) ∧
 fldOf Tryz.prog 81 14 = some (16, 1, false) ∧
 fldOf Tryz.prog 81 15 = some (17, 1, false) ∧
 fldOf Tryz.prog 81 16 = some (18, 2, true) := by and_intros <;> kernel_rfl
theorem tf12 :
 kdOf Tryz.prog 83 = .other ∧
 szOf Tryz.prog 83 = some (9, true) ∧
 zerOf Tryz.prog 83 = some [(.st []), .it .i64 0, (.st []), .it .i64 0, .it .i64 0, .it .i64 0, .it .i64 0, .it .i64 0, .it .i64 0] ∧
 strOf Tryz.prog 83 = some ([(0, 1), (1, 1), (2, 1), (3, 1), (4, 1), (5, 1), (6, 1), (7, 2)], [(.st []), .it .i64 0, (.st []), .it .i64 0, .it .i64 0, .it .i64 0, .it .i64 0, .it .i64 0, .it .i64 0]) ∧
 fldOf Tryz.prog 83 0 = some (0, 1, false) ∧
 fldOf Tryz.prog 83 1 = some (1, 1, false) ∧
 fldOf Tryz.prog 83 2 = some (2, 1, false) ∧
 fldOf Tryz.prog 83 3 = some (3, 1, false) ∧
 fldOf Tryz.prog 83 4 = some (4, 1, false) ∧
 fldOf Tryz.prog 83 5 = some (5, 1, false) ∧
 fldOf Tryz.prog 83 6 = some (6, 1, false) ∧
 fldOf Tryz.prog 83 7 = some (7, 2, true) ∧
 eqsOf Tryz.prog 83 = some [(9, 0, 1, false), (3, 1, 1, false), (9, 2, 1, false), (3, 3, 1, false), (3, 4, 1, false), (3, 5, 1, false), (3, 6, 1, false), (33, 7, 2, true)] ∧
 Program.eqGuardType Tryz.prog (Program.depth Tryz.prog) 83 = false := by and_intros <;> kernel_rfl
theorem tf13 :
 kdOf Tryz.prog 85 = .other ∧
 szOf Tryz.prog 85 = some (7, true) ∧
 zerOf Tryz.prog 85 = some [.it .i64 0, (.st []), .it .i64 0, (.st []), .it .i64 0, .it .i64 0, .it .i64 0] ∧
 strOf Tryz.prog 85 = some ([(0, 1), (1, 1), (2, 1), (3, 1), (4, 1), (5, 2)], [.it .i64 0, (.st []), .it .i64 0, (.st []), .it .i64 0, .it .i64 0, .it .i64 0]) ∧
 fldOf Tryz.prog 85 0 = some (0, 1, false) ∧
 fldOf Tryz.prog 85 1 = some (1, 1, false) ∧
 fldOf Tryz.prog 85 2 = some (2, 1, false) ∧
 fldOf Tryz.prog 85 3 = some (3, 1, false) ∧
 fldOf Tryz.prog 85 4 = some (4, 1, false) ∧
 fldOf Tryz.prog 85 5 = some (5, 2, true) ∧
 eqsOf Tryz.prog 85 = some [(3, 0, 1, false), (9, 1, 1, false), (3, 2, 1, false), (9, 3, 1, false), (3, 4, 1, false), (33, 5, 2, true)] ∧
 Program.eqGuardType Tryz.prog (Program.depth Tryz.prog) 85 = false ∧
 szOf Tryz.prog 87 = some (12, true) ∧
 zerOf Tryz.prog 87 = some [.it .i64 0, .it .i64 0, .it .i64 0, (.st []), (.st []), (.st []), (.sl Mode.full []), .it .i64 0, .it .i64 0, .it .i64 0, .it .i64 0, .it .i64 0] ∧
 strOf Tryz.prog 87 = some ([(0, 1), (1, 1), (2, 1), (3, 1), (4, 1), (5, 1), (6, 1), (7, 1), (8, 1), (9, 1), (10, 2)], [.it .i64 0, .it .i64 0, .it .i64 0, (.st []), (.st []), (.st []), (.sl Mode.full []), .it .i64 0, .it .i64 0, .it .i64 0, .it .i64 0, .it .i64 0]) ∧
 fldOf Tryz.prog 87 0 = some (0, 1, false) ∧
 fldOf Tryz.prog 87 1 = some (1, 1, false) ∧
 fldOf Tryz.prog 87 2 = some (2, 1, false) ∧
 fldOf Tryz.prog 87 3 = some (3, 1, false) ∧
 fldOf Tryz.prog 87 4 = some (4, 1, false) ∧
 fldOf Tryz.prog 87 5 = some (5, 1, false) ∧
 fldOf Tryz.prog 87 6 = some (6, 1, false) := by and_intros <;> kernel_rfl
theorem tf14 :
 fldOf Tryz.prog 87 7 = some (7, 1, false) ∧
 fldOf Tryz.prog 87 8 = some (8, 1, false) ∧
 fldOf Tryz.prog 87 9 = some (9, 1, false) ∧
 fldOf Tryz.prog 87 10 = some (10, 2, true) ∧
 szOf Tryz.prog 89 = some (49, true) ∧
 zerOf Tryz.prog 89 = some [.it .i64 0, (.st []), .it .i64 0, (.st []), .it .i64 0, .it .i64 0, (.st []), (.st []), .it .i64 0, (.st []), (.sl Mode.full []), (.st []), (.st []), (.st []), (.st []), .it .i64 0, (.sl Mode.full []), .it .i64 0, .it .i64 0, .it .i64 0, .it .i64 0, (.st []), .it .i64 0, (.st []), .it .i64 0, .it .i64 0, .it .i64 0, .it .i64 0, .it .i64 0, .it .i64 0, .it .i64 0, (.st []), .it .i64 0, (.st []), .it .i64 0, .it .i64 0, .it .i64 0, .it .i64 0, .it .i64 0, .it .i64 0, (.st []), (.st []), (.st []), (.sl Mode.full []), .it .i64 0, .it .i64 0, .it .i64 0, .it .i64 0, .it .i64 0] ∧
 strOf Tryz.prog 89 = some ([(0, 1), (1, 20), (21, 9), (30, 7), (37, 12)], [.it .i64 0, (.st []), .it .i64 0, (.st []), .it .i64 0, .it .i64 0, (.st []), (.st []), .it .i64 0, (.st []), (.sl Mode.full []), (.st []), (.st []), (.st []), (.st []), .it .i64 0, (.sl Mode.full []), .it .i64 0, .it .i64 0, .it .i64 0, .it .i64 0, (.st []), .it .i64 0, (.st []), .it .i64 0, .it .i64 0, .it .i64 0, .it .i64 0, .it .i64 0, .it .i64 0, .it .i64 0, (.st []), .it .i64 0, (.st []), .it .i64 0, .it .i64 0, .it .i64 0, .it .i64 0, .it .i64 0, .it .i64 0, (.st []), (.st []), (.st []), (.sl Mode.full []), .it .i64 0, .it .i64 0, .it .i64 0, .it .i64 0, .it .i64 0]) ∧
 fldOf Tryz.prog 89 0 = some (0, 1, false) ∧
 fldOf Tryz.prog 89 1 = some (1, 20, true) ∧
 fldOf Tryz.prog 89 2 = some (21, 9, true) ∧
 fldOf Tryz.prog 89 3 = some (30, 7, true) ∧
 fldOf Tryz.prog 89 4 = some (37, 12, true) := by and_intros <;> kernel_rfl
theorem tf15 :
 szOf Tryz.prog 92 = some (50, true) ∧
 zerOf Tryz.prog 92 = some [.it .i64 0, .it .i64 0, (.st []), .it .i64 0, (.st []), .it .i64 0, .it .i64 0, (.st []), (.st []), .it .i64 0, (.st []), (.sl Mode.full []), (.st []), (.st []), (.st []), (.st []), .it .i64 0, (.sl Mode.full []), .it .i64 0, .it .i64 0, .it .i64 0, .it .i64 0, (.st []), .it .i64 0, (.st []), .it .i64 0, .it .i64 0, .it .i64 0, .it .i64 0, .it .i64 0, .it .i64 0, .it .i64 0, (.st []), .it .i64 0, (.st []), .it .i64 0, .it .i64 0, .it .i64 0, .it .i64 0, .it .i64 0, .it .i64 0, (.st []), (.st []), (.st []), (.sl Mode.full []), .it .i64 0, .it .i64 0, .it .i64 0, .it .i64 0, .it .i64 0] ∧
 strOf Tryz.prog 92 = some ([(0, 1), (1, 49)], [.it .i64 0, .it .i64 0, (.st []), .it .i64 0, (.st []), .it .i64 0, .it .i64 0, (.st []), (.st []), .it .i64 0, (.st []), (.sl Mode.full []), (.st []), (.st []), (.st []), (.st []), .it .i64 0, (.sl Mode.full []), .it .i64 0, .it .i64 0, .it .i64 0, .it .i64 0, (.st []), .it .i64 0, (.st []), .it .i64 0, .it .i64 0, .it .i64 0, .it .i64 0, .it .i64 0, .it .i64 0, .it .i64 0, (.st []), .it .i64 0, (.st []), .it .i64 0, .it .i64 0, .it .i64 0, .it .i64 0, .it .i64 0, .it .i64 0, (.st []), (.st []), (.st []), (.sl Mode.full []), .it .i64 0, .it .i64 0, .it .i64 0, .it .i64 0, .it .i64 0]) ∧
 fldOf Tryz.prog 92 0 = some (0, 1, false) ∧
 fldOf Tryz.prog 92 1 = some (1, 49, true) ∧
 szOf Tryz.prog 93 = some (1, false) ∧
 zerOf Tryz.prog 93 = some [(.ot (.pointer none))] ∧
 szOf Tryz.prog 94 = some (1, false) ∧
 sleOf Tryz.prog 94 = some (58, 3, true) ∧
 appOf Tryz.prog 94 = some (58, 3, 56) ∧
 szOf Tryz.prog 95 = some (1, false) ∧
 mapOf Tryz.prog 95 = some (some .i64, (.agg [.it .i64 0, .it .i64 0, (.st []), .it .i64 0, .it .i64 0, .it .i64 0, .it .i64 0, .it .i64 0, (.st []), .it .i64 0, .it .i64 0, .it .i64 0, (.st []), (.sl Mode.full [])])) := by and_intros <;> kernel_rfl
theorem tf16 :
 fldOf Tryz.prog 98 0 = some (0, 1, false) ∧
 fldOf Tryz.prog 98 1 = some (1, 1, false) ∧
 fldOf Tryz.prog 98 2 = some (2, 1, false) ∧
 fldOf Tryz.prog 98 3 = some (3, 1, false) ∧
 fldOf Tryz.prog 98 4 = some (4, 1, false) ∧
 fldOf Tryz.prog 98 5 = some (5, 1, false) ∧
 fldOf Tryz.prog 98 7 = some (7, 1, false) ∧
 fldOf Tryz.prog 98 8 = some (8, 1, false) ∧
 szOf Tryz.prog 99 = some (1, false) ∧
 szOf Tryz.prog 100 = some (3, true) ∧
 areOf Tryz.prog 100 = some (3, 1, false) ∧
 zerOf Tryz.prog 100 = some [.ot .nilFunc, .ot .nilFunc, .ot .nilFunc] ∧
 strOf Tryz.prog 100 = some ([(0, 1), (1, 1), (2, 1)], [.ot .nilFunc, .ot .nilFunc, .ot .nilFunc]) := by and_intros <;> kernel_rfl
theorem tf17 :
 szOf Tryz.prog 110 = some (1, false) ∧
 zerOf Tryz.prog 110 = some [.ot .nilFunc] := by and_intros <;> kernel_rfl
theorem tf20 :
 szOf Tryz.prog 154 = some (1, false) ∧
 zerOf Tryz.prog 154 = some [.ot .nilFunc] := by and_intros <;> kernel_rfl
theorem tf21 :
 strOf Tryz.prog 164 = some ([(0, 1), (1, 1), (2, 1)], [(.ot (.pointer none)), .it .i64 0, (.sl Mode.full [])]) ∧
 fldOf Tryz.prog 164 0 = some (0, 1, false) ∧
 fldOf Tryz.prog 164 1 = some (1, 1, false) ∧
 fldOf Tryz.prog 164 2 = some (2, 1, false) := by and_intros <;> kernel_rfl
theorem tf23 :
 sleOf Tryz.prog 182 = some (29, 1, false) ∧
 appOf Tryz.prog 182 = some (29, 1, 24) ∧
 kdOf Tryz.prog 195 = (.int .u64) := by and_intros <;> kernel_rfl
theorem tf24 :
 kdOf Tryz.prog 198 = (.int .u32) ∧
 kdOf Tryz.prog 202 = (.int .u64) ∧
 kdOf Tryz.prog 204 = .other ∧
 szOf Tryz.prog 204 = some (5, true) ∧
 zerOf Tryz.prog 204 = some [.it .i64 0, .it .i64 0, (.st []), (.st []), (.st [])] ∧
 fldOf Tryz.prog 204 0 = some (0, 1, false) ∧
 fldOf Tryz.prog 204 1 = some (1, 1, false) := by and_intros <;> kernel_rfl
theorem tf25 :
 fldOf Tryz.prog 204 2 = some (2, 3, true) ∧
 eqsOf Tryz.prog 204 = some [(3, 0, 1, false), (3, 1, 1, false), (78, 2, 3, true)] ∧
 Program.eqGuardType Tryz.prog (Program.depth Tryz.prog) 204 = false ∧
 strOf Tryz.prog 214 = some ([(0, 1), (1, 1)], [(.st []), .bo false]) ∧
 fldOf Tryz.prog 214 0 = some (0, 1, false) := by and_intros <;> kernel_rfl
theorem tf26 :
 fldOf Tryz.prog 214 1 = some (1, 1, false) ∧
 szOf Tryz.prog 220 = some (1, false) ∧
 szOf Tryz.prog 222 = some (4, true) ∧
 zerOf Tryz.prog 222 = some [(.st []), .ot .nilFunc, .it .i64 0, .it .i64 0] ∧
 strOf Tryz.prog 222 = some ([(0, 1), (1, 1), (2, 2)], [(.st []), .ot .nilFunc, .it .i64 0, .it .i64 0]) ∧
 fldOf Tryz.prog 222 0 = some (0, 1, false) ∧
 fldOf Tryz.prog 222 1 = some (1, 1, false) ∧
 fldOf Tryz.prog 222 2 = some (2, 2, true) := by and_intros <;> kernel_rfl
theorem tf27 :
 zerOf Tryz.prog 225 = some [(.sl Mode.full [])] ∧
 fldOf Tryz.prog 225 0 = some (0, 1, false) := by and_intros <;> kernel_rfl
theorem tf28 : szOf Tryz.prog 243 = some (1, false) := by kernel_rfl
theorem tf31 :
 szOf Tryz.prog 275 = some (2, true) ∧
 zerOf Tryz.prog 275 = some [.it .i64 0, .ot .nilFunc] ∧
 strOf Tryz.prog 275 = some ([(0, 1), (1, 1)], [.it .i64 0, .ot .nilFunc]) ∧
 fldOf Tryz.prog 275 0 = some (0, 1, false) ∧
 fldOf Tryz.prog 275 1 = some (1, 1, false) ∧
 mapOf Tryz.prog 277 = some (some .i64, (.agg [.it .i64 0, .ot .nilFunc])) := by and_intros <;> kernel_rfl
end Go.Proofs.YtleljbiejeofgaaGreatDoor.Pe
end
section
namespace Go.Proofs.YtleljbiejeofgaaGreatDoor.Pe
open Go
variable [Tab]
set_option maxRecDepth 100000
theorem an {a b : Prop} (x : a) (y : b) : a ∧ b := ⟨x, y⟩
theorem zev {A B : Prop} (h : B) (e : A = B := by
    conv =>
      lhs
      simp only [eraseC, eraseG, eraseO, List.map_cons, List.map_nil, List.map_toArray, List.getElem?_toArray, List.getElem?_cons_zero, List.getElem?_cons_succ, Option.bind_some, Option.bind_none, List.append_eq, List.cons_append, List.nil_append]) : A := e ▸ h
theorem zsl {A : Prop} (h : A := by first | rfl | (simp only [↓upd_apply, ↓put_some, ↓reduceIte, Nat.reduceEqDiff, ↓argEnv_zero, ↓argEnv_succ, *]; done)) : A := h
theorem run {A B : Prop} (h : B) (e : A = B := by
  conv =>
   lhs
   (try simp only [AWs_eq, ARgs_eq, AOps_eq, iteP_true, iteP_false])
   (try simp -implicitDefEqProofs (maxSteps := 4000000) (disch := (first | omega | (simp only [List.length_append, List.length_cons, List.length_map, List.length_nil, List.length_take, List.length_drop]; omega))) only [↓zpre, zpost, cst1, ↓reduceIte, Nat.reduceEqDiff, Nat.reduceAdd, Nat.reduceLT, Nat.reduceLeDiff, Nat.reduceMul, Nat.reduceSub, Int.reduceToNat, Int.reduceAdd, Int.reduceSub, Int.reduceMul, Int.reduceNeg, Int.reduceLE, Int.reduceLT, Int.reduceEq, Int.reduceBEq, Int.reduceBNe, Nat.reduceBEq, Nat.reduceBNe, aBin, aEq, aEqF, aNilEq, aInt, aStr, aUn, aConv, aNil, aFldAddr, aFld, aIdxAddr, aIdx, aBui, aLoad, aStore, aLits, aLit, aMake, aMakeW, aMapSet, aLook, kfind, keq, kok, lookOut, aMk, aRange, aNext, aBytes, aApp, srcOf, aSlice, aBound, modeCut, apart, aFill, aval, aGd, zobj, zfr, ACall, AV.wk, AV.wk2, AV.wk1, AV.cells, AV.solid, AV.ro, AV.ro1, ← List.map_take, ← List.map_drop, reduceCtorEq, Option.isNone_some, Option.isSome_none, tf0, tf1, tf2, tf3, tf4, tf5, tf6, tf7, tf8, tf9, tf10, tf11, tf12, tf13, tf14, tf15, tf16, tf17, tf20, tf21, tf23, tf24, tf25, tf26, tf27, tf28, tf31])
   (try simp only [iteP_true, iteP_false])) : A := e ▸ h
theorem runf {F A B : Prop} (f : F) (h : B) (e : F → A = B := by
  intro f
  conv =>
   lhs
   (try simp only [AWs_eq, ARgs_eq, AOps_eq, iteP_true, iteP_false])
   (try simp -implicitDefEqProofs (maxSteps := 4000000) (disch := (first | omega | (simp only [List.length_append, List.length_cons, List.length_map, List.length_nil, List.length_take, List.length_drop]; omega))) only [↓zpre, zpost, cst1, ↓reduceIte, Nat.reduceEqDiff, Nat.reduceAdd, Nat.reduceLT, Nat.reduceLeDiff, Nat.reduceMul, Nat.reduceSub, Int.reduceToNat, Int.reduceAdd, Int.reduceSub, Int.reduceMul, Int.reduceNeg, Int.reduceLE, Int.reduceLT, Int.reduceEq, Int.reduceBEq, Int.reduceBNe, Nat.reduceBEq, Nat.reduceBNe, aBin, aEq, aEqF, aNilEq, aInt, aStr, aUn, aConv, aNil, aFldAddr, aFld, aIdxAddr, aIdx, aBui, aLoad, aStore, aLits, aLit, aMake, aMakeW, aMapSet, aLook, kfind, keq, kok, lookOut, aMk, aRange, aNext, aBytes, aApp, srcOf, aSlice, aBound, modeCut, apart, aFill, aval, aGd, zobj, zfr, ACall, AV.wk, AV.wk2, AV.wk1, AV.cells, AV.solid, AV.ro, AV.ro1, ← List.map_take, ← List.map_drop, reduceCtorEq, Option.isNone_some, Option.isSome_none, tf0, tf1, tf2, tf3, tf4, tf5, tf6, tf7, tf8, tf9, tf10, tf11, tf12, tf13, tf14, tf15, tf16, tf17, tf20, tf21, tf23, tf24, tf25, tf26, tf27, tf28, tf31, f])
   (try simp only [iteP_true, iteP_false])) : A := e f ▸ h
section
variable {P : Program} {pf rf : List FuncId} {e : Env} {f : FuncId} {d : Option Nat} {rest : List AO} {K : Env → Store → Prop}
theorem cp {args args' : List AV} {S : Store} {v : AV} (h : AC P f args' [] v []) (h' : ARg P pf rf rest (put e d v) S K)
  (ha : args.map AV.wk = args' := by rfl) (hk : args'.all (AV.ok 0) = true := by rfl) (hv : v.ok 0 = true := by rfl) : callP (PureC P f args S) (ARgk P pf rf d rest e K) := call_pure h ha hk hv h'
theorem o0_mono {v : AV} {n m : Nat} (h : v.o0 n = true) (hm : n ≤ m) : v.o0 m = true := by
 cases v with
 | sl mo es => cases mo <;> simp_all [AV.o0]; omega
 | ptr l o => simp only [AV.o0, decide_eq_true_eq] at *; omega
 | mp l => simp only [AV.o0, decide_eq_true_eq] at *; omega
 | ws l o k c => simp only [AV.o0, decide_eq_true_eq] at *; omega
 | wr l k o => simp only [AV.o0, decide_eq_true_eq] at *; omega
 | _ => simp_all [AV.o0]
theorem o1_mono {v : AV} {n m : Nat} (h : v.o1 n = true) (hm : n ≤ m) : v.o1 m = true := by
 cases v with
 | fn g a c =>
  simp only [AV.o1, Bool.and_eq_true, List.all_eq_true] at *
  exact ⟨fun x hx => o0_mono (h.1 x hx) hm, fun x hx => o0_mono (h.2 x hx) hm⟩
 | bo b => exact o0_mono (v := .bo b) h hm
 | it k i => exact o0_mono (v := .it k i) h hm
 | st l => exact o0_mono (v := .st l) h hm
 | ot v => exact o0_mono (v := .ot v) h hm
 | sl m' es => exact o0_mono (v := .sl m' es) h hm
 | agg cs => exact o0_mono (v := .agg cs) h hm
 | tup vs => exact o0_mono (v := .tup vs) h hm
 | ptr l o => exact o0_mono (v := .ptr l o) h hm
 | pst e o => exact o0_mono (v := .pst e o) h hm
 | mp l => exact o0_mono (v := .mp l) h hm
 | fm es => exact o0_mono (v := .fm es) h hm
 | ws l o k c => exact o0_mono (v := .ws l o k c) h hm
 | wr l k o => exact o0_mono (v := .wr l k o) h hm
 | junk => exact o0_mono (v := .junk) h hm
theorem o2_mono {v : AV} {n m : Nat} (h : v.o2 n = true) (hm : n ≤ m) : v.o2 m = true := by
 cases v with
 | agg cs =>
  simp only [AV.o2, List.all_eq_true] at *
  exact fun x hx => o1_mono (h x hx) hm
 | bo b => exact o1_mono (v := .bo b) h hm
 | it k i => exact o1_mono (v := .it k i) h hm
 | st l => exact o1_mono (v := .st l) h hm
 | ot v => exact o1_mono (v := .ot v) h hm
 | sl m' es => exact o1_mono (v := .sl m' es) h hm
 | tup vs => exact o1_mono (v := .tup vs) h hm
 | ptr l o => exact o1_mono (v := .ptr l o) h hm
 | pst e o => exact o1_mono (v := .pst e o) h hm
 | fn f a c => exact o1_mono (v := .fn f a c) h hm
 | mp l => exact o1_mono (v := .mp l) h hm
 | fm es => exact o1_mono (v := .fm es) h hm
 | ws l o k c => exact o1_mono (v := .ws l o k c) h hm
 | wr l k o => exact o1_mono (v := .wr l k o) h hm
 | junk => exact o1_mono (v := .junk) h hm
theorem ok_mono {v : AV} {n m : Nat} (h : v.ok n = true) (hm : n ≤ m) : v.ok m = true := by
 cases v with
 | tup cs =>
  simp only [AV.ok, List.all_eq_true] at *
  exact fun x hx => o2_mono (h x hx) hm
 | bo b => exact o2_mono (v := .bo b) h hm
 | it k i => exact o2_mono (v := .it k i) h hm
 | st l => exact o2_mono (v := .st l) h hm
 | ot v => exact o2_mono (v := .ot v) h hm
 | sl m' es => exact o2_mono (v := .sl m' es) h hm
 | agg cs => exact o2_mono (v := .agg cs) h hm
 | ptr l o => exact o2_mono (v := .ptr l o) h hm
 | pst e o => exact o2_mono (v := .pst e o) h hm
 | fn f a c => exact o2_mono (v := .fn f a c) h hm
 | mp l => exact o2_mono (v := .mp l) h hm
 | fm es => exact o2_mono (v := .fm es) h hm
 | ws l o k c => exact o2_mono (v := .ws l o k c) h hm
 | wr l k o => exact o2_mono (v := .wr l k o) h hm
 | junk => exact o2_mono (v := .junk) h hm
theorem ren_all {us : List AV} (h : us.all (AV.ok 0) = true) (ρ : Nat → Nat) : us.map (AV.ren ρ) = us := map_id_of h fun v hv => ren_id hv (fun i hi => absurd hi (Nat.not_lt_zero _))
theorem sren0 {o : SObj} (h : o.ok 0 = true) (ρ : Nat → Nat) : o.ren ρ = o := by
 cases o with
 | cells cs =>
  have : cs.map (AV.r1 ρ) = cs := map_id_of (p := AV.o1 0) h fun v hv => by
   have := ren_id (ρ := ρ) (v := .agg [v]) (n := 0) (by simpa [AV.ok, AV.o2] using hv) (fun i hi => absurd hi (Nat.not_lt_zero _))
   simpa [AV.ren, AV.r2] using this
  show SObj.cells _ = _
  rw [this]
 | row cs e sz =>
  have : cs.map (AV.r1 ρ) = cs := map_id_of (p := AV.o1 0) h fun v hv => by
   have := ren_id (ρ := ρ) (v := .agg [v]) (n := 0) (by simpa [AV.ok, AV.o2] using hv) (fun i hi => absurd hi (Nat.not_lt_zero _))
   simpa [AV.ren, AV.r2] using this
  show SObj.row _ _ _ = _
  rw [this]
 | map es =>
  have h := List.all_eq_true.1 h
  show SObj.map _ = SObj.map es
  congr 1
  rw [List.map_congr_left (g := id) fun p hp => ?_, List.map_id]
  have := h p hp
  simp only [Bool.and_eq_true] at this
  have h1 := ren_id (ρ := ρ) (v := .agg [p.1]) (n := 0) (by simpa [AV.ok, AV.o2] using this.1) (fun i hi => absurd hi (Nat.not_lt_zero _))
  have h2 := ren_id (ρ := ρ) (v := .tup [p.2]) (n := 0) (by simpa [AV.ok] using this.2) (fun i hi => absurd hi (Nat.not_lt_zero _))
  have h1 : p.1.r1 ρ = p.1 := by simpa [AV.ren, AV.r2] using h1
  have h2 : p.2.r2 ρ = p.2 := by
   have h2 : AV.tup [p.2.r2 ρ] = AV.tup [p.2] := h2
   simp only [AV.tup.injEq, List.cons.injEq, and_true] at h2
   exact h2
  rw [h1, h2]; rfl
 | loop b D fn es ps asn bdy st =>
  have : es.map (AV.ren ρ) = es := map_id_of (p := AV.ok 0) h fun v hv => ren_id hv (fun i hi => absurd hi (Nat.not_lt_zero _))
  show SObj.loop _ _ _ _ _ _ _ _ = _
  rw [this]
 | _ => rfl
theorem sok1 {o : SObj} (h : o.ok 0 = true) : o.ok 1 = true := by
 cases o with
 | cells cs =>
  refine List.all_eq_true.2 fun v hv => ?_
  have := List.all_eq_true.1 h v hv
  have := ok_mono (v := .agg [v]) (n := 0) (m := 1) (by simpa [AV.ok, AV.o2] using this) (Nat.zero_le 1)
  simpa [AV.ok, AV.o2] using this
 | row cs e sz =>
  refine List.all_eq_true.2 fun v hv => ?_
  have := List.all_eq_true.1 h v hv
  have := ok_mono (v := .agg [v]) (n := 0) (m := 1) (by simpa [AV.ok, AV.o2] using this) (Nat.zero_le 1)
  simpa [AV.ok, AV.o2] using this
 | map es =>
  refine List.all_eq_true.2 fun p hp => ?_
  have := List.all_eq_true.1 h p hp
  simp only [Bool.and_eq_true] at *
  exact ⟨o1_mono this.1 (Nat.zero_le 1), o2_mono this.2 (Nat.zero_le 1)⟩
 | loop b D fn es ps asn bdy st => exact List.all_eq_true.2 fun v hv => ok_mono (List.all_eq_true.1 h v hv) (Nat.zero_le 1)
 | _ => rfl
theorem AC.here {args : List AV} {o o' : SObj} {v : AV} (h : AC P f (.ptr 0 0 :: args) [o] v [o']) (l : Nat) (T : Store) (ho : o.ok 0 = true) (ho' : o'.ok 0 = true) (ha : args.all (AV.ok 0) = true) (hv : v.ok 0 = true) (hT : T[l]? = some o) :
  AC P f (.ptr l 0 :: args) T v (T.set l o') := by
 have ha1 : ∀ u ∈ args, u.ok 1 = true := fun u hu => ok_mono (List.all_eq_true.1 ha u hu) (Nat.zero_le 1)
 have := AC.at1 h l (by rw [sren0 ho]; exact hT) (by simp only [List.all_cons, Bool.and_eq_true]; exact ⟨rfl, List.all_eq_true.2 ha1⟩) (ok_mono hv (Nat.zero_le 1)) (sok1 ho) (sok1 ho')
 rw [List.map_cons, ren_all ha, sren0 ho', ren_id hv (fun i hi => absurd hi (Nat.not_lt_zero _))] at this
 exact this
theorem c1 {args gargs : List AV} {T : Store} {o o' : SObj} {v : AV} (l : Nat) (h : AC P f (.ptr 0 0 :: args) [o] v [o']) (h' : ARg P pf rf rest (put e d v) (T.set l o') K)
  (ho : o.ok 0 = true := by rfl) (ho' : o'.ok 0 = true := by rfl) (ha : args.all (AV.ok 0) = true := by rfl) (hv : v.ok 0 = true := by rfl) (hT : T[l]? = some o := by rfl) (hg : gargs.map AV.wk = .ptr l 0 :: args := by rfl) :
  callP (AnyC P f gargs T) (ARgk P pf rf d rest e K) :=
 call_mk (show AC P f (gargs.map AV.wk) T v (T.set l o') by rw [hg]; exact h.here l T ho ho' ha hv hT) h'
theorem c1r {args gargs : List AV} {T : Store} {o : SObj} {v : AV} (l : Nat) (h : AC P f (.ptr 0 0 :: args) [o] v [o]) (h' : ARg P pf rf rest (put e d v) T K)
  (ho : o.ok 0 = true := by rfl) (ha : args.all (AV.ok 0) = true := by rfl) (hv : v.ok 0 = true := by rfl) (hT : T[l]? = some o := by rfl) (hg : gargs.map AV.wk = .ptr l 0 :: args := by rfl) (hset : T.set l o = T := by rfl) :
  callP (ReadC P f gargs T) (ARgk P pf rf d rest e K) :=
 call_mk (show (∀ R, AC P f (gargs.map AV.wk) (T ++ R) v (T ++ R)) ∧ T = T from ⟨fun R => by
  rw [hg]
  have := h.here l (T ++ R) ho ho ha hv (get_app hT R)
  rw [List.set_append_left _ _ (List.getElem?_eq_some_iff.1 hT).1, hset] at this
  exact this, rfl⟩) h'
end
theorem Weak.freeze (N0 : Nat) {e : Env} {S : Store} (d l : Nat) {es : List (AV × AV)} (hd : e d = .mp l) (hS : S[l]? = some (.map es)) (hok : (SObj.map es).ok 0 = true) : Weak N0 e S (upd e d (.fm es)) (S.set l .dead) := by
 rintro N w0 g0 a w hn ⟨h1, h2, g, h3, h4, h5⟩
 have hlS := (List.getElem?_eq_some_iff.1 hS).1
 obtain ⟨hb, hown, hG, me, clock, hheap, hsz, hlt, hnd, hrel⟩ := h3.obj l _ hS
 have hln : l < g.nid := by rw [h3.nid]; exact hlS
 let g' : Gh := { g with G := fun x => if x = g.pl l then 1 else g.G x }
 have hne : ∀ b, 0 < g.G b → b ≠ g.pl l := fun b h e => by rw [e, hG] at h; exact absurd h (Nat.lt_irrefl 0)
 have hle : Le w g w g' := ⟨fun _ _ _ _ h => h, fun b o v hb _ => by
  show o < (if b = g.pl l then 1 else g.G b)
  rw [if_neg (hne b (by omega))]; exact hb, Nat.le_refl _, fun _ _ => ⟨rfl, .inl ⟨rfl, rfl, rfl⟩⟩, fun b me c hg hm => ⟨by
  show 0 < (if b = g.pl l then 1 else g.G b)
  rw [if_neg (hne b hg)]; exact hg, hm⟩⟩
 have hren : RenOk w g w g'.noid id 0 := ⟨hle.noid, fun l hl => absurd hl (Nat.not_lt_zero _)⟩
 have hall := List.all_eq_true.1 (show (es.all fun p => p.1.o1 0 && p.2.o2 0) = true from hok)
 have hko : ∀ u ∈ es, u.1.o1 0 = true ∧ u.2.o2 0 = true := fun u hu => by simpa using hall u hu
 refine ⟨h1, h2, g', ⟨by rw [List.length_set]; exact h3.nid, fun k o hk => ?_, h3.disj, h3.lt, h3.tab.le hle⟩, fun t => ?_, h5.trans ⟨hle, rfl, rfl, rfl, Nat.le_refl _, fun _ _ _ => rfl, fun _ _ hk hb _ => ⟨hk, hb⟩, fun b _ hno => if_neg (fun e => hno l hln (by rw [e]; exact hown))⟩⟩
 ·by_cases hkl : k = l
  ·subst hkl; rw [List.getElem?_set_self hlS] at hk; cases hk; trivial
  ·rw [List.getElem?_set_ne (Ne.symm hkl)] at hk
   have hkn : k < g.nid := by rw [h3.nid]; exact (List.getElem?_eq_some_iff.1 hk).1
   refine (h3.obj k o hk).keep hle rfl rfl rfl rfl rfl (fun b hb' => ?_) (fun _ _ => rfl)
   exact if_neg (fun e => hkl (h3.disj k l b hkn hln hb' (by rw [e]; exact hown)))
 ·by_cases htd : t = d
  ·subst htd
   rw [upd_same]
   have ht := h4 t
   rw [hd] at ht
   generalize a.tmps.getD t undef = cv at ht
   cases ht
   refine .fm _ es (g.pl l) me clock (by show 0 < (if g.pl l = g.pl l then 1 else _); rw [if_pos rfl]; exact Nat.one_pos) hheap hsz (fun j u x hu hx => ?_) fun j u x hu hx => ?_
   ·have := (hrel j u x hu hx).1.r1 hren (hko u (List.mem_of_getElem? hu)).1
    rwa [r1_id (hko u (List.mem_of_getElem? hu)).1 (fun i hi => absurd hi (Nat.not_lt_zero _))] at this
   ·have := (hrel j u x hu hx).2.r2 hren (hko u (List.mem_of_getElem? hu)).2
    rwa [r2_id (hko u (List.mem_of_getElem? hu)).2 (fun i hi => absurd hi (Nat.not_lt_zero _))] at this
  ·rw [upd_ne e htd]; exact (h4 t).le hle
theorem AC.newAt {P : Program} {f : FuncId} {args : List AV} {o : SObj} (h : AC P f args [] (.ptr 0 0) [o]) (T : Store) (ha : args.all (AV.ok 0) = true := by rfl) (ho : o.ok 0 = true := by rfl) : AC P f args T (.ptr T.length 0) (T ++ [o]) := by
 have := AC.fresh1 h ha rfl (sok1 ho) T
 rw [sren0 ho] at this
 simpa [AV.ren, AV.r2, AV.r1, AV.r0] using this
theorem er0 {P : Program} {rs : List ResultVar} {v : AV} {e : Env} {S : Store} {vs : List AV} (h : aRes P rs e S = some vs := by rfl) (hk : v.ok 0 = true := by rfl) (hv : resV vs = v := by rfl) : finQ P rs 0 v [] .ret e S := ends_ret0 h hk hv
theorem er1 {P : Program} {rs : List ResultVar} {v : AV} {e : Env} {S : Store} {o : SObj} {vs : List AV} (h : aRes P rs e S = some vs := by rfl) (ho : o.ok 1 = true := by rfl) (hS : S[0]? = some (o.ren (idx [0])) := by rfl) (hk : v.ok 1 = true := by rfl) (hv : resV vs = v.ren (idx [0]) := by rfl) : finQ P rs 1 v [o] .ret e S :=
 ends_ret (κ := [0]) h (subOk_one 0 ho hS) rfl hk hv
theorem en1 {P : Program} {rs : List ResultVar} {v : AV} {e : Env} {S : Store} {o : SObj} {vs : List AV} (h : aRes P rs e S = some vs := by rfl) (ho : o.ok 1 = true := by rfl) (hS : S[0]? = some (o.ren (idx [0])) := by rfl) (hk : v.ok 1 = true := by rfl) (hv : resV vs = v.ren (idx [0]) := by rfl) : finQ P rs 1 v [o] .norm e S :=
 ⟨e, S, vs, [0], Weak.refl 1 e S, h, subOk_one 0 ho hS, rfl, hk, .inl hv⟩
theorem er0w {P : Program} {rs : List ResultVar} {v : AV} {e : Env} {S : Store} {vs : List AV} (h : aRes P rs e S = some vs := by rfl) (hk : v.ok 0 = true := by rfl) (hv : (resV vs).wk = v := by rfl) : finQ P rs 0 v [] .ret e S := ends_ret0w h hk hv
end Go.Proofs.YtleljbiejeofgaaGreatDoor.Pe
end
