import Derived.Test.YtiidnoejnphocaaGreatDoorKs5
import Derived.Test.YtiidnoejnphocaaGreatDoorProg
import Derived.KernelRfl
set_option linter.unusedSectionVars false
set_option linter.unusedVariables false
set_option linter.unusedSimpArgs false
namespace Go.Proofs.YtiidnoejnphocaaGreatDoor
section
namespace Pe
open Tryz
open Go
set_option maxRecDepth 100000
theorem Kw :
 AQ prog 3 = (.int .i64) ∧
 Az prog 3 = some (1, false) ∧
 Bj prog 3 = some [.it .i64 0] ∧
 AQ prog 4 = .bool ∧
 Az prog 4 = some (1, false) ∧
 AQ prog 5 = (.int .u8) ∧
 Bj prog 5 = some [.it .u8 0] := by and_intros <;> kernel_rfl
theorem Kv :
 AQ prog 9 = .str ∧
 Az prog 9 = some (1, false) ∧
 Bj prog 9 = some [(.st [])] := by and_intros <;> kernel_rfl
theorem Ki :
 Bk prog 22 = some (86, 6, true) ∧
 Az prog 25 = some (1, false) ∧
 Bk prog 25 = some (88, 50, true) ∧
 Cf prog 25 = some (88, 50, 576) ∧
 Az prog 27 = some (1, false) ∧
 Bk prog 27 = some (75, 49, true) ∧
 Cf prog 27 = some (75, 49, 568) := by and_intros <;> kernel_rfl
theorem J9 :
 AQ prog 31 = .other ∧
 Az prog 31 = some (2, true) ∧
 Bj prog 31 = some [.it .i64 0, .it .i64 0] ∧
 strOf prog 31 = some ([(0, 1), (1, 1)], [.it .i64 0, .it .i64 0]) ∧
 Al prog 31 0 = some (0, 1, false) ∧
 Al prog 31 1 = some (1, 1, false) ∧
 FZ prog 31 = some [(3, 0, 1, false), (3, 1, 1, false)] ∧
 Program.eqGuardType prog (Program.depth prog) 31 = false ∧
 AQ prog 34 = .other ∧
 Az prog 34 = some (2, true) ∧
 Bj prog 34 = some [.it .i64 0, .it .i64 0] ∧
 strOf prog 34 = some ([(0, 1), (1, 1)], [.it .i64 0, .it .i64 0]) ∧
 Al prog 34 0 = some (0, 1, false) ∧
 Al prog 34 1 = some (1, 1, false) ∧
 FZ prog 34 = some [(3, 0, 1, false), (3, 1, 1, false)] ∧
 Program.eqGuardType prog (Program.depth prog) 34 = false := by and_intros <;> kernel_rfl
theorem J5 :
 Az prog 36 = some (6, true) ∧
 Bj prog 36 = some [.it .i64 0, .it .i64 0, (.st []), .it .i64 0, .it .i64 0, .it .i64 0] ∧
 strOf prog 36 = some ([(0, 1), (1, 1), (2, 1), (3, 1), (4, 2)], [.it .i64 0, .it .i64 0, (.st []), .it .i64 0, .it .i64 0, .it .i64 0]) ∧
 Al prog 36 0 = some (0, 1, false) ∧
 Al prog 36 1 = some (1, 1, false) ∧
 Al prog 36 2 = some (2, 1, false) ∧
 Al prog 36 3 = some (3, 1, false) ∧
 Al prog 36 4 = some (4, 2, true) ∧
 Az prog 38 = some (1, false) ∧
 Bk prog 38 = some (9, 1, false) ∧
 Cf prog 38 = some (9, 1, 16) ∧
 Az prog 40 = some (14, true) ∧
 Bj prog 40 = some [.it .i64 0, .it .i64 0, (.st []), .it .i64 0, .it .i64 0, .it .i64 0, .it .i64 0, .it .i64 0, (.st []), .it .i64 0, .it .i64 0, .it .i64 0, (.st []), (.sl Mode.full [])] ∧
 strOf prog 40 = some ([(0, 6), (6, 6), (12, 1), (13, 1)], [.it .i64 0, .it .i64 0, (.st []), .it .i64 0, .it .i64 0, .it .i64 0, .it .i64 0, .it .i64 0, (.st []), .it .i64 0, .it .i64 0, .it .i64 0, (.st []), (.sl Mode.full [])]) ∧
 Al prog 40 0 = some (0, 6, true) ∧
 Al prog 40 1 = some (6, 6, true) := by and_intros <;> kernel_rfl
theorem J4 :
 Al prog 40 2 = some (12, 1, false) ∧
 Al prog 40 3 = some (13, 1, false) ∧
 Az prog 44 = some (1, false) ∧
 Bk prog 44 = some (3, 1, false) ∧
 Cf prog 44 = some (3, 1, 8) ∧
 Az prog 46 = some (1, false) ∧
 Bk prog 46 = some (36, 6, true) ∧
 Cf prog 46 = some (36, 6, 56) ∧
 Az prog 48 = some (3, true) ∧
 Bj prog 48 = some [.it .i64 0, (.sl Mode.full []), (.sl Mode.full [])] ∧
 strOf prog 48 = some ([(0, 1), (1, 1), (2, 1)], [.it .i64 0, (.sl Mode.full []), (.sl Mode.full [])]) ∧
 Al prog 48 0 = some (0, 1, false) ∧
 Al prog 48 1 = some (1, 1, false) := by and_intros <;> kernel_rfl
theorem J3 :
 Al prog 48 2 = some (2, 1, false) ∧
 Az prog 54 = some (8, true) ∧
 strOf prog 54 = some ([(0, 6), (6, 1), (7, 1)], [.it .i64 0, .it .i64 0, (.st []), .it .i64 0, .it .i64 0, .it .i64 0, .it .i64 0, (.sl Mode.full [])]) ∧
 Al prog 54 0 = some (0, 6, true) ∧
 Al prog 54 1 = some (6, 1, false) ∧
 Al prog 54 2 = some (7, 1, false) := by and_intros <;> kernel_rfl
theorem J2 :
 AQ prog 58 = .other ∧
 Az prog 58 = some (3, true) ∧
 Bj prog 58 = some [(.st []), (.st []), (.st [])] ∧
 strOf prog 58 = some ([(0, 1), (1, 1), (2, 1)], [(.st []), (.st []), (.st [])]) ∧
 Al prog 58 0 = some (0, 1, false) ∧
 Al prog 58 1 = some (1, 1, false) ∧
 Al prog 58 2 = some (2, 1, false) ∧
 FZ prog 58 = some [(9, 0, 1, false), (9, 1, 1, false), (9, 2, 1, false)] ∧
 Program.eqGuardType prog (Program.depth prog) 58 = false ∧
 Az prog 59 = some (1, false) ∧
 Bk prog 59 = some (117, 5, true) ∧
 Cf prog 59 = some (117, 5, 64) := by and_intros <;> kernel_rfl
theorem J1 :
 Az prog 61 = some (20, true) ∧
 Bj prog 61 = some [(.st []), .it .i64 0, (.st []), .it .i64 0, .it .i64 0, (.st []), (.st []), .it .i64 0, (.st []), (.sl Mode.full []), (.st []), (.st []), (.st []), (.st []), .it .i64 0, (.sl Mode.full []), .it .i64 0, .it .i64 0, .it .i64 0, .it .i64 0] ∧
 strOf prog 61 = some ([(0, 1), (1, 1), (2, 1), (3, 1), (4, 1), (5, 1), (6, 1), (7, 1), (8, 1), (9, 1), (10, 1), (11, 3), (14, 1), (15, 1), (16, 1), (17, 1), (18, 2)], [(.st []), .it .i64 0, (.st []), .it .i64 0, .it .i64 0, (.st []), (.st []), .it .i64 0, (.st []), (.sl Mode.full []), (.st []), (.st []), (.st []), (.st []), .it .i64 0, (.sl Mode.full []), .it .i64 0, .it .i64 0, .it .i64 0, .it .i64 0]) ∧
 Al prog 61 0 = some (0, 1, false) ∧
 Al prog 61 1 = some (1, 1, false) ∧
 Al prog 61 2 = some (2, 1, false) ∧
 Al prog 61 3 = some (3, 1, false) ∧
 Al prog 61 4 = some (4, 1, false) ∧
 Al prog 61 5 = some (5, 1, false) ∧
 Al prog 61 6 = some (6, 1, false) ∧
 Al prog 61 7 = some (7, 1, false) ∧
 Al prog 61 8 = some (8, 1, false) ∧
 Al prog 61 9 = some (9, 1, false) ∧
 Al prog 61 10 = some (10, 1, false) ∧
 Al prog 61 11 = some (11, 3, true) ∧
 Al prog 61 12 = some (14, 1, false) ∧
 Al prog 61 13 = some (15, 1, false) ∧
 Al prog 61 14 = some (16, 1, false) ∧
 Al prog 61 15 = some (17, 1, false) ∧
 Al prog 61 16 = some (18, 2, true) ∧
 Az prog 64 = some (2, true) := by and_intros <;> kernel_rfl
theorem J0 :
 Bj prog 64 = some [(.sl Mode.full []), (.sl Mode.full [])] ∧
 strOf prog 64 = some ([(0, 1), (1, 1)], [(.sl Mode.full []), (.sl Mode.full [])]) ∧
 Al prog 64 0 = some (0, 1, false) ∧
 Al prog 64 1 = some (1, 1, false) ∧
 AQ prog 69 = .other ∧
 Az prog 69 = some (9, true) ∧
 Bj prog 69 = some [(.st []), .it .i64 0, (.st []), .it .i64 0, .it .i64 0, .it .i64 0, .it .i64 0, .it .i64 0, .it .i64 0] ∧
 strOf prog 69 = some ([(0, 1), (1, 1), (2, 1), (3, 1), (4, 1), (5, 1), (6, 1), (7, 2)], [(.st []), .it .i64 0, (.st []), .it .i64 0, .it .i64 0, .it .i64 0, .it .i64 0, .it .i64 0, .it .i64 0]) ∧
 Al prog 69 0 = some (0, 1, false) ∧
 Al prog 69 1 = some (1, 1, false) ∧
 Al prog 69 2 = some (2, 1, false) ∧
 Al prog 69 3 = some (3, 1, false) ∧
 Al prog 69 4 = some (4, 1, false) ∧
 Al prog 69 5 = some (5, 1, false) ∧
 Al prog 69 6 = some (6, 1, false) ∧
 Al prog 69 7 = some (7, 2, true) := by and_intros <;> kernel_rfl
theorem Ku :
 FZ prog 69 = some [(9, 0, 1, false), (3, 1, 1, false), (9, 2, 1, false), (3, 3, 1, false), (3, 4, 1, false), (3, 5, 1, false), (3, 6, 1, false), (34, 7, 2, true)] ∧
 Program.eqGuardType prog (Program.depth prog) 69 = false ∧
 AQ prog 71 = .other ∧
 Az prog 71 = some (7, true) ∧
 Bj prog 71 = some [.it .i64 0, (.st []), .it .i64 0, (.st []), .it .i64 0, .it .i64 0, .it .i64 0] ∧
 strOf prog 71 = some ([(0, 1), (1, 1), (2, 1), (3, 1), (4, 1), (5, 2)], [.it .i64 0, (.st []), .it .i64 0, (.st []), .it .i64 0, .it .i64 0, .it .i64 0]) ∧
 Al prog 71 0 = some (0, 1, false) ∧
 Al prog 71 1 = some (1, 1, false) ∧
 Al prog 71 2 = some (2, 1, false) ∧
 Al prog 71 3 = some (3, 1, false) ∧
 Al prog 71 4 = some (4, 1, false) ∧
 Al prog 71 5 = some (5, 2, true) ∧
 FZ prog 71 = some [(3, 0, 1, false), (9, 1, 1, false), (3, 2, 1, false), (9, 3, 1, false), (3, 4, 1, false), (34, 5, 2, true)] ∧
 Program.eqGuardType prog (Program.depth prog) 71 = false := by and_intros <;> kernel_rfl
theorem Ks :
 Az prog 73 = some (12, true) ∧
 Bj prog 73 = some [.it .i64 0, .it .i64 0, .it .i64 0, (.st []), (.st []), (.st []), (.sl Mode.full []), .it .i64 0, .it .i64 0, .it .i64 0, .it .i64 0, .it .i64 0] ∧
 strOf prog 73 = some ([(0, 1), (1, 1), (2, 1), (3, 1), (4, 1), (5, 1), (6, 1), (7, 1), (8, 1), (9, 1), (10, 2)], [.it .i64 0, .it .i64 0, .it .i64 0, (.st []), (.st []), (.st []), (.sl Mode.full []), .it .i64 0, .it .i64 0, .it .i64 0, .it .i64 0, .it .i64 0]) ∧
 Al prog 73 0 = some (0, 1, false) ∧
 Al prog 73 1 = some (1, 1, false) ∧
 Al prog 73 2 = some (2, 1, false) ∧
 Al prog 73 3 = some (3, 1, false) ∧
 Al prog 73 4 = some (4, 1, false) ∧
 Al prog 73 5 = some (5, 1, false) ∧
 Al prog 73 6 = some (6, 1, false) ∧
 Al prog 73 7 = some (7, 1, false) ∧
 Al prog 73 8 = some (8, 1, false) ∧
 Al prog 73 9 = some (9, 1, false) ∧
 Al prog 73 10 = some (10, 2, true) ∧
 Az prog 75 = some (49, true) ∧
 Bj prog 75 = some [.it .i64 0, (.st []), .it .i64 0, (.st []), .it .i64 0, .it .i64 0, (.st []), (.st []), .it .i64 0, (.st []), (.sl Mode.full []), (.st []), (.st []), (.st []), (.st []), .it .i64 0, (.sl Mode.full []), .it .i64 0, .it .i64 0, .it .i64 0, .it .i64 0, (.st []), .it .i64 0, (.st []), .it .i64 0, .it .i64 0, .it .i64 0, .it .i64 0, .it .i64 0, .it .i64 0, .it .i64 0, (.st []), .it .i64 0, (.st []), .it .i64 0, .it .i64 0, .it .i64 0, .it .i64 0, .it .i64 0, .it .i64 0, (.st []), (.st []), (.st []), (.sl Mode.full []), .it .i64 0, .it .i64 0, .it .i64 0, .it .i64 0, .it .i64 0] ∧
 strOf prog 75 = some ([(0, 1), (1, 20), (21, 9), (30, 7), (37, 12)], [.it .i64 0, (.st []), .it .i64 0, (.st []), .it .i64 0, .it .i64 0, (.st []), (.st []), .it .i64 0, (.st []), (.sl Mode.full []), (.st []), (.st []), (.st []), (.st []), .it .i64 0, (.sl Mode.full []), .it .i64 0, .it .i64 0, .it .i64 0, .it .i64 0, (.st []), .it .i64 0, (.st []), .it .i64 0, .it .i64 0, .it .i64 0, .it .i64 0, .it .i64 0, .it .i64 0, .it .i64 0, (.st []), .it .i64 0, (.st []), .it .i64 0, .it .i64 0, .it .i64 0, .it .i64 0, .it .i64 0, .it .i64 0, (.st []), (.st []), (.st []), (.sl Mode.full []), .it .i64 0, .it .i64 0, .it .i64 0, .it .i64 0, .it .i64 0]) ∧
 Al prog 75 0 = some (0, 1, false) ∧
 Al prog 75 1 = some (1, 20, true) ∧
 Al prog 75 2 = some (21, 9, true) ∧
 Al prog 75 3 = some (30, 7, true) ∧
 Al prog 75 4 = some (37, 12, true) := by and_intros <;> kernel_rfl
theorem Kr :
 Bk prog 77 = some (82, 6, true) ∧
 Cf prog 77 = some (82, 6, 96) ∧
 Az prog 79 = some (1, false) ∧
 Bk prog 79 = some (61, 20, true) ∧
 Cf prog 79 = some (61, 20, 264) ∧
 Az prog 80 = some (1, false) ∧
 Bk prog 80 = some (122, 3, true) ∧
 Cf prog 80 = some (122, 3, 24) ∧
 Az prog 82 = some (6, true) ∧
 Bj prog 82 = some [(.st []), (.sl Mode.full []), (.sl Mode.full []), (.st []), .it .i64 0, .bo false] ∧
 strOf prog 82 = some ([(0, 1), (1, 1), (2, 1), (3, 1), (4, 1), (5, 1)], [(.st []), (.sl Mode.full []), (.sl Mode.full []), (.st []), .it .i64 0, .bo false]) ∧
 Al prog 82 0 = some (0, 1, false) := by and_intros <;> kernel_rfl
theorem Kq :
 Al prog 82 1 = some (1, 1, false) ∧
 Al prog 82 2 = some (2, 1, false) ∧
 Al prog 82 3 = some (3, 1, false) ∧
 Al prog 82 4 = some (4, 1, false) ∧
 Al prog 82 5 = some (5, 1, false) ∧
 Az prog 86 = some (6, true) ∧
 Al prog 86 0 = some (0, 1, false) ∧
 Al prog 86 1 = some (1, 1, false) ∧
 Al prog 86 2 = some (2, 1, false) ∧
 Al prog 86 3 = some (3, 1, false) ∧
 Al prog 86 4 = some (4, 1, false) ∧
 Al prog 86 5 = some (5, 1, false) := by and_intros <;> kernel_rfl
theorem Ko :
 Az prog 88 = some (50, true) ∧
 Bj prog 88 = some [.it .i64 0, .it .i64 0, (.st []), .it .i64 0, (.st []), .it .i64 0, .it .i64 0, (.st []), (.st []), .it .i64 0, (.st []), (.sl Mode.full []), (.st []), (.st []), (.st []), (.st []), .it .i64 0, (.sl Mode.full []), .it .i64 0, .it .i64 0, .it .i64 0, .it .i64 0, (.st []), .it .i64 0, (.st []), .it .i64 0, .it .i64 0, .it .i64 0, .it .i64 0, .it .i64 0, .it .i64 0, .it .i64 0, (.st []), .it .i64 0, (.st []), .it .i64 0, .it .i64 0, .it .i64 0, .it .i64 0, .it .i64 0, .it .i64 0, (.st []), (.st []), (.st []), (.sl Mode.full []), .it .i64 0, .it .i64 0, .it .i64 0, .it .i64 0, .it .i64 0] ∧
 strOf prog 88 = some ([(0, 1), (1, 49)], [.it .i64 0, .it .i64 0, (.st []), .it .i64 0, (.st []), .it .i64 0, .it .i64 0, (.st []), (.st []), .it .i64 0, (.st []), (.sl Mode.full []), (.st []), (.st []), (.st []), (.st []), .it .i64 0, (.sl Mode.full []), .it .i64 0, .it .i64 0, .it .i64 0, .it .i64 0, (.st []), .it .i64 0, (.st []), .it .i64 0, .it .i64 0, .it .i64 0, .it .i64 0, .it .i64 0, .it .i64 0, .it .i64 0, (.st []), .it .i64 0, (.st []), .it .i64 0, .it .i64 0, .it .i64 0, .it .i64 0, .it .i64 0, .it .i64 0, (.st []), (.st []), (.st []), (.sl Mode.full []), .it .i64 0, .it .i64 0, .it .i64 0, .it .i64 0, .it .i64 0]) ∧
 Al prog 88 0 = some (0, 1, false) ∧
 Al prog 88 1 = some (1, 49, true) := by and_intros <;> kernel_rfl
theorem Kn :
 Az prog 99 = some (1, false) ∧
 Bj prog 99 = some [.ot .nilFunc] := by and_intros <;> kernel_rfl
theorem Km :
 AQ prog 117 = .other ∧
 Az prog 117 = some (5, true) ∧
 Bj prog 117 = some [.it .i64 0, .it .i64 0, (.st []), (.st []), (.st [])] ∧
 strOf prog 117 = some ([(0, 1), (1, 1), (2, 3)], [.it .i64 0, .it .i64 0, (.st []), (.st []), (.st [])]) ∧
 Al prog 117 0 = some (0, 1, false) ∧
 Al prog 117 1 = some (1, 1, false) ∧
 Al prog 117 2 = some (2, 3, true) ∧
 FZ prog 117 = some [(3, 0, 1, false), (3, 1, 1, false), (58, 2, 3, true)] ∧
 Program.eqGuardType prog (Program.depth prog) 117 = false := by and_intros <;> kernel_rfl
theorem Kl :
 Az prog 122 = some (3, true) ∧
 Bj prog 122 = some [.it .i64 0, .it .i64 0, .it .i64 0] ∧
 strOf prog 122 = some ([(0, 1), (1, 1), (2, 1)], [.it .i64 0, .it .i64 0, .it .i64 0]) ∧
 Al prog 122 0 = some (0, 1, false) ∧
 Al prog 122 1 = some (1, 1, false) ∧
 Al prog 122 2 = some (2, 1, false) ∧
 Az prog 129 = some (1, false) := by and_intros <;> kernel_rfl
theorem Kk :
 Az prog 139 = some (1, false) ∧
 Bj prog 139 = some [.ot .nilFunc] := by and_intros <;> kernel_rfl
theorem Kj :
 AQ prog 153 = (.int .u64) ∧
 Az prog 154 = some (1, false) ∧
 Az prog 155 = some (1, false) ∧
 Az prog 156 = some (1, false) ∧
 DN prog 156 = some (none, .it .i64 0) := by and_intros <;> kernel_rfl
theorem Kh :
 strOf prog 158 = some ([(0, 2), (2, 6), (8, 1), (9, 1), (10, 9), (19, 1)], [(.sl Mode.full []), (.sl Mode.full []), (.st []), (.sl Mode.full []), (.sl Mode.full []), (.st []), .it .i64 0, .bo false, (.ot (.map none)), (.ot (.map none)), (.st []), .it .i64 0, (.st []), .it .i64 0, .it .i64 0, .it .i64 0, .it .i64 0, .it .i64 0, .it .i64 0, .bo false]) ∧
 Al prog 158 0 = some (0, 2, true) ∧
 Al prog 158 1 = some (2, 6, true) ∧
 Al prog 158 2 = some (8, 1, false) ∧
 Al prog 158 3 = some (9, 1, false) ∧
 Al prog 158 4 = some (10, 9, true) ∧
 Al prog 158 5 = some (19, 1, false) ∧
 AQ prog 161 = .other ∧
 Az prog 161 = some (2, true) ∧
 Bj prog 161 = some [.it .i64 0, (.st [])] ∧
 strOf prog 161 = some ([(0, 1), (1, 1)], [.it .i64 0, (.st [])]) := by and_intros <;> kernel_rfl
theorem Kg :
 FZ prog 161 = some [(3, 0, 1, false), (9, 1, 1, false)] ∧
 AQ prog 163 = .bytes ∧
 Az prog 163 = some (1, false) ∧
 Bk prog 163 = some (5, 1, false) ∧
 Cf prog 163 = some (5, 1, 1) ∧
 Ns prog 163 = some 5 ∧
 Bj prog 165 = some [(.sl Mode.full [])] ∧
 Al prog 165 0 = some (0, 1, false) ∧
 Az prog 167 = some (1, false) := by and_intros <;> kernel_rfl
theorem Kf :
 Az prog 169 = some (4, true) ∧
 Bj prog 169 = some [(.st []), .ot .nilFunc, .it .i64 0, .it .i64 0] ∧
 strOf prog 169 = some ([(0, 1), (1, 1), (2, 2)], [(.st []), .ot .nilFunc, .it .i64 0, .it .i64 0]) ∧
 Al prog 169 0 = some (0, 1, false) ∧
 Al prog 169 1 = some (1, 1, false) ∧
 Al prog 169 2 = some (2, 2, true) := by and_intros <;> kernel_rfl
theorem Ke : AQ prog 192 = (.int .u64) := by kernel_rfl
theorem Kc :
 Az prog 201 = some (2, true) ∧
 Bj prog 201 = some [.it .i64 0, .ot .nilFunc] ∧
 strOf prog 201 = some ([(0, 1), (1, 1)], [.it .i64 0, .ot .nilFunc]) ∧
 Al prog 201 0 = some (0, 1, false) ∧
 Al prog 201 1 = some (1, 1, false) ∧
 DN prog 203 = some (some .i64, (.agg [.it .i64 0, .ot .nilFunc])) := by and_intros <;> kernel_rfl
theorem Ka :
 Az prog 244 = some (4, true) ∧
 Bj prog 244 = some [(.sl Mode.full []), (.sl Mode.full []), (.sl Mode.full []), (.sl Mode.full [])] ∧
 Al prog 244 0 = some (0, 1, false) ∧
 Al prog 244 1 = some (1, 1, false) ∧
 Al prog 244 2 = some (2, 1, false) ∧
 Al prog 244 3 = some (3, 1, false) := by and_intros <;> kernel_rfl
theorem J8 :
 Bk prog 270 = some (273, 22, true) ∧
 Cf prog 270 = some (273, 22, 288) ∧
 Az prog 273 = some (22, true) ∧
 Bj prog 273 = some [.it .i64 0, (.st []), (.st []), .it .i64 0, (.st []), .it .i64 0, .it .i64 0, (.st []), (.st []), .it .i64 0, (.st []), (.sl Mode.full []), (.st []), (.st []), (.st []), (.st []), .it .i64 0, (.sl Mode.full []), .it .i64 0, .it .i64 0, .it .i64 0, .it .i64 0] ∧
 strOf prog 273 = some ([(0, 1), (1, 1), (2, 20)], [.it .i64 0, (.st []), (.st []), .it .i64 0, (.st []), .it .i64 0, .it .i64 0, (.st []), (.st []), .it .i64 0, (.st []), (.sl Mode.full []), (.st []), (.st []), (.st []), (.st []), .it .i64 0, (.sl Mode.full []), .it .i64 0, .it .i64 0, .it .i64 0, .it .i64 0]) ∧
 Al prog 273 2 = some (2, 20, true) := by and_intros <;> kernel_rfl
theorem J7 :
 Bk prog 278 = some (69, 9, true) ∧
 Cf prog 278 = some (69, 9, 88) := by and_intros <;> kernel_rfl
theorem J6 : Bk prog 321 = some (324, 11, true) := by kernel_rfl
end Pe
end
section
namespace Pe
open Tryz
open Go
variable [Tab]
set_option maxRecDepth 100000
theorem an {a b : Prop} (x : a) (y : b) : a ∧ b := ⟨x, y⟩
theorem An {A B : Prop} (h : B) (e : A = B := by
    conv =>
      lhs
      simp only [DS, Cn, C9, List.map_cons, List.map_nil, List.map_toArray, List.getElem?_toArray, List.getElem?_cons_zero, List.getElem?_cons_succ, Option.bind_some, Option.bind_none, List.append_eq, List.cons_append, List.nil_append]) : A := e ▸ h
theorem Ad {A : Prop} (h : A := by first | rfl | (simp only [↓H4, ↓Mx, ↓reduceIte, Nat.reduceEqDiff, ↓Ny, ↓Nz, *]; done)) : A := h
theorem A3 {p0 p1 p2 : Prop} (x0 : p0) (x1 : p1) (x2 : p2) : p0 ∧ p1 ∧ p2 := ⟨x0, x1, x2⟩
theorem A4 {p0 p1 p2 p3 : Prop} (x0 : p0) (x1 : p1) (x2 : p2) (x3 : p3) : p0 ∧ p1 ∧ p2 ∧ p3 := ⟨x0, x1, x2, x3⟩
theorem A5 {p0 p1 p2 p3 p4 : Prop} (x0 : p0) (x1 : p1) (x2 : p2) (x3 : p3) (x4 : p4) : p0 ∧ p1 ∧ p2 ∧ p3 ∧ p4 := ⟨x0, x1, x2, x3, x4⟩
theorem A6 {p0 p1 p2 p3 p4 p5 : Prop} (x0 : p0) (x1 : p1) (x2 : p2) (x3 : p3) (x4 : p4) (x5 : p5) : p0 ∧ p1 ∧ p2 ∧ p3 ∧ p4 ∧ p5 := ⟨x0, x1, x2, x3, x4, x5⟩
theorem A7 {p0 p1 p2 p3 p4 p5 p6 : Prop} (x0 : p0) (x1 : p1) (x2 : p2) (x3 : p3) (x4 : p4) (x5 : p5) (x6 : p6) : p0 ∧ p1 ∧ p2 ∧ p3 ∧ p4 ∧ p5 ∧ p6 := ⟨x0, x1, x2, x3, x4, x5, x6⟩
theorem A8 {p0 p1 p2 p3 p4 p5 p6 p7 : Prop} (x0 : p0) (x1 : p1) (x2 : p2) (x3 : p3) (x4 : p4) (x5 : p5) (x6 : p6) (x7 : p7) : p0 ∧ p1 ∧ p2 ∧ p3 ∧ p4 ∧ p5 ∧ p6 ∧ p7 := ⟨x0, x1, x2, x3, x4, x5, x6, x7⟩
theorem A9 {p0 p1 p2 p3 p4 p5 p6 p7 p8 : Prop} (x0 : p0) (x1 : p1) (x2 : p2) (x3 : p3) (x4 : p4) (x5 : p5) (x6 : p6) (x7 : p7) (x8 : p8) : p0 ∧ p1 ∧ p2 ∧ p3 ∧ p4 ∧ p5 ∧ p6 ∧ p7 ∧ p8 := ⟨x0, x1, x2, x3, x4, x5, x6, x7, x8⟩
theorem B1 {p0 p1 p2 p3 p4 p5 p6 p7 p8 p9 : Prop} (x0 : p0) (x1 : p1) (x2 : p2) (x3 : p3) (x4 : p4) (x5 : p5) (x6 : p6) (x7 : p7) (x8 : p8) (x9 : p9) : p0 ∧ p1 ∧ p2 ∧ p3 ∧ p4 ∧ p5 ∧ p6 ∧ p7 ∧ p8 ∧ p9 := ⟨x0, x1, x2, x3, x4, x5, x6, x7, x8, x9⟩
theorem Aw {p0 p1 p2 p3 p4 p5 p6 p7 p8 p9 p10 : Prop} (x0 : p0) (x1 : p1) (x2 : p2) (x3 : p3) (x4 : p4) (x5 : p5) (x6 : p6) (x7 : p7) (x8 : p8) (x9 : p9) (x10 : p10) : p0 ∧ p1 ∧ p2 ∧ p3 ∧ p4 ∧ p5 ∧ p6 ∧ p7 ∧ p8 ∧ p9 ∧ p10 := ⟨x0, x1, x2, x3, x4, x5, x6, x7, x8, x9, x10⟩
theorem run {A B : Prop} (h : B) (e : A = B := by
  conv =>
   lhs
   (try simp only [NH, NI, NJ, Fx, FU])
   (try simp -implicitDefEqProofs (maxSteps := 4000000) (disch := (first | omega | (simp only [List.length_append, List.length_cons, List.length_map, List.length_nil, List.length_take, List.length_drop]; omega))) only [↓LM, LN, CQ, ↓reduceIte, Nat.reduceEqDiff, Nat.reduceAdd, Nat.reduceLT, Nat.reduceLeDiff, Nat.reduceMul, Nat.reduceSub, Int.reduceToNat, Int.reduceAdd, Int.reduceSub, Int.reduceMul, Int.reduceNeg, Int.reduceLE, Int.reduceLT, Int.reduceEq, Int.reduceBEq, Int.reduceBNe, Nat.reduceBEq, Nat.reduceBNe, DX, ER, F6, HD, IR, IL, Ht, GG, HE, HL, HM, HJ, HK, FG, DW, Hu, IP, IQ, HH, HG, F5, FF, D9, GZ, Fw, Ip, IN, HA, HF, IS, FH, EF, Hz, Ch, GU, apart, EQ, EO, EP, FK, GH, Fh, AV.wk, AV.wk2, AV.wk1, AV.cells, AV.solid, AV.ro, AV.ro1, ← List.map_take, ← List.map_drop, reduceCtorEq, Option.isNone_some, Option.isSome_none, Kw, Kv, Ki, J9, J5, J4, J3, J2, J1, J0, Ku, Ks, Kr, Kq, Ko, Kn, Km, Kl, Kk, Kj, Kh, Kg, Kf, Ke, Kc, Ka, J8, J7, J6])
   (try simp only [Fx, FU])) : A := e ▸ h
theorem Aa {F A B : Prop} (f : F) (h : B) (e : F → A = B := by
  intro f;conv =>
   lhs
   (try simp only [NH, NI, NJ, Fx, FU])
   (try simp -implicitDefEqProofs (maxSteps := 4000000) (disch := (first | omega | (simp only [List.length_append, List.length_cons, List.length_map, List.length_nil, List.length_take, List.length_drop]; omega))) only [↓LM, LN, CQ, ↓reduceIte, Nat.reduceEqDiff, Nat.reduceAdd, Nat.reduceLT, Nat.reduceLeDiff, Nat.reduceMul, Nat.reduceSub, Int.reduceToNat, Int.reduceAdd, Int.reduceSub, Int.reduceMul, Int.reduceNeg, Int.reduceLE, Int.reduceLT, Int.reduceEq, Int.reduceBEq, Int.reduceBNe, Nat.reduceBEq, Nat.reduceBNe, DX, ER, F6, HD, IR, IL, Ht, GG, HE, HL, HM, HJ, HK, FG, DW, Hu, IP, IQ, HH, HG, F5, FF, D9, GZ, Fw, Ip, IN, HA, HF, IS, FH, EF, Hz, Ch, GU, apart, EQ, EO, EP, FK, GH, Fh, AV.wk, AV.wk2, AV.wk1, AV.cells, AV.solid, AV.ro, AV.ro1, ← List.map_take, ← List.map_drop, reduceCtorEq, Option.isNone_some, Option.isSome_none, Kw, Kv, Ki, J9, J5, J4, J3, J2, J1, J0, Ku, Ks, Kr, Kq, Ko, Kn, Km, Kl, Kk, Kj, Kh, Kg, Kf, Ke, Kc, Ka, J8, J7, J6, f])
   (try simp only [Fx, FU])) : A := e f ▸ h
section
variable {P : Program} {pf rf : List FuncId} {e : Af} {f : FuncId} {d : Option Nat} {rest : List AO} {K : Af → Ae → Prop}
theorem cp {args args' : List AV} {S : Ae} {v : AV} (h : AC P f args' [] v []) (h' : Bi P pf rf rest (put e d v) S K)
  (ha : args.map AV.wk = args' := by rfl) (hk : args'.all (AV.ok 0) = true := by rfl) (hv : v.ok 0 = true := by rfl) : Du (JM P f args S) (FJ P pf rf d rest e K) := Bu h ha hk hv h'
theorem DD {v : AV} {n m : Nat} (h : v.o0 n = true) (hm : n ≤ m) : v.o0 m = true := by
 cases v with
 | sl mo es => cases mo <;> simp_all [AV.o0]; omega
 | ptr l o => simp only [AV.o0, decide_eq_true_eq] at *; omega
 | mp l => simp only [AV.o0, decide_eq_true_eq] at *; omega
 | ws l o k c => simp only [AV.o0, decide_eq_true_eq] at *; omega
 | wr l k o => simp only [AV.o0, decide_eq_true_eq] at *; omega
 | wx l o k c => simp only [AV.o0, decide_eq_true_eq] at *; omega
 | _ => simp_all [AV.o0]
theorem DC {v : AV} {n m : Nat} (h : v.o1 n = true) (hm : n ≤ m) : v.o1 m = true := by
 cases v with
 | fn g a c =>
  simp only [AV.o1, Bool.and_eq_true, List.all_eq_true] at *;exact ⟨fun x hx => DD (h.1 x hx) hm, fun x hx => DD (h.2 x hx) hm⟩
 | bo b => exact DD (v := .bo b) h hm
 | it k i => exact DD (v := .it k i) h hm
 | st l => exact DD (v := .st l) h hm
 | ot v => exact DD (v := .ot v) h hm
 | sl m' es => exact DD (v := .sl m' es) h hm
 | agg cs => exact DD (v := .agg cs) h hm
 | tup vs => exact DD (v := .tup vs) h hm
 | ptr l o => exact DD (v := .ptr l o) h hm
 | pst e o => exact DD (v := .pst e o) h hm
 | mp l => exact DD (v := .mp l) h hm
 | fm es => exact DD (v := .fm es) h hm
 | ws l o k c => exact DD (v := .ws l o k c) h hm
 | wr l k o => exact DD (v := .wr l k o) h hm
 | wx l o k c => exact DD (v := .wx l o k c) h hm
 | junk => exact DD (v := .junk) h hm
theorem DB {v : AV} {n m : Nat} (h : v.o2 n = true) (hm : n ≤ m) : v.o2 m = true := by
 cases v with
 | agg cs =>
  simp only [AV.o2, List.all_eq_true] at *;exact fun x hx => DC (h x hx) hm
 | bo b => exact DC (v := .bo b) h hm
 | it k i => exact DC (v := .it k i) h hm
 | st l => exact DC (v := .st l) h hm
 | ot v => exact DC (v := .ot v) h hm
 | sl m' es => exact DC (v := .sl m' es) h hm
 | tup vs => exact DC (v := .tup vs) h hm
 | ptr l o => exact DC (v := .ptr l o) h hm
 | pst e o => exact DC (v := .pst e o) h hm
 | fn f a c => exact DC (v := .fn f a c) h hm
 | mp l => exact DC (v := .mp l) h hm
 | fm es => exact DC (v := .fm es) h hm
 | ws l o k c => exact DC (v := .ws l o k c) h hm
 | wr l k o => exact DC (v := .wr l k o) h hm
 | wx l o k c => exact DC (v := .wx l o k c) h hm
 | junk => exact DC (v := .junk) h hm
theorem E2 {v : AV} {n m : Nat} (h : v.ok n = true) (hm : n ≤ m) : v.ok m = true := by
 cases v with
 | tup cs =>
  simp only [AV.ok, List.all_eq_true] at *;exact fun x hx => DB (h x hx) hm
 | bo b => exact DB (v := .bo b) h hm
 | it k i => exact DB (v := .it k i) h hm
 | st l => exact DB (v := .st l) h hm
 | ot v => exact DB (v := .ot v) h hm
 | sl m' es => exact DB (v := .sl m' es) h hm
 | agg cs => exact DB (v := .agg cs) h hm
 | ptr l o => exact DB (v := .ptr l o) h hm
 | pst e o => exact DB (v := .pst e o) h hm
 | fn f a c => exact DB (v := .fn f a c) h hm
 | mp l => exact DB (v := .mp l) h hm
 | fm es => exact DB (v := .fm es) h hm
 | ws l o k c => exact DB (v := .ws l o k c) h hm
 | wr l k o => exact DB (v := .wr l k o) h hm
 | wx l o k c => exact DB (v := .wx l o k c) h hm
 | junk => exact DB (v := .junk) h hm
theorem Ou {us : List AV} (h : us.all (AV.ok 0) = true) (ρ : Nat → Nat) : us.map (AV.ren ρ) = us := EJ h fun v hv => D4 hv (fun i hi => absurd hi (Nat.not_lt_zero _))
theorem I7 {o : SObj} (h : o.ok 0 = true) (ρ : Nat → Nat) : o.ren ρ = o := by
 cases o with
 | cells cs =>
  have : cs.map (AV.r1 ρ) = cs := EJ (p := AV.o1 0) h fun v hv => by
   have := D4 (ρ := ρ) (v := .agg [v]) (n := 0) (by simpa [AV.ok, AV.o2] using hv) (fun i hi => absurd hi (Nat.not_lt_zero _))
   simpa [AV.ren, AV.r2] using this
  show SObj.cells _ = _
  rw [this]
 | row cs e sz =>
  have : cs.map (AV.r1 ρ) = cs := EJ (p := AV.o1 0) h fun v hv => by
   have := D4 (ρ := ρ) (v := .agg [v]) (n := 0) (by simpa [AV.ok, AV.o2] using hv) (fun i hi => absurd hi (Nat.not_lt_zero _))
   simpa [AV.ren, AV.r2] using this
  show SObj.row _ _ _ = _
  rw [this]
 | map es =>
  have h := List.all_eq_true.1 h;show SObj.map _ = SObj.map es
  congr 1
  rw [List.map_congr_left (g := id) fun p hp => ?_, List.map_id]
  have := h p hp;simp only [Bool.and_eq_true] at this;have h1 := D4 (ρ := ρ) (v := .agg [p.1]) (n := 0) (by simpa [AV.ok, AV.o2] using this.1) (fun i hi => absurd hi (Nat.not_lt_zero _))
  have h2 := D4 (ρ := ρ) (v := .tup [p.2]) (n := 0) (by simpa [AV.ok] using this.2) (fun i hi => absurd hi (Nat.not_lt_zero _))
  have h1 : p.1.r1 ρ = p.1 := by simpa [AV.ren, AV.r2] using h1
  have h2 : p.2.r2 ρ = p.2 := by
   have h2 : AV.tup [p.2.r2 ρ] = AV.tup [p.2] := h2;simp only [AV.tup.injEq, List.cons.injEq, and_true] at h2;exact h2
  rw [h1, h2]; rfl
 | loop b D fn es ps asn bdy st =>
  have : es.map (AV.ren ρ) = es := EJ (p := AV.ok 0) h fun v hv => D4 hv (fun i hi => absurd hi (Nat.not_lt_zero _))
  show SObj.loop _ _ _ _ _ _ _ _ = _
  rw [this]
 | _ => rfl
theorem I9 {o : SObj} (h : o.ok 0 = true) : o.ok 1 = true := by
 cases o with
 | cells cs =>
  refine List.all_eq_true.2 fun v hv => ?_
  have := List.all_eq_true.1 h v hv;have := E2 (v := .agg [v]) (n := 0) (m := 1) (by simpa [AV.ok, AV.o2] using this) (Nat.zero_le 1)
  simpa [AV.ok, AV.o2] using this
 | row cs e sz =>
  refine List.all_eq_true.2 fun v hv => ?_
  have := List.all_eq_true.1 h v hv;have := E2 (v := .agg [v]) (n := 0) (m := 1) (by simpa [AV.ok, AV.o2] using this) (Nat.zero_le 1)
  simpa [AV.ok, AV.o2] using this
 | map es =>
  refine List.all_eq_true.2 fun p hp => ?_
  have := List.all_eq_true.1 h p hp;simp only [Bool.and_eq_true] at *;exact ⟨DC this.1 (Nat.zero_le 1), DB this.2 (Nat.zero_le 1)⟩
 | loop b D fn es ps asn bdy st => exact List.all_eq_true.2 fun v hv => E2 (List.all_eq_true.1 h v hv) (Nat.zero_le 1)
 | _ => rfl
theorem AC.here {args : List AV} {o o' : SObj} {v : AV} (h : AC P f (.ptr 0 0 :: args) [o] v [o']) (l : Nat) (T : Ae) (ho : o.ok 0 = true) (ho' : o'.ok 0 = true) (ha : args.all (AV.ok 0) = true) (hv : v.ok 0 = true) (hT : T[l]? = some o) :
  AC P f (.ptr l 0 :: args) T v (T.set l o') := by
 have ha1 : ∀ u ∈ args, u.ok 1 = true := fun u hu => E2 (List.all_eq_true.1 ha u hu) (Nat.zero_le 1)
 have := AC.at1 h l (by rw [I7 ho]; exact hT) (by simp only [List.all_cons, Bool.and_eq_true]; exact ⟨rfl, List.all_eq_true.2 ha1⟩) (E2 hv (Nat.zero_le 1)) (I9 ho) (I9 ho')
 rw [List.map_cons, Ou ha, I7 ho', D4 hv (fun i hi => absurd hi (Nat.not_lt_zero _))] at this
 exact this
theorem c1 {args gargs : List AV} {T : Ae} {o o' : SObj} {v : AV} (l : Nat) (h : AC P f (.ptr 0 0 :: args) [o] v [o']) (h' : Bi P pf rf rest (put e d v) (T.set l o') K)
  (ho : o.ok 0 = true := by rfl) (ho' : o'.ok 0 = true := by rfl) (ha : args.all (AV.ok 0) = true := by rfl) (hv : v.ok 0 = true := by rfl) (hT : T[l]? = some o := by rfl) (hg : gargs.map AV.wk = .ptr l 0 :: args := by rfl) :
  Du (JN P f gargs T) (FJ P pf rf d rest e K) :=
 BZ (show AC P f (gargs.map AV.wk) T v (T.set l o') by rw [hg]; exact h.here l T ho ho' ha hv hT) h'
end
theorem Ay.freeze (N0 : Nat) {e : Af} {S : Ae} (d l : Nat) {es : List (AV × AV)} (hd : e d = .mp l) (hS : S[l]? = some (.map es)) (hok : (SObj.map es).ok 0 = true) : Ay N0 e S (CU e d (.fm es)) (S.set l .dead) := by
 rintro N w0 g0 a w hn ⟨h1, h2, g, h3, h4, h5⟩
 have hlS := (List.getElem?_eq_some_iff.1 hS).1
 obtain ⟨hb, hown, hG, me, clock, hheap, hsz, hlt, hnd, hrel⟩ := h3.obj l _ hS;have hln : l < g.nid := by rw [h3.nid]; exact hlS
 let g' : Gh := { g with G := fun x => if x = g.pl l then 1 else g.G x }
 have hne : ∀ b, 0 < g.G b → b ≠ g.pl l := fun b h e => by rw [e, hG] at h; exact absurd h (Nat.lt_irrefl 0)
 have hle : Le w g w g' := ⟨fun _ _ _ _ h => h, fun b o v hb _ => by
  show o < (if b = g.pl l then 1 else g.G b)
  rw [if_neg (hne b (by omega))]; exact hb, Nat.le_refl _, fun _ _ => ⟨rfl, .inl ⟨rfl, rfl, rfl⟩⟩, fun b me c hg hm => ⟨by
  show 0 < (if b = g.pl l then 1 else g.G b)
  rw [if_neg (hne b hg)]; exact hg, hm⟩⟩
 have hren : RenOk w g w g'.noid id 0 := ⟨hle.noid, fun l hl => absurd hl (Nat.not_lt_zero _)⟩
 have hall := List.all_eq_true.1 (show (es.all fun p => p.1.o1 0 && p.2.o2 0) = true from hok)
 have hko : ∀ u ∈ es, u.1.o1 0 = true ∧ u.2.o2 0 = true := fun u hu => by simpa using hall u hu
 refine ⟨h1, h2, g', ⟨by rw [List.length_set]; exact h3.nid, fun k o hk => ?_, h3.disj, h3.lt, h3.tab.le hle⟩, fun t => ?_, h5.trans ⟨hle, rfl, rfl, rfl, Nat.le_refl _, fun _ _ _ => rfl, fun _ _ hk hb _ => ⟨hk, hb⟩, fun b _ hno => if_neg (fun e => hno l hln (by rw [e]; exact hown))⟩⟩
 ·by_cases hkl : k = l
  ·subst hkl; rw [List.getElem?_set_self hlS] at hk; cases hk; trivial
  ·rw [List.getElem?_set_ne (Ne.symm hkl)] at hk
   have hkn : k < g.nid := by rw [h3.nid]; exact (List.getElem?_eq_some_iff.1 hk).1
   refine (h3.obj k o hk).keep hle rfl rfl rfl rfl rfl (fun b hb' => ?_) (fun _ _ => rfl)
   exact if_neg (fun e => hkl (h3.disj k l b hkn hln hb' (by rw [e]; exact hown)))
 ·by_cases htd : t = d
  ·subst htd
   rw [I1];have ht := h4 t;rw [hd] at ht;generalize a.tmps.getD t undef = cv at ht;cases ht
   refine .fm _ es (g.pl l) me clock (by show 0 < (if g.pl l = g.pl l then 1 else _); rw [if_pos rfl]; exact Nat.one_pos) hheap hsz (fun j u x hu hx => ?_) fun j u x hu hx => ?_
   ·have := (hrel j u x hu hx).1.r1 hren (hko u (List.mem_of_getElem? hu)).1
    rwa [Cv (hko u (List.mem_of_getElem? hu)).1 (fun i hi => absurd hi (Nat.not_lt_zero _))] at this
   ·have := (hrel j u x hu hx).2.r2 hren (hko u (List.mem_of_getElem? hu)).2
    rwa [Dm (hko u (List.mem_of_getElem? hu)).2 (fun i hi => absurd hi (Nat.not_lt_zero _))] at this
  ·rw [GJ e htd]; exact (h4 t).le hle
theorem Ab {P : Program} {rs : List ResultVar} {v : AV} {e : Af} {S : Ae} {vs : List AV} (h : Cg P rs e S = some vs := by rfl) (hk : v.ok 0 = true := by rfl) (hv : Cu vs = v := by rfl) : CO P rs 0 v [] .ret e S := F0 h hk hv
theorem Uc {P : Program} {rs : List ResultVar} {v : AV} {e : Af} {S : Ae} {o : SObj} {vs : List AV} (h : Cg P rs e S = some vs := by rfl) (ho : o.ok 1 = true := by rfl) (hS : S[0]? = some (o.ren (AA [0])) := by rfl) (hk : v.ok 1 = true := by rfl) (hv : Cu vs = v.ren (AA [0]) := by rfl) : CO P rs 1 v [o] .ret e S :=
 Lq (κ := [0]) h (I5 0 ho hS) rfl hk hv
theorem Um {P : Program} {rs : List ResultVar} {v : AV} {e : Af} {S : Ae} {o : SObj} {vs : List AV} (h : Cg P rs e S = some vs := by rfl) (ho : o.ok 1 = true := by rfl) (hS : S[0]? = some (o.ren (AA [0])) := by rfl) (hk : v.ok 1 = true := by rfl) (hv : Cu vs = v.ren (AA [0]) := by rfl) : CO P rs 1 v [o] .norm e S :=
 ⟨e, S, vs, [0], Ay.refl 1 e S, h, I5 0 ho hS, rfl, hk, .inl hv⟩
theorem Ub {P : Program} {rs : List ResultVar} {v : AV} {e : Af} {S : Ae} {o : SObj} {vs : List AV} (h : Cg P rs e S = some vs := by rfl) (ho : o.ok 1 = true := by rfl) (hS : S[0]? = some (o.ren (AA [0])) := by rfl) (hk : v.ok 1 = true := by rfl) (hv : (Cu vs).wk = v.ren (AA [0]) := by rfl) : CO P rs 1 v [o] .ret e S :=
 ⟨e, S, vs, [0], Ay.refl 1 e S, h, I5 0 ho hS, rfl, hk, .inr hv⟩
theorem Am {P : Program} {rs : List ResultVar} {v : AV} {e : Af} {S : Ae} {vs : List AV} (h : Cg P rs e S = some vs := by rfl) (hk : v.ok 0 = true := by rfl) (hv : (Cu vs).wk = v := by rfl) : CO P rs 0 v [] .ret e S := Nb h hk hv
end Pe
end
end Go.Proofs.YtiidnoejnphocaaGreatDoor
