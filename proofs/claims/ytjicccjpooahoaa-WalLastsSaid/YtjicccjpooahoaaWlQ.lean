/- Package wal in plain terms: a log on a disk. Nothing of the program. -/
import Derived.Test.YtjicccjpooahoaaWlP
import Derived.Test.YtjicccjpooahoaaDiskM
set_option linter.unusedSectionVars false
set_option linter.unusedVariables false
set_option linter.unusedSimpArgs false
namespace Go.Proofs.Ytjicccjpooahoaa.Wl
open Go Co Dm
def clearD (d : Dk) (f : Int) : Int × Dk := if size d (f + 1) = 0 then (0, d) else cutD d (f + 1) 0
def trimD (d : Dk) (f : Int) : Int × Dk := if (recs (rowsOf (peek d f).1)).length < (peek d f).1.length then cutD d f ((recs (rowsOf (peek d f).1)).length : Int) else (0, d)
def openD (d : Dk) (f : Int) : Int × Dk :=
 if (peek d f).2 ≠ 0 then ((peek d f).2, d) else
 if (trimD d f).1 ≠ 0 then trimD d f else
 if (clearD (trimD d f).2 f).1 ≠ 0 then clearD (trimD d f).2 f else
 flushD (clearD (trimD d f).2 f).2 f
def addD (d : Dk) (f : Int) (s : By) : Int × Dk := if 1048576 < s.length then (7, d) else appendD d f (rec1 s)
def rewriteD (d : Dk) (f : Int) (l : List By) : Int × Dk :=
 if ∃ s ∈ l, 1048576 < s.length then (7, d) else
 if (clearD d f).1 ≠ 0 then clearD d f else
 if (appendD (clearD d f).2 (f + 1) (recs l)).1 ≠ 0 then appendD (clearD d f).2 (f + 1) (recs l) else
 if (flushD (appendD (clearD d f).2 (f + 1) (recs l)).2 (f + 1)).1 ≠ 0 then flushD (appendD (clearD d f).2 (f + 1) (recs l)).2 (f + 1) else
 turnD (flushD (appendD (clearD d f).2 (f + 1) (recs l)).2 (f + 1)).2 f (f + 1)
end Go.Proofs.Ytjicccjpooahoaa.Wl
