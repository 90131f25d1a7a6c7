/- The walks of agoraref03.Crc, turn, digit and Num. -/
import Derived.Test.YthnolonphjfoeaaDoorSumWf
import Derived.Test.YthnolonphjfoeaaDoorSumPf
namespace Go.Proofs.YthnolonphjfoeaaDoor
set_option linter.unusedSectionVars false
set_option linter.unusedVariables false
set_option linter.unusedSimpArgs false
open Go.RowKit Sm
theorem rturn_any (x : BitVec 32) (n : Int) (w : World) (h0 : 0 < n) (h : n < 32) :
    Calls Tryd.prog 51 #[w32 x, .int .i64 n] w fun e w' => e = .returned (w32 (rot x n.toNat)) ∧ ∃ m, w' = w.drewN m := by
  have e := rot_back x n h0 h
  have E := Veil.mk e; clear e
  have q0 : 0 ≤ n := by omega
  have q1 : 0 ≤ 32 - n := by omega
  have q2 : n ≤ 32 := by omega
  go_enter Tryd.func51, Tryd.ntmps51
  go_wp2
  go_quiet (fail)
  go_wp2
  go_ret
  rw [← E.out]
  exact ⟨rfl, _, rfl⟩
end Go.Proofs.YthnolonphjfoeaaDoor
