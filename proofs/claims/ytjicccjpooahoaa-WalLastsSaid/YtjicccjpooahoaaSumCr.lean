/- The walks of sum.Crc and of the two helpers of Unhex. -/
import Derived.Test.YtjicccjpooahoaaChecked
import Derived.Test.YtjicccjpooahoaaSumM
import Derived.WalkKit
import Derived.ProofKit
import Derived.WalkSpells
import Derived.Lib.Hide
import Derived.WalkLawsBesides
set_option linter.unusedSectionVars false
set_option linter.unusedVariables false
set_option linter.unusedSimpArgs false
namespace Go.Proofs.Ytjicccjpooahoaa
open Go.RowKit Sm
set_option maxRecDepth 100000
theorem ret_int {k : IntKind} {a b : Int} (h : a = b) : Ending.returned (.int k a) = .returned (.int k b) := by rw [h]
theorem val_int {k : IntKind} {a b : Int} (h : a = b) : Value.int k a = .int k b := by rw [h]
theorem val32 {a b : BitVec 32} (h : a = b) : w32 a = w32 b := by rw [h]
theorem ret32 {a b : BitVec 32} (h : a = b) : Ending.returned (w32 a) = .returned (w32 b) := by rw [h]
set_option maxHeartbeats 400000 in
theorem crc_any (s : ByteArray) (w : World) (hs : s.size ≤ 9223372036854775807) :
  Calls Try.prog 54 #[.string s] w fun e w' => e = .returned (w32 (crc s.data.toList)) ∧ w = w' := by
 go_enter Try.func54, Try.ntmps54
 go_wp2
 go_loop [3, 4, 5, 8, 17] (fun r _ _ i _ => ∃ k : Nat, k ≤ s.size ∧ i = .int .i64 k ∧ r = w32 (creg (s.data.toList.take k))) (fun _ _ _ i _ => s.size - (intOf i).toNat)
 case atStart => exact ⟨0, Nat.zero_le _, rfl, rfl⟩
 case round =>
  obtain ⟨k, hk, rfl, rfl⟩ := hrel
  generalize hr : creg (s.data.toList.take k) = r0
  have Hr := Veil.mk hr; clear hr
  by_cases hlt : k < s.size
  ·go_wp2
   go_loop [3, 5, 17] (fun r _ i => ∃ j : Nat, j ≤ 8 ∧ i = .int .i64 j ∧ r = w32 (csteps j (r0 ^^^ bw s[k]))) (fun _ _ i => 8 - (intOf i).toNat)
   case atStart => exact ⟨0, by omega, rfl, rfl⟩
   case round =>
    obtain ⟨j, hj, rfl, rfl⟩ := hrel
    by_cases hlt2 : j < 8
    ·go_wp2
     all_goals
      go_round
      case rel => exact ⟨j + 1, by omega, by go_num, val32 (by first | exact cstep_odd _ ‹_› | exact cstep_even _ ‹_›)⟩
      case measure => simp [intOf]; omega
    ·obtain rfl : j = 8 := by omega
     go_wp2
     go_round
     case rel => exact ⟨k + 1, by omega, by go_num, val32 (by rw [take_snoc s k hlt, creg_snoc, Hr.out]; rfl)⟩
     case measure => simp [intOf]; omega
  ·have e := take_all s k hlt
   have E := Veil.mk e; clear e
   go_wp2
   go_ret
   exact ⟨ret32 (by rw [← Hr.out, E.out, crc]), rfl⟩
end Go.Proofs.Ytjicccjpooahoaa
