/- Plain laws: DiskLoses' runs. -/
import Derived.Test.YtknbnhmenohacaaDiskPa
namespace Go.Proofs.Ytknbnhmenohacaa.Dm
set_option linter.unusedSectionVars false
set_option linter.unusedVariables false
set_option linter.unusedSimpArgs false
open Go
/-- the contents s, not durable, and k flushes still to be lost -/
def lz (s : List UInt8) (k : Nat) : Dk := { dk0 with fs := upd dk0.fs 0 ⟨s, 0⟩, lost := k }
theorem lz_append (s : List UInt8) (n : Int) (hs : s.length ≤ 50000) : appendD (lose dk0 n) 0 s = (0, lz s n.toNat) := by
  unfold appendD
  rw [if_neg (show ¬ (lose dk0 n).down = true from fun h => by cases h), if_neg (by decide), if_neg (show ¬ 16777216 < ((lose dk0 n).fs (Int.toNat 0)).data.length + s.length from show ¬ 16777216 < 0 + s.length by omega)]
  rfl
theorem lz_flush (s : List UInt8) (k : Nat) : flushD (lz s (k + 1)) 0 = (18, lz s k) := rfl
theorem lz_last (s : List UInt8) : flushD (lz s 0) 0 = (0, { lz s 0 with fs := upd (lz s 0).fs 0 ⟨s, s.length⟩ }) := rfl
theorem lz_lost (s : List UInt8) (k : Nat) : peek (bring (crash (lz s k) [])) 0 = ([], 0) := by
  show ((s.take (Fl.stay ⟨s, 0⟩ 0)), (0 : Int)) = _
  have : Fl.stay ⟨s, 0⟩ 0 = 0 := by unfold Fl.stay; simp
  rw [this]
  rfl
theorem lz_kept (s : List UInt8) : peek (bring (crash { lz s 0 with fs := upd (lz s 0).fs 0 ⟨s, s.length⟩ } [])) 0 = (s, 0) := by
  show ((s.take (Fl.stay ⟨s, s.length⟩ 0)), (0 : Int)) = _
  rw [stay_all]
end Go.Proofs.Ytknbnhmenohacaa.Dm
