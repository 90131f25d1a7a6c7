/- Plain laws: DiskArms' runs. -/
import Derived.Test.YtknbnhmenohacaaDiskPb
namespace Go.Proofs.Ytknbnhmenohacaa.Dm
set_option linter.unusedSectionVars false
set_option linter.unusedVariables false
set_option linter.unusedSimpArgs false
open Go
/-- safe bytes, the rest behind them, and a crash in a calls, in which ks survive -/
def ar (safe rest : List UInt8) (a : Nat) (ks : List Int) : Dk := { dk0 with fs := upd dk0.fs 0 ⟨safe ++ rest, safe.length⟩, armed := a, keep := ks }
theorem ar_at (safe rest : List UInt8) (a : Nat) (ks : List Int) : (ar safe rest a ks).fs 0 = ⟨safe ++ rest, safe.length⟩ := upd_same dk0.fs 0 ⟨safe ++ rest, safe.length⟩
theorem arm0 (n : Int) (ks : List Int) : armD dk0 n ks = ar [] [] n.toNat ks := by
  have : upd dk0.fs 0 ⟨([] : List UInt8) ++ [], ([] : List UInt8).length⟩ = dk0.fs := by
    funext j
    unfold upd
    split <;> rfl
  unfold armD ar
  rw [this]
theorem ar_put (safe rest s : List UInt8) (a : Nat) (ks : List Int) :
    ({ ar safe rest a ks with fs := upd (ar safe rest a ks).fs 0 ⟨(safe ++ rest) ++ s, safe.length⟩ } : Dk) = ar safe (rest ++ s) a ks := by
  unfold ar
  simp only [upd_upd, List.append_assoc]
theorem ar_append (safe rest s : List UInt8) (m : Nat) (ks : List Int) (hl : (safe ++ rest).length + s.length ≤ 16777216) :
    appendD (ar safe rest (m + 2) ks) 0 s = (0, ar safe (rest ++ s) (m + 1) ks) := by
  have h : appendD (ar safe rest (m + 2) ks) 0 s = struck { ar safe rest (m + 2) ks with fs := upd (ar safe rest (m + 2) ks).fs 0 ⟨((ar safe rest (m + 2) ks).fs 0).data ++ s, ((ar safe rest (m + 2) ks).fs 0).dur⟩ } 0 := by
    unfold appendD
    rw [if_neg (show ¬ (ar safe rest (m + 2) ks).down = true from fun h => by cases h), if_neg (by decide), if_neg (show ¬ 16777216 < ((ar safe rest (m + 2) ks).fs (Int.toNat 0)).data.length + s.length by
      have := ar_at safe rest (m + 2) ks
      rw [show Int.toNat 0 = 0 from rfl, this]
      show ¬ 16777216 < (safe ++ rest).length + s.length
      omega)]
    rfl
  rw [h, ar_at, ar_put]
  rfl
theorem ar_append1 (safe rest s : List UInt8) (ks : List Int) (hl : (safe ++ rest).length + s.length ≤ 16777216) :
    appendD (ar safe rest 1 ks) 0 s = (8, crash (ar safe (rest ++ s) 0 ks) ks) := by
  have h : appendD (ar safe rest 1 ks) 0 s = struck { ar safe rest 1 ks with fs := upd (ar safe rest 1 ks).fs 0 ⟨((ar safe rest 1 ks).fs 0).data ++ s, ((ar safe rest 1 ks).fs 0).dur⟩ } 0 := by
    unfold appendD
    rw [if_neg (show ¬ (ar safe rest 1 ks).down = true from fun h => by cases h), if_neg (by decide), if_neg (show ¬ 16777216 < ((ar safe rest 1 ks).fs (Int.toNat 0)).data.length + s.length by
      have := ar_at safe rest 1 ks
      rw [show Int.toNat 0 = 0 from rfl, this]
      show ¬ 16777216 < (safe ++ rest).length + s.length
      omega)]
    rfl
  rw [h, ar_at, ar_put]
  rfl
theorem ar_flush (safe rest : List UInt8) (m : Nat) (ks : List Int) : flushD (ar safe rest (m + 2) ks) 0 = (0, ar (safe ++ rest) [] (m + 1) ks) := by
  have h : flushD (ar safe rest (m + 2) ks) 0 = (0, { ar safe rest (m + 1) ks with fs := upd (ar safe rest (m + 1) ks).fs 0 ⟨((ar safe rest (m + 1) ks).fs 0).data, ((ar safe rest (m + 1) ks).fs 0).data.length⟩ }) := rfl
  rw [h, ar_at]
  unfold ar
  simp only [upd_upd, List.append_nil]
theorem ar_flush1 (safe rest : List UInt8) (ks : List Int) : flushD (ar safe rest 1 ks) 0 = (8, crash (ar safe rest 0 ks) ks) := rfl
theorem ar_down (safe rest : List UInt8) (a : Nat) (ks : List Int) : (ar safe rest a ks).down = false := rfl
theorem ar_crashed (safe rest : List UInt8) (ks : List Int) : (crash (ar safe rest 0 ks) ks).down = true := rfl
theorem ar_read (safe rest : List UInt8) (a : Nat) (ks : List Int) : peek (ar safe rest a ks) 0 = (safe ++ rest, 0) := rfl
theorem ar_after (safe rest : List UInt8) (k : Int) : peek (bring (crash (ar safe rest 0 [k]) [k])) 0 = (safe ++ rest.take (min (max k 0).toNat rest.length), 0) := by
  show (((safe ++ rest).take (Fl.stay ⟨safe ++ rest, safe.length⟩ k)), (0 : Int)) = _
  have h : Fl.stay ⟨safe ++ rest, safe.length⟩ k = safe.length + min (max k 0).toNat rest.length := by
    unfold Fl.stay
    simp only [List.length_append]
    omega
  rw [h, List.take_length_add_append]
end Go.Proofs.Ytknbnhmenohacaa.Dm
