/- Plain laws: the operations of DiskDown and DiskLasts as one step of the machine. -/
import Derived.Test.YtknbnhmenohacaaDiskPc
namespace Go.Proofs.Ytknbnhmenohacaa.Dm
set_option linter.unusedSectionVars false
set_option linter.unusedVariables false
set_option linter.unusedSimpArgs false
open Go
structure Act where
  Do : Int
  F : Int
  G : Int
  N : Int
  S : List UInt8
  Keep : List Int
def pickD (n : Int) : Int := if n.tmod 11 < 0 then n.tmod 11 + 11 else n.tmod 11
def doD (d : Dk) (a : Act) : (List UInt8 × Int) × Dk :=
  if pickD a.Do = 0 ∨ pickD a.Do = 1 then (([], (appendD d a.F a.S).1), (appendD d a.F a.S).2) else
  if pickD a.Do = 2 then (([], (flushD d a.F).1), (flushD d a.F).2) else
  if pickD a.Do = 3 then (([], (cutD d a.F a.N).1), (cutD d a.F a.N).2) else
  if pickD a.Do = 4 then (([], (turnD d a.F a.G).1), (turnD d a.F a.G).2) else
  if pickD a.Do = 5 then (([], 0), crash d a.Keep) else
  if pickD a.Do = 6 then (([], 0), lose d a.N) else
  if pickD a.Do = 7 then (([], 0), bring d) else
  if pickD a.Do = 8 then (peek d a.F, d) else
  if pickD a.Do = 10 then (([], 0), armD d a.N a.Keep) else (([], 0), d)
theorem doD_ok {d : Dk} (h : Ok d) (a : Act) (hN : a.N ≤ 9223372036854775807) : Ok (doD d a).2 := by
  unfold doD
  split
  · exact append_ok h _ _
  split
  · exact flush_ok h _
  split
  · exact cut_ok h _ _
  split
  · exact turn_ok h _ _
  split
  · exact crash_ok h _
  split
  · exact lose_ok h _ hN
  split
  · exact bring_ok h
  split
  · exact h
  split
  · exact arm_ok h _ hN _
  · exact h
/-- a machine on which no crash is scheduled and that is up: calls with an invalid file number change nothing -/
theorem bad_append {d : Dk} (h1 : d.down = false) (h2 : d.armed = 0) {f : Int} (hf : kn f = false) (s : List UInt8) : appendD d f s = (1, d) := by
  unfold appendD struck strikes
  rw [h1, hf, if_pos h2]
  rfl
theorem bad_begin {d : Dk} (h1 : d.down = false) (h2 : d.armed = 0) {l : List Int} (hl : l.all kn = false) : beginD d l = (1, d) := by
  unfold beginD struck strikes
  rw [h1, hl, if_pos h2]
  rfl
theorem down_append {d : Dk} (h : d.down = true) (f : Int) (s : List UInt8) : appendD d f s = (8, d) := by unfold appendD; rw [if_pos h]
theorem down_begin {d : Dk} (h : d.down = true) (l : List Int) : beginD d l = (8, d) := by unfold beginD; rw [if_pos h]
theorem down_flush {d : Dk} (h : d.down = true) (f : Int) : flushD d f = (8, d) := by unfold flushD; rw [down_begin h]; rfl
theorem down_cut {d : Dk} (h : d.down = true) (f n : Int) : cutD d f n = (8, d) := by unfold cutD; rw [down_begin h]; rfl
theorem down_turn {d : Dk} (h : d.down = true) (f n : Int) : turnD d f n = (8, d) := by unfold turnD; rw [down_begin h]; rfl
theorem down_peek {d : Dk} (h : d.down = true) (f : Int) : peek d f = ([], 8) := by unfold peek; rw [if_pos h]
theorem down_crash {d : Dk} (h : d.down = true) (ks : List Int) : crash d ks = d := by unfold crash; rw [if_pos h]
end Go.Proofs.Ytknbnhmenohacaa.Dm
