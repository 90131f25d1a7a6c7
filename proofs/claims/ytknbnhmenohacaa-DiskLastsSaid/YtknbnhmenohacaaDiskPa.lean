/- Plain laws on the disk: what calls do on a machine that nothing disturbs; DiskTurns' runs. -/
import Derived.Test.YtknbnhmenohacaaDiskM
namespace Go.Proofs.Ytknbnhmenohacaa.Dm
set_option linter.unusedSectionVars false
set_option linter.unusedVariables false
set_option linter.unusedSimpArgs false
open Go
structure Calm (d : Dk) : Prop where
  down : d.down = false
  armed : d.armed = 0
  lost : d.lost = 0
theorem calm0 : Calm dk0 := ⟨rfl, rfl, rfl⟩
theorem Calm.struck {d : Dk} (h : Calm d) (e : Int) : struck d e = (e, d) := by
  unfold Dm.struck strikes
  rw [if_pos h.armed]
  rfl
theorem Calm.begin {d : Dk} (h : Calm d) (l : List Int) (hl : l.all kn = true) : beginD d l = (0, d) := by
  unfold beginD
  rw [h.down, h.struck, hl]
  rfl
theorem Calm.append {d : Dk} (h : Calm d) (f : Nat) (hf : f < 8) (s : List UInt8) (hs : (d.fs f).data.length + s.length ≤ 16777216) :
    appendD d (f : Int) s = (0, { d with fs := upd d.fs f ⟨(d.fs f).data ++ s, (d.fs f).dur⟩ }) := by
  have hk : kn (f : Int) = true := by unfold kn; simp; omega
  unfold appendD
  rw [h.down, hk, if_neg (by simp), if_neg (by simp), if_neg (by simpa using hs)]
  have hc : Calm { d with fs := upd d.fs f ⟨(d.fs f).data ++ s, (d.fs f).dur⟩ } := ⟨h.down, h.armed, h.lost⟩
  have := hc.struck 0
  rw [h.down] at this
  exact this
theorem Calm.flush {d : Dk} (h : Calm d) (f : Nat) (hf : f < 8) : flushD d (f : Int) = (0, { d with fs := upd d.fs f ⟨(d.fs f).data, (d.fs f).data.length⟩ }) := by
  have hk : kn (f : Int) = true := by unfold kn; simp; omega
  unfold flushD
  rw [h.begin [(f : Int)] (by simpa using hk)]
  simp only
  rw [if_neg (by simp), if_neg (by rw [h.lost]; simp)]
  rfl
theorem Calm.turn {d : Dk} (h : Calm d) (f g : Nat) (hf : f < 8) (hg : g < 8) (hfg : f ≠ g) (hd : (d.fs g).data.length ≤ (d.fs g).dur) :
    turnD d (f : Int) (g : Int) = (0, { d with fs := upd (upd d.fs f (d.fs g)) g Fl.none }) := by
  have hk : kn (f : Int) = true := by unfold kn; simp; omega
  have hk2 : kn (g : Int) = true := by unfold kn; simp; omega
  unfold turnD
  rw [h.begin [(f : Int), (g : Int)] (by simp [hk, hk2])]
  simp only
  rw [if_neg (by simp), if_neg (by omega)]
  exact if_neg (show ¬ (d.fs g).dur < (d.fs g).data.length by omega)
theorem Calm.turn9 {d : Dk} (h : Calm d) (f g : Nat) (hf : f < 8) (hg : g < 8) (hfg : f ≠ g) (hd : (d.fs g).dur < (d.fs g).data.length) :
    turnD d (f : Int) (g : Int) = (9, d) := by
  have hk : kn (f : Int) = true := by unfold kn; simp; omega
  have hk2 : kn (g : Int) = true := by unfold kn; simp; omega
  unfold turnD
  rw [h.begin [(f : Int), (g : Int)] (by simp [hk, hk2])]
  simp only
  rw [if_neg (by simp), if_neg (by omega)]
  exact if_pos hd
theorem Calm.upd {d : Dk} (h : Calm d) (fs : Nat → Fl) : Calm { d with fs := fs } := ⟨h.down, h.armed, h.lost⟩
theorem Calm.peek {d : Dk} (h : Calm d) (ks : List Int) (f : Nat) (hf : f < 8) : peek (bring (crash d ks)) (f : Int) = ((d.fs f).data.take ((d.fs f).stay (ks.getD f 0)), 0) := by
  have hk : kn (f : Int) = true := by unfold kn; simp; omega
  unfold Dm.peek bring crash
  rw [h.down, hk]
  rfl
theorem Calm.size {d : Dk} (h : Calm d) (ks : List Int) (f : Nat) (hf : f < 8) : size (bring (crash d ks)) (f : Int) = ((d.fs f).data.take ((d.fs f).stay (ks.getD f 0))).length := by
  have hk : kn (f : Int) = true := by unfold kn; simp; omega
  unfold Dm.size bring crash
  rw [h.down, hk]
  rfl
theorem stay_all (l : List UInt8) (k : Int) : l.take (Fl.stay ⟨l, l.length⟩ k) = l := List.take_of_length_le (by unfold Fl.stay; show l.length ≤ l.length + _; omega)
/-- the first two calls: the old contents, durable -/
def elder2 (E : List UInt8) : Dk := { dk0 with fs := upd dk0.fs 3 ⟨E, E.length⟩ }
theorem upd_upd (fs : Nat → Fl) (i : Nat) (a b : Fl) : upd (upd fs i a) i b = upd fs i b := by
  funext j
  unfold upd
  split <;> rfl
theorem elder_run (E : List UInt8) (hE : E.length ≤ 50000) : ∃ t1, appendD dk0 3 E = (0, t1) ∧ flushD t1 3 = (0, elder2 E) := by
  have h1 := calm0.append 3 (by omega) E (by show 0 + E.length ≤ _; omega)
  refine ⟨_, h1, ?_⟩
  have h2 := (calm0.upd (upd dk0.fs 3 ⟨E, 0⟩)).flush 3 (by omega)
  simp only [upd_same, upd_upd] at h2
  exact h2
theorem elder_calm (E : List UInt8) : Calm (elder2 E) := calm0.upd _
theorem elder_at4 (E : List UInt8) : (elder2 E).fs 4 = Fl.none := upd_ne dk0.fs (show 4 ≠ 3 from by decide) ⟨E, E.length⟩
theorem elder_at3 (E : List UInt8) : (elder2 E).fs 3 = ⟨E, E.length⟩ := upd_same dk0.fs 3 ⟨E, E.length⟩
theorem run0 (E : List UInt8) : ∃ t, turnD (elder2 E) 3 4 = (0, t) ∧ ∀ ks, peek (bring (crash t ks)) 3 = ([], 0) := by
  have h := (elder_calm E).turn 3 4 (by omega) (by omega) (by omega) (by rw [elder_at4]; exact Nat.le_refl _)
  refine ⟨_, h, fun ks => ?_⟩
  have := ((elder_calm E).upd (upd (upd (elder2 E).fs 3 ((elder2 E).fs 4)) 4 Fl.none)).peek ks 3 (by omega)
  refine this.trans ?_
  simp only [upd_ne _ (show 3 ≠ 4 from by decide), upd_same, elder_at4]
  simp [Fl.none]
def newer3 (E N : List UInt8) (n : Nat) : Dk := { elder2 E with fs := upd (elder2 E).fs 4 ⟨N, n⟩ }
theorem newer_calm (E N : List UInt8) (n : Nat) : Calm (newer3 E N n) := (elder_calm E).upd _
theorem newer_at4 (E N : List UInt8) (n : Nat) : (newer3 E N n).fs 4 = ⟨N, n⟩ := upd_same (elder2 E).fs 4 ⟨N, n⟩
theorem newer_at3 (E N : List UInt8) (n : Nat) : (newer3 E N n).fs 3 = ⟨E, E.length⟩ := (upd_ne (elder2 E).fs (show 3 ≠ 4 from by decide) ⟨N, n⟩).trans (elder_at3 E)
theorem newer_run (E N : List UInt8) (hN : N.length ≤ 50000) : appendD (elder2 E) 4 N = (0, newer3 E N 0) := by
  have h := (elder_calm E).append 4 (by omega) N (by rw [elder_at4]; show 0 + N.length ≤ _; omega)
  rw [elder_at4] at h
  exact h
theorem newer_flush (E N : List UInt8) : flushD (newer3 E N 0) 4 = (0, newer3 E N N.length) := by
  have h := (newer_calm E N 0).flush 4 (by omega)
  rw [newer_at4] at h
  refine h.trans ?_
  simp only [newer3, upd_upd]
theorem run9 (E N : List UInt8) (hN : 0 < N.length) : turnD (newer3 E N 0) 3 4 = (9, newer3 E N 0) ∧ ∀ ks, peek (bring (crash (newer3 E N 0) ks)) 3 = (E, 0) ∧ size (bring (crash (newer3 E N 0) ks)) 4 ≤ N.length := by
  refine ⟨(newer_calm E N 0).turn9 3 4 (by omega) (by omega) (by omega) (by rw [newer_at4]; exact hN), fun ks => ⟨?_, ?_⟩⟩
  · refine ((newer_calm E N 0).peek ks 3 (by omega)).trans ?_
    rw [newer_at3]
    simp only [stay_all]
  · have h := (newer_calm E N 0).size ks 4 (by omega)
    rw [newer_at4] at h
    have h2 : size (bring (crash (newer3 E N 0) ks)) 4 = (N.take (Fl.stay ⟨N, 0⟩ (ks.getD 4 0))).length := h
    rw [h2, List.length_take]
    omega
theorem run2 (E N : List UInt8) : ∃ t, turnD (newer3 E N N.length) 3 4 = (0, t) ∧ ∀ ks, peek (bring (crash t ks)) 3 = (N, 0) ∧ size (bring (crash t ks)) 4 = 0 := by
  have h := (newer_calm E N N.length).turn 3 4 (by omega) (by omega) (by omega) (by rw [newer_at4]; exact Nat.le_refl _)
  refine ⟨_, h, fun ks => ⟨?_, ?_⟩⟩
  · refine (((newer_calm E N N.length).upd (upd (upd (newer3 E N N.length).fs 3 ((newer3 E N N.length).fs 4)) 4 Fl.none)).peek ks 3 (by omega)).trans ?_
    simp only [upd_ne _ (show 3 ≠ 4 from by decide), upd_same, newer_at4, stay_all]
  · have h := ((newer_calm E N N.length).upd (upd (upd (newer3 E N N.length).fs 3 ((newer3 E N N.length).fs 4)) 4 Fl.none)).size ks 4 (by omega)
    refine (show _ = _ from h).trans ?_
    simp only [upd_same]
    simp [Fl.none]
end Go.Proofs.Ytknbnhmenohacaa.Dm
