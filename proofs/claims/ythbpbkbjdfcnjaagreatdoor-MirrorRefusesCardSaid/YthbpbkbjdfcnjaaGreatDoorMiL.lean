/- Steps, keys and logs as arguments. -/
import Derived.Test.YthbpbkbjdfcnjaaGreatDoorMiC
set_option linter.unusedSectionVars false
set_option linter.unusedVariables false
set_option linter.unusedSimpArgs false
namespace Go.Proofs.YthbpbkbjdfcnjaaGreatDoor.Pe
open Go Go.RowKit Co Sg Ac It Sl
set_option maxRecDepth 100000
set_option maxHeartbeats 4000000
structure Step where
 frm : Int
 to : Int
abbrev stepV (s : Step) : AV := .agg [.it .i64 s.frm, .it .i64 s.to]
structure InS (s : Step) : Prop where
 frm : -9223372036854775808 ≤ s.frm ∧ s.frm ≤ 9223372036854775807
 to : -9223372036854775808 ≤ s.to ∧ s.to ≤ 9223372036854775807
theorem shp_step {n us} (h : shp Tryz.prog 140737488351232 (n + 2) 44 us) : ∃ s : Step, us = (stepV s).cells ∧ InS s := by
 have h := shp_struct Tryz.underlying44 h
 obtain ⟨a0, b0, rfl, h0, h⟩ := h
 obtain ⟨a1, b1, rfl, h1, rfl⟩ := h
 obtain ⟨x, rfl, w0⟩ := shp_i64 Tryz.underlying3 h0
 obtain ⟨y, rfl, w1⟩ := shp_i64 Tryz.underlying3 h1
 exact ⟨⟨x, y⟩, rfl, w0, w1⟩
theorem shp_steps {n us} (h : shp Tryz.prog 140737488351232 (n + 3) 26 us) : ∃ l : List Step, us = [.sl .ro (l.map stepV)] ∧ l.length ≤ 140737488351232 ∧ ∀ s ∈ l, InS s :=
 shp_slice stepV InS Tryz.underlying26 h fun x hx => by
  obtain ⟨w, rfl, hw⟩ := shp_step hx
  exact ⟨w, by rw [show aggT Tryz.prog 44 = true from by kernel_rfl]; rfl, hw⟩
structure InK (k : Key) : Prop where
 secret : -9223372036854775808 ≤ k.secret ∧ k.secret ≤ 9223372036854775807
 pub : -9223372036854775808 ≤ k.pub ∧ k.pub ≤ 9223372036854775807
structure InEs (l : List It.Entry) : Prop where
 len : l.length ≤ 140737488351232
 ok : ∀ e ∈ l, InE e
theorem InEs.eok {l : List It.Entry} (h : InEs l) (hl : l.length ≤ 80) : EOk l := ⟨by omega, fun e he => (h.ok e he).item.iz⟩
theorem few16_iff {l : List It.Entry} {ps : List Int} (h : few16 l ps = true) : l.length ≤ 80 ∧ ps.length ≤ 20 := by
 unfold few16 at h
 simp only [Bool.and_eq_true, decide_eq_true_eq] at h
 exact h.1
theorem good_of {ps : List Int} {server : Int} {k : Key} {l : List It.Entry} (hf : few16 l ps = true) (h0 : 0 ≤ server) (h1 : server < ps.length) (hk : ps.getD server.toNat 0 = k.pub) (hr : k.right = true) (hh : (times l && l.all (sound ps)) = true) : Sl.Good ps server k l := by
 rw [Bool.and_eq_true] at hh
 exact ⟨h0, h1, (few16_iff hf).2, hk, hr, ⟨hh.1, hh.2⟩, (few16_iff hf).1⟩
theorem mir_ok {ps : List Int} {server : Int} {l : List It.Entry} {m : Mirror} {n : Nat} (h : Mir ps server l m n) (hl : EOk l) : EOk m.entries := by rw [h.entries]; exact hl.take n
end Go.Proofs.YthbpbkbjdfcnjaaGreatDoor.Pe
