/- More arguments as plain values: lists of integers; entries and lists of them. -/
import Derived.Test.YtaphpbiaoofmkaaGreatDoorItV
set_option linter.unusedSectionVars false
set_option linter.unusedVariables false
set_option linter.unusedSimpArgs false
namespace Go.Proofs.YtaphpbiaoofmkaaGreatDoor.Pe
open Go Go.RowKit Co Sg Ac It
set_option maxRecDepth 100000
set_option maxHeartbeats 4000000
abbrev intsV (l : List Int) : AV := .sl .ro (l.map (AV.it .i64))
structure InL (l : List Int) : Prop where
 len : l.length ≤ 140737488351232
 rng : ∀ i ∈ l, -9223372036854775808 ≤ i ∧ i ≤ 9223372036854775807
theorem shp_intsI {n us} (h : shp Tryz.prog 140737488351232 (n + 2) 50 us) : ∃ l : List Int, us = [intsV l] ∧ InL l := by
 obtain ⟨l, h1, h2, h3⟩ := shp_slice (AV.it .i64) (fun i : Int => -9223372036854775808 ≤ i ∧ i ≤ 9223372036854775807) Tryz.underlying50 h (fun x hx => by
  obtain ⟨i, rfl, hi⟩ := shp_i64 Tryz.underlying3 hx
  exact ⟨i, by rw [show aggT Tryz.prog 3 = false from by kernel_rfl]; rfl, hi⟩)
 exact ⟨l, h1, h2, h3⟩
structure InE (e : It.Entry) : Prop where
 time : -9223372036854775808 ≤ e.time ∧ e.time ≤ 9223372036854775807
 item : InI e.item
theorem shp_entryI {n us} (h : shp Tryz.prog 140737488351232 (n + 7) 55 us) : ∃ e : It.Entry, us = (entryV e).cells ∧ InE e := by
 have h := shp_struct Tryz.underlying55 h
 obtain ⟨a0, b0, rfl, h0, h⟩ := h
 obtain ⟨a1, b1, rfl, h1, rfl⟩ := h
 obtain ⟨time, rfl, w0⟩ := shp_i64 Tryz.underlying3 h0
 obtain ⟨i, rfl, w1⟩ := shp_itemI h1
 exact ⟨⟨time, i⟩, rfl, w0, w1⟩
theorem shp_entriesI {n us} (h : shp Tryz.prog 140737488351232 (n + 8) 79 us) : ∃ l : List It.Entry, us = [.sl .ro (l.map entryV)] ∧ l.length ≤ 140737488351232 ∧ ∀ e ∈ l, InE e :=
 shp_slice entryV InE Tryz.underlying79 h fun x hx => by
  obtain ⟨w, rfl, hw⟩ := shp_entryI hx
  exact ⟨w, by rw [show aggT Tryz.prog 55 = true from by kernel_rfl]; rfl, hw⟩
end Go.Proofs.YtaphpbiaoofmkaaGreatDoor.Pe
