/- The arguments of WalLasts as plain values. -/
import Derived.Test.YtjicccjpooahoaaWlW
import Derived.Test.YtjicccjpooahoaaWlV
set_option linter.unusedSectionVars false
set_option linter.unusedVariables false
set_option linter.unusedSimpArgs false
namespace Go.Proofs.Ytjicccjpooahoaa.Pe
open Go
set_option maxRecDepth 100000
theorem shp_ints {n us} (h : shp Try.prog 140737488351232 (n + 2) 48 us) : ∃ l : List Int, us = [ints .ro l] ∧ l.length ≤ 140737488351232 := by
 obtain ⟨l, h1, h2, _⟩ := shp_slice (AV.it .i64) (fun _ => True) Try.underlying48 h (fun x hx => by
  obtain ⟨i, rfl, _⟩ := shp_i64 Try.underlying3 hx
  exact ⟨i, by rw [show aggT Try.prog 3 = false from by kernel_rfl]; rfl, trivial⟩)
 exact ⟨l, h1, h2⟩
theorem shp_strsW {n us} (h : shp Try.prog 140737488351232 (n + 2) 22 us) : ∃ l : List (List UInt8), us = [.sl .ro (l.map .st)] ∧ l.length ≤ 140737488351232 ∧ ∀ s ∈ l, s.length ≤ 140737488351232 :=
 shp_slice AV.st (fun s : List UInt8 => s.length ≤ 140737488351232) Try.underlying22 h (fun x hx => by
  obtain ⟨i, rfl, hi⟩ := shp_str Try.underlying9 hx
  exact ⟨i, by rw [show aggT Try.prog 9 = false from by kernel_rfl]; rfl, hi⟩)
theorem shp_wact {n us} (h : shp Try.prog 140737488351232 (n + 3) 53 us) : ∃ a : WAct, us = (waV a).cells ∧ Win a := by
 have h := shp_struct Try.underlying53 h
 obtain ⟨a0, b0, rfl, h0, h⟩ := h
 obtain ⟨a1, b1, rfl, h1, h⟩ := h
 obtain ⟨a2, b2, rfl, h2, h⟩ := h
 obtain ⟨a3, b3, rfl, h3, h⟩ := h
 obtain ⟨a4, b4, rfl, h4, rfl⟩ := h
 obtain ⟨i0, rfl, w0⟩ := shp_i64 Try.underlying3 h0
 obtain ⟨s1, rfl, w1⟩ := shp_str Try.underlying9 h1
 obtain ⟨l2, rfl, w2, w2'⟩ := shp_strsW h2
 obtain ⟨i3, rfl, w3⟩ := shp_i64 Try.underlying3 h3
 obtain ⟨l4, rfl, w4⟩ := shp_ints h4
 exact ⟨⟨i0, s1, l2, i3, l4⟩, rfl, w1, w3.2, w2, w4, w2'⟩
theorem shp_wacts {n us} (h : shp Try.prog 140737488351232 (n + 4) 47 us) : ∃ l : List WAct, us = [.sl .ro (l.map waV)] ∧ l.length ≤ 140737488351232 ∧ ∀ a ∈ l, Win a :=
 shp_slice waV Win Try.underlying47 h fun x hx => by
  obtain ⟨a, rfl, ha⟩ := shp_wact hx
  exact ⟨a, by rw [show aggT Try.prog 53 = true from by kernel_rfl]; rfl, ha⟩
end Go.Proofs.Ytjicccjpooahoaa.Pe
