/- WalTorn in plain terms. Nothing of the program. -/
import Derived.Test.YtjicccjpooahoaaWlQ
set_option linter.unusedSectionVars false
set_option linter.unusedVariables false
set_option linter.unusedSimpArgs false
namespace Go.Proofs.Ytjicccjpooahoaa.Wl
open Go Co
theorem prefix_iff {a b : List By} : b.isPrefixOf a = true ↔ ∃ t, a = b ++ t := by
 rw [List.isPrefixOf_iff_prefix]
 exact ⟨fun ⟨t, h⟩ => ⟨t, h.symm⟩, fun ⟨t, h⟩ => ⟨t, h.symm⟩⟩
theorem rows_mono {b c t : By} (h : c = b ++ t) : ∃ r, rowsOf c = rowsOf b ++ r := by
 obtain ⟨h1, h2, _⟩ := rows_spec b
 have := (rows_append h2 (tailOf b ++ t)).1
 rw [← List.append_assoc, ← h1, ← h] at this
 exact ⟨_, this⟩
theorem torn_some {l : List By} (hl : okL l) (n : Nat) (hn : n ≤ (recs l).length) : (∃ r, l = rowsOf ((recs l).take n) ++ r) ∧ (recs (rowsOf ((recs l).take n))).length ≤ n := by
 obtain ⟨k, p, h1, h2, h3, h4⟩ := cut_recs l n hl hn
 have hk : okL (l.take k) := fun s hs => hl s (List.mem_of_mem_take hs)
 rw [h2, (rows_back hk h3).1]
 exact ⟨⟨l.drop k, (List.take_append_drop k l).symm⟩, h4⟩
theorem torn_again (b junk : By) : (∃ r, rowsOf (recs (rowsOf b) ++ junk) = rowsOf b ++ r) ∧
  rowsOf ((recs (rowsOf b) ++ junk).take (recs (rowsOf (recs (rowsOf b) ++ junk))).length) = rowsOf (recs (rowsOf b) ++ junk) := by
 obtain ⟨_, h2, _⟩ := rows_spec b
 refine ⟨⟨_, (rows_append h2 junk).1⟩, ?_⟩
 obtain ⟨g1, g2, g3⟩ := rows_spec (recs (rowsOf b) ++ junk)
 generalize recs (rowsOf b) ++ junk = c at *
 have : c.take (recs (rowsOf c)).length = recs (rowsOf c) := by
  have := List.take_left' (l₁ := recs (rowsOf c)) (l₂ := tailOf c) (i := (recs (rowsOf c)).length) rfl
  rwa [← g1] at this
 rw [this]
 exact (rows_recs g2).1
end Go.Proofs.Ytjicccjpooahoaa.Wl
