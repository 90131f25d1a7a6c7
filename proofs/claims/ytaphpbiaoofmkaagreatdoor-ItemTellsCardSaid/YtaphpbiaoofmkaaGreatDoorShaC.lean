/- The contracts of both Sha on plain values; the tables of package sum. -/
import Derived.Test.YtaphpbiaoofmkaaGreatDoorPeW4
import Derived.Test.YtaphpbiaoofmkaaGreatDoorSumW1
import Derived.Test.YtaphpbiaoofmkaaGreatDoorSumR1
set_option linter.unusedSectionVars false
set_option linter.unusedVariables false
set_option linter.unusedSimpArgs false
namespace Go.Proofs.YtaphpbiaoofmkaaGreatDoor.Pe
open Go Go.RowKit Sm
instance tabs : Tab := ⟨fun b i => if b = 1 ∧ i < 64 then some (w32 (tabK.getD i 0)) else if b = 0 ∧ i < 8 then some (w32 (init8.list.getD i 0)) else none⟩
theorem Tabs.of {w : World} {g : Gh} (h : TabOk w g) : Tabs w := by
 refine ⟨fun i hi => (h 1 i _ ?_).2, fun i hi => (h 0 i _ ?_).2⟩
 ·show (if _ then _ else _) = _
  rw [if_pos ⟨rfl, hi⟩]
 ·show (if _ then _ else _) = _
  rw [if_neg (fun e => absurd e.1 (by decide)), if_pos ⟨rfl, hi⟩]
theorem sha_c (l : List UInt8) (h : l.length ≤ 70368744177664) : AC Tryz.prog 145 [.st l] [] (.st (sha l)) [] := by
 refine AC.ofBelow (by kernel_rfl) fun w g cargs ht hargs => ?_
 rw [lrel_st hargs]
 refine (sha_any ⟨l.toArray⟩ w (by simp [ByteArray.size]; omega) (Tabs.of ht)).mono ?_
 rintro r w' ⟨rfl, hb⟩
 refine ⟨_, rfl, fun g' => ?_, hb⟩
 exact .st g' _
theorem rsha_c (l : List UInt8) (h : l.length ≤ 70368744177664) : AC Tryz.prog 146 [.st l] [] (.st (sha l)) [] := by
 refine AC.ofBelow (by kernel_rfl) fun w g cargs ht hargs => ?_
 rw [lrel_st hargs]
 refine (rsha_any ⟨l.toArray⟩ w (by simp [ByteArray.size]; omega)).mono ?_
 rintro r w' ⟨rfl, hb⟩
 refine ⟨_, rfl, fun g' => ?_, hb⟩
 exact .st g' _
end Go.Proofs.YtaphpbiaoofmkaaGreatDoor.Pe
