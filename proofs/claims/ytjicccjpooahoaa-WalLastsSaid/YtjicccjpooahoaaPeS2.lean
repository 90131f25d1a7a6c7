/- Places renumbered in the middle of a walk. Nothing of the program. -/
import Derived.Test.YtjicccjpooahoaaPeR
set_option linter.unusedSectionVars false
set_option linter.unusedVariables false
set_option linter.unusedSimpArgs false
namespace Go.Proofs.Ytjicccjpooahoaa.Pe
open Go Go.RowKit
variable [Tab]
def KeepR (κ : List Nat) (E e : Env) : Prop := ∀ t, E t = .junk ∨ ((E t).ok κ.length = true ∧ e t = (E t).ren (idx κ))
theorem KeepR.nil (κ : List Nat) (e : Env) : KeepR κ (fun _ => .junk) e := fun _ => .inl rfl
theorem KeepR.cons {κ : List Nat} {E e : Env} (h : KeepR κ E e) (t : Nat) (v u : AV) (hk : v.ok κ.length = true) (hu : v.ren (idx κ) = u) (hv : e t = u) : KeepR κ (upd E t v) e := fun x => by
 unfold upd
 by_cases hx : x = t
 ·rw [if_pos hx, hx]; exact .inr ⟨hk, hv.trans hu.symm⟩
 ·rw [if_neg hx]; exact h x
theorem Weak.sub (N0 : Nat) {E e : Env} {S S' : Store} (κ : List Nat) (hE : KeepR κ E e) (hs : SubOk κ S S') (hκ : κ.take N0 = List.range N0) : Weak N0 e S E S' := by
 rintro N w0 g0 a w hn ⟨h1, h2, g, h3, h4, h5⟩
 refine ⟨h1, h2, g.sub κ, h3.sub hs, fun t => ?_, ⟨h5.toEvo.sub hs.nodup (hs.lt h3) (by rw [hn]; exact hκ), ?_, ?_⟩⟩
 ·rcases hE t with e1 | ⟨e1, e2⟩
  ·rw [e1]; exact .junk _ _
  ·have := h4 t
   rw [e2] at this
   exact Rel.unren (un_sub w g κ) this e1
 ·intro d hd
  obtain ⟨b, k1, k2, k3, k4, k5⟩ := h5.defs d hd
  exact ⟨b, k1, k2, k3, k4, fun l hl ho => k5 (idx κ l) (hs.lt h3 l hl) ho⟩
 ·exact h5.nodup
end Go.Proofs.Ytjicccjpooahoaa.Pe
