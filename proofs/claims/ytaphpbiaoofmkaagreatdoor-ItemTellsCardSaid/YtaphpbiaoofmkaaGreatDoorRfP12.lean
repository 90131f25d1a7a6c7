/- What reference 12 reads is what the program reads. Nothing of the program. -/
import Derived.Test.YtaphpbiaoofmkaaGreatDoorIdW
set_option linter.unusedSectionVars false
set_option linter.unusedVariables false
set_option linter.unusedSimpArgs false
namespace Go.Proofs.YtaphpbiaoofmkaaGreatDoor.Ac
open Go Co Sg
def rWrapsF : Nat → R → List Wrap × R
 | 0, x => ([], x)
 | n + 1, x => if x.rest = [] then ([], x) else ((rWrap x).1 :: (rWrapsF n (rWrap x).2).1, (rWrapsF n (rWrap x).2).2)
def rActF (x : R) : Act × R :=
 let author := x.text
 let seq := rNum author.2
 let prev := seq.2.text
 let kind := rNum prev.2
 let time := rNum kind.2
 let object := time.2.text
 let target := object.2.text
 let scope := rNum target.2
 let group := scope.2.text
 let to := group.2.list
 let text := to.2.text
 let body := rBox text.2
 let epoch := rNum body.2
 let wraps := rWrapsF epoch.2.num.1 epoch.2.num.2
 let n := rNum wraps.2
 let m := rNum n.2
 let e := rNum m.2
 let s := rNum e.2
 (⟨author.1, seq.1, prev.1, kind.1, time.1, object.1, target.1, scope.1, group.1, to.1, text.1, body.1, epoch.1, wraps.1, n.1, m.1, ⟨e.1, s.1⟩⟩, s.2)
theorem rWrapsF_back : ∀ (l : List Wrap) (rest : By), rest ≠ [] → (∀ w ∈ l, wrapR w = true) → rWrapsF l.length ⟨(l.map wrapB).flatten ++ rest, false⟩ = (l, ⟨rest, false⟩)
 | [], rest, _, _ => rfl
 | w :: l, rest, hr, h => by
  rw [List.length_cons, List.map_cons, List.flatten_cons, List.append_assoc]
  unfold rWrapsF
  rw [if_neg (by simp [hr]), rWrap_back w _ (h w (by simp))]
  simp only
  rw [rWrapsF_back l rest hr fun x hx => h x (by simp [hx])]
theorem rActF_back {a : Act} (h : Sm a) (rest : By) : rActF ⟨tailB a rest, false⟩ = (a, ⟨rest, false⟩) := by
 have hs := h.sig
 simp only [sigR, Bool.and_eq_true, wi_iff] at hs
 have h1 := h.author; have h2 := h.seq; have h3 := h.prev; have h4 := h.kind; have h5 := h.time; have h6 := h.object; have h7 := h.target; have h8 := h.scope; have h9 := h.group
 have h10 := h.to; have h11 := h.text; have h12 := h.body; have h13 := h.epoch; have h14 := h.wraps; have h15 := h.n; have h16 := h.m
 unfold rActF tailB
 simp only
 rw [text_back _ _ (by omega)]; simp only
 rw [rNum_back _ _ (by omega) (by omega)]; simp only
 rw [text_back _ _ (by omega)]; simp only
 rw [rNum_back _ _ (by omega) (by omega)]; simp only
 rw [rNum_back _ _ (by omega) (by omega)]; simp only
 rw [text_back _ _ (by omega)]; simp only
 rw [text_back _ _ (by omega)]; simp only
 rw [rNum_back _ _ (by omega) (by omega)]; simp only
 rw [text_back _ _ (by omega)]; simp only
 rw [list_back _ _ (by omega) (fun s hs => by have := h10.2 s hs; omega)]; simp only
 rw [text_back _ _ (by omega)]; simp only
 rw [rBox_back _ _ (by omega)]; simp only
 rw [rNum_back _ _ (by omega) (by omega)]; simp only
 rw [num_back _ _ _ (by omega)]; simp only
 rw [rWrapsF_back _ _ (fun e => absurd (List.append_eq_nil_iff.1 e).1 (numI_ne h15.1)) h14.2]; simp only
 rw [rNum_back _ _ (by omega) (by omega)]; simp only
 rw [rNum_back _ _ (by omega) (by omega)]; simp only
 rw [rNum_back _ _ (by omega) (by omega)]; simp only
 rw [rNum_back _ _ (by omega) (by omega)]
theorem read_ref (s : By) : (if (rActF (R.text ⟨s, false⟩).2).2.done = true ∧ (R.text ⟨s, false⟩).1 = wAct ∧ bytes (rActF (R.text ⟨s, false⟩).2).1 = s then ((rActF (R.text ⟨s, false⟩).2).1, true) else (act0, false)) = read s := by
 by_cases hc : (rActF (R.text ⟨s, false⟩).2).2.done = true ∧ (R.text ⟨s, false⟩).1 = wAct ∧ bytes (rActF (R.text ⟨s, false⟩).2).1 = s
 ·rw [if_pos hc]
  generalize hA : (rActF (R.text ⟨s, false⟩).2).1 = A at *
  cases hr : right A with
  | false =>
   have := (bytes_wrong hr).1
   rw [this] at hc
   have h3 := hc.2.2
   subst h3
   exact absurd hc.2.1 (by decide)
  | true =>
   have := read_bytes hr
   rw [hc.2.2] at this
   exact this.symm
 ·rw [if_neg hc]
  cases h : (read s).2 with
  | false =>
   have := read_wrong h
   rw [← this, ← h]
  | true =>
   exfalso
   apply hc
   obtain ⟨h1, h2⟩ := read_right h
   generalize (read s).1 = a at *
   have hb := bytes_right h1
   have hs : s = text wAct ++ tailB a [] := by rw [← hb, h2]
   have ht : R.text ⟨s, false⟩ = (wAct, ⟨tailB a [], false⟩) := by rw [hs]; exact text_wAct _
   rw [ht]
   simp only
   rw [rActF_back (right_sm h1)]
   exact ⟨rfl, trivial, h2⟩
end Go.Proofs.YtaphpbiaoofmkaaGreatDoor.Ac
