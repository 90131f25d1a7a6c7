/- What a mirror does with batches of an honest log in which one thing is replaced. Nothing of the program. -/
import Derived.Test.YthbpbkbjdfcnjaaGreatDoorMiQ
set_option linter.unusedSectionVars false
set_option linter.unusedVariables false
set_option linter.unusedSimpArgs false
namespace Go.Proofs.YthbpbkbjdfcnjaaGreatDoor.Sl
open Go Co Sg Ac It
section
variable {ps : List Int} {server : Int} {k : Key} {l : List It.Entry}
theorem take_empty (g : Good ps server k l) (b : Batch) (hb : b.frm = 0) : take ps ⟨server, [], []⟩ b =
  if formed b = false ∨ b.head.server ≠ server then (mirror0, 1)
  else if verifyH k.pub b.head = false then (mirror0, 3)
  else if rootE b.entries ≠ b.head.root then (mirror0, 17)
  else if times b.entries = false then (mirror0, 2)
  else if b.entries.all (sound ps) = false then (mirror0, 2)
  else if b.head.size ≤ 0 then (⟨server, [], []⟩, 0)
  else (⟨server, b.entries, [b.head]⟩, 0) := by
 have s0 := g.s0
 have s1 := g.s1
 have hc : clash [] b.entries = false := by cases b.entries <;> rfl
 unfold take logOf
 simp only [hb, g.key, Int.toNat_zero, List.drop_nil, List.take_nil, List.nil_append, List.length_nil, hc, Bool.false_eq_true, if_false, Int.ofNat_zero, Int.natCast_zero, Int.lt_irrefl]
 by_cases h : formed b = false ∨ b.head.server ≠ server
 ·rw [if_pos h, if_pos (by rcases h with h | h; exact .inr (.inr (.inl h)); exact .inr (.inr (.inr h)))]
 ·rw [if_neg h, if_neg (by rintro (h1 | h1 | h1); omega; omega; exact h h1)]
theorem refuse_sig (g : Good ps server k l) {t : Nat} (h1 : 1 ≤ t) (h2 : t ≤ l.length) (h3 : t ≤ 64) (hd : Head) (e1 : hd.server = server) (e2 : hd.size = t) (e3 : hd.root = rootE (l.take t)) :
  decide ((take ps ⟨server, [], []⟩ ⟨hd, 0, l.take t⟩).2 = 0) = verifyH k.pub hd := by
 have hlen : (l.take t).length = t := by rw [List.length_take]; omega
 have hall : (l.take t).all (sound ps) = true := List.all_eq_true.2 fun x hx => List.all_eq_true.1 g.honest.sound x (List.mem_of_mem_take hx)
 rw [take_empty g _ rfl]
 simp only [e1, e2, e3, hall, times_take g.honest.times, ne_eq, not_true_eq_false, or_false, if_false, Bool.true_eq_false]
 cases hr : rightH hd with
 | false =>
  have hf : formed ⟨hd, 0, l.take t⟩ = false := by unfold formed; rw [hr]; rfl
  rw [if_pos hf]
  unfold verifyH
  rw [hr]
  rfl
 | true =>
  have hf : formed ⟨hd, 0, l.take t⟩ = true := by
   unfold formed
   simp only [hr, e2, hlen, Bool.true_and, Bool.and_eq_true, decide_eq_true_eq]
   omega
  rw [hf, if_neg (by simp)]
  cases hv : verifyH k.pub hd with
  | false => rfl
  | true =>
   rw [if_neg (by simp), if_neg (by omega)]
   rfl
theorem refuse_from (g : Good ps server k l) {t : Nat} (hd : Head) (e2 : hd.size = (l.take t).length) : (take ps ⟨server, [], []⟩ ⟨hd, 1, l.take t⟩).2 = 1 := by
 have hf : formed ⟨hd, 1, l.take t⟩ = false := by
  unfold formed
  simp only [e2]
  rw [Bool.and_eq_false_iff]
  exact .inr (decide_eq_false (by omega))
 unfold take
 rw [if_pos (.inr (.inr (.inl hf)))]
theorem refuse_more (g : Good ps server k l) (hd : Head) (es : List It.Entry) (e2 : hd.size + 1 = es.length) : (take ps ⟨server, [], []⟩ ⟨hd, 0, es⟩).2 = 1 := by
 have hf : formed ⟨hd, 0, es⟩ = false := by
  unfold formed
  simp only
  rw [Bool.and_eq_false_iff]
  exact .inr (decide_eq_false (by omega))
 unfold take
 rw [if_pos (.inr (.inr (.inl hf)))]
theorem refuse_entry (g : Good ps server k l) {t j : Nat} (h1 : 1 ≤ t) (h2 : t ≤ l.length) (h3 : t ≤ 64) (hj : j < t) (x : It.Entry) (hd : Head) (hhd : hd = headTo k server l t) :
  rootE ((l.take t).set j x) = rootE (l.take t) ∨ decide ((take ps ⟨server, [], []⟩ ⟨hd, 0, (l.take t).set j x⟩).2 = 0) = decide (x = l[j]'(by omega)) := by
 subst hhd
 by_cases hr : rootE ((l.take t).set j x) = rootE (l.take t)
 ·exact .inl hr
 ·refine .inr ?_
  obtain ⟨e1, e2, e3, e4, e5⟩ := headTo_ok g (t := t) (by omega) h2
  have hlen : ((l.take t).set j x).length = t := by rw [List.length_set, List.length_take]; omega
  have hf : formed ⟨headTo k server l t, 0, (l.take t).set j x⟩ = true := by
   unfold formed
   simp only [e4, e2, hlen, Bool.true_and, Bool.and_eq_true, decide_eq_true_eq]
   omega
  rw [take_empty g _ rfl]
  simp only [e1, e3, e5, hf, ne_eq, not_true_eq_false, or_false, if_false, Bool.true_eq_false]
  rw [if_pos hr]
  have hne : x ≠ l[j]'(by omega) := by
   intro hx
   refine hr ?_
   rw [hx]
   have : (l.take t).set j (l[j]'(by omega)) = l.take t := by
    refine List.ext_getElem (by simp) fun i h4 h5 => ?_
    rw [List.getElem_set]
    split
    ·rename_i e; subst e; rw [List.getElem_take]
    ·rfl
   rw [this]
  rw [decide_eq_false hne]
  rfl
end
end Go.Proofs.YthbpbkbjdfcnjaaGreatDoor.Sl
