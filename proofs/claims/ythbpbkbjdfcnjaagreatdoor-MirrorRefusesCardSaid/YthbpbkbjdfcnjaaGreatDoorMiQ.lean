/- What a mirror of one honest log does with a batch of another one. Nothing of the program. -/
import Derived.Test.YthbpbkbjdfcnjaaGreatDoorSlV
set_option linter.unusedSectionVars false
set_option linter.unusedVariables false
set_option linter.unusedSimpArgs false
namespace Go.Proofs.YthbpbkbjdfcnjaaGreatDoor.Sl
open Go Co Sg Ac It
theorem take_code (ps : List Int) (m : Mirror) (b : Batch) : (take ps m b).2 ≠ 0 → (take ps m b).1 = mirror0 := by
 unfold take
 intro h
 split at h <;> (try (rename_i h1; rw [if_pos h1]; done))
 rename_i h1; rw [if_neg h1]
 split at h <;> (try (rename_i h2; rw [if_pos h2]; done))
 rename_i h2; rw [if_neg h2]
 split at h <;> (try (rename_i h3; rw [if_pos h3]; done))
 rename_i h3; rw [if_neg h3]
 split at h <;> (try (rename_i h4; rw [if_pos h4]; done))
 rename_i h4; rw [if_neg h4]
 split at h <;> (try (rename_i h5; rw [if_pos h5]; done))
 rename_i h5; rw [if_neg h5]
 split at h <;> (try (rename_i h6; rw [if_pos h6]; done))
 rename_i h6; rw [if_neg h6]
 split at h <;> (try (rename_i h7; rw [if_pos h7]; done))
 rename_i h7; rw [if_neg h7]
 split at h <;> exact absurd rfl h
theorem clash_slices (l o : List It.Entry) {s t f : Nat} (hs : s ≤ l.length) (ht : t ≤ o.length) (hfs : f ≤ s) (hft : f ≤ t) :
  clash ((l.take s).drop f) ((o.take t).drop f) = (decide (f < min s t) && !decide ((l.take (min s t)).drop f = (o.take (min s t)).drop f)) := by
 have hl1 : ((l.take s).drop f).length = s - f := by rw [List.length_drop, List.length_take]; omega
 have hl2 : ((o.take t).drop f).length = t - f := by rw [List.length_drop, List.length_take]; omega
 have hl3 : ((l.take (min s t)).drop f).length = min s t - f := by rw [List.length_drop, List.length_take]; omega
 have hl4 : ((o.take (min s t)).drop f).length = min s t - f := by rw [List.length_drop, List.length_take]; omega
 rw [Bool.eq_iff_iff]
 constructor
 ·intro h
  rw [Bool.and_eq_true, decide_eq_true_eq, Bool.not_eq_true', decide_eq_false_iff_not]
  have hne : ¬ clash ((l.take s).drop f) ((o.take t).drop f) = false := by rw [h]; simp
  constructor
  ·refine Nat.lt_of_not_le fun hle => hne (clash_iff.2 fun j h1 h2 => ?_)
   omega
  ·intro e
   refine hne (clash_iff.2 fun j h1 h2 => ?_)
   have e1 : ((l.take (min s t)).drop f)[j]'(by omega) = ((o.take (min s t)).drop f)[j]'(by omega) := by simp only [e]
   simp only [List.getElem_drop, List.getElem_take] at e1 ⊢
   exact e1
 ·intro h
  rw [Bool.and_eq_true, decide_eq_true_eq, Bool.not_eq_true', decide_eq_false_iff_not] at h
  cases hc : clash ((l.take s).drop f) ((o.take t).drop f) with
  | true => rfl
  | false =>
   exfalso
   refine h.2 (List.ext_getElem (by omega) fun j h1 h2 => ?_)
   have := clash_iff.1 hc j (by omega) (by omega)
   simp only [List.getElem_drop, List.getElem_take] at this ⊢
   exact this
structure Forks (l o : List It.Entry) (s t f : Nat) (cd : Int) : Prop where
 gap : s < f → cd = 12
 fork : f ≤ s → (cd = 5 ↔ clash ((l.take s).drop f) ((o.take t).drop f) = true)
 same : f ≤ s → clash ((l.take s).drop f) ((o.take t).drop f) = false → l.take f ++ (o.take t).drop f = o.take t → cd = 0
 root : f ≤ s → clash ((l.take s).drop f) ((o.take t).drop f) = false → cd = 17 ∨ rootE (l.take f ++ (o.take t).drop f) = rootE (o.take t)
theorem forks {ps : List Int} {server : Int} {k : Key} {l o : List It.Entry} (g : Good ps server k o) (m : Mirror) (hm : m.server = server) {s t f : Nat} (hs : s ≤ l.length) (he : m.entries = l.take s) (h1 : f < t) (h2 : t ≤ o.length) (h3 : t - f ≤ 64) :
  Forks l o s t f (take ps m ⟨headTo k server o t, f, (o.take t).drop f⟩).2 := by
 have hl : m.entries.length = s := by rw [he, List.length_take, Nat.min_eq_left hs]
 rw [take_good g m hm h1 h2 h3, hl]
 by_cases hg : s < f
 ·rw [if_pos hg]
  exact ⟨fun _ => rfl, fun h => absurd hg (by omega), fun h => absurd hg (by omega), fun h => absurd hg (by omega)⟩
 rw [if_neg hg, he]
 have hlog : (l.take s).take f = l.take f := by rw [List.take_take, Nat.min_eq_left (by omega)]
 rw [hlog]
 cases hc : clash ((l.take s).drop f) ((o.take t).drop f) with
 | true =>
  rw [if_pos rfl]
  exact ⟨fun h => absurd h hg, fun _ => by simp [hc], fun _ h => (by rw [hc] at h; cases h), fun _ h => (by rw [hc] at h; cases h)⟩
 | false =>
  rw [if_neg (by simp)]
  by_cases hr : rootE (l.take f ++ (o.take t).drop f) = rootE (o.take t)
  ·rw [if_neg (fun h => h hr)]
   cases ht : times (l.take f ++ (o.take t).drop f) with
   | false =>
    rw [if_pos rfl]
    refine ⟨fun h => absurd h hg, fun _ => by rw [hc]; constructor <;> (intro h; cases h), fun _ _ e => ?_, fun _ _ => .inr hr⟩
    rw [e, times_take g.honest.times] at ht
    cases ht
   | true =>
    rw [if_neg (by simp)]
    split
    ·exact ⟨fun h => absurd h hg, fun _ => by rw [hc]; constructor <;> (intro h; cases h), fun _ _ _ => rfl, fun _ _ => .inr hr⟩
    ·exact ⟨fun h => absurd h hg, fun _ => by rw [hc]; constructor <;> (intro h; cases h), fun _ _ _ => rfl, fun _ _ => .inr hr⟩
  ·rw [if_pos hr]
   refine ⟨fun h => absurd h hg, fun _ => by rw [hc]; constructor <;> (intro h; cases h), fun _ _ e => absurd (by rw [e]) hr, fun _ _ => .inl rfl⟩
end Go.Proofs.YthbpbkbjdfcnjaaGreatDoor.Sl
