/- Chapter 10's laws on plain values: WalTorn. -/
import Derived.Test.YtjicccjpooahoaaWlI
set_option linter.unusedSectionVars false
set_option linter.unusedVariables false
set_option linter.unusedSimpArgs false
namespace Go.Proofs.Ytjicccjpooahoaa.Pe
open Go Go.RowKit Co Dm Wl
set_option maxRecDepth 100000
set_option maxHeartbeats 4000000
theorem len_recs : ∀ l : List By, l.length ≤ (recs l).length
 | [] => by simp [recs]
 | s :: l => by have := rec1_pos s; have := len_recs l; rw [recs_cons, List.length_append, List.length_cons]; omega
theorem rows_len (b : By) : (rowsOf b).length ≤ b.length ∧ (recs (rowsOf b)).length ≤ b.length := by
 have h1 := congrArg List.length (rows_spec b).1
 rw [List.length_append] at h1
 have h2 := len_recs (rowsOf b)
 omega
theorem short_of {l : List By} (h : ¬ 1500 < bytesN l) : l.length ≤ 30 ∧ ∀ s ∈ l, s.length ≤ 1500 := by
 unfold bytesN at h
 split at h
 ·omega
 ·rename_i h1
  refine ⟨by omega, fun s hs => ?_⟩
  have key : ∀ (l : List By), s ∈ l → min s.length 9999 ≤ sumB l := fun l => by
   induction l with
   | nil => intro h; cases h
   | cons x l ih =>
    intro h
    rcases List.mem_cons.1 h with rfl | h
    ·simp only [sumB]; omega
    ·have := ih h; simp only [sumB]; omega
  have := key l hs
  omega
theorem okL_short {l : List By} (h : ∀ s ∈ l, s.length ≤ 1500) : okL l := fun s hs => by have := h s hs; omega
theorem torn_c (l : List By) (cut : Int) (junk : By) (hl : l.length ≤ 140737488355328) (hj : junk.length ≤ 140737488355328) (hc2 : cut ≤ 9223372036854775807) :
  AC Try.prog 3 [.sl .ro (l.map .st), .it .i64 cut, .st junk] [] (.bo true) [] := by
 refine AC.enter2 [7, 8, 9, 10, 11, 12] [] Try.func3 rfl (by decide) (by decide) (Nat.le_of_ble_eq_true rfl) (by kernel_rfl) ?_; simp only [eraseC, eraseG, eraseO, List.map_cons, List.map_nil, List.map_toArray, List.getElem?_toArray, List.getElem?_cons_zero, List.getElem?_cons_succ, Option.bind_some, Option.bind_none, List.append_eq, List.cons_append, List.nil_append]
 refine run ?_
 refine cp small10_c ?_
 refine run ?_
 refine cp (lbytes_c l hl) ?_
 have hsh := short_of (l := l)
 generalize bytesN l = nb at *
 by_cases c1 : 1500 < nb
 ·have e1 : (nb : Int) > 1500 := by omega
  refine runf @e1 ?_
  exact er0
 have e1 : ¬ (nb : Int) > 1500 := by omega
 obtain ⟨hl30, hsh⟩ := hsh c1
 by_cases c2 : 50 < junk.length
 ·have e2 : (junk.length : Int) > 50 := by omega
  refine runf (an @e1 @e2) ?_
  exact er0
 have e2 : ¬ (junk.length : Int) > 50 := by omega
 by_cases c3 : cut < 0
 ·refine runf (an @e1 (an @e2 @c3)) ?_
  exact er0
 refine runf (an @e1 (an @e2 @c3)) ?_
 refine cp (file_c l (by omega) hsh) ?_
 have hbl := recs_lt hsh
 have hok := okL_short hsh
 have hrr := rows_recs hok
 have hts := fun n hn => torn_some hok n hn
 have htk : ∀ n, n ≤ (recs l).length → (recs l).take (recs (rowsOf ((recs l).take n))).length = recs (rowsOf ((recs l).take n)) := fun n hn => by
  have h1 := (rows_spec ((recs l).take n)).1
  have h2 := (rows_len ((recs l).take n)).2
  have h3 : (recs (rowsOf ((recs l).take n))).length ≤ n := by rw [List.length_take] at h2; omega
  have h4 : ((recs l).take n).take (recs (rowsOf ((recs l).take n))).length = recs (rowsOf ((recs l).take n)) := by
   have := List.take_left' (l₁ := recs (rowsOf ((recs l).take n))) (l₂ := tailOf ((recs l).take n)) (i := (recs (rowsOf ((recs l).take n))).length) rfl
   rwa [← h1] at this
  rwa [List.take_take, Nat.min_eq_left h3] at h4
 generalize hb : recs l = b at *
 obtain ⟨k, rfl⟩ : ∃ k : Nat, cut = (k : Int) := ⟨cut.toNat, by omega⟩
 by_cases c4 : b.length < k
 ·have e4 : (k : Int) > (b.length : Int) := by omega
  refine runf @e4 ?_
  exact er0
 have e4 : ¬ (k : Int) > (b.length : Int) := by omega
 have c4' : k ≤ b.length := by omega
 refine runf (an @e4 @c4') ?_
 refine cp (rows_c (b.take k) (by rw [List.length_take]; omega)) ?_
 have em : (if (b.length : Int) < (k : Int) + 1 then (b.length : Int) else (k : Int) + 1) = ((min (k + 1) b.length : Nat) : Int) := by split <;> omega
 have em2 : min (k + 1) b.length ≤ b.length := Nat.min_le_right _ _
 generalize hk1 : min (k + 1) b.length = k1 at *
 refine runf (an @em @em2) ?_
 refine cp (rows_c (b.take k1) (by rw [List.length_take]; omega)) ?_
 refine run ?_
 refine cp (rows_c b (by omega)) ?_
 have hA : (rowsOf (b.take k)).isPrefixOf l = true := prefix_iff.2 (hts k c4').1
 have hB : (rowsOf (b.take k)).isPrefixOf (rowsOf (b.take k1)) = true := prefix_iff.2 (rows_mono (t := (b.take k1).drop k) (by
  have h1 : (b.take k1).take k = b.take k := by rw [List.take_take]; by_cases h : k + 1 ≤ b.length <;> (first | (rw [Nat.min_eq_left (by omega)]) | (rw [Nat.min_eq_left (by omega)]))
  have := List.take_append_drop k (b.take k1)
  rw [h1] at this
  exact this.symm))
 have lA := (rows_len (b.take k)).1
 have lM := (rows_len (b.take k1)).1
 rw [List.length_take] at lA lM
 have hS := (hts k c4').2
 have hT := htk k c4'
 rw [hrr.1, hb]
 clear hts htk em em2 hk1
 generalize rowsOf (b.take k) = A at *
 generalize rowsOf (b.take k1) = M at *
 have s1 := rbegins_c l A hl (by omega)
 rw [hA] at s1
 have s2 := rbegins_c M A (by omega) (by omega)
 rw [hB] at s2
 have s3 := rsame_c l l hl hl
 rw [decide_eq_true rfl] at s3
 refine run ?_
 refine cp s1 ?_
 refine run ?_
 refine cp s2 ?_
 refine run ?_
 refine cp s3 ?_
 have e5 : ¬ ((recs A).length : Int) > (k : Int) := by omega
 have e6 : (recs A).length ≤ b.length := by omega
 refine runf (an @e5 (an @e6 @hT)) ?_
 have hta := torn_again b junk
 clear hta
 have hsA : (recs A).length ≤ 1000000 - 50 := by omega
 have hokA : okL A := fun s hs => hok s (by
  obtain ⟨t, ht⟩ := prefix_iff.1 hA
  rw [ht]; exact List.mem_append.2 (.inl hs))
 have g1 := rows_append hokA junk
 have gB : A.isPrefixOf (rowsOf (recs A ++ junk)) = true := prefix_iff.2 ⟨_, g1.1⟩
 have hcl : (recs A ++ junk).length = (recs A).length + junk.length := List.length_append
 refine cp (rows_c (recs A ++ junk) (by omega)) ?_
 have g2 := rows_len (recs A ++ junk)
 obtain ⟨g3, g4, g5⟩ := rows_spec (recs A ++ junk)
 have g6 : (recs A ++ junk).take (recs (rowsOf (recs A ++ junk))).length = recs (rowsOf (recs A ++ junk)) := by
  have := List.take_left' (l₁ := recs (rowsOf (recs A ++ junk))) (l₂ := tailOf (recs A ++ junk)) (i := (recs (rowsOf (recs A ++ junk))).length) rfl
  rwa [← g3] at this
 have g7 := rows_recs g4
 clear g1 g3 g5
 generalize rowsOf (recs A ++ junk) = O at *
 have em3 : (if ((recs A).length : Int) + (junk.length : Int) < ((recs O).length : Int) then ((recs A).length : Int) + (junk.length : Int) else ((recs O).length : Int)) = ((recs O).length : Int) := if_neg (by omega)
 have hlo : (recs O).length ≤ (recs A).length + junk.length := by omega
 have k9 := rows_c (recs O) (by omega)
 rw [g7.1] at k9
 have s5 := rbegins_c O A (by omega) (by omega)
 rw [gB] at s5
 have s6 := rsame_c O O (by omega) (by omega)
 rw [decide_eq_true rfl] at s6
 refine runf (an @em3 (an @hlo (an @g6 (an @hT @e6)))) ?_
 refine cp k9 ?_
 refine run ?_
 refine cp s5 ?_
 refine run ?_
 refine cp s6 ?_
 refine run ?_
 exact er0
end Go.Proofs.Ytjicccjpooahoaa.Pe
