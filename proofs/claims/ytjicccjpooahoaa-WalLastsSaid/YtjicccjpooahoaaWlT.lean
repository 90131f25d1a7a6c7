/- A log on a disk that is up, on which no crash is scheduled and no flush is lost, in plain terms. Nothing of the program. -/
import Derived.Test.YtjicccjpooahoaaWlS
set_option linter.unusedSectionVars false
set_option linter.unusedVariables false
set_option linter.unusedSimpArgs false
namespace Go.Proofs.Ytjicccjpooahoaa.Wl
open Go Co Dm
structure Calm (d : Dk) : Prop where
 down : d.down = false
 armed : d.armed = 0
 lost : d.lost = 0
theorem dk0_calm : Calm dk0 := ⟨rfl, rfl, rfl⟩
section
variable {d : Dk} {n : Nat}
theorem kn_nat (hn : n < 8) : kn (n : Int) = true := by simp [kn]; omega
theorem calm_strikes (h : Calm d) : strikes d = (false, d) := by unfold strikes; rw [if_pos h.armed]
theorem calm_struck (h : Calm d) (e : Int) : struck d e = (e, d) := by unfold struck; rw [calm_strikes h]; rfl
theorem calm_begin (h : Calm d) {l : List Int} (hl : l.all kn = true) : beginD d l = (0, d) := by
 unfold beginD; rw [h.down, calm_struck h, hl]; rfl
theorem calm_set (h : Calm d) (fs : Nat → Fl) : Calm { d with fs := fs } := ⟨h.down, h.armed, h.lost⟩
theorem calm_append (h : Calm d) (hn : n < 8) {s : By} (hs : (d.fs n).data.length + s.length ≤ 16777216) : appendD d (n : Int) s = (0, { d with fs := upd d.fs n ⟨(d.fs n).data ++ s, (d.fs n).dur⟩ }) := by
 unfold appendD
 rw [if_neg (by rw [h.down]; decide), if_neg (by rw [kn_nat hn]; decide)]
 simp only [Int.toNat_natCast]
 rw [if_neg (by omega)]
 exact calm_struck (calm_set h _) _
theorem calm_append' (h : Calm d) (hn : n < 8) {s : By} (hs : (d.fs n).data.length + s.length ≤ 16777216) : ∃ d', appendD d (n : Int) s = (0, d') ∧ Calm d' ∧ d'.fs n = ⟨(d.fs n).data ++ s, (d.fs n).dur⟩ ∧ ∀ i, i ≠ n → d'.fs i = d.fs i :=
 ⟨_, calm_append h hn hs, calm_set h _, upd_same _ _ _, fun _ hi => upd_ne _ hi _⟩
theorem calm_flush (h : Calm d) (hn : n < 8) : flushD d (n : Int) = (0, { d with fs := upd d.fs n ⟨(d.fs n).data, (d.fs n).data.length⟩ }) := by
 unfold flushD
 rw [calm_begin h (by simp [kn_nat hn])]
 simp [h.lost]
theorem calm_cut (h : Calm d) (hn : n < 8) {k : Nat} (hk : k ≤ (d.fs n).data.length) : cutD d (n : Int) (k : Int) = (0, { d with fs := upd d.fs n ((d.fs n).trunc k) }) := by
 unfold cutD
 rw [calm_begin h (by simp [kn_nat hn])]
 have hsz : size d (n : Int) = (d.fs n).data.length := by unfold size; rw [if_pos (kn_nat hn)]; simp
 simp only [ne_eq, not_true_eq_false, if_false, hsz, Int.toNat_natCast]
 rw [if_neg (by omega)]
theorem calm_size (hn : n < 8) : size d (n : Int) = (d.fs n).data.length := by unfold size; rw [if_pos (kn_nat hn)]; simp
theorem calm_peek (h : Calm d) (hn : n < 8) : peek d (n : Int) = ((d.fs n).data, 0) := by
 unfold peek; rw [h.down, kn_nat hn]; simp
theorem calm_turn (h : Calm d) {m : Nat} (hn : n < 8) (hm : m < 8) (hne : n ≠ m) (hd : (d.fs m).data.length ≤ (d.fs m).dur) : turnD d (n : Int) (m : Int) = (0, { d with fs := upd (upd d.fs n (d.fs m)) m Fl.none }) := by
 unfold turnD
 rw [calm_begin h (by simp [kn_nat hn, kn_nat hm])]
 simp only [ne_eq, not_true_eq_false, if_false, Int.toNat_natCast]
 rw [if_neg (by omega), if_neg (by omega)]
theorem calm_clear (h : Calm d) (hn : n + 1 < 8) : ∃ d', clearD d (n : Int) = (0, d') ∧ Calm d' ∧ (d'.fs (n + 1)).data = [] ∧ (Ok d → (d'.fs (n + 1)).dur = 0) ∧ (∀ i, i ≠ n + 1 → d'.fs i = d.fs i) := by
 have e : ((n : Int) + 1) = ((n + 1 : Nat) : Int) := by omega
 unfold clearD
 rw [e, calm_size hn]
 by_cases h0 : (d.fs (n + 1)).data.length = 0
 ·rw [if_pos h0]
  exact ⟨d, rfl, h, List.eq_nil_of_length_eq_zero h0, fun ho => by have := (ho.fs (n + 1)).dur; omega, fun _ _ => rfl⟩
 ·rw [if_neg h0]
  have := calm_cut h hn (k := 0) (Nat.zero_le _)
  refine ⟨_, this, calm_set h _, ?_, fun _ => ?_, fun i hi => upd_ne _ hi _⟩
  ·show (upd _ _ _ _).data = []
   rw [upd_same]; simp [Fl.trunc]
  ·show (upd _ _ _ _).dur = 0
   rw [upd_same]; simp [Fl.trunc]
theorem calm_open (h : Calm d) (hn : n + 1 < 8) : ∃ d', openD d (n : Int) = (0, d') ∧ Calm d' ∧ d'.fs n = ⟨recs (rowsOf (d.fs n).data), (recs (rowsOf (d.fs n).data)).length⟩ ∧ (d'.fs (n + 1)).data = [] ∧ (∀ i, i ≠ n → i ≠ n + 1 → d'.fs i = d.fs i) := by
 unfold openD
 have hsp := (rows_spec (d.fs n).data).1
 have ht : ∃ d1, trimD d (n : Int) = (0, d1) ∧ Calm d1 ∧ (d1.fs n).data = recs (rowsOf (d.fs n).data) ∧ (∀ i, i ≠ n → d1.fs i = d.fs i) := by
  unfold trimD
  rw [calm_peek h (by omega)]
  simp only
  have hl := congrArg List.length hsp
  rw [List.length_append] at hl
  split
  ·rename_i hlt
   refine ⟨_, calm_cut h (by omega) (by omega), calm_set h _, ?_, fun i hi => upd_ne _ hi _⟩
   show (upd _ _ _ _).data = _
   rw [upd_same]
   show (d.fs n).data.take _ = _
   have := List.take_left' (l₁ := recs (rowsOf (d.fs n).data)) (l₂ := tailOf (d.fs n).data) (i := (recs (rowsOf (d.fs n).data)).length) rfl
   rwa [← hsp] at this
  ·rename_i hlt
   refine ⟨d, rfl, h, ?_, fun _ _ => rfl⟩
   have : tailOf (d.fs n).data = [] := List.eq_nil_of_length_eq_zero (by omega)
   rw [this, List.append_nil] at hsp
   exact hsp
 obtain ⟨d1, e1, h1, h2, h3⟩ := ht
 obtain ⟨d2, e2, h4, h5, _, h6⟩ := calm_clear h1 hn
 rw [calm_peek h (by omega), e1]
 simp only [ne_eq, not_true_eq_false, if_false]
 rw [e2]
 simp only [not_true_eq_false, if_false]
 refine ⟨_, calm_flush h4 (by omega), calm_set h4 _, ?_, ?_, fun i hi hi' => ?_⟩
 ·show upd _ _ _ _ = _
  rw [upd_same, h6 n (by omega), h2]
 ·show (upd _ _ _ _).data = _
  rw [upd_ne _ (by omega), h5]
 ·show upd _ _ _ _ = _
  rw [upd_ne _ hi, h6 i hi', h3 i hi]
theorem calm_add (h : Calm d) (hn : n < 8) {s : By} (hs : s.length ≤ 1048576) (hb : (d.fs n).data.length + (rec1 s).length ≤ 16777216) : addD d (n : Int) s = (0, { d with fs := upd d.fs n ⟨(d.fs n).data ++ rec1 s, (d.fs n).dur⟩ }) := by
 unfold addD
 rw [if_neg (by omega), calm_append h hn hb]
theorem calm_add' (h : Calm d) (hn : n < 8) {s : By} (hs : s.length ≤ 1048576) (hb : (d.fs n).data.length + (rec1 s).length ≤ 16777216) : ∃ d', addD d (n : Int) s = (0, d') ∧ Calm d' ∧ d'.fs n = ⟨(d.fs n).data ++ rec1 s, (d.fs n).dur⟩ ∧ ∀ i, i ≠ n → d'.fs i = d.fs i :=
 ⟨_, calm_add h hn hs hb, calm_set h _, upd_same _ _ _, fun _ hi => upd_ne _ hi _⟩
theorem calm_flush' (h : Calm d) (hn : n < 8) : ∃ d', flushD d (n : Int) = (0, d') ∧ Calm d' ∧ d'.fs n = ⟨(d.fs n).data, (d.fs n).data.length⟩ ∧ ∀ i, i ≠ n → d'.fs i = d.fs i :=
 ⟨_, calm_flush h hn, calm_set h _, upd_same _ _ _, fun _ hi => upd_ne _ hi _⟩
theorem clearD_ok {f : Int} (h : Ok d) : Ok (clearD d f).2 := by
 unfold clearD; split
 ·exact h
 ·exact cut_ok h _ _
theorem trimD_ok {f : Int} (h : Ok d) : Ok (trimD d f).2 := by
 unfold trimD; split
 ·exact cut_ok h _ _
 ·exact h
theorem openD_ok {f : Int} (h : Ok d) : Ok (openD d f).2 := by
 have h1 := trimD_ok (f := f) h
 have h2 := clearD_ok (f := f) h1
 unfold openD; split
 ·exact h
 split
 ·exact h1
 split
 ·exact h2
 ·exact flush_ok h2 _
theorem addD_ok {f : Int} {s : By} (h : Ok d) : Ok (addD d f s).2 := by
 unfold addD; split
 ·exact h
 ·exact append_ok h _ _
theorem rewriteD_ok {f : Int} {l : List By} (h : Ok d) : Ok (rewriteD d f l).2 := by
 have h1 := clearD_ok (f := f) h
 have h2 := append_ok h1 (f + 1) (recs l)
 have h3 := flush_ok h2 (f + 1)
 unfold rewriteD; split
 ·exact h
 split
 ·exact h1
 split
 ·exact h2
 split
 ·exact h3
 ·exact turn_ok h3 _ _
theorem calm_reboot (h : Calm d) (ks : List Int) : Calm (bring (crash d ks)) ∧ ∀ i, (bring (crash d ks)).fs i = (d.fs i).crash (ks.getD i 0) := by
 have e : crash d ks = ⟨fun i => (d.fs i).crash (ks.getD i 0), true, d.lost, 0, []⟩ := by unfold crash; rw [h.down]; rfl
 rw [e]
 exact ⟨⟨rfl, rfl, h.lost⟩, fun i => rfl⟩
theorem crash_dur (b : By) (k : Int) : (Fl.mk b b.length).crash k = ⟨b, b.length⟩ := by
 unfold Fl.crash Fl.stay; simp
theorem crash_zero (b c : By) : (Fl.mk (b ++ c) b.length).crash 0 = ⟨b, b.length⟩ := by
 unfold Fl.crash Fl.stay; simp
theorem down_add {f : Int} {s : By} (h : d.down = true) (hs : s.length ≤ 1048576) : addD d f s = (8, d) := by
 unfold addD; rw [if_neg (by omega)]; unfold appendD; rw [if_pos h]
theorem crash_down (h : Calm d) (ks : List Int) : (crash d ks).down = true := by unfold crash; rw [h.down]; rfl
theorem calm_rewrite (h : Calm d) (ho : Ok d) (hn : n + 1 < 8) {l : List By} (hl : okL l) (hb : (recs l).length ≤ 16777216) :
  ∃ d', rewriteD d (n : Int) l = (0, d') ∧ Calm d' ∧ d'.fs n = ⟨recs l, (recs l).length⟩ ∧ d'.fs (n + 1) = Fl.none ∧ (∀ i, i ≠ n → i ≠ n + 1 → d'.fs i = d.fs i) := by
 have e : ((n : Int) + 1) = ((n + 1 : Nat) : Int) := by omega
 obtain ⟨d1, e1, h1, h2, h3, h4⟩ := calm_clear h hn
 have h3 := h3 ho
 unfold rewriteD
 rw [if_neg (by rintro ⟨s, h1, h2⟩; have := hl s h1; omega), e1]
 simp only [ne_eq, not_true_eq_false, if_false]
 rw [e, calm_append h1 hn (by rw [h2]; simpa using hb)]
 simp only [not_true_eq_false, if_false]
 rw [calm_flush (calm_set h1 _) hn]
 simp only [not_true_eq_false, if_false]
 rw [calm_turn (calm_set (calm_set h1 _) _) (by omega) hn (by omega) (by show (upd _ _ _ _).data.length ≤ (upd _ _ _ _).dur; rw [upd_same]; exact Nat.le_refl _)]
 refine ⟨_, rfl, calm_set (calm_set (calm_set h1 _) _) _, ?_, ?_, fun i hi hi' => ?_⟩ <;> dsimp only
 ·rw [upd_ne _ (by omega), upd_same, upd_same, upd_same, h2]
  rfl
 ·exact upd_same _ _ _
 ·rw [upd_ne _ hi', upd_ne _ hi, upd_ne _ hi', upd_ne _ hi', h4 i hi']
end
end Go.Proofs.Ytjicccjpooahoaa.Wl
