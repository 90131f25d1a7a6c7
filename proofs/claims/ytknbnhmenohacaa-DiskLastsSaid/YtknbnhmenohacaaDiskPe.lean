/- Plain laws of DiskLasts: what has been flushed is a beginning of what is durable. -/
import Derived.Test.YtknbnhmenohacaaDiskPd
namespace Go.Proofs.Ytknbnhmenohacaa.Dm
set_option linter.unusedSectionVars false
set_option linter.unusedVariables false
set_option linter.unusedSimpArgs false
open Go
/-- s is a beginning of what is durable -/
structure Pr (s : List UInt8) (f : Fl) : Prop where
  le : s.length ≤ f.dur
  eq : f.data.take s.length = s
def Safe (d : Dk) (sf : List (List UInt8)) : Prop := sf.length = 8 ∧ ∀ i s, sf[i]? = some s → Pr s (d.fs i)
def Still (d : Dk) : Prop := d.down = true → ∀ i, (d.fs i).dur = (d.fs i).data.length
theorem Pr.crash {s : List UInt8} {f : Fl} (h : Pr s f) (k : Int) : Pr s (f.crash k) := by
  have h1 : f.dur ≤ f.stay k := by unfold Fl.stay; omega
  have h2 := h.le
  refine ⟨by show _ ≤ f.stay k; omega, ?_⟩
  show (f.data.take (f.stay k)).take s.length = s
  rw [List.take_take, Nat.min_eq_left (by omega)]
  exact h.eq
theorem Safe.fs {d d' : Dk} {sf : List (List UInt8)} (h : Safe d sf) (e : d'.fs = d.fs) : Safe d' sf := ⟨h.1, fun i s hs => by rw [e]; exact h.2 i s hs⟩
theorem Safe.crash {d : Dk} {sf : List (List UInt8)} (h : Safe d sf) (ks : List Int) : Safe (crash d ks) sf := by
  unfold Dm.crash
  split
  · exact h
  · exact ⟨h.1, fun i s hs => (h.2 i s hs).crash _⟩
theorem still_crash {d : Dk} (h : Still d) (ho : Ok d) (ks : List Int) : Still (crash d ks) := by
  unfold Dm.crash
  split
  · exact h
  · intro _ i
    show Fl.stay _ _ = (List.take _ _).length
    rw [List.length_take]
    have := Fl.stay_le (ho.fs i) (ks.getD i 0)
    omega
theorem still_up {d : Dk} (h : d.down = false) : Still d := fun e => by rw [h] at e; cases e
theorem strikes_same (d : Dk) : (strikes d).2.fs = d.fs ∧ (strikes d).2.down = d.down := by unfold strikes; split <;> exact ⟨rfl, rfl⟩
/-- a call that counts: it is struck, or goes on -/
theorem struck_spec (d : Dk) (e : Int) : (∃ d1 ks, struck d e = (8, crash d1 ks) ∧ d1.fs = d.fs ∧ d1.down = d.down ∧ (Ok d → Ok d1)) ∨ ∃ d1, struck d e = (e, d1) ∧ d1.fs = d.fs ∧ d1.down = d.down ∧ (Ok d → Ok d1) := by
  have h := strikes_same d
  unfold struck
  split
  · exact .inl ⟨_, _, rfl, h.1, h.2, fun ho => strikes_ok ho⟩
  · exact .inr ⟨_, rfl, h.1, h.2, fun ho => strikes_ok ho⟩
/-- what a call leaves of what was there -/
structure Goes (d' : Dk) (sf : List (List UInt8)) : Prop where
  safe : Safe d' sf
  still : Still d'
theorem goes_struck {d : Dk} {sf : List (List UInt8)} (h : Safe d sf) (ho : Ok d) (hd : d.down = false) (e : Int) : Goes (struck d e).2 sf ∧ ((struck d e).1 = 8 ∨ ((struck d e).1 = e ∧ (struck d e).2.down = false ∧ (struck d e).2.fs = d.fs)) := by
  rcases struck_spec d e with ⟨d1, ks, h1, h2, h3, h4⟩ | ⟨d1, h1, h2, h3, h4⟩
  · rw [h1]
    have hd1 : d1.down = false := by rw [h3]; exact hd
    exact ⟨⟨(h.fs h2).crash ks, still_crash (still_up hd1) (h4 ho) ks⟩, .inl rfl⟩
  · rw [h1]
    have hd1 : d1.down = false := by rw [h3]; exact hd
    exact ⟨⟨h.fs h2, still_up hd1⟩, .inr ⟨rfl, hd1, h2⟩⟩
theorem goes_begin {d : Dk} {sf : List (List UInt8)} (h : Safe d sf) (ho : Ok d) (hst : Still d) (l : List Int) : Goes (beginD d l).2 sf ∧ ((beginD d l).1 = 0 → l.all kn = true ∧ (beginD d l).2.down = false ∧ (beginD d l).2.fs = d.fs) := by
  unfold beginD
  split
  · exact ⟨⟨h, hst⟩, fun e => by cases e⟩
  · rename_i hd
    have hd : d.down = false := by simpa using hd
    obtain ⟨h1, h2⟩ := goes_struck h ho hd (if l.all kn then 0 else 1)
    refine ⟨h1, fun e => ?_⟩
    rcases h2 with h2 | ⟨h2, h3, h4⟩
    · rw [h2] at e; cases e
    · rw [h2] at e
      refine ⟨?_, h3, h4⟩
      split at e
      · assumption
      · cases e
theorem Safe.upd {d : Dk} {sf : List (List UInt8)} (h : Safe d sf) (i : Nat) (f : Fl) (hf : ∀ s, sf[i]? = some s → Pr s f) : Safe { d with fs := Dm.upd d.fs i f } sf := by
  refine ⟨h.1, fun j s hs => ?_⟩
  show Pr s (Dm.upd d.fs i f j)
  by_cases e : j = i
  · subst e; rw [upd_same]; exact hf s hs
  · rw [upd_ne _ e]; exact h.2 j s hs
theorem Safe.set {d : Dk} {sf : List (List UInt8)} (h : Safe d sf) (i : Nat) (f : Fl) (s0 : List UInt8) (hf : Pr s0 f) : Safe { d with fs := Dm.upd d.fs i f } (sf.set i s0) := by
  refine ⟨by rw [List.length_set]; exact h.1, fun j s hs => ?_⟩
  show Pr s (Dm.upd d.fs i f j)
  by_cases e : j = i
  · subst e
    have hlt : j < sf.length := by
      have := (List.getElem?_eq_some_iff.1 hs).1
      simpa using this
    rw [List.getElem?_set_self hlt] at hs
    cases hs
    rw [upd_same]; exact hf
  · rw [List.getElem?_set_ne (fun e' => e e'.symm)] at hs
    rw [upd_ne _ e]; exact h.2 j s hs
theorem kn_spec {f : Int} (h : kn f = true) : 0 ≤ f ∧ f < 8 := by simpa [kn] using h
theorem goes_append {d : Dk} {sf : List (List UInt8)} (h : Safe d sf) (ho : Ok d) (hst : Still d) (f : Int) (s : List UInt8) : Goes (appendD d f s).2 sf := by
  unfold appendD
  split
  · exact ⟨h, hst⟩
  rename_i hd
  have hd : d.down = false := by simpa using hd
  split
  · exact (goes_struck h ho hd 1).1
  split
  · exact (goes_struck h ho hd 7).1
  · rename_i hlen
    have ho' : Ok { d with fs := upd d.fs f.toNat ⟨(d.fs f.toNat).data ++ s, (d.fs f.toNat).dur⟩ } :=
      ⟨upd_ok ho.fs _ ⟨by show (d.fs f.toNat).dur ≤ _; rw [List.length_append]; have := (ho.fs f.toNat).dur; omega, by rw [List.length_append]; omega⟩, ho.lost, ho.armed⟩
    exact (goes_struck (h.upd f.toNat ⟨(d.fs f.toNat).data ++ s, (d.fs f.toNat).dur⟩ fun t ht => by
      have hp := h.2 _ t ht
      have := hp.le
      have := (ho.fs f.toNat).dur
      exact ⟨hp.le, by rw [List.take_append_of_le_length (by omega)]; exact hp.eq⟩) ho' hd 0).1
theorem goes_flush {d : Dk} {sf : List (List UInt8)} (h : Safe d sf) (ho : Ok d) (hst : Still d) (f : Int) : Goes (flushD d f).2 sf ∧ ((flushD d f).1 = 0 → 0 ≤ f ∧ f < 8 ∧ (flushD d f).2.down = false ∧ Safe (flushD d f).2 (sf.set f.toNat ((flushD d f).2.fs f.toNat).data)) := by
  obtain ⟨h1, h2⟩ := goes_begin h ho hst [f]
  unfold flushD
  simp only
  generalize beginD d [f] = b at *
  split
  · rename_i hb; exact ⟨h1, fun e => absurd e hb⟩
  rename_i hb
  obtain ⟨h3, h4, h5⟩ := h2 (by simpa using hb)
  obtain ⟨k1, k2⟩ := kn_spec (f := f) (by simpa using h3)
  have hs := h1.safe
  split
  · exact ⟨⟨hs.fs rfl, still_up h4⟩, fun e => by cases e⟩
  · have hp : ∀ t, sf[f.toNat]? = some t → Pr t ⟨(b.2.fs f.toNat).data, (b.2.fs f.toNat).data.length⟩ := fun t ht => by
      have := hs.2 _ t ht
      refine ⟨?_, this.eq⟩
      have e := congrArg List.length this.eq
      rw [List.length_take] at e
      show _ ≤ (b.2.fs f.toNat).data.length
      omega
    refine ⟨⟨hs.upd _ _ hp, still_up h4⟩, fun _ => ⟨k1, k2, h4, ?_⟩⟩
    show Safe { b.2 with fs := _ } (sf.set f.toNat (Dm.upd b.2.fs f.toNat _ f.toNat).data)
    rw [upd_same]
    exact hs.set f.toNat ⟨(b.2.fs f.toNat).data, (b.2.fs f.toNat).data.length⟩ _ ⟨Nat.le_refl _, List.take_length⟩
theorem goes_cut {d : Dk} {sf : List (List UInt8)} (h : Safe d sf) (ho : Ok d) (hst : Still d) (f n : Int) : ((cutD d f n).1 ≠ 0 → Goes (cutD d f n).2 sf) ∧
    ((cutD d f n).1 = 0 → 0 ≤ f ∧ f < 8 ∧ 0 ≤ n ∧ (cutD d f n).2.down = false ∧ ∀ t, sf[f.toNat]? = some t → Safe (cutD d f n).2 (sf.set f.toNat (t.take n.toNat))) := by
  obtain ⟨h1, h2⟩ := goes_begin h ho hst [f]
  unfold cutD
  simp only
  generalize beginD d [f] = b at *
  split
  · rename_i hb; exact ⟨fun _ => h1, fun e => absurd e hb⟩
  rename_i hb
  obtain ⟨h3, h4, h5⟩ := h2 (by simpa using hb)
  obtain ⟨k1, k2⟩ := kn_spec (f := f) (by simpa using h3)
  have hs := h1.safe
  split
  · exact ⟨fun _ => h1, fun e => by cases e⟩
  · rename_i hn
    refine ⟨fun e => absurd rfl e, fun _ => ⟨k1, k2, by omega, h4, fun t ht => hs.set _ _ _ ?_⟩⟩
    have hp := hs.2 _ t ht
    have := hp.le
    refine ⟨?_, ?_⟩
    · show (t.take n.toNat).length ≤ min _ _
      rw [List.length_take]; omega
    · show ((b.2.fs f.toNat).data.take n.toNat).take (t.take n.toNat).length = t.take n.toNat
      rw [List.length_take, List.take_take]
      conv => rhs; rw [← hp.eq]
      rw [List.take_take]
      congr 1; omega
theorem goes_turn {d : Dk} {sf : List (List UInt8)} (h : Safe d sf) (ho : Ok d) (hst : Still d) (f g : Int) : ((turnD d f g).1 ≠ 0 → Goes (turnD d f g).2 sf) ∧
    ((turnD d f g).1 = 0 → 0 ≤ f ∧ f < 8 ∧ 0 ≤ g ∧ g < 8 ∧ (turnD d f g).2.down = false ∧ ∀ t, sf[g.toNat]? = some t → Safe (turnD d f g).2 ((sf.set f.toNat t).set g.toNat [])) := by
  obtain ⟨h1, h2⟩ := goes_begin h ho hst [f, g]
  unfold turnD
  simp only
  generalize beginD d [f, g] = b at *
  split
  · rename_i hb; exact ⟨fun _ => h1, fun e => absurd e hb⟩
  rename_i hb
  obtain ⟨h3, h4, h5⟩ := h2 (by simpa using hb)
  have h3 : kn f = true ∧ kn g = true := by simpa using h3
  obtain ⟨k1, k2⟩ := kn_spec h3.1
  obtain ⟨k3, k4⟩ := kn_spec h3.2
  have hs := h1.safe
  split
  · exact ⟨fun _ => h1, fun e => by cases e⟩
  split
  · exact ⟨fun _ => h1, fun e => by cases e⟩
  · refine ⟨fun e => absurd rfl e, fun _ => ⟨k1, k2, k3, k4, h4, fun t ht => ?_⟩⟩
    have a1 := hs.set f.toNat (b.2.fs g.toNat) t (hs.2 _ t ht)
    exact a1.set g.toNat Fl.none [] ⟨Nat.le_refl _, rfl⟩
theorem goes_bring {d : Dk} {sf : List (List UInt8)} (h : Safe d sf) : Goes (bring d) sf := ⟨h.fs rfl, still_up rfl⟩
/-- one operation -/
theorem goes_do {d : Dk} {sf : List (List UInt8)} (h : Safe d sf) (ho : Ok d) (hst : Still d) (a : Act) :
    (pickD a.Do = 2 → (doD d a).1.2 = 0 → 0 ≤ a.F ∧ a.F < 8 ∧ (doD d a).2.down = false ∧ Safe (doD d a).2 (sf.set a.F.toNat ((doD d a).2.fs a.F.toNat).data)) ∧
    (pickD a.Do = 3 → (doD d a).1.2 = 0 → 0 ≤ a.F ∧ a.F < 8 ∧ 0 ≤ a.N ∧ (doD d a).2.down = false ∧ ∀ t, sf[a.F.toNat]? = some t → Safe (doD d a).2 (sf.set a.F.toNat (t.take a.N.toNat))) ∧
    (pickD a.Do = 4 → (doD d a).1.2 = 0 → 0 ≤ a.F ∧ a.F < 8 ∧ 0 ≤ a.G ∧ a.G < 8 ∧ (doD d a).2.down = false ∧ ∀ t, sf[a.G.toNat]? = some t → Safe (doD d a).2 ((sf.set a.F.toNat t).set a.G.toNat [])) ∧
    (¬ (pickD a.Do = 3 ∧ (doD d a).1.2 = 0) → ¬ (pickD a.Do = 4 ∧ (doD d a).1.2 = 0) → Safe (doD d a).2 sf) ∧ Still (doD d a).2 := by
  unfold doD
  have n2 : ∀ {n m : Int}, n = m → ∀ {k : Int}, k ≠ m → n = k → False := fun e _ hk e' => hk (e'.symm.trans e)
  split
  · rename_i hp
    have hg := goes_append h ho hst a.F a.S
    exact ⟨fun e => by rcases hp with hp | hp <;> omega, fun e => by rcases hp with hp | hp <;> omega, fun e => by rcases hp with hp | hp <;> omega, fun _ _ => hg.safe, hg.still⟩
  split
  · rename_i hp
    have hg := goes_flush h ho hst a.F
    exact ⟨fun _ e => hg.2 e, fun e => by omega, fun e => by omega, fun _ _ => hg.1.safe, hg.1.still⟩
  split
  · rename_i hp
    have hg := goes_cut h ho hst a.F a.N
    refine ⟨fun e => by omega, fun _ e => hg.2 e, fun e => by omega, fun e _ => (hg.1 fun e' => e ⟨hp, e'⟩).safe, ?_⟩
    by_cases e : (cutD d a.F a.N).1 = 0
    · exact still_up (hg.2 e).2.2.2.1
    · exact (hg.1 e).still
  split
  · rename_i hp
    have hg := goes_turn h ho hst a.F a.G
    refine ⟨fun e => by omega, fun e => by omega, fun _ e => hg.2 e, fun _ e => (hg.1 fun e' => e ⟨hp, e'⟩).safe, ?_⟩
    by_cases e : (turnD d a.F a.G).1 = 0
    · exact still_up (hg.2 e).2.2.2.2.1
    · exact (hg.1 e).still
  split
  · exact ⟨fun e => by omega, fun e => by omega, fun e => by omega, fun _ _ => h.crash _, still_crash hst ho _⟩
  split
  · exact ⟨fun e => by omega, fun e => by omega, fun e => by omega, fun _ _ => h.fs rfl, fun e => hst e⟩
  split
  · exact ⟨fun e => by omega, fun e => by omega, fun e => by omega, fun _ _ => h.fs rfl, still_up rfl⟩
  split
  · exact ⟨fun e => by omega, fun e => by omega, fun e => by omega, fun _ _ => h, hst⟩
  split
  · exact ⟨fun e => by omega, fun e => by omega, fun e => by omega, fun _ _ => h.fs rfl, fun e => hst e⟩
  · exact ⟨fun e => by omega, fun e => by omega, fun e => by omega, fun _ _ => h, hst⟩
/-- a machine that is brought up after a crash, its files taken note of, and crashed again -/
theorem safe_noted {d : Dk} (hst : Still d) (hd : d.down = true) {sf : List (List UInt8)} (hl : sf.length = 8) (h : ∀ i s, sf[i]? = some s → s = (d.fs i).data) : Safe (crash (bring d) []) sf := by
  refine ⟨hl, fun i s hs => ?_⟩
  have h1 := h i s hs
  have h2 := hst hd i
  unfold Dm.crash
  rw [if_neg (by simp [bring])]
  show Pr s ((d.fs i).crash _)
  refine Pr.crash ⟨by rw [h1, h2]; exact Nat.le_refl _, by rw [h1]; exact List.take_length⟩ _
end Go.Proofs.Ytknbnhmenohacaa.Dm
