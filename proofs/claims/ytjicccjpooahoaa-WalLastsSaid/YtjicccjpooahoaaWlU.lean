/- WalLasts in plain terms: what a log on a disk keeps, whatever happens. Nothing of the program. -/
import Derived.Test.YtjicccjpooahoaaWlT
set_option linter.unusedSectionVars false
set_option linter.unusedVariables false
set_option linter.unusedSimpArgs false
namespace Go.Proofs.Ytjicccjpooahoaa.Wl
open Go Co Dm
structure WS (d : Dk) (R safe : List By) : Prop where
 up : d.down = false
 ok : Dm.Ok d
 data : (d.fs 2).data = recs R
 okR : okL R
 pre : ∃ t, R = safe ++ t
 dur : (recs safe).length ≤ (d.fs 2).dur
structure Hp (d : Dk) (all safe : List By) : Prop where
 down : d.down = true
 ok : Dm.Ok d
 all : ∃ t, all = rowsOf (d.fs 2).data ++ t
 safe : ∃ t, rowsOf (d.fs 2).data = safe ++ t
section
variable {d : Dk} {R safe : List By}
theorem hp_take {n : Nat} (ho : okL R) (hp : ∃ t, R = safe ++ t) (hn : n ≤ (recs R).length) (hs : (recs safe).length ≤ n) : (∃ t, R = rowsOf ((recs R).take n) ++ t) ∧ ∃ t, rowsOf ((recs R).take n) = safe ++ t := by
 refine ⟨(torn_some ho n hn).1, ?_⟩
 obtain ⟨t, rfl⟩ := hp
 have e : (recs (safe ++ t)).take n = recs safe ++ (recs t).take (n - (recs safe).length) := by
  rw [recs_append, List.take_append, List.take_of_length_le hs]
 rw [e]
 exact ⟨_, (rows_append (fun s hs => ho s (List.mem_append.2 (.inl hs))) _).1⟩
theorem WS.crash (h : WS d R safe) (ks : List Int) : Hp (Dm.crash d ks) R safe := by
 have e : Dm.crash d ks = ⟨fun i => (d.fs i).crash (ks.getD i 0), true, d.lost, 0, []⟩ := by unfold Dm.crash; rw [h.up]; rfl
 have ho := crash_ok h.ok ks
 have hd := (h.ok.fs 2)
 have h1 := Fl.stay_le hd (ks.getD 2 0)
 have h2 : (d.fs 2).dur ≤ (d.fs 2).stay (ks.getD 2 0) := by unfold Fl.stay; omega
 have hf : ((Dm.crash d ks).fs 2).data = (recs R).take ((d.fs 2).stay (ks.getD 2 0)) := by rw [e, ← h.data]; rfl
 have := hp_take (n := (d.fs 2).stay (ks.getD 2 0)) h.okR h.pre (by rw [← h.data]; exact h1) (by have := h.dur; omega)
 exact ⟨by rw [e], ho, by rw [hf]; exact this.1, by rw [hf]; exact this.2⟩
theorem WS.same {d' : Dk} (h : WS d R safe) (hu : d'.down = false) (ho : Dm.Ok d') (hf : d'.fs 2 = d.fs 2) : WS d' R safe := ⟨hu, ho, by rw [hf]; exact h.data, h.okR, h.pre, by rw [hf]; exact h.dur⟩
theorem Hp.more {all : List By} (h : Hp d all safe) (t : List By) : Hp d (all ++ t) safe := ⟨h.down, h.ok, by obtain ⟨u, hu⟩ := h.all; exact ⟨u ++ t, by rw [hu, List.append_assoc]⟩, h.safe⟩
theorem strikes_fs (d : Dk) : (strikes d).2.fs = d.fs ∧ (strikes d).2.down = d.down ∧ (strikes d).2.lost = d.lost := by unfold strikes; split <;> exact ⟨rfl, rfl, rfl⟩
theorem WS.strikes (h : WS d R safe) : WS (strikes d).2 R safe := by
 obtain ⟨h1, h2, _⟩ := strikes_fs d
 exact h.same (h2.trans h.up) (strikes_ok h.ok) (by rw [h1])
theorem WS.struck (h : WS d R safe) (e : Int) : ((Dm.struck d e).1 = 8 ∧ Hp (Dm.struck d e).2 R safe) ∨ ((Dm.struck d e).1 = e ∧ WS (Dm.struck d e).2 R safe ∧ (Dm.struck d e).2.fs = d.fs) := by
 unfold Dm.struck
 split
 ·exact .inl ⟨rfl, h.strikes.crash _⟩
 ·exact .inr ⟨rfl, h.strikes, (strikes_fs d).1⟩
theorem WS.begins (h : WS d R safe) (l : List Int) (hl : l.all kn = true) : ((beginD d l).1 = 8 ∧ Hp (beginD d l).2 R safe) ∨ ((beginD d l).1 = 0 ∧ WS (beginD d l).2 R safe ∧ (beginD d l).2.fs = d.fs) := by
 have : beginD d l = Dm.struck d 0 := by unfold beginD; rw [if_neg (by rw [h.up]; decide), if_pos hl]
 rw [this]
 exact h.struck 0
theorem flushD_eq (d : Dk) (f : Int) : flushD d f = (if (beginD d [f]).1 ≠ 0 then beginD d [f] else if 0 < (beginD d [f]).2.lost then (18, { (beginD d [f]).2 with lost := (beginD d [f]).2.lost - 1 }) else
  (0, { (beginD d [f]).2 with fs := upd (beginD d [f]).2.fs f.toNat ⟨((beginD d [f]).2.fs f.toNat).data, ((beginD d [f]).2.fs f.toNat).data.length⟩ })) := rfl
theorem cutD_eq (d : Dk) (f n : Int) : cutD d f n = (if (beginD d [f]).1 ≠ 0 then beginD d [f] else if n < 0 ∨ (size (beginD d [f]).2 f : Int) < n then (1, (beginD d [f]).2) else
  (0, { (beginD d [f]).2 with fs := upd (beginD d [f]).2.fs f.toNat (((beginD d [f]).2.fs f.toNat).trunc n.toNat) })) := rfl
theorem turnD_eq (d : Dk) (f g : Int) : turnD d f g = (if (beginD d [f, g]).1 ≠ 0 then beginD d [f, g] else if f = g then (1, (beginD d [f, g]).2) else if ((beginD d [f, g]).2.fs g.toNat).dur < ((beginD d [f, g]).2.fs g.toNat).data.length then (9, (beginD d [f, g]).2) else
  (0, { (beginD d [f, g]).2 with fs := upd (upd (beginD d [f, g]).2.fs f.toNat ((beginD d [f, g]).2.fs g.toNat)) g.toNat Fl.none })) := rfl
theorem WS.flush2 (h : WS d R safe) : ((flushD d 2).1 = 8 ∧ Hp (flushD d 2).2 R safe) ∨ ((flushD d 2).1 = 0 ∧ WS (flushD d 2).2 R R) ∨ ((flushD d 2).1 = 18 ∧ WS (flushD d 2).2 R safe) := by
 have ho := flush_ok h.ok 2
 rw [flushD_eq] at ho ⊢
 have hb := h.begins [2] rfl
 generalize beginD d [2] = b at *
 obtain ⟨be, b⟩ := b
 simp only at hb ho ⊢
 rcases hb with ⟨rfl, h2⟩ | ⟨rfl, h2, h3⟩
 ·exact .inl ⟨rfl, h2⟩
 ·rw [if_neg (by decide)] at ho ⊢
  by_cases hl : 0 < b.lost
  ·rw [if_pos hl] at ho ⊢
   exact .inr (.inr ⟨rfl, h2.same h2.up ho rfl⟩)
  ·rw [if_neg hl] at ho ⊢
   refine .inr (.inl ⟨rfl, ⟨h2.up, ho, ?_, h2.okR, ⟨[], by simp⟩, ?_⟩⟩)
   ·show (upd _ _ _ _).data = _
    rw [show ((2 : Int).toNat) = 2 from rfl, upd_same]
    exact h2.data
   ·show _ ≤ (upd _ _ _ _).dur
    rw [show ((2 : Int).toNat) = 2 from rfl, upd_same]
    show _ ≤ (_ : List UInt8).length
    rw [h2.data]
    exact Nat.le_refl _
def Side (r : Int × Dk) (R safe : List By) : Prop := (r.1 = 8 ∧ Hp r.2 R safe) ∨ (r.1 ≠ 8 ∧ WS r.2 R safe)
theorem WS.clear (h : WS d R safe) : Side (clearD d 2) R safe ∧ ((clearD d 2).1 = 0 → ((clearD d 2).2.fs 3).data = []) := by
 unfold clearD
 split
 ·rename_i h0
  refine ⟨.inr ⟨by simp, h⟩, fun _ => ?_⟩
  have : size d (2 + 1) = (d.fs 3).data.length := rfl
  rw [this] at h0
  exact List.eq_nil_of_length_eq_zero h0
 ·have ho := cut_ok h.ok (2 + 1) 0
  rw [cutD_eq] at ho ⊢
  have hb := h.begins [2 + 1] rfl
  generalize beginD d [2 + 1] = b at *
  obtain ⟨be, b⟩ := b
  simp only at hb ho ⊢
  rcases hb with ⟨rfl, h2⟩ | ⟨rfl, h2, h3⟩
  ·exact ⟨.inl ⟨rfl, h2⟩, fun e => by simp at e⟩
  ·rw [if_neg (by decide)] at ho ⊢
   rw [if_neg (by omega)] at ho ⊢
   refine ⟨.inr ⟨by simp, h2.same h2.up ho ?_⟩, fun _ => ?_⟩
   ·dsimp only
    rw [show ((2 + 1 : Int).toNat) = 3 from rfl, upd_ne _ (by decide)]
   ·show (upd _ _ _ _).data = _
    rw [show ((2 + 1 : Int).toNat) = 3 from rfl, upd_same]
    simp [Fl.trunc]
theorem WS.append3 (h : WS d R safe) (s : By) : Side (appendD d (2 + 1) s) R safe ∧ ((appendD d (2 + 1) s).1 = 0 → ((appendD d (2 + 1) s).2.fs 3).data = (d.fs 3).data ++ s) := by
 have ho := append_ok h.ok (2 + 1) s
 unfold appendD
 rw [if_neg (by rw [h.up]; decide), if_neg (show ¬ ((!kn (2 + 1)) = true) by decide), show ((2 + 1 : Int).toNat) = 3 from rfl]
 split
 ·rcases h.struck 7 with ⟨h1, h2⟩ | ⟨h1, h2, _⟩
  ·exact ⟨.inl ⟨h1, h2⟩, fun e => by rw [h1] at e; simp at e⟩
  ·exact ⟨.inr ⟨by rw [h1]; decide, h2⟩, fun e => by rw [h1] at e; simp at e⟩
 ·rename_i hn
  have h' : WS { d with fs := upd d.fs 3 ⟨(d.fs 3).data ++ s, (d.fs 3).dur⟩ } R safe := by
   refine h.same h.up ⟨upd_ok h.ok.fs _ ⟨?_, ?_⟩, h.ok.lost, h.ok.armed⟩ (by dsimp only; rw [upd_ne _ (show (2 : Nat) ≠ 3 by decide)])
   ·have := (h.ok.fs 3).dur; simp only [List.length_append]; omega
   ·simp only [List.length_append]; omega
  rcases h'.struck 0 with ⟨h1, h2⟩ | ⟨h1, h2, h3⟩
  ·exact ⟨.inl ⟨h1, h2⟩, fun e => by rw [h1] at e; simp at e⟩
  ·refine ⟨.inr ⟨by rw [h1]; decide, h2⟩, fun _ => ?_⟩
   rw [h3]
   show (upd _ _ _ _).data = _
   rw [upd_same]
theorem WS.flush3 (h : WS d R safe) : Side (flushD d (2 + 1)) R safe ∧ ((flushD d (2 + 1)).1 = 0 → (flushD d (2 + 1)).2.fs 3 = ⟨(d.fs 3).data, (d.fs 3).data.length⟩) := by
 have ho := flush_ok h.ok (2 + 1)
 rw [flushD_eq] at ho ⊢
 have hb := h.begins [2 + 1] rfl
 generalize beginD d [2 + 1] = b at *
 obtain ⟨be, b⟩ := b
 simp only at hb ho ⊢
 rcases hb with ⟨rfl, h2⟩ | ⟨rfl, h2, h3⟩
 ·exact ⟨.inl ⟨rfl, h2⟩, fun e => by simp at e⟩
 ·rw [if_neg (by decide)] at ho ⊢
  by_cases hl : 0 < b.lost
  ·rw [if_pos hl] at ho ⊢
   exact ⟨.inr ⟨by simp, h2.same h2.up ho rfl⟩, fun e => by simp at e⟩
  ·rw [if_neg hl] at ho ⊢
   refine ⟨.inr ⟨by simp, h2.same h2.up ho ?_⟩, fun _ => ?_⟩
   ·dsimp only
    rw [show ((2 + 1 : Int).toNat) = 3 from rfl, upd_ne _ (by decide)]
   ·dsimp only
    rw [show ((2 + 1 : Int).toNat) = 3 from rfl, upd_same, h3]
theorem WS.turn (h : WS d R safe) {L : List By} (hL : okL L) (h3 : d.fs 3 = ⟨recs L, (recs L).length⟩) : ((turnD d 2 (2 + 1)).1 = 8 ∧ Hp (turnD d 2 (2 + 1)).2 R safe) ∨ ((turnD d 2 (2 + 1)).1 = 0 ∧ WS (turnD d 2 (2 + 1)).2 L L) := by
 have ho := turn_ok h.ok 2 (2 + 1)
 rw [turnD_eq] at ho ⊢
 have hb := h.begins [2, 2 + 1] rfl
 generalize beginD d [2, 2 + 1] = b at *
 obtain ⟨be, b⟩ := b
 simp only at hb ho ⊢
 rcases hb with ⟨rfl, h2⟩ | ⟨rfl, h2, h4⟩
 ·exact .inl ⟨rfl, h2⟩
 ·rw [if_neg (by decide), if_neg (by decide), show ((2 + 1 : Int).toNat) = 3 from rfl, show ((2 : Int).toNat) = 2 from rfl, h4, h3, if_neg (Nat.lt_irrefl _)] at ho ⊢
  refine .inr ⟨rfl, h2.up, ho, ?_, hL, ⟨[], by simp⟩, ?_⟩
  ·show (upd _ _ _ _).data = _
   rw [upd_ne _ (by decide), upd_same]
  ·show _ ≤ (upd _ _ _ _).dur
   rw [upd_ne _ (by decide), upd_same]
   exact Nat.le_refl _
theorem WS.rewrite (h : WS d R safe) (L : List By) : ((rewriteD d 2 L).1 = 8 ∧ Hp (rewriteD d 2 L).2 R safe) ∨ ((rewriteD d 2 L).1 = 0 ∧ WS (rewriteD d 2 L).2 L L) ∨ ((rewriteD d 2 L).1 ≠ 8 ∧ (rewriteD d 2 L).1 ≠ 0 ∧ WS (rewriteD d 2 L).2 R safe) := by
 have side : ∀ r : Int × Dk, Side r R safe → r.1 ≠ 0 → (r.1 = 8 ∧ Hp r.2 R safe) ∨ (r.1 = 0 ∧ WS r.2 L L) ∨ (r.1 ≠ 8 ∧ r.1 ≠ 0 ∧ WS r.2 R safe) := fun r hr h0 => by
  rcases hr with hr | ⟨h1, h2⟩
  ·exact .inl hr
  ·exact .inr (.inr ⟨h1, h0, h2⟩)
 have good : ∀ r : Int × Dk, Side r R safe → r.1 = 0 → WS r.2 R safe := fun r hr h0 => by
  rcases hr with ⟨h1, _⟩ | ⟨_, h2⟩
  ·rw [h0] at h1; cases h1
  ·exact h2
 unfold rewriteD
 split
 ·exact .inr (.inr ⟨by simp, by simp, h⟩)
 rename_i hlong
 have hL : okL L := fun s hs => by
  have : ¬ 1048576 < s.length := fun hl => hlong ⟨s, hs, hl⟩
  omega
 obtain ⟨a1, a2⟩ := h.clear
 split
 ·rename_i h0; exact side _ a1 h0
 rename_i h0
 have h0 : (clearD d 2).1 = 0 := by simpa using h0
 have w1 := good _ a1 h0
 have a2 := a2 h0
 obtain ⟨b1, b2⟩ := w1.append3 (recs L)
 split
 ·rename_i h0; exact side _ b1 h0
 rename_i h1
 have h1 : (appendD (clearD d 2).2 (2 + 1) (recs L)).1 = 0 := by simpa using h1
 have w2 := good _ b1 h1
 have b2 := b2 h1
 rw [a2, List.nil_append] at b2
 obtain ⟨c1, c2⟩ := w2.flush3
 split
 ·rename_i h0; exact side _ c1 h0
 rename_i h2
 have h2 : (flushD (appendD (clearD d 2).2 (2 + 1) (recs L)).2 (2 + 1)).1 = 0 := by simpa using h2
 have w3 := good _ c1 h2
 have c2 := c2 h2
 rw [b2] at c2
 rcases w3.turn hL c2 with t | t
 ·exact .inl t
 ·exact .inr (.inl t)
theorem WS.add (h : WS d R safe) (s : By) : ((addD d 2 s).1 = 8 ∧ Hp (addD d 2 s).2 (R ++ [s]) safe) ∨ ((addD d 2 s).1 = 0 ∧ WS (addD d 2 s).2 (R ++ [s]) safe) ∨ ((addD d 2 s).1 ≠ 8 ∧ (addD d 2 s).1 ≠ 0 ∧ WS (addD d 2 s).2 R safe) := by
 unfold addD
 split
 ·exact .inr (.inr ⟨by simp, by simp, h⟩)
 rename_i hs
 unfold appendD
 rw [if_neg (by rw [h.up]; decide), if_neg (show ¬ ((!kn 2) = true) by decide), show ((2 : Int).toNat) = 2 from rfl]
 split
 ·rcases h.struck 7 with ⟨h1, h2⟩ | ⟨h1, h2, _⟩
  ·exact .inl ⟨h1, h2.more _⟩
  ·exact .inr (.inr ⟨by rw [h1]; decide, by rw [h1]; decide, h2⟩)
 ·rename_i hn
  have h' : WS { d with fs := upd d.fs 2 ⟨(d.fs 2).data ++ rec1 s, (d.fs 2).dur⟩ } (R ++ [s]) safe := by
   refine ⟨h.up, ⟨upd_ok h.ok.fs _ ⟨?_, ?_⟩, h.ok.lost, h.ok.armed⟩, ?_, okL_append h.okR fun x hx => (by rw [List.mem_singleton.1 hx]; omega), ?_, ?_⟩
   ·have := (h.ok.fs 2).dur; simp only [List.length_append]; omega
   ·simp only [List.length_append]; omega
   ·show (upd _ _ _ _).data = _
    rw [upd_same, recs_snoc, h.data]
   ·obtain ⟨t, ht⟩ := h.pre
    exact ⟨t ++ [s], by rw [ht, List.append_assoc]⟩
   ·show _ ≤ (upd _ _ _ _).dur
    rw [upd_same]
    exact h.dur
  rcases h'.struck 0 with ⟨h1, h2⟩ | ⟨h1, h2, h3⟩
  ·exact .inl ⟨h1, h2⟩
  ·exact .inr (.inl ⟨h1, h2⟩)
theorem WS.lose (h : WS d R safe) (n : Int) (hn : n ≤ 9223372036854775807) : WS (Dm.lose d n) R safe := h.same h.up (lose_ok h.ok n hn) rfl
theorem WS.arm (h : WS d R safe) (n : Int) (hn : n ≤ 9223372036854775807) (ks : List Int) : WS (armD d n ks) R safe := h.same h.up (arm_ok h.ok n hn ks) rfl
end
end Go.Proofs.Ytjicccjpooahoaa.Wl
