/- Several texts in one, without what this claim does not use (tools/shake.py). -/
import Derived.Test.YtleljbiejeofgaaGreatDoorKa11
set_option linter.unusedSectionVars false
set_option linter.unusedVariables false
set_option linter.unusedSimpArgs false
section
namespace Go.Proofs.YtleljbiejeofgaaGreatDoor.It
open Go Co Sg Ac
def digest (it : Item) : By := if bytes it = [] then [] else Sm.sha (bytes it)
end Go.Proofs.YtleljbiejeofgaaGreatDoor.It
end
section
namespace Go.Proofs.YtleljbiejeofgaaGreatDoor.Wl
open Go Co Dm
structure Calm (d : Dk) : Prop where
 down : d.down = false
 armed : d.armed = 0
 lost : d.lost = 0
theorem dk0_calm : Calm dk0 := ⟨rfl, rfl, rfl⟩
section
variable {d : Dk} {n : Nat}
theorem kn_nat (hn : n < 8) : kn (n : Int) = true := by simp [kn]; omega
theorem calm_strikes (h : Calm d) : strikes d = (false, d) := by unfold strikes; rw [if_pos h.armed]
theorem calm_struck (h : Calm d) (e : Int) : struck d e = (e, d) := by unfold struck; rw [calm_strikes h]; rfl
theorem calm_begin (h : Calm d) {l : List Int} (hl : l.all kn = true) : beginD d l = (0, d) := by
 unfold beginD; rw [h.down, calm_struck h, hl]; rfl
theorem calm_set (h : Calm d) (fs : Nat → Fl) : Calm { d with fs := fs } := ⟨h.down, h.armed, h.lost⟩
theorem calm_append (h : Calm d) (hn : n < 8) {s : By} (hs : (d.fs n).data.length + s.length ≤ 16777216) : appendD d (n : Int) s = (0, { d with fs := upd d.fs n ⟨(d.fs n).data ++ s, (d.fs n).dur⟩ }) := by
 unfold appendD
 rw [if_neg (by rw [h.down]; decide), if_neg (by rw [kn_nat hn]; decide)]
 simp only [Int.toNat_natCast]
 rw [if_neg (by omega)]
 exact calm_struck (calm_set h _) _
theorem calm_flush (h : Calm d) (hn : n < 8) : flushD d (n : Int) = (0, { d with fs := upd d.fs n ⟨(d.fs n).data, (d.fs n).data.length⟩ }) := by
 unfold flushD
 rw [calm_begin h (by simp [kn_nat hn])]
 simp [h.lost]
theorem calm_cut (h : Calm d) (hn : n < 8) {k : Nat} (hk : k ≤ (d.fs n).data.length) : cutD d (n : Int) (k : Int) = (0, { d with fs := upd d.fs n ((d.fs n).trunc k) }) := by
 unfold cutD
 rw [calm_begin h (by simp [kn_nat hn])]
 have hsz : size d (n : Int) = (d.fs n).data.length := by unfold size; rw [if_pos (kn_nat hn)]; simp
 simp only [ne_eq, not_true_eq_false, if_false, hsz, Int.toNat_natCast]
 rw [if_neg (by omega)]
theorem calm_size (hn : n < 8) : size d (n : Int) = (d.fs n).data.length := by unfold size; rw [if_pos (kn_nat hn)]; simp
theorem calm_peek (h : Calm d) (hn : n < 8) : peek d (n : Int) = ((d.fs n).data, 0) := by
 unfold peek; rw [h.down, kn_nat hn]; simp
theorem calm_clear (h : Calm d) (hn : n + 1 < 8) : ∃ d', clearD d (n : Int) = (0, d') ∧ Calm d' ∧ (d'.fs (n + 1)).data = [] ∧ (Ok d → (d'.fs (n + 1)).dur = 0) ∧ (∀ i, i ≠ n + 1 → d'.fs i = d.fs i) := by
 have e : ((n : Int) + 1) = ((n + 1 : Nat) : Int) := by omega
 unfold clearD
 rw [e, calm_size hn]
 by_cases h0 : (d.fs (n + 1)).data.length = 0
 ·rw [if_pos h0]
  exact ⟨d, rfl, h, List.eq_nil_of_length_eq_zero h0, fun ho => by have := (ho.fs (n + 1)).dur; omega, fun _ _ => rfl⟩
 ·rw [if_neg h0]
  have := calm_cut h hn (k := 0) (Nat.zero_le _)
  refine ⟨_, this, calm_set h _, ?_, fun _ => ?_, fun i hi => upd_ne _ hi _⟩
  ·show (upd _ _ _ _).data = []
   rw [upd_same]; simp [Fl.trunc]
  ·show (upd _ _ _ _).dur = 0
   rw [upd_same]; simp [Fl.trunc]
theorem calm_open (h : Calm d) (hn : n + 1 < 8) : ∃ d', openD d (n : Int) = (0, d') ∧ Calm d' ∧ d'.fs n = ⟨recs (rowsOf (d.fs n).data), (recs (rowsOf (d.fs n).data)).length⟩ ∧ (d'.fs (n + 1)).data = [] ∧ (∀ i, i ≠ n → i ≠ n + 1 → d'.fs i = d.fs i) := by
 unfold openD
 have hsp := (rows_spec (d.fs n).data).1
 have ht : ∃ d1, trimD d (n : Int) = (0, d1) ∧ Calm d1 ∧ (d1.fs n).data = recs (rowsOf (d.fs n).data) ∧ (∀ i, i ≠ n → d1.fs i = d.fs i) := by
  unfold trimD
  rw [calm_peek h (by omega)]
  simp only
  have hl := congrArg List.length hsp
  rw [List.length_append] at hl
  split
  ·rename_i hlt
   refine ⟨_, calm_cut h (by omega) (by omega), calm_set h _, ?_, fun i hi => upd_ne _ hi _⟩
   show (upd _ _ _ _).data = _
   rw [upd_same]
   show (d.fs n).data.take _ = _
   have := List.take_left' (l₁ := recs (rowsOf (d.fs n).data)) (l₂ := tailOf (d.fs n).data) (i := (recs (rowsOf (d.fs n).data)).length) rfl
   rwa [← hsp] at this
  ·rename_i hlt
   refine ⟨d, rfl, h, ?_, fun _ _ => rfl⟩
   have : tailOf (d.fs n).data = [] := List.eq_nil_of_length_eq_zero (by omega)
   rw [this, List.append_nil] at hsp
   exact hsp
 obtain ⟨d1, e1, h1, h2, h3⟩ := ht
 obtain ⟨d2, e2, h4, h5, _, h6⟩ := calm_clear h1 hn
 rw [calm_peek h (by omega), e1]
 simp only [ne_eq, not_true_eq_false, if_false]
 rw [e2]
 simp only [not_true_eq_false, if_false]
 refine ⟨_, calm_flush h4 (by omega), calm_set h4 _, ?_, ?_, fun i hi hi' => ?_⟩
 ·show upd _ _ _ _ = _
  rw [upd_same, h6 n (by omega), h2]
 ·show (upd _ _ _ _).data = _
  rw [upd_ne _ (by omega), h5]
 ·show upd _ _ _ _ = _
  rw [upd_ne _ hi, h6 i hi', h3 i hi]
theorem calm_add (h : Calm d) (hn : n < 8) {s : By} (hs : s.length ≤ 1048576) (hb : (d.fs n).data.length + (rec1 s).length ≤ 16777216) : addD d (n : Int) s = (0, { d with fs := upd d.fs n ⟨(d.fs n).data ++ rec1 s, (d.fs n).dur⟩ }) := by
 unfold addD
 rw [if_neg (by omega), calm_append h hn hb]
theorem calm_add' (h : Calm d) (hn : n < 8) {s : By} (hs : s.length ≤ 1048576) (hb : (d.fs n).data.length + (rec1 s).length ≤ 16777216) : ∃ d', addD d (n : Int) s = (0, d') ∧ Calm d' ∧ d'.fs n = ⟨(d.fs n).data ++ rec1 s, (d.fs n).dur⟩ ∧ ∀ i, i ≠ n → d'.fs i = d.fs i :=
 ⟨_, calm_add h hn hs hb, calm_set h _, upd_same _ _ _, fun _ hi => upd_ne _ hi _⟩
theorem calm_flush' (h : Calm d) (hn : n < 8) : ∃ d', flushD d (n : Int) = (0, d') ∧ Calm d' ∧ d'.fs n = ⟨(d.fs n).data, (d.fs n).data.length⟩ ∧ ∀ i, i ≠ n → d'.fs i = d.fs i :=
 ⟨_, calm_flush h hn, calm_set h _, upd_same _ _ _, fun _ hi => upd_ne _ hi _⟩
theorem clearD_ok {f : Int} (h : Ok d) : Ok (clearD d f).2 := by
 unfold clearD; split
 ·exact h
 ·exact cut_ok h _ _
theorem trimD_ok {f : Int} (h : Ok d) : Ok (trimD d f).2 := by
 unfold trimD; split
 ·exact cut_ok h _ _
 ·exact h
theorem openD_ok {f : Int} (h : Ok d) : Ok (openD d f).2 := by
 have h1 := trimD_ok (f := f) h
 have h2 := clearD_ok (f := f) h1
 unfold openD; split
 ·exact h
 split
 ·exact h1
 split
 ·exact h2
 ·exact flush_ok h2 _
theorem addD_ok {f : Int} {s : By} (h : Ok d) : Ok (addD d f s).2 := by
 unfold addD; split
 ·exact h
 ·exact append_ok h _ _
end
end Go.Proofs.YtleljbiejeofgaaGreatDoor.Wl
end
section
namespace Go.Proofs.YtleljbiejeofgaaGreatDoor.Ql
open Go Co Sg Ac It Sl Wl
abbrev dg (e : It.Entry) : By := It.digest e.item
abbrev rowsB (E : List It.Entry) : List By := E.map entryB
def nextT (E : List It.Entry) (now : Int) : Int := match E.getLast? with
 | none => now
 | some e => max now e.time
end Go.Proofs.YtleljbiejeofgaaGreatDoor.Ql
end
section
namespace Go.Proofs.YtleljbiejeofgaaGreatDoor.Wl
open Go Co Dm
structure WS (d : Dk) (R safe : List By) : Prop where
 up : d.down = false
 ok : Dm.Ok d
 data : (d.fs 2).data = recs R
 okR : okL R
 pre : ∃ t, R = safe ++ t
 dur : (recs safe).length ≤ (d.fs 2).dur
structure Hp (d : Dk) (all safe : List By) : Prop where
 down : d.down = true
 ok : Dm.Ok d
 all : ∃ t, all = rowsOf (d.fs 2).data ++ t
 safe : ∃ t, rowsOf (d.fs 2).data = safe ++ t
section
variable {d : Dk} {R safe : List By}
theorem hp_take {n : Nat} (ho : okL R) (hp : ∃ t, R = safe ++ t) (hn : n ≤ (recs R).length) (hs : (recs safe).length ≤ n) : (∃ t, R = rowsOf ((recs R).take n) ++ t) ∧ ∃ t, rowsOf ((recs R).take n) = safe ++ t := by
 refine ⟨(torn_some ho n hn).1, ?_⟩
 obtain ⟨t, rfl⟩ := hp
 have e : (recs (safe ++ t)).take n = recs safe ++ (recs t).take (n - (recs safe).length) := by
  rw [recs_append, List.take_append, List.take_of_length_le hs]
 rw [e]
 exact ⟨_, (rows_append (fun s hs => ho s (List.mem_append.2 (.inl hs))) _).1⟩
theorem WS.crash (h : WS d R safe) (ks : List Int) : Hp (Dm.crash d ks) R safe := by
 have e : Dm.crash d ks = ⟨fun i => (d.fs i).crash (ks.getD i 0), true, d.lost, 0, []⟩ := by unfold Dm.crash; rw [h.up]; rfl
 have ho := crash_ok h.ok ks
 have hd := (h.ok.fs 2)
 have h1 := Fl.stay_le hd (ks.getD 2 0)
 have h2 : (d.fs 2).dur ≤ (d.fs 2).stay (ks.getD 2 0) := by unfold Fl.stay; omega
 have hf : ((Dm.crash d ks).fs 2).data = (recs R).take ((d.fs 2).stay (ks.getD 2 0)) := by rw [e, ← h.data]; rfl
 have := hp_take (n := (d.fs 2).stay (ks.getD 2 0)) h.okR h.pre (by rw [← h.data]; exact h1) (by have := h.dur; omega)
 exact ⟨by rw [e], ho, by rw [hf]; exact this.1, by rw [hf]; exact this.2⟩
theorem WS.same {d' : Dk} (h : WS d R safe) (hu : d'.down = false) (ho : Dm.Ok d') (hf : d'.fs 2 = d.fs 2) : WS d' R safe := ⟨hu, ho, by rw [hf]; exact h.data, h.okR, h.pre, by rw [hf]; exact h.dur⟩
theorem Hp.more {all : List By} (h : Hp d all safe) (t : List By) : Hp d (all ++ t) safe := ⟨h.down, h.ok, by obtain ⟨u, hu⟩ := h.all; exact ⟨u ++ t, by rw [hu, List.append_assoc]⟩, h.safe⟩
theorem strikes_fs (d : Dk) : (strikes d).2.fs = d.fs ∧ (strikes d).2.down = d.down ∧ (strikes d).2.lost = d.lost := by unfold strikes; split <;> exact ⟨rfl, rfl, rfl⟩
theorem WS.strikes (h : WS d R safe) : WS (strikes d).2 R safe := by
 obtain ⟨h1, h2, _⟩ := strikes_fs d
 exact h.same (h2.trans h.up) (strikes_ok h.ok) (by rw [h1])
theorem WS.struck (h : WS d R safe) (e : Int) : ((Dm.struck d e).1 = 8 ∧ Hp (Dm.struck d e).2 R safe) ∨ ((Dm.struck d e).1 = e ∧ WS (Dm.struck d e).2 R safe ∧ (Dm.struck d e).2.fs = d.fs) := by
 unfold Dm.struck
 split
 ·exact .inl ⟨rfl, h.strikes.crash _⟩
 ·exact .inr ⟨rfl, h.strikes, (strikes_fs d).1⟩
theorem flushD_eq (d : Dk) (f : Int) : flushD d f = (if (beginD d [f]).1 ≠ 0 then beginD d [f] else if 0 < (beginD d [f]).2.lost then (18, { (beginD d [f]).2 with lost := (beginD d [f]).2.lost - 1 }) else
  (0, { (beginD d [f]).2 with fs := upd (beginD d [f]).2.fs f.toNat ⟨((beginD d [f]).2.fs f.toNat).data, ((beginD d [f]).2.fs f.toNat).data.length⟩ })) := rfl
theorem cutD_eq (d : Dk) (f n : Int) : cutD d f n = (if (beginD d [f]).1 ≠ 0 then beginD d [f] else if n < 0 ∨ (size (beginD d [f]).2 f : Int) < n then (1, (beginD d [f]).2) else
  (0, { (beginD d [f]).2 with fs := upd (beginD d [f]).2.fs f.toNat (((beginD d [f]).2.fs f.toNat).trunc n.toNat) })) := rfl
theorem WS.add (h : WS d R safe) (s : By) : ((addD d 2 s).1 = 8 ∧ Hp (addD d 2 s).2 (R ++ [s]) safe) ∨ ((addD d 2 s).1 = 0 ∧ WS (addD d 2 s).2 (R ++ [s]) safe) ∨ ((addD d 2 s).1 ≠ 8 ∧ (addD d 2 s).1 ≠ 0 ∧ WS (addD d 2 s).2 R safe) := by
 unfold addD
 split
 ·exact .inr (.inr ⟨by simp, by simp, h⟩)
 rename_i hs
 unfold appendD
 rw [if_neg (by rw [h.up]; decide), if_neg (show ¬ ((!kn 2) = true) by decide), show ((2 : Int).toNat) = 2 from rfl]
 split
 ·rcases h.struck 7 with ⟨h1, h2⟩ | ⟨h1, h2, _⟩
  ·exact .inl ⟨h1, h2.more _⟩
  ·exact .inr (.inr ⟨by rw [h1]; decide, by rw [h1]; decide, h2⟩)
 ·rename_i hn
  have h' : WS { d with fs := upd d.fs 2 ⟨(d.fs 2).data ++ rec1 s, (d.fs 2).dur⟩ } (R ++ [s]) safe := by
   refine ⟨h.up, ⟨upd_ok h.ok.fs _ ⟨?_, ?_⟩, h.ok.lost, h.ok.armed⟩, ?_, okL_append h.okR fun x hx => (by rw [List.mem_singleton.1 hx]; omega), ?_, ?_⟩
   ·have := (h.ok.fs 2).dur; simp only [List.length_append]; omega
   ·simp only [List.length_append]; omega
   ·show (upd _ _ _ _).data = _
    rw [upd_same, recs_snoc, h.data]
   ·obtain ⟨t, ht⟩ := h.pre
    exact ⟨t ++ [s], by rw [ht, List.append_assoc]⟩
   ·show _ ≤ (upd _ _ _ _).dur
    rw [upd_same]
    exact h.dur
  rcases h'.struck 0 with ⟨h1, h2⟩ | ⟨h1, h2, h3⟩
  ·exact .inl ⟨h1, h2⟩
  ·exact .inr (.inl ⟨h1, h2⟩)
end
end Go.Proofs.YtleljbiejeofgaaGreatDoor.Wl
end
section
namespace Go.Proofs.YtleljbiejeofgaaGreatDoor.Ql
open Go Co Sg Ac It Sl Wl
structure Good (E : List It.Entry) : Prop where
 right : ∀ e ∈ E, isTime e.time = true ∧ It.right e.item = true
 nodup : (E.map dg).Nodup
 times : times E = true
theorem Good.nil : Good [] := ⟨fun e he => absurd he (by simp), List.nodup_nil, rfl⟩
theorem Good.take {E : List It.Entry} (h : Good E) (n : Nat) : Good (E.take n) :=
 ⟨fun e he => h.right e (List.mem_of_mem_take he), by rw [List.map_take]; exact h.nodup.sublist (List.take_sublist _ _), times_take h.times n⟩
theorem times_snoc {E : List It.Entry} {e : It.Entry} (h : times E = true) (hl : ∀ x, E.getLast? = some x → x.time ≤ e.time) : times (E ++ [e]) = true := by
 rw [times_iff]
 intro j hj
 rw [List.length_append, List.length_singleton] at hj
 by_cases hje : j + 1 < E.length
 ·rw [List.getElem_append_left (by omega), List.getElem_append_left hje]
  exact times_iff.1 h j hje
 ·have hj2 : j + 1 = E.length := by omega
  rw [List.getElem_append_left (by omega), List.getElem_append_right (by omega)]
  simp only [hj2, Nat.sub_self, List.getElem_cons_zero]
  refine hl _ ?_
  rw [List.getLast?_eq_getElem?]
  rw [show E.length - 1 = j by omega]
  exact List.getElem?_eq_getElem (by omega)
theorem nextT_ge (E : List It.Entry) (now : Int) : ∀ x, E.getLast? = some x → x.time ≤ nextT E now := fun x hx => by
 unfold nextT; rw [hx]; exact Int.le_max_right _ _
theorem nextT_time {E : List It.Entry} {now : Int} (hr : ∀ e ∈ E, isTime e.time = true ∧ It.right e.item = true) (h : 0 ≤ now ∧ now ≤ 1099511627776) : isTime (nextT E now) = true := by
 unfold nextT
 split
 ·exact wi_iff.2 h
 ·rename_i e he
  have := wi_iff.1 (hr e (List.mem_of_getLast? he)).1
  refine wi_iff.2 ?_
  omega
theorem Good.snoc {E : List It.Entry} (h : Good E) {it : It.Item} {now : Int} (hi : It.right it = true) (hn : 0 ≤ now ∧ now ≤ 1099511627776) (hd : It.digest it ∉ E.map dg) : Good (E ++ [⟨nextT E now, it⟩]) := by
 refine ⟨fun e he => ?_, ?_, times_snoc h.times (nextT_ge E now)⟩
 ·rcases List.mem_append.1 he with he | he
  ·exact h.right e he
  ·rw [List.mem_singleton.1 he]; exact ⟨nextT_time h.right hn, hi⟩
 ·rw [List.map_append, List.nodup_append]
  refine ⟨h.nodup, by simp, fun a ha b hb => ?_⟩
  simp only [List.map_cons, List.map_nil, List.mem_singleton] at hb
  rintro rfl
  rw [hb] at ha
  exact hd ha
structure QS (d : Dm.Dk) (E : List It.Entry) (fl : Nat) : Prop where
 ws : WS d (rowsB E) (rowsB (E.take fl))
 armed : d.armed = 0
 good : Good E
 le : fl ≤ E.length
section
variable {d : Dm.Dk} {E : List It.Entry} {fl : Nat}
theorem un_strikes (h : d.armed = 0) : Dm.strikes d = (false, d) := by unfold Dm.strikes; rw [if_pos h]
theorem un_struck (h : d.armed = 0) (e : Int) : Dm.struck d e = (e, d) := by unfold Dm.struck; rw [un_strikes h]; rfl
theorem add_armed (h : d.armed = 0) (hu : d.down = false) (s : By) : (addD d 2 s).2.armed = 0 ∧ (addD d 2 s).1 ≠ 8 := by
 unfold addD
 split
 ·exact ⟨h, by simp⟩
 unfold Dm.appendD
 rw [if_neg (by rw [hu]; decide), if_neg (show ¬ ((!Dm.kn 2) = true) by decide)]
 split
 ·rw [un_struck h]; exact ⟨h, by simp⟩
 ·rw [un_struck (by exact h)]; exact ⟨h, by simp⟩
theorem QS.add (h : QS d E fl) {it : It.Item} {now : Int} (hi : It.right it = true) (hn : 0 ≤ now ∧ now ≤ 1099511627776) (hd : It.digest it ∉ E.map dg) :
  ((addD d 2 (entryB ⟨nextT E now, it⟩)).1 = 0 ∧ QS (addD d 2 (entryB ⟨nextT E now, it⟩)).2 (E ++ [⟨nextT E now, it⟩]) fl) ∨ ((addD d 2 (entryB ⟨nextT E now, it⟩)).1 ≠ 0 ∧ QS (addD d 2 (entryB ⟨nextT E now, it⟩)).2 E fl) := by
 obtain ⟨h1, h2⟩ := add_armed h.armed h.ws.up (entryB ⟨nextT E now, it⟩)
 rcases h.ws.add (entryB ⟨nextT E now, it⟩) with h3 | ⟨h3, h4⟩ | ⟨_, h3, h4⟩
 ·exact absurd h3.1 h2
 ·refine .inl ⟨h3, ?_, h1, h.good.snoc hi hn hd, by rw [List.length_append]; have := h.le; omega⟩
  rw [List.take_append_of_le_length h.le]
  have e : rowsB (E ++ [⟨nextT E now, it⟩]) = rowsB E ++ [entryB ⟨nextT E now, it⟩] := List.map_append ..
  rw [e]
  exact h4
 ·exact .inr ⟨h3, h4, h1, h.good, h.le⟩
theorem flush_armed (h : d.armed = 0) (hu : d.down = false) : (Dm.flushD d 2).2.armed = 0 ∧ (Dm.flushD d 2).1 ≠ 8 := by
 have hb : Dm.beginD d [2] = (0, d) := by unfold Dm.beginD; rw [if_neg (by rw [hu]; decide), un_struck h]; rfl
 rw [flushD_eq, hb]
 simp only [ne_eq, not_true_eq_false, if_false]
 split
 ·exact ⟨h, by simp⟩
 ·exact ⟨h, by simp⟩
end
end Go.Proofs.YtleljbiejeofgaaGreatDoor.Ql
end
section
namespace Go.Proofs.YtleljbiejeofgaaGreatDoor.Ql
open Go Co Sg Ac It Sl Wl
def Grow (Fs : List (List It.Entry)) (cur : List It.Entry) : Prop := (Fs ++ [cur]).Pairwise (· <+: ·)
theorem Grow.nil (cur : List It.Entry) : Grow [] cur := List.pairwise_singleton _ _
theorem Grow.pre {Fs : List (List It.Entry)} {cur : List It.Entry} (h : Grow Fs cur) : ∀ F ∈ Fs, F <+: cur := fun F hF => (List.pairwise_append.1 h).2.2 F hF cur (by simp)
theorem Good.pre {E F : List It.Entry} (h : Good E) (hp : F <+: E) : Good F := by
 rw [List.prefix_iff_eq_take.1 hp]; exact h.take _
end Go.Proofs.YtleljbiejeofgaaGreatDoor.Ql
end
section
namespace Go.Proofs.YtleljbiejeofgaaGreatDoor.Ql
open Go Co Sg Ac It Sl Wl
structure Stp where
 Do : Int
 Item : Int
 Now : Int
 Keep : List Int
structure Scr where
 seed : By
 server : Int
 items : List It.Item
 steps : List Stp
def pickN (n m : Int) : Int := if n.tmod m < 0 then n.tmod m + m else n.tmod m
theorem pickN_in {n m : Int} (hm : 0 < m) : 0 ≤ pickN n m ∧ pickN n m < m := by
 have h1 : -m < n.tmod m ∧ n.tmod m < m := by
  rcases Int.le_total 0 n with h | h
  ·rw [Int.tmod_eq_emod_of_nonneg h]
   have := Int.emod_nonneg n (show m ≠ 0 by omega)
   have := Int.emod_lt_of_pos n hm
   omega
  ·have e : n = -(-n) := by omega
   rw [e, Int.neg_tmod, Int.tmod_eq_emod_of_nonneg (by omega)]
   have := Int.emod_nonneg (-n) (show m ≠ 0 by omega)
   have := Int.emod_lt_of_pos (-n) hm
   omega
 unfold pickN
 split <;> omega
structure St where
 d : Dm.Dk
 E : List It.Entry
 fl : Nat
 Fs : List (List It.Entry)
structure InvS (s : St) : Prop where
 q : QS s.d s.E s.fl
 g : Grow s.Fs (s.E.take s.fl)
section
variable {server : Int} {k : Key} {items : List It.Item} {s : St} {x : Stp}
end
end Go.Proofs.YtleljbiejeofgaaGreatDoor.Ql
end
section
namespace Go.Proofs.YtleljbiejeofgaaGreatDoor.Sl
open Go Co Sg Ac It
def pickN47 (n m : Int) : Int := if n.tmod m < 0 then n.tmod m + m else n.tmod m
theorem pick_in {n m : Int} (hm : 0 < m) : 0 ≤ pickN47 n m ∧ pickN47 n m < m := Ql.pickN_in hm
def iSeed : Nat → By
 | 0 => [105, 48]
 | 1 => [105, 49]
 | _ => [105, 50]
def iKey (n : Nat) : Key := keySeed (iSeed n)
def iPubs : List Int := [(iKey 0).pub, (iKey 1).pub, (iKey 2).pub]
theorem iKey_right (n : Nat) : (iKey n).right = true := keySeed_right _
def oneC0 (n : Int) : It.Claim := ⟨[48, 49, 50, 51, 52, 53, 54, 55, 56, 57, 97, 98, 99, 100, 101, 102], 1, [48, 49, 50, 51, 52, 53, 54, 55, 56, 57, 48, 49, 50, 51, 52, 53, 54, 55, 56, 57, 48, 49, 50, 51, 52, 53, 54, 55, 56, 57, 48, 49], 0, 0, 5, n, sig0⟩
def oneC (n : Int) : It.Claim := signClaim (iKey 2) (oneC0 n)
def oneI (n : Int) : It.Item := ofClaim (oneC n)
theorem oneC_right {n : Int} (h : 0 ≤ n ∧ n ≤ 1099511627776) : rightClaim (oneC n) = true := by
 have hs := sig_sigR (iKey 2) (message (ofClaim (oneC0 n)))
 have ht : isTime n = true := wi_iff.2 h
 have key : ∀ g : Sig, sigR g = true → rightClaim ⟨(oneC0 n).actor, 1, (oneC0 n).prev, 0, 0, 5, n, g⟩ = true := fun g hg => by
  unfold rightClaim
  simp only
  rw [ht, hg]
  rfl
 exact key _ hs
theorem oneI_right {n : Int} (h : 0 ≤ n ∧ n ≤ 1099511627776) : It.right (oneI n) = true :=
 (right_claim (it := oneI n) rfl).2 ⟨oneC_right h, rfl, rfl, rfl⟩
def entsT : Int → List Int → List It.Entry
 | _, [] => []
 | t, x :: l => ⟨t + pickN47 x 3, oneI (pickN47 x 1000)⟩ :: entsT (t + pickN47 x 3) l
def ents (l : List Int) : List It.Entry := entsT 0 l
theorem entsT_len : ∀ (l : List Int) (t : Int), (entsT t l).length = l.length
 | [], _ => rfl
 | x :: l, t => by rw [entsT, List.length_cons, entsT_len l, List.length_cons]
theorem ents_len (l : List Int) : (ents l).length = l.length := entsT_len l 0
theorem entsT_ok : ∀ (l : List Int) (t : Int), 0 ≤ t → t + 3 * l.length ≤ 1099511627776 → ∀ e ∈ entsT t l, t ≤ e.time ∧ isTime e.time = true ∧ ∃ n, e.item = oneI n ∧ 0 ≤ n ∧ n < 1000
 | [], _, _, _, e, he => by cases he
 | x :: l, t, h0, ht, e, he => by
  have hp := pick_in (n := x) (m := 3) (by decide)
  have hq := pick_in (n := x) (m := 1000) (by decide)
  rw [List.length_cons] at ht
  rcases List.mem_cons.1 he with rfl | he
  ·exact ⟨by show t ≤ t + _; omega, wi_iff.2 ⟨by show 0 ≤ t + _; omega, by show t + _ ≤ _; omega⟩, _, rfl, hq.1, hq.2⟩
  ·obtain ⟨h1, h2, h3⟩ := entsT_ok l (t + pickN47 x 3) (by omega) (by omega) e he
   exact ⟨by omega, h2, h3⟩
theorem entsT_times : ∀ (l : List Int) (t : Int), 0 ≤ t → t + 3 * l.length ≤ 1099511627776 → times (entsT t l) = true
 | [], _, _, _ => rfl
 | [x], _, _, _ => rfl
 | x :: y :: l, t, h0, ht => by
  have hp := pick_in (n := x) (m := 3) (by decide)
  have hq := pick_in (n := y) (m := 3) (by decide)
  have h1 := entsT_times (y :: l) (t + pickN47 x 3) (by omega) (by simp only [List.length_cons] at ht ⊢; omega)
  show (decide (t + pickN47 x 3 ≤ t + pickN47 x 3 + pickN47 y 3) && times (entsT (t + pickN47 x 3) (y :: l))) = true
  rw [h1, decide_eq_true (by omega)]
  rfl
theorem one_signed (ps : List Int) {n : Int} (h : 0 ≤ n ∧ n ≤ 1099511627776) : It.signed ps (oneI n) = true := by
 have := oneI_right h
 unfold It.signed
 rw [this]
 rfl
theorem ents_honest (ps : List Int) {l : List Int} (h : l.length ≤ 1000) : Honest ps (ents l) := by
 refine ⟨entsT_times l 0 (by decide) (by omega), List.all_eq_true.2 fun e he => ?_⟩
 obtain ⟨h1, h2, n, h3, h4, h5⟩ := entsT_ok l 0 (by decide) (by omega) e he
 exact sound_iff.2 ⟨h2, by rw [h3]; exact oneI_right (by omega), by rw [h3]; exact one_signed ps (by omega)⟩
theorem ents_good {s : Nat} (hs : s = 1 ∨ s = 2) {l : List Int} (h : l.length ≤ 80) : Good iPubs s (iKey s) (ents l) := by
 refine ⟨by omega, ?_, by decide, ?_, iKey_right s, ents_honest _ (by omega), by rw [ents_len]; exact h⟩
 ·show (s : Int) < (3 : Nat); omega
 ·rcases hs with rfl | rfl <;> rfl
theorem body_claim (c : It.Claim) : bodyB (ofClaim c) = claimB c ++ (numI c.sig.e ++ numI c.sig.s) := rfl
theorem oneC_sm {n : Int} (h : 0 ≤ n ∧ n < 1000) : (claimB (oneC n)).length ≤ 120 := by
 have n5 := numI_le n (by omega)
 have e1 : (text (oneC n).actor).length = 17 := rfl
 have e2 : (text (oneC n).prev).length = 33 := rfl
 have e3 : (numI (oneC n).base).length = 1 := rfl
 have e4 : (numI (oneC n).gen).length = 1 := rfl
 have e5 : (numI (oneC n).home).length = 1 := rfl
 have e6 : (numI (oneC n).pub).length = 1 := rfl
 have e7 : (numI (oneC n).time).length ≤ 9 := n5
 unfold claimB
 simp only [List.length_append]
 omega
theorem ents_small {l : List Int} (h : l.length ≤ 1000) : ∀ e ∈ ents l, (entryB e).length ≤ 200 := fun e he => by
 obtain ⟨h1, h2, n, h3, h4, h5⟩ := entsT_ok l 0 (by decide) (by omega) e he
 have hr := oneI_right (n := n) (by omega)
 have hc := oneC_sm (n := n) ⟨h4, h5⟩
 have hs := sig_sigR (iKey 2) (message (ofClaim (oneC0 n)))
 simp only [sigR, Bool.and_eq_true, wi_iff] at hs
 have hg : (oneC n).sig = sign (iKey 2) (message (ofClaim (oneC0 n))) := by rw [oneC, signClaim]
 have n1 := numI_le (oneC n).sig.e (by rw [hg]; omega)
 have n2 := numI_le (oneC n).sig.s (by rw [hg]; omega)
 have n3 := numI_le e.time (by have := wi_iff.1 h2; omega)
 have n4 : (numI (oneI n).kind).length = 1 := rfl
 unfold entryB
 rw [h3, h2, hr]
 rw [if_pos (by rfl), bytes_right hr]
 have hb : bodyB (oneI n) = claimB (oneC n) ++ (numI (oneC n).sig.e ++ numI (oneC n).sig.s) := body_claim (oneC n)
 rw [hb]
 simp only [List.length_append]
 omega
end Go.Proofs.YtleljbiejeofgaaGreatDoor.Sl
end
section
namespace Go.Proofs.YtleljbiejeofgaaGreatDoor.Pe
open Go Sm Mk
set_option maxRecDepth 100000
abbrev slf (l : List By) : AV := .sl .full (l.map .st)
theorem mkDigest_c (l : List UInt8) : AC Tryz.prog 162 [.st l] [] (.bo ((l.length : Int) == 32)) [] := by
 refine AC.enter [] [] Tryz.func162 rfl (by decide) (by decide) (Nat.le_of_ble_eq_true rfl) (by kernel_rfl) ?_; refine zev ?_
 refine run ?_
 exact ends_ret0 (by rfl) (by rfl) (by rfl)
theorem areDigests_c (l : List By) (hl : l.length ≤ 1000000) : AC Tryz.prog 163 [sls l] [] (.bo (l.all fun s => (s.length : Int) == 32)) [] := by
 refine AC.enter [162] [] Tryz.func163 rfl (by decide) (by decide) (Nat.le_of_ble_eq_true rfl) (by kernel_rfl) ?_; refine zev ?_
 refine run ?_
 refine loop_mk (fun m e S => S = [] ∧ e 5 = sls l ∧ e 6 = .it .i64 (l.length : Int) ∧ ∃ k, e 7 = .it .i64 ((k : Nat) : Int) ∧ k ≤ l.length ∧ (l.take k).all (fun s => (s.length : Int) == 32) = true ∧ m = l.length - k) l.length ⟨rfl, zsl, by simp [↓upd_apply], 0, zsl, by omega, rfl, rfl⟩ ?_
 rintro m e S ⟨rfl, h5, h6, k, h7, hk, hall, rfl⟩
 refine runf (an @h5 (an @h6 @h7)) ?_
 refine iteP_mk (fun hc => ?_) (fun hc => ?_)
 ·have hlt : k < l.length := by have := of_decide_eq_true hc; omega
  have hg : l[k]? = some l[k] := List.getElem?_eq_getElem hlt
  refine runf (an @h5 (an @h6 (an @h7 @hg))) ?_
  refine call_pure (mkDigest_c l[k]) (by rfl) (by rfl) (by rfl) ?_
  refine runf (an @h5 (an @h6 (an @h7 @hg))) ?_
  refine iteP_mk (fun hd => ?_) (fun hd => ?_)
  ·refine runf (an @h5 (an @h6 @h7)) ?_
   have : (l.all fun s => (s.length : Int) == 32) = false := by
    rw [List.all_eq_false]
    exact ⟨l[k], List.getElem_mem hlt, by simpa using hd⟩
   rw [this]
   exact ends_ret0 (by rfl) (by rfl) (by rfl)
  ·refine runf (an @h5 (an @h6 @h7)) ?_
   exact round_mk (l.length - (k + 1)) (by omega) ⟨rfl, zsl, zsl, k + 1, zsl, by omega, by rw [List.take_succ_eq_append_getElem hlt, List.all_append, hall]; simpa using hd, rfl⟩
 ·have hge : k = l.length := by have := of_decide_eq_false hc; omega
  refine runf (an @h5 (an @h6 @h7)) ?_
  subst hge
  rw [List.take_length] at hall
  rw [hall]
  exact ends_ret0 (by rfl) (by rfl) (by rfl)
theorem leaf_c (l : List UInt8) (h : l.length ≤ 1000000) : AC Tryz.prog 80 [.st l] [] (.st (leaf l)) [] := by
 refine AC.enter [82] [] Tryz.func80 rfl (by decide) (by decide) (Nat.le_of_ble_eq_true rfl) (by kernel_rfl) ?_; refine zev ?_
 refine run ?_
 refine call_pure (sha_c (0 :: l) (by simp; omega)) (by rfl) (by rfl) (by rfl) ?_
 refine run ?_
 exact ends_ret0 (by rfl) (by rfl) (by rfl)
theorem node_c (l r : List UInt8) (h : l.length ≤ 1000000) (h' : r.length ≤ 1000000) : AC Tryz.prog 85 [.st l, .st r] [] (.st (node l r)) [] := by
 refine AC.enter [82] [] Tryz.func85 rfl (by decide) (by decide) (Nat.le_of_ble_eq_true rfl) (by kernel_rfl) ?_; refine zev ?_
 refine run ?_
 refine call_pure (sha_c (1 :: (l ++ r)) (by simp; omega)) (by rfl) (by rfl) (by rfl) ?_
 refine run ?_
 exact ends_ret0 (by rfl) (by rfl) (by rfl)
theorem sp_pow {n : Nat} (h : 2 ≤ n) : 2 ^ (blen (n - 1) - 1) = sp n := by
 unfold blen sp
 rw [if_neg (by omega)]
 rfl
theorem split_c (n : Nat) (h : 2 ≤ n) (h' : n < 9223372036854775808) : AC Tryz.prog 135 [.it .i64 n] [] (.it .i64 (sp n)) [] := by
 refine AC.enter [126] [] Tryz.func135 rfl (by decide) (by decide) (Nat.le_of_ble_eq_true rfl) (by kernel_rfl) ?_; refine zev ?_
 have hu : IntKind.u64.wrap ((n : Int) - 1) = ((n - 1 : Nat) : Int) := by
  rw [show (n : Int) - 1 = ((n - 1 : Nat) : Int) from by omega, wrap64n]
  simp; omega
 refine runf @hu ?_
 refine call_pure (len64_c (n - 1) (by omega)) (by rfl) (by rfl) (by rfl) ?_
 have hb := blen_le (n - 1)
 have hs : aShl .i64 1 ((blen (n - 1) : Int) - 1) = some (.it .i64 (sp n : Int)) := by
  have h1 := sp_lt h
  have h2 := sp_pow h
  have h3 : 0 < blen (n - 1) := by unfold blen; rw [if_neg (by omega)]; omega
  have h4 : blen (n - 1) ≤ 63 := by
   unfold blen
   rw [if_neg (by omega)]
   have := (Nat.log2_lt (n := n - 1) (k := 63) (by omega)).2 (by omega)
   omega
  unfold aShl
  rw [if_pos (by omega)]
  congr 2
  rw [show ((blen (n - 1) : Int) - 1).toNat = blen (n - 1) - 1 from by omega, show min (blen (n - 1) - 1) IntKind.i64.bits = blen (n - 1) - 1 from Nat.min_eq_left (by show _ ≤ 64; omega)]
  rw [show (1 : Int) * 2 ^ (blen (n - 1) - 1) = ((2 ^ (blen (n - 1) - 1) : Nat) : Int) from by push_cast; omega, h2]
  exact wrap64 (by omega) (by omega)
 refine runf @hs ?_
 exact ends_ret0 (by rfl) (by rfl) (by rfl)
theorem halves_c (l : List By) (h : 2 ≤ l.length) (h' : l.length ≤ 1000000) : AC Tryz.prog 84 [sls l] [] (.tup [slf (l.take (sp l.length)), slf (l.drop (sp l.length))]) [] := by
 refine AC.enter [135] [] Tryz.func84 rfl (by decide) (by decide) (Nat.le_of_ble_eq_true rfl) (by kernel_rfl) ?_; refine zev ?_
 refine run ?_
 refine call_pure (split_c l.length h (by omega)) (by rfl) (by rfl) (by rfl) ?_
 have h1 := sp_lt h
 have h2 := sp_pos l.length
 refine run ?_
 refine ends_ret0 (by rfl) (by rfl) ?_
 simp only [resV, aRes, ↓upd_apply, ↓put_some, ↓reduceIte, Nat.reduceEqDiff, ↓argEnv_zero, ↓argEnv_succ, Option.map_some, List.take_length, List.drop_zero, AV.wk, AV.wk2, AV.wk1, List.map_cons, List.map_nil]
theorem sha_len (l : List UInt8) : (sha l).length = 32 := by
 simp [sha, S8.list, be4]
def box (f : FuncId) : SObj := .cells [.fn (.func f) [] [.ptr 0 0]]
theorem boxR {P : Program} {f g : FuncId} {l : List By} {s : By} (h : AC P f [sls l, .ptr 0 0] [box g] (.st s) [box g]) (R : Store) : AC P f [sls l, .ptr 0 0] ([box g] ++ R) (.st s) ([box g] ++ R) := AC.at1 (T := [box g] ++ R) h 0 rfl rfl rfl rfl rfl
theorem rt_len {l : List By} (h : ∀ x ∈ l, x.length ≤ 1000000) : (rt l).length ≤ 1000000 := by
 by_cases h2 : 2 ≤ l.length
 ·rw [rt_two h2, node, sha_len]; omega
 ·rw [rt_one (by omega)]
  cases l with
  | nil => simp
  | cons a l => exact h a (by simp)
theorem root1_c (k : Nat) : ∀ (l : List By), l.length ≤ k → 1 ≤ l.length → l.length ≤ 1000000 → (∀ x ∈ l, x.length ≤ 1000000) →
  AC Tryz.prog 83 [sls l, .ptr 0 0] [box 83] (.st (rt l)) [box 83] := by
 induction k with
 | zero => intro l h1 h2; omega
 | succ k ih =>
  intro l hk h1 hl hx
  refine AC.enter [84, 85] [1000017, 1000020] Tryz.func83 rfl (by decide) (by decide) (Nat.le_of_ble_eq_true rfl) (by kernel_rfl) ?_; refine zev ?_
  refine run ?_
  refine iteP_mk (fun hc => ?_) (fun hc => ?_)
  ·have hc : l.length = 1 := by simp at hc; omega
   obtain ⟨a, rfl⟩ := List.length_eq_one_iff.1 hc
   refine run ?_
   exact ends_ret (κ := [0]) (by rfl) (subOk_one 0 (by rfl) (by rfl)) (by rfl) (by rfl) (by rfl)
  ·have hc : l.length ≠ 1 := by simp at hc; omega
   have h2 : 2 ≤ l.length := by omega
   have h3 := sp_lt h2
   have h4 := sp_pos l.length
   refine run ?_
   refine call_pure (halves_c l h2 hl) (by rfl) (by rfl) (by rfl) ?_
   refine runf @box.eq_1 ?_
   refine call_mk ⟨boxR (ih (l.take (sp l.length)) (by simp; omega) (by simp; omega) (by simp; omega) (fun x hx' => hx x (List.mem_of_mem_take hx'))), rfl⟩ ?_
   refine runf @box.eq_1 ?_
   refine call_mk ⟨boxR (ih (l.drop (sp l.length)) (by simp; omega) (by simp; omega) (by simp; omega) (fun x hx' => hx x (List.mem_of_mem_drop hx'))), rfl⟩ ?_
   refine runf @box.eq_1 ?_
   refine call_pure (node_c (rt (l.take (sp l.length))) (rt (l.drop (sp l.length))) (rt_len (fun x hx' => hx x (List.mem_of_mem_take hx'))) (rt_len (fun x hx' => hx x (List.mem_of_mem_drop hx')))) (by rfl) (by rfl) (by rfl) ?_
   refine runf @box.eq_1 ?_
   rw [rt_two h2]
   exact ends_ret (κ := [0]) (by rfl) (subOk_one 0 (by rfl) (by rfl)) (by rfl) (by rfl) (by rfl)
theorem root_c (l : List By) (hl : l.length ≤ 1000000) (hx : ∀ x ∈ l, x.length ≤ 1000000) : AC Tryz.prog 39 [sls l] [] (.st (root l)) [] := by
 refine AC.enter [82] [] Tryz.func39 rfl (by decide) (by decide) (Nat.le_of_ble_eq_true rfl) (by kernel_rfl) ?_; refine zev ?_
 by_cases h0 : l.length = 0
 ·refine run ?_
  refine call_pure (sha_c [] (by simp)) (by rfl) (by rfl) (by rfl) ?_
  refine run ?_
  have : root l = sha [] := if_pos (List.eq_nil_of_length_eq_zero h0)
  rw [this]
  exact ends_ret0 (by rfl) (by rfl) (by rfl)
 ·refine run ?_
  refine call_mk (root1_c l.length l (Nat.le_refl _) (by omega) hl hx) ?_
  refine runf @box.eq_1 ?_
  have : root l = rt l := if_neg (fun e => h0 (by rw [e]; rfl))
  rw [this]
  exact ends_ret0 (by rfl) (by rfl) (by rfl)
theorem root_rt {l : List By} (h : 0 < l.length) : root l = rt l := if_neg (fun e => by rw [e] at h; simp at h)
theorem node_len (l r : By) : (node l r).length = 32 := sha_len _
theorem rev_last (r : List By) (q : By) : (r.reverse ++ [q])[r.length]? = some q := by
 rw [List.getElem?_append_right (by simp)]; simp
theorem rev_take (r : List By) (q : By) : (r.reverse ++ [q]).take r.length = r.reverse := by
 rw [List.take_append_of_le_length (by simp), List.take_of_length_le (by simp)]
theorem link_len : ∀ (k : Nat) (l : List By) (m : Nat) (w : Bool), 0 < m → m ≤ l.length → l.length ≤ k → (link l m w).length ≤ k := by
 intro k
 induction k with
 | zero => intro l m w h0 h1 h; omega
 | succ k ih =>
  intro l m w h0 h1 h
  by_cases h2 : m = l.length
  ·subst h2; rw [link_all]; split <;> simp
  ·have h3 := sp_lt (n := l.length) (by omega)
   have h4 := sp_pos l.length
   rw [link_two h0 (by omega)]
   split
   ·have := ih (l.take (sp l.length)) m w h0 (by simp; omega) (by simp; omega); simp; omega
   ·have := ih (l.drop (sp l.length)) (m - sp l.length) false (by omega) (by simp; omega) (by simp; omega); simp; omega
theorem link1_c (k : Nat) : ∀ (l : List By) (m : Nat) (w : Bool), l.length ≤ k → 0 < m → m ≤ l.length → l.length ≤ 1000000 → (∀ x ∈ l, x.length ≤ 1000000) →
  AC Tryz.prog 86 [sls l, .it .i64 m, .bo w, .ptr 0 0] [box 86] (.sl (.own 1) ((link l m w).map .st)) [box 86, .buf (link l m w).length 9 1] := by
 induction k with
 | zero => intro l m w h1 h2; omega
 | succ k ih =>
  intro l m w hk h0 hm hl hx
  refine AC.enter [84, 39] [] Tryz.func86 rfl (by decide) (by decide) (Nat.le_of_ble_eq_true rfl) (by kernel_rfl) ?_; refine zev ?_
  by_cases h1 : m = l.length
  ·subst h1
   refine run ?_
   rw [link_all]
   cases w
   ·refine run ?_
    refine call_pure (root_c l hl hx) (by rfl) (by rfl) (by rfl) ?_
    rw [root_rt (by omega)]
    refine run ?_
    refine ends_retW _ _ (Weak.reserve _ 7 (es := [.st (rt l)]) (by rfl) 9 1) [0, 1] (by rfl) (subOk_two 0 1 (by decide) (by rfl) (by rfl) (by rfl) (by rfl)) (by rfl) (by rfl) (by rfl)
   ·refine run ?_
    refine ends_retW _ _ (Weak.reserve _ 7 (es := []) (by rfl) 9 1) [0, 1] (by rfl) (subOk_two 0 1 (by decide) (by rfl) (by rfl) (by rfl) (by rfl)) (by rfl) (by rfl) (by rfl)
  ·have h2 : 2 ≤ l.length := by omega
   have h3 := sp_lt h2
   have h4 := sp_pos l.length
   refine run ?_
   refine call_pure (halves_c l h2 hl) (by rfl) (by rfl) (by rfl) ?_
   have ht : (List.take (sp l.length) l).length = sp l.length := by simp; omega
   have hxt : ∀ x ∈ l.take (sp l.length), x.length ≤ 1000000 := fun x hx' => hx x (List.mem_of_mem_take hx')
   have hxd : ∀ x ∈ l.drop (sp l.length), x.length ≤ 1000000 := fun x hx' => hx x (List.mem_of_mem_drop hx')
   by_cases hs : m ≤ sp l.length
   ·have hp := link_len (l.take (sp l.length)).length (l.take (sp l.length)) m w h0 (by simp; omega) (Nat.le_refl _)
    have hr : root (l.drop (sp l.length)) = rt (l.drop (sp l.length)) := root_rt (by simp; omega)
    refine runf (an @box.eq_1 @ht) ?_
    refine call_mk (ih (l.take (sp l.length)) m w (by simp; omega) h0 (by simp; omega) (by simp; omega) hxt) ?_
    refine runf (an @box.eq_1 @ht) ?_
    refine call_pure (root_c (l.drop (sp l.length)) (by simp; omega) hxd) (by rfl) (by rfl) (by rfl) ?_
    rw [hr]
    refine runf (an @box.eq_1 @ht) ?_
    rw [link_two h0 (by omega), if_pos hs]
    exact ends_ret (κ := [0, 1]) (by rfl) (subOk_two 0 1 (by decide) (by rfl) (by rfl) (by rfl) (by simp [SObj.ren])) (by rfl) (by rfl) (by simp [resV, AV.ren, AV.r2, AV.r1, AV.r0, Mode.ren, idx, ↓upd_apply])
   ·have hd : (l.drop (sp l.length)).length = l.length - sp l.length := List.length_drop
    have hp := link_len (l.drop (sp l.length)).length (l.drop (sp l.length)) (m - sp l.length) false (by omega) (by omega) (Nat.le_refl _)
    have hr : root (l.take (sp l.length)) = rt (l.take (sp l.length)) := root_rt (by simp; omega)
    have hsub : ((m : Int) - (sp l.length : Int)) = ((m - sp l.length : Nat) : Int) := by omega
    refine runf (an @box.eq_1 (an @ht @hsub)) ?_
    refine call_mk (ih (l.drop (sp l.length)) (m - sp l.length) false (by simp; omega) (by omega) (by simp; omega) (by simp; omega) hxd) ?_
    refine runf (an @box.eq_1 @ht) ?_
    refine call_pure (root_c (l.take (sp l.length)) (by simp; omega) hxt) (by rfl) (by rfl) (by rfl) ?_
    rw [hr]
    refine runf (an @box.eq_1 @ht) ?_
    rw [link_two h0 (by omega), if_neg hs]
    exact ends_ret (κ := [0, 1]) (by rfl) (subOk_two 0 1 (by decide) (by rfl) (by rfl) (by rfl) (by simp [SObj.ren])) (by rfl) (by rfl) (by simp [resV, AV.ren, AV.r2, AV.r1, AV.r0, Mode.ren, idx, ↓upd_apply])
theorem link_c (l : List By) (m : Nat) (hm : m ≤ l.length) (hl : l.length ≤ 1000000) (hx : ∀ x ∈ l, x.length ≤ 1000000) :
  AC Tryz.prog 40 [sls l, .it .i64 m] [] (.tup [sls (if m = 0 then [] else link l m true), .bo true]) [] := by
 refine AC.enter [] [] Tryz.func40 rfl (by decide) (by decide) (Nat.le_of_ble_eq_true rfl) (by kernel_rfl) ?_; refine zev ?_
 by_cases h0 : m = 0
 ·refine run ?_
  rw [if_pos h0]
  exact ends_ret0w (by rfl) (by rfl) (by rfl)
 rw [if_neg h0]
 by_cases h1 : m = l.length
 ·subst h1
  refine run ?_
  rw [link_all]
  exact ends_ret0w (by rfl) (by rfl) (by rfl)
 ·refine run ?_
  refine call_mk (link1_c l.length l m true (Nat.le_refl _) (by omega) hm hl hx) ?_
  refine runf @box.eq_1 ?_
  exact ends_ret0w (by rfl) (by rfl) (by rfl)
theorem roots_len : ∀ (p : List By) (m n : Nat) (x : By) (w : Bool), x.length ≤ 1000000 → (∀ y ∈ p, y.length ≤ 1000000) → (roots p m n x w).1.length ≤ 1000000 ∧ (roots p m n x w).2.1.length ≤ 1000000
 | [], m, n, x, w, h, ha => by simp only [roots]; split <;> simp [h]
 | q :: r, m, n, x, w, h, ha => by
  have hq := ha q (by simp)
  simp only [roots]; split
  ·split
   ·exact ⟨h, h⟩
   ·split <;> simp [hq]
  ·split
   ·have := roots_len r m (sp n) x w h (fun y hy => ha y (by simp [hy]))
    exact ⟨this.1, by rw [node_len]; omega⟩
   ·exact ⟨by rw [node_len]; omega, by rw [node_len]; omega⟩
theorem roots_c (p : List By) : ∀ (m n : Nat) (x : By) (w : Bool), 0 < m → m ≤ n → n ≤ 9223372036854775807 → p.length ≤ 1000000 → x.length ≤ 1000000 → (∀ y ∈ p, y.length ≤ 1000000) →
  AC Tryz.prog 164 [.it .i64 m, .it .i64 n, .st x, sls p.reverse, .bo w] [] (.tup [.st (roots p m n x w).1, .st (roots p m n x w).2.1, .bo (roots p m n x w).2.2]) [] := by
 induction p with
 | nil =>
  intro m n x w h0 hm hn hp hx hall
  refine AC.enter [164, 135, 85] [] Tryz.func164 rfl (by decide) (by decide) (Nat.le_of_ble_eq_true rfl) (by kernel_rfl) ?_; refine zev ?_
  have : List.reverse ([] : List By) = [] := rfl
  simp only [roots, this]
  by_cases h1 : m = n
  ·subst h1
   cases w
   ·refine run ?_
    exact ends_ret0 (by rfl) (by rfl) (by rfl)
   ·refine run ?_
    exact ends_ret0 (by rfl) (by rfl) (by rfl)
  ·rw [if_neg (fun h => h1 h.1)]
   refine run ?_
   exact ends_ret0 (by rfl) (by rfl) (by rfl)
 | cons q r ih =>
  intro m n x w h0 hm hn hp hx hall
  refine AC.enter [164, 135, 85] [] Tryz.func164 rfl (by decide) (by decide) (Nat.le_of_ble_eq_true rfl) (by kernel_rfl) ?_; refine zev ?_
  have hrev : List.reverse (q :: r) = r.reverse ++ [q] := by simp
  have hlr : r.reverse.length = r.length := List.length_reverse
  rw [hrev]
  have hp' : r.length + 1 ≤ 1000000 := hp
  by_cases h1 : m = n
  ·subst h1
   cases w
   ·simp only [roots, if_true, Bool.false_eq_true, if_false]
    by_cases hr : r = []
    ·subst hr
     rw [if_pos rfl]
     simp only [List.reverse_nil, List.nil_append]
     refine run ?_
     exact ends_ret0 (by rfl) (by rfl) (by rfl)
    ·rw [if_neg hr]
     have : 0 < r.length := List.length_pos_iff.2 hr
     refine runf @hlr ?_
     exact ends_ret0 (by rfl) (by rfl) (by rfl)
   ·simp only [roots, if_true]
    refine runf @hlr ?_
    exact ends_ret0 (by rfl) (by rfl) (by rfl)
  ·have hl := rev_last r q
   have el : ((r.length + 1 : Nat) : Int) - 1 = (r.length : Int) := by omega
   have ht := rev_take r q
   refine runf (an @hlr (an @el (an @hl @ht))) ?_
   refine call_pure (split_c n (by omega) (by omega)) (by rfl) (by rfl) (by rfl) ?_
   have h3 := sp_lt (n := n) (by omega)
   have h4 := sp_pos n
   have hall' : ∀ y ∈ r, y.length ≤ 1000000 := fun y hy => hall y (by simp [hy])
   by_cases hs : m ≤ sp n
   ·refine runf (an @hlr (an @el (an @hl @ht))) ?_
    refine call_pure (ih m (sp n) x w h0 hs (by omega) (by omega) hx hall') (by rfl) (by rfl) (by rfl) ?_
    refine runf (an @hlr (an @el (an @hl @ht))) ?_
    refine call_pure (node_c _ q (roots_len r m (sp n) x w hx hall').2 (hall q (by simp))) (by rfl) (by rfl) (by rfl) ?_
    refine runf (an @hlr (an @el (an @hl @ht))) ?_
    simp only [roots, if_neg h1, if_pos hs]
    exact ends_ret0 (by rfl) (by rfl) (by rfl)
   ·have e1 : (m : Int) - (sp n : Int) = ((m - sp n : Nat) : Int) := by omega
    have e2 : (n : Int) - (sp n : Int) = ((n - sp n : Nat) : Int) := by omega
    refine runf (an @hlr (an @el (an @hl (an @ht (an @e1 @e2))))) ?_
    refine call_pure (ih (m - sp n) (n - sp n) x false (by omega) (by omega) (by omega) (by omega) hx hall') (by rfl) (by rfl) (by rfl) ?_
    refine runf (an @hlr (an @el (an @hl @ht))) ?_
    refine call_pure (node_c q _ (hall q (by simp)) (roots_len r (m - sp n) (n - sp n) x false hx hall').1) (by rfl) (by rfl) (by rfl) ?_
    refine runf (an @hlr (an @el (an @hl @ht))) ?_
    refine call_pure (node_c q _ (hall q (by simp)) (roots_len r (m - sp n) (n - sp n) x false hx hall').2) (by rfl) (by rfl) (by rfl) ?_
    refine runf (an @hlr (an @el (an @hl @ht))) ?_
    simp only [roots, if_neg h1, if_neg hs]
    exact ends_ret0 (by rfl) (by rfl) (by rfl)
abbrev digs (p : List By) : Bool := p.all fun s => (s.length : Int) == 32
def extB (m n : Int) (old now : By) (p : List By) : Bool :=
 if m < 0 ∨ n < m ∨ old.length ≠ 32 ∨ now.length ≠ 32 ∨ digs p = false then false else
 if m = 0 ∧ old = sha [] ∧ p.length = 0 then true else
 if m = n ∧ now = old ∧ p.length = 0 then true else
 if m = 0 ∨ m = n then false else
 (roots p.reverse m.toNat n.toNat old true).2.2 && (roots p.reverse m.toNat n.toNat old true).1 == old && (roots p.reverse m.toNat n.toNat old true).2.1 == now
theorem extends_c (p : List By) (m n : Int) (old now : By) (hn : n ≤ 9223372036854775807) (hp : p.length ≤ 1000000) (hall : ∀ y ∈ p, y.length ≤ 1000000) :
  AC Tryz.prog 122 [.it .i64 m, .it .i64 n, .st old, .st now, sls p] [] (.bo (extB m n old now p)) [] := by
 refine AC.enter [162, 163, 164, 39] [] Tryz.func122 rfl (by decide) (by decide) (Nat.le_of_ble_eq_true rfl) (by kernel_rfl) ?_; refine zev ?_
 by_cases a0 : m < 0
 ·rw [show extB m n old now p = false from if_pos (Or.inl a0)]
  refine run ?_
  exact ends_ret0 (by rfl) (by rfl) (by rfl)
 by_cases a1 : n < m
 ·rw [show extB m n old now p = false from if_pos (Or.inr (Or.inl a1))]
  refine run ?_
  exact ends_ret0 (by rfl) (by rfl) (by rfl)
 refine run ?_
 refine call_pure (mkDigest_c old) (by rfl) (by rfl) (by rfl) ?_
 by_cases a2 : old.length = 32
 rotate_left
 ·rw [show extB m n old now p = false from if_pos (Or.inr (Or.inr (Or.inl a2)))]
  refine run ?_
  exact ends_ret0 (by rfl) (by rfl) (by rfl)
 refine run ?_
 refine call_pure (mkDigest_c now) (by rfl) (by rfl) (by rfl) ?_
 by_cases a3 : now.length = 32
 rotate_left
 ·rw [show extB m n old now p = false from if_pos (Or.inr (Or.inr (Or.inr (Or.inl a3))))]
  refine run ?_
  exact ends_ret0 (by rfl) (by rfl) (by rfl)
 refine run ?_
 refine call_pure (areDigests_c p (by omega)) (by rfl) (by rfl) (by rfl) ?_
 cases a4 : digs p
 ·have a4' : (p.all fun s => (s.length : Int) == 32) = false := a4
  rw [show extB m n old now p = false from if_pos (Or.inr (Or.inr (Or.inr (Or.inr a4))))]
  refine runf @a4' ?_
  exact ends_ret0 (by rfl) (by rfl) (by rfl)
 have a4' : (p.all fun s => (s.length : Int) == 32) = true := a4
 have hX : extB m n old now p = if m = 0 ∧ old = sha [] ∧ p.length = 0 then true else
   if m = n ∧ now = old ∧ p.length = 0 then true else
   if m = 0 ∨ m = n then false else
   (roots p.reverse m.toNat n.toNat old true).2.2 && (roots p.reverse m.toNat n.toNat old true).1 == old && (roots p.reverse m.toNat n.toNat old true).2.1 == now := by
  unfold extB
  rw [if_neg (by rw [a4]; simp; omega)]
 rw [hX]
 clear hX
 by_cases b0 : m = 0
 ·refine runf @a4' ?_
  refine call_pure (root_c [] (by simp) (by simp)) (by rfl) (by rfl) (by rfl) ?_
  have hr : root [] = sha [] := rfl
  rw [hr]
  by_cases b1 : old = sha []
  ·have b1' : (old == sha []) = true := by simp [b1]
   by_cases b2 : p.length = 0
   ·rw [if_pos ⟨b0, b1, b2⟩]
    refine runf (an @a4' @b1') ?_
    exact ends_ret0 (by rfl) (by rfl) (by rfl)
   ·rw [if_neg (fun h => b2 h.2.2), if_neg (fun h => b2 h.2.2), if_pos (Or.inl b0)]
    by_cases b3 : m = n
    ·cases b4 : (now == old)
     ·refine runf (an @a4' (an @b1' @b4)) ?_
      exact ends_ret0 (by rfl) (by rfl) (by rfl)
     ·refine runf (an @a4' (an @b1' @b4)) ?_
      exact ends_ret0 (by rfl) (by rfl) (by rfl)
    ·refine runf (an @a4' @b1') ?_
     exact ends_ret0 (by rfl) (by rfl) (by rfl)
  ·have b1' : (old == sha []) = false := by simp [b1]
   rw [if_neg (fun h => b1 h.2.1)]
   by_cases b3 : m = n
   ·by_cases b4 : now = old
    ·have b4' : (now == old) = true := by simp [b4]
     by_cases b2 : p.length = 0
     ·rw [if_pos ⟨b3, b4, b2⟩]
      refine runf (an @a4' (an @b1' @b4')) ?_
      exact ends_ret0 (by rfl) (by rfl) (by rfl)
     ·rw [if_neg (fun h => b2 h.2.2), if_pos (Or.inl b0)]
      refine runf (an @a4' (an @b1' @b4')) ?_
      exact ends_ret0 (by rfl) (by rfl) (by rfl)
    ·have b4' : (now == old) = false := by simp [b4]
     rw [if_neg (fun h => b4 h.2.1), if_pos (Or.inl b0)]
     refine runf (an @a4' (an @b1' @b4')) ?_
     exact ends_ret0 (by rfl) (by rfl) (by rfl)
   ·rw [if_neg (fun h => b3 h.1), if_pos (Or.inl b0)]
    refine runf (an @a4' @b1') ?_
    exact ends_ret0 (by rfl) (by rfl) (by rfl)
 rw [if_neg (fun h => b0 h.1)]
 by_cases b3 : m = n
 ·by_cases b4 : now = old
  ·have b4' : (now == old) = true := by simp [b4]
   by_cases b2 : p.length = 0
   ·rw [if_pos ⟨b3, b4, b2⟩]
    refine runf (an @a4' @b4') ?_
    exact ends_ret0 (by rfl) (by rfl) (by rfl)
   ·rw [if_neg (fun h => b2 h.2.2), if_pos (Or.inr b3)]
    refine runf (an @a4' @b4') ?_
    exact ends_ret0 (by rfl) (by rfl) (by rfl)
  ·have b4' : (now == old) = false := by simp [b4]
   rw [if_neg (fun h => b4 h.2.1), if_pos (Or.inr b3)]
   refine runf (an @a4' @b4') ?_
   exact ends_ret0 (by rfl) (by rfl) (by rfl)
 ·rw [if_neg (fun h => b3 h.1), if_neg (by simp [b0, b3])]
  refine runf @a4' ?_
  have f1 := roots_c p.reverse m.toNat n.toNat old true (by omega) (by omega) (by omega) (by simp; omega) (by omega) (fun y hy => hall y (by simpa using hy))
  rw [List.reverse_reverse, show ((m.toNat : Nat) : Int) = m from by omega, show ((n.toNat : Nat) : Int) = n from by omega] at f1
  refine call_pure f1 (by rfl) (by rfl) (by rfl) ?_
  generalize roots p.reverse m.toNat n.toNat old true = R
  obtain ⟨a, b, ok⟩ := R
  cases ok
  ·refine runf @a4' ?_
   exact ends_ret0 (by rfl) (by rfl) (by rfl)
  ·cases c1 : (a == old)
   ·refine runf (an @a4' @c1) ?_
    exact ends_ret0 (by rfl) (by rfl) (by rfl)
   ·refine runf (an @a4' @c1) ?_
    exact ends_ret0 (by rfl) (by rfl) (by rfl)
end Go.Proofs.YtleljbiejeofgaaGreatDoor.Pe
end
section
namespace Go.Proofs.YtleljbiejeofgaaGreatDoor.Sl
open Go Co Sg Ac It
structure Evidence where
 old : Head
 new : Head
 root : By
 link : List By
 deriving DecidableEq
def evid0 : Evidence := ⟨head0, head0, [], []⟩
def linkE (l : List By) (m : Nat) : List By := if m = 0 then [] else Mk.link l m true
def mkEv (l : List It.Entry) (now old : Head) : Evidence × Bool :=
 if now.server ≠ old.server ∨ old.size < 0 ∨ now.size < old.size ∨ l.length < now.size then (evid0, false)
 else if rootE (l.take now.size.toNat) ≠ now.root ∨ rootE (l.take old.size.toNat) = old.root then (evid0, false)
 else (⟨old, now, rootE (l.take old.size.toNat), linkE ((l.take now.size.toNat).map leafE) old.size.toNat⟩, true)
def formedE (e : Evidence) : Bool := rightH e.old && rightH e.new && decide (e.root.length = 32) && decide (e.link.length ≤ 64) && e.link.all dig
def checkE (ps : List Int) (e : Evidence) : Bool :=
 formedE e && decide (e.old.server = e.new.server) && decide (e.old.server < ps.length) && verifyH (ps.getD e.old.server.toNat 0) e.old && verifyH (ps.getD e.old.server.toNat 0) e.new && !decide (e.root = e.old.root) && Pe.extB e.old.size e.new.size e.root e.new.root e.link
def findE (ps : List Int) (l : List It.Entry) (hs : List Head) (h : Head) : Evidence × Bool :=
 match hs.getLast? with
 | none => (evid0, false)
 | some x => if (mkEv l x h).2 = true ∧ checkE ps (mkEv l x h).1 = true then ((mkEv l x h).1, true) else (evid0, false)
def evidB (e : Evidence) : By := if formedE e then text (headB e.old) ++ text (headB e.new) ++ text e.root ++ list e.link else []
theorem formedE_iff {e : Evidence} : formedE e = true ↔ rightH e.old = true ∧ rightH e.new = true ∧ e.root.length = 32 ∧ e.link.length ≤ 64 ∧ ∀ x ∈ e.link, x.length = 32 := by
 simp only [formedE, Bool.and_eq_true, decide_eq_true_eq, List.all_eq_true, dig, and_assoc]
theorem root_rt' {l : List By} (h : 0 < l.length) : Mk.root l = Mk.rt l := if_neg (fun e => by rw [e] at h; simp at h)
theorem ext_made (l : List By) (hl : Mk.Dig l) {m : Nat} (hm : m ≤ l.length) : Pe.extB (m : Int) (l.length : Int) (Mk.root (l.take m)) (Mk.root l) (linkE l m) = true := by
 have r1 : (Mk.root (l.take m)).length = 32 := root_len (Mk.Dig.take hl m)
 have r2 : (Mk.root l).length = 32 := root_len hl
 unfold Pe.extB
 by_cases h0 : m = 0
 ·subst h0
  have hd : Pe.digs (linkE l 0) = true := rfl
  rw [if_neg (by rintro (h | h | h | h | h); (· omega); (· omega); (· exact h r1); (· exact h r2); (· rw [hd] at h; cases h)), if_pos ⟨rfl, rfl, rfl⟩]
 have hlk : linkE l m = Mk.link l m true := if_neg h0
 rw [hlk]
 have hdig := Mk.link_dig l.length l m true (by omega) hm (Nat.le_refl _) hl
 have hd : Pe.digs (Mk.link l m true) = true := by
  unfold Pe.digs
  rw [List.all_eq_true]
  intro x hx
  have := hdig x hx
  simp [this]
 rw [if_neg (by rintro (h | h | h | h | h); (· omega); (· omega); (· exact h r1); (· exact h r2); (· rw [hd] at h; cases h))]
 rw [if_neg (by rintro ⟨h, _⟩; omega)]
 by_cases he : m = l.length
 ·subst he
  rw [List.take_length, if_pos ⟨rfl, rfl, by rw [Mk.link_all]; rfl⟩]
 rw [if_neg (by rintro ⟨h, _⟩; omega), if_neg (by omega)]
 have hrt1 := root_rt' (l := l.take m) (by rw [List.length_take]; omega)
 have hrt2 := root_rt' (l := l) (by omega)
 rw [hrt1, hrt2, Int.toNat_natCast, Int.toNat_natCast]
 rw [Mk.roots_link l.length l m (Mk.rt (l.take m)) true (by omega) hm (Nat.le_refl _) (fun _ => rfl)]
 simp
structure Grown (k : Key) (l : List It.Entry) (m : Mirror) (n : Nat) : Prop where
 server : m.server = 0
 le : n ≤ l.length
 entries : m.entries = l.take n
 last : m.heads.getLast? = if n = 0 then none else some (mkHead k 0 (l.take n) n)
def evOf (k : Key) (server : Int) (l o : List It.Entry) (u t : Int) : Evidence := ⟨mkHead k server o t, mkHead k server l u, rootE (l.take o.length), linkE (l.map leafE) o.length⟩
structure Made (k : Key) (server : Int) (l o : List It.Entry) (u t : Int) : Prop where
 eq : mkEv l (mkHead k server l u) (mkHead k server o t) = if rootE (l.take o.length) = rootE o then (evid0, false) else (evOf k server l o u t, true)
 formed : formedE (evOf k server l o u t) = true
 srv : (evOf k server l o u t).old.server = server
 check : ∀ ps : List Int, server < ps.length → ps.getD server.toNat 0 = k.pub → rootE (l.take o.length) ≠ rootE o → checkE ps (evOf k server l o u t) = true
 none : ∀ ps : List Int, (ps.length : Int) ≤ server → checkE ps (evOf k server l o u t) = false
theorem made_of {k : Key} (hk : k.right = true) {server : Int} (hs : 0 ≤ server ∧ server ≤ 19) {o l : List It.Entry} {t u : Int} (hl : l.length ≤ 64) (hol : o.length ≤ l.length) (ht : 0 ≤ t ∧ t ≤ 1099511627776) (hu : 0 ≤ u ∧ u ≤ 1099511627776) : Made k server l o u t := by
 obtain ⟨a1, a2, a3⟩ := mkHead_right (k := k) (server := server) (l := l) (time := u) hk hs (by omega) hu
 obtain ⟨b1, b2, b3⟩ := mkHead_right (k := k) (server := server) (l := o) (time := t) hk hs (by omega) ht
 have a4 : (mkHead k server l u).server = server := by rw [a1]
 have a5 : (mkHead k server l u).size = l.length := by rw [a1]
 have a6 : (mkHead k server l u).root = rootE l := by rw [a1]
 have b4 : (mkHead k server o t).server = server := by rw [b1]
 have b5 : (mkHead k server o t).size = o.length := by rw [b1]
 have b6 : (mkHead k server o t).root = rootE o := by rw [b1]
 clear a1 b1
 have hdig := leaves_dig l
 have hmap : (l.take o.length).map leafE = (l.map leafE).take o.length := List.map_take
 have hext := ext_made (l.map leafE) hdig (m := o.length) (by rw [List.length_map]; exact hol)
 rw [List.length_map] at hext
 have hlk : (linkE (l.map leafE) o.length).length ≤ 64 ∧ ∀ x ∈ linkE (l.map leafE) o.length, x.length = 32 := by
  unfold linkE
  by_cases h0 : o.length = 0
  ·rw [if_pos h0]; exact ⟨by decide, fun x hx => by cases hx⟩
  ·rw [if_neg h0]
   refine ⟨Nat.le_trans (Pe.link_len l.length _ _ _ (by omega) (by rw [List.length_map]; exact hol) (by rw [List.length_map]; exact Nat.le_refl _)) hl, Mk.link_dig _ _ _ _ (by omega) (by rw [List.length_map]; exact hol) (Nat.le_refl _) hdig⟩
 have hform : formedE (evOf k server l o u t) = true := formedE_iff.2 ⟨b2, a2, rootE_len _, hlk.1, hlk.2⟩
 have hx : Pe.extB (o.length : Int) (l.length : Int) (rootE (l.take o.length)) (rootE l) (linkE (l.map leafE) o.length) = true := by
  unfold rootE
  rw [hmap]
  exact hext
 refine ⟨?_, hform, b4, fun ps h1 h2 he => ?_, fun ps h1 => ?_⟩
 ·unfold mkEv
  rw [a4, a5, a6, b4, b5, b6, Int.toNat_natCast, Int.toNat_natCast, List.take_length]
  rw [if_neg (by rintro (h | h | h | h); exact h rfl; omega; omega; omega)]
  by_cases he : rootE (l.take o.length) = rootE o
  ·rw [if_pos (.inr he), if_pos he]
  ·rw [if_neg (by rintro (h | h); exact h rfl; exact he h), if_neg he]
   rfl
 ·unfold checkE
  rw [hform]
  show (true && decide ((mkHead k server o t).server = (mkHead k server l u).server) && decide ((mkHead k server o t).server < ps.length) && verifyH (ps.getD (mkHead k server o t).server.toNat 0) (mkHead k server o t) && verifyH (ps.getD (mkHead k server o t).server.toNat 0) (mkHead k server l u) && !decide (rootE (l.take o.length) = (mkHead k server o t).root) && Pe.extB (mkHead k server o t).size (mkHead k server l u).size (rootE (l.take o.length)) (mkHead k server l u).root (linkE (l.map leafE) o.length)) = true
  simp only [a4, a5, a6, b4, b5, b6, h2, a3, b3, hx, decide_eq_true h1, decide_eq_false he]
  simp
 ·unfold checkE
  have : decide ((evOf k server l o u t).old.server < ps.length) = false := decide_eq_false (by
   show ¬ (mkHead k server o t).server < _
   rw [b4]; omega)
  rw [this]
  simp
end Go.Proofs.YtleljbiejeofgaaGreatDoor.Sl
end
section
namespace Go.Proofs.YtleljbiejeofgaaGreatDoor.Sl
open Go Co Sg Ac It
structure HeadFor (ps : List Int) (server : Int) (l : List It.Entry) (t : Nat) (h : Head) : Prop where
 srv : h.server = server
 size : h.size = t
 root : h.root = rootE (l.take t)
 right : rightH h = true
theorem headTo_for {ps : List Int} {server : Int} {k : Key} {l : List It.Entry} (g : Good ps server k l) {t : Nat} (h1 : 1 ≤ t) (h2 : t ≤ l.length) : HeadFor ps server l t (headTo k server l t) := by
 obtain ⟨e1, e2, e3, e4, _⟩ := headTo_ok g h1 h2
 exact ⟨e1, e2, e3, e4⟩
theorem take_head {ps : List Int} {server : Int} {k : Key} {l : List It.Entry} (g : Good ps server k l) (m : Mirror) (hm : m.server = server) {n : Nat} (hn : n ≤ l.length) (he : m.entries = l.take n) {frm t : Nat} (h1 : frm < t) (h2 : t ≤ l.length) (h3 : t - frm ≤ 64) {h : Head} (hh : HeadFor ps server l t h) :
  take ps m ⟨h, frm, (l.take t).drop frm⟩ =
   if verifyH k.pub h = false then (mirror0, 3) else if n < frm then (mirror0, 12) else if t ≤ n then (m, 0) else (⟨server, l.take t, m.heads ++ [h]⟩, 0) := by
 have s0 := g.s0
 have s1 := g.s1
 have hl : m.entries.length = n := by rw [he, List.length_take, Nat.min_eq_left hn]
 have hlen : ((l.take t).drop frm).length = t - frm := by rw [List.length_drop, List.length_take]; omega
 have hf : formed ⟨h, frm, (l.take t).drop frm⟩ = true := by
  unfold formed
  simp only [hh.right, hh.size, hlen, Bool.true_and, Bool.and_eq_true, decide_eq_true_eq]
  omega
 have hall : ((l.take t).drop frm).all (sound ps) = true := List.all_eq_true.2 fun x hx => List.all_eq_true.1 g.honest.sound x (List.mem_of_mem_take (List.mem_of_mem_drop hx))
 unfold take logOf
 simp only [hf, hall, hh.srv, hh.size, hh.root, hm, g.key, Int.toNat_natCast, Int.ofNat_lt, Int.ofNat_le]
 rw [if_neg (by simp; omega)]
 cases hv : verifyH k.pub h with
 | false => simp
 | true =>
  simp only [Bool.true_eq_false, if_false]
  by_cases hg : n < frm
  ·rw [if_pos (by omega), if_pos hg]
  ·rw [if_neg (by omega), if_neg hg, he, no_clash, if_neg (by simp), pre_split l (by omega) hn (by omega), if_neg (by simp), times_take g.honest.times, if_neg (by simp)]
   rw [List.length_take, Nat.min_eq_left hn]
def rowE (e : It.Entry) : By := num 4 ++ text (entryB e)
def rowH (h : Head) (frm n : Int) : By := num 1 ++ text (headB h) ++ numI frm ++ numI n
def rowsOfB (b : Batch) : List By := b.entries.map rowE ++ [rowH b.head b.frm b.entries.length]
def rowP (e : Evidence) : By := num 3 ++ text (evidB e)
theorem text_le {s : By} {n : Nat} (h : s.length ≤ n) (hn : n ≤ 1000000) : (text s).length ≤ n + 9 := by
 have := num_le 8 s.length (by omega)
 unfold text
 rw [List.length_append]
 omega
theorem rowE_len {e : It.Entry} (h : (entryB e).length ≤ 200) : (rowE e).length ≤ 210 := by
 have h1 := text_le h (by omega)
 have h2 : (num 4).length = 1 := rfl
 unfold rowE
 rw [List.length_append]
 omega
theorem headB_len {h : Head} (hr : rightH h = true) : (headB h).length ≤ 91 := by
 obtain ⟨h1, h2, h3, h4, h5⟩ := rightH_iff.1 hr
 simp only [sigR, Bool.and_eq_true, wi_iff] at h5
 have n1 := numI_le h.server (by omega)
 have n2 := numI_le h.size (by omega)
 have n3 := numI_le h.time (by omega)
 have n4 := numI_le h.sig.e (by omega)
 have n5 := numI_le h.sig.s (by omega)
 have t1 := text_le (s := h.root) (n := 32) (by omega) (by omega)
 have tw : (text wHead).length = 5 := rfl
 unfold headB coreH
 rw [if_pos hr]
 simp only [List.length_append]
 omega
theorem rowH_len {h : Head} (hr : rightH h = true) {frm n : Int} (h1 : frm < 9223372036854775808) (h2 : n < 9223372036854775808) : (rowH h frm n).length ≤ 119 := by
 have t1 := text_le (headB_len hr) (by omega)
 have n1 := numI_le frm h1
 have n2 := numI_le n h2
 have h2 : (num 1).length = 1 := rfl
 unfold rowH
 simp only [List.length_append]
 omega
theorem rowP_len {e : Evidence} (h : formedE e = true) : (rowP e).length ≤ 3000 := by
 obtain ⟨h1, h2, h3, h4, h5⟩ := formedE_iff.1 h
 have t1 := text_le (headB_len h1) (by omega)
 have t2 := text_le (headB_len h2) (by omega)
 have t3 := text_le (s := e.root) (n := 32) (by omega) (by omega)
 have hn := num_le 8 e.link.length (by omega)
 have hall : ∀ l : List By, (∀ x ∈ l, x.length = 32) → (l.map text).flatten.length ≤ l.length * 41 := by
  intro l
  induction l with
  | nil => intro _; simp
  | cons x l ih =>
   intro hx
   have i1 := ih fun y hy => hx y (by simp [hy])
   have i2 := text_le (s := x) (n := 32) (by rw [hx x (by simp)]; omega) (by omega)
   rw [List.map_cons, List.flatten_cons, List.length_append, List.length_cons, Nat.succ_mul]
   omega
 have hl := hall _ h5
 have hm : e.link.length * 41 ≤ 64 * 41 := Nat.mul_le_mul_right _ h4
 have hb : (evidB e).length ≤ 2900 := by
  unfold evidB list
  rw [if_pos h]
  simp only [List.length_append]
  omega
 have t4 := text_le hb (by omega)
 have h0 : (num 3).length = 1 := rfl
 unfold rowP
 rw [List.length_append]
 omega
structure CD (d : Dm.Dk) (N : Nat) : Prop where
 calm : Wl.Calm d
 ok : Dm.Ok d
 len : (d.fs 2).data.length ≤ N
theorem CD.mono {d : Dm.Dk} {N M : Nat} (h : CD d N) (hm : N ≤ M) : CD d M := ⟨h.calm, h.ok, by have := h.len; omega⟩
theorem rec1_le {s : By} (h : s.length ≤ 100000) : (Wl.rec1 s).length ≤ s.length + 13 := by
 have := num_le 8 s.length (by omega)
 have := Wl.ck_len s
 simp only [Wl.rec1, List.length_append]
 omega
theorem CD.add {d : Dm.Dk} {N : Nat} (h : CD d N) {s : By} (hs : s.length ≤ 100000) (hN : N + s.length + 13 ≤ 16777216) : ∃ d', Wl.addD d 2 s = (0, d') ∧ CD d' (N + s.length + 13) := by
 have h1 := rec1_le hs
 have h2 := h.len
 obtain ⟨d', e, c, f, _⟩ := Wl.calm_add' h.calm (n := 2) (by omega) (s := s) (by omega) (by omega)
 refine ⟨d', e, c, ?_, ?_⟩
 ·have := Wl.addD_ok (f := 2) (s := s) h.ok
  rw [show Wl.addD d 2 s = (0, d') from e] at this
  exact this
 ·rw [f]
  simp only [List.length_append]
  omega
theorem CD.flush {d : Dm.Dk} {N : Nat} (h : CD d N) : ∃ d', Dm.flushD d 2 = (0, d') ∧ CD d' N := by
 obtain ⟨d', e, c, f, _⟩ := Wl.calm_flush' h.calm (n := 2) (by omega)
 refine ⟨d', e, c, ?_, ?_⟩
 ·have := Dm.flush_ok h.ok 2
  rw [show Dm.flushD d 2 = (0, d') from e] at this
  exact this
 ·rw [f]; exact h.len
theorem CD.start : ∃ d', Wl.openD Dm.dk0 2 = (0, d') ∧ CD d' 0 := by
 obtain ⟨d', e, c, f, _⟩ := Wl.calm_open Wl.dk0_calm (n := 2) (by omega)
 refine ⟨d', e, c, ?_, ?_⟩
 ·have := Wl.openD_ok (f := 2) Dm.dk0_ok
  rw [show Wl.openD Dm.dk0 2 = (0, d') from e] at this
  exact this
 ·rw [f]; exact Nat.le_refl _
def keepD : Dm.Dk → List By → Dm.Dk
 | d, [] => d
 | d, r :: l => keepD (Wl.addD d 2 r).2 l
theorem CD.keep {B : Nat} (hB : B ≤ 100000) : ∀ (l : List By) {d : Dm.Dk} {N : Nat}, CD d N → (∀ r ∈ l, r.length ≤ B) → N + l.length * (B + 13) ≤ 16777216 → CD (keepD d l) (N + l.length * (B + 13))
 | [], d, N, h, _, _ => h.mono (by omega)
 | r :: l, d, N, h, hr, hN => by
  rw [List.length_cons, Nat.succ_mul] at hN
  have h0 := hr r (by simp)
  obtain ⟨d', e, c⟩ := h.add (s := r) (by omega) (by omega)
  have := CD.keep hB l (c.mono (M := N + (B + 13)) (by omega)) (fun x hx => hr x (by simp [hx])) (by omega)
  show CD (keepD (Wl.addD d 2 r).2 l) _
  rw [e]
  exact this.mono (by rw [List.length_cons, Nat.succ_mul]; omega)
end Go.Proofs.YtleljbiejeofgaaGreatDoor.Sl
end
section
namespace Go.Proofs.YtleljbiejeofgaaGreatDoor.Pe
open Go Go.RowKit Co Sg Ac It Sl
set_option maxRecDepth 100000
set_option maxHeartbeats 4000000
abbrev headV (h : Head) : AV := .agg [.it .i64 h.server, .it .i64 h.size, .st h.root, .it .i64 h.time, .it .i64 h.sig.e, .it .i64 h.sig.s]
abbrev entriesV (l : List It.Entry) : AV := .sl .ro (l.map entryV)
abbrev headsV (l : List Head) : AV := .sl .ro (l.map headV)
theorem entryB_len (e : It.Entry) : (entryB e).length ≤ 200009 := by
 unfold entryB
 split
 ·rename_i h
  rw [Bool.and_eq_true] at h
  have h1 := wi_iff.1 h.1
  have := numI_le e.time (by omega)
  have := bytesIt_len6 e.item
  rw [List.length_append]
  omega
 ·exact Nat.zero_le _
theorem entries_sz (l : List It.Entry) : allSz 50 (l.map entryV) = true := allSz_map 50 entryV (fun _ => rfl) _
theorem heads_sz (l : List Head) : allSz 6 (l.map headV) = true := allSz_map 6 headV (fun _ => rfl) _
theorem sleaf_c (e : It.Entry) (h : Iz e.item) : AC Tryz.prog 38 [entryV e] [] (.st (leafE e)) [] := by
 refine AC.enter [81, 80] [] Tryz.func38 rfl (by decide) (by decide) (Nat.le_of_ble_eq_true rfl) (by kernel_rfl) ?_; refine zev ?_
 have hl := entryB_len e
 have k1 := entryBytes_c e h
 have k2 := leaf_c (entryB e) (by omega)
 refine run ?_
 refine cp k1 ?_
 refine run ?_
 refine cp k2 ?_
 refine run ?_
 exact er0
theorem sroot_c (l : List It.Entry) (hl : l.length ≤ 1000000) (hz : ∀ e ∈ l, Iz e.item) : AC Tryz.prog 33 [entriesV l] [] (.st (rootE l)) [] := by
 refine AC.enter [38, 39] [] Tryz.func33 rfl (by decide) (by decide) (Nat.le_of_ble_eq_true rfl) (by kernel_rfl) ?_; refine zev ?_
 have hsz := entries_sz l
 refine run ?_
 refine loop_mk (fun m e S => e 9 = entriesV l ∧ e 10 = .it .i64 (l.length : Int) ∧ ∃ (k : Nat) (acc : List By) (T : Store), e 11 = .it .i64 (k : Int) ∧ e 3 = .sl (.own 0) (acc.map .st) ∧ S = .buf acc.length 9 1 :: T ∧ acc = (l.take k).map leafE ∧ k ≤ l.length ∧ m = l.length - k) l.length
  ⟨zsl, zsl, 0, [], [], zsl, zsl, rfl, by simp, by omega, rfl⟩ ?_
 rintro m e S ⟨s9, s10, k, acc, T, s11, s3, rfl, hacc, hk, rfl⟩
 have hT1 : ∀ y : SObj, (T ++ [y])[T.length]? = some y := fun y => by simp
 have hT2 : ∀ y z : SObj, (T ++ [y]).set T.length z = T ++ [z] := fun y z => by simp
 have hal : acc.length = k := by rw [hacc, List.length_map, List.length_take, Nat.min_eq_left hk]
 by_cases hlt : k < l.length
 ·have hg : l[k]? = some l[k] := List.getElem?_eq_getElem hlt
  have hzk := hz l[k] (List.getElem_mem hlt)
  have hst : acc ++ [leafE l[k]] = (l.take (k + 1)).map leafE := by rw [List.take_succ_eq_append_getElem hlt, List.map_append, ← hacc]; rfl
  generalize l[k] = x at *
  have kx := sleaf_c x hzk
  refine runf (an @s9 (an @s10 (an @s11 (an @s3 (an @hg (an @hsz (an @hT1 @hT2))))))) ?_
  refine cp kx ?_
  refine runf (an @s9 (an @s10 (an @s11 @s3))) ?_
  exact round_mk (l.length - (k + 1)) (by omega) ⟨zsl, zsl, k + 1, acc ++ [leafE x], _, zsl, by rw [List.map_append]; exact zsl, by rw [List.length_append]; rfl, hst, by omega, rfl⟩
 ·obtain rfl : k = l.length := by omega
  rw [List.take_length] at hacc
  have kr := root_c acc (by omega) (fun x hx => by rw [hacc] at hx; rw [leaves_dig l x hx]; decide)
  rw [show rootE l = Mk.root acc from by rw [hacc]; rfl]
  refine runf (an @s9 (an @s10 (an @s11 @s3))) ?_
  refine cp kr ?_
  refine runf @s3 ?_
  exact er0
theorem rightH_lin {h : Head} : rightH h = true ↔ (0 ≤ h.server ∧ h.server ≤ 19) ∧ (0 ≤ h.size ∧ h.size ≤ 1073741824) ∧ (0 ≤ h.time ∧ h.time ≤ 1099511627776) ∧ h.root.length = 32 ∧ (0 ≤ h.sig.e ∧ h.sig.e ≤ 2305843009213693949) ∧ (0 ≤ h.sig.s ∧ h.sig.s ≤ 2305843009213693949) := by
 rw [rightH_iff]
 simp only [sigR, Bool.and_eq_true, wi_iff]
theorem sright_c (h : Head) : AC Tryz.prog 34 [headV h] [] (.bo (rightH h)) [] := by
 refine AC.enter [] [] Tryz.func34 rfl (by decide) (by decide) (Nat.le_of_ble_eq_true rfl) (by kernel_rfl) ?_; refine zev ?_
 have hf : ¬ ((0 ≤ h.server ∧ h.server ≤ 19) ∧ (0 ≤ h.size ∧ h.size ≤ 1073741824) ∧ (0 ≤ h.time ∧ h.time ≤ 1099511627776) ∧ h.root.length = 32 ∧ (0 ≤ h.sig.e ∧ h.sig.e ≤ 2305843009213693949) ∧ (0 ≤ h.sig.s ∧ h.sig.s ≤ 2305843009213693949)) → rightH h = false := fun hn => Bool.eq_false_iff.2 fun r => hn (rightH_lin.1 r)
 by_cases h1 : 0 ≤ h.server
 rotate_left
 ·rw [hf (by omega)]
  refine run ?_
  exact er0
 by_cases h2 : h.server < 20
 rotate_left
 ·rw [hf (by omega)]
  refine run ?_
  exact er0
 by_cases h3 : 0 ≤ h.size
 rotate_left
 ·rw [hf (by omega)]
  refine run ?_
  exact er0
 by_cases h4 : h.size ≤ 1073741824
 rotate_left
 ·rw [hf (by omega)]
  refine run ?_
  exact er0
 by_cases h5 : 0 ≤ h.time
 rotate_left
 ·rw [hf (by omega)]
  refine run ?_
  exact er0
 by_cases h6 : h.time ≤ 1099511627776
 rotate_left
 ·rw [hf (by omega)]
  refine run ?_
  exact er0
 by_cases h7 : h.root.length = 32
 rotate_left
 ·have h7' : ¬ (h.root.length : Int) = 32 := by omega
  rw [hf (by omega)]
  refine runf @h7' ?_
  exact er0
 have h7' : (h.root.length : Int) = 32 := by omega
 by_cases h8 : 0 ≤ h.sig.e
 rotate_left
 ·rw [hf (by omega)]
  refine runf @h7' ?_
  exact er0
 by_cases h9 : h.sig.e ≤ 2305843009213693949
 rotate_left
 ·rw [hf (by omega)]
  refine runf @h7' ?_
  exact er0
 by_cases h10 : 0 ≤ h.sig.s
 rotate_left
 ·rw [hf (by omega)]
  refine runf @h7' ?_
  exact er0
 by_cases h11 : h.sig.s ≤ 2305843009213693949
 rotate_left
 ·rw [hf (by omega)]
  refine runf @h7' ?_
  exact er0
 rw [rightH_lin.2 (by omega)]
 refine runf @h7' ?_
 exact er0
theorem coreH_len {h : Head} (h1 : h.server < 9223372036854775808) (h2 : h.size < 9223372036854775808) (h3 : h.time < 9223372036854775808) (h4 : h.root.length ≤ 1000000) : (coreH h).length ≤ 1000100 := by
 have n1 := numI_le h.server h1
 have n2 := numI_le h.size h2
 have n3 := numI_le h.time h3
 have t1 := text_len h4
 have tw : (text wHead).length = 5 := rfl
 unfold coreH
 simp only [List.length_append]
 omega
theorem score_c (h : Head) (hr : rightH h = true) : AC Tryz.prog 36 [headV h] [] (.st (coreH h)) [] := by
 refine AC.enter [74, 75] [] Tryz.func36 rfl (by decide) (by decide) (Nat.le_of_ble_eq_true rfl) (by kernel_rfl) ?_; refine zev ?_
 have hh := rightH_lin.1 hr
 have n1 := numI_le h.server (by omega)
 have n2 := numI_le h.size (by omega)
 have n3 := numI_le h.time (by omega)
 have t1 := text_len (s := h.root) (by omega)
 have tw : (text wHead).length = 5 := rfl
 unfold coreH
 refine run ?_
 refine cp (text_c wHead (by simp)) ?_
 refine run ?_
 refine cp (num_c h.server (by omega) (by omega)) ?_
 refine run ?_
 refine cp (num_c h.size (by omega) (by omega)) ?_
 refine run ?_
 refine cp (text_c h.root (by omega)) ?_
 refine run ?_
 refine cp (num_c h.time (by omega) (by omega)) ?_
 refine run ?_
 exact er0
theorem coreR_lenH {h : Head} (hr : rightH h = true) : (coreH h).length ≤ 1000100 := by
 have hh := rightH_lin.1 hr
 exact coreH_len (by omega) (by omega) (by omega) (by omega)
theorem sverify_c (p : Int) (h : Head) (hp : -9223372036854775808 ≤ p ∧ p ≤ 9223372036854775807) : AC Tryz.prog 48 [.it .i64 p, headV h] [] (.bo (verifyH p h)) [] := by
 refine AC.enter [34, 36, 92] [] Tryz.func48 rfl (by decide) (by decide) (Nat.le_of_ble_eq_true rfl) (by kernel_rfl) ?_; refine zev ?_
 have kr := sright_c h
 unfold verifyH
 cases hr : rightH h with
 | false =>
  rw [hr] at kr
  refine run ?_
  refine cp kr ?_
  refine run ?_
  exact er0
 | true =>
  rw [hr] at kr
  have hh := rightH_lin.1 hr
  have hc := coreR_lenH hr
  have kc := score_c h hr
  have kv := verify_c p (coreH h) h.sig (by omega) hp (by omega)
  refine run ?_
  refine cp kr ?_
  refine run ?_
  refine cp kc ?_
  refine run ?_
  refine cp kv ?_
  refine run ?_
  exact er0
theorem shead_c (k : Key) (server : Int) (l : List It.Entry) (time : Int) (hk : -9223372036854775808 ≤ k.secret ∧ k.secret ≤ 9223372036854775807) (hl : l.length ≤ 1000000) (hz : ∀ e ∈ l, Iz e.item) :
  AC Tryz.prog 14 [keyV k, .it .i64 server, entriesV l, .it .i64 time] [] (headV (mkHead k server l time)) [] := by
 refine AC.enter [32, 33, 34, 36, 35] [] Tryz.func14 rfl (by decide) (by decide) (Nat.le_of_ble_eq_true rfl) (by kernel_rfl) ?_; refine zev ?_
 have k1 := keyright_c k hk
 have k2 := sroot_c l hl hz
 unfold mkHead
 cases hr : k.right with
 | false =>
  rw [if_neg (by simp)]
  rw [hr] at k1
  refine run ?_
  refine cp k1 ?_
  refine run ?_
  exact er0
 | true =>
  rw [if_pos rfl]
  rw [hr] at k1
  have k3 := sright_c ⟨server, l.length, rootE l, time, sig0⟩
  cases hh : rightH ⟨server, l.length, rootE l, time, sig0⟩ with
  | false =>
   rw [hh] at k3
   simp only [hh, Bool.false_eq_true, if_false]
   refine run ?_
   refine cp k1 ?_
   refine run ?_
   refine cp k2 ?_
   refine run ?_
   refine cp k3 ?_
   refine run ?_
   exact er0
  | true =>
   rw [hh] at k3
   simp only [hh, if_true]
   have k4 := score_c ⟨server, l.length, rootE l, time, sig0⟩ hh
   have hc := coreR_lenH hh
   have k5 := sign_c k (coreH ⟨server, l.length, rootE l, time, sig0⟩) (by omega) hk
   generalize coreH ⟨server, l.length, rootE l, time, sig0⟩ = c at *
   generalize sign k c = sg at *
   refine run ?_
   refine cp k1 ?_
   refine run ?_
   refine cp k2 ?_
   refine run ?_
   refine cp k3 ?_
   refine run ?_
   refine cp k4 ?_
   refine run ?_
   refine cp k5 ?_
   refine run ?_
   exact er0
theorem times_bad {l : List It.Entry} {k : Nat} (hk : k + 1 < l.length) (h : l[k + 1].time < l[k].time) : times l = false := by
 rw [Bool.eq_false_iff]
 intro ht
 have := times_iff.1 ht k hk
 omega
theorem stimes_c (l : List It.Entry) (hl : l.length ≤ 140737488355328) : AC Tryz.prog 46 [entriesV l] [] (.bo (times l)) [] := by
 refine AC.enter2 [] [] Tryz.func46 rfl (by decide) (by decide) (Nat.le_of_ble_eq_true rfl) (by kernel_rfl) ?_; refine zev ?_
 have hsz := entries_sz l
 refine run ?_
 refine loop_mk (fun m e S => S = [] ∧ e 0 = entriesV l ∧ ∃ k : Nat, e 3 = .it .i64 ((k + 1 : Nat) : Int) ∧ (∀ j (h : j + 1 < l.length), j < k → l[j].time ≤ l[j + 1].time) ∧ m = l.length - k) l.length
  ⟨rfl, zsl, 0, zsl, fun j _ h => absurd h (Nat.not_lt_zero _), rfl⟩ ?_
 rintro m e S ⟨rfl, s0, k, s3, hall, rfl⟩
 by_cases hlt : k + 1 < l.length
 rotate_left
 ·rw [times_iff.2 fun j h => hall j h (by omega)]
  have hlt' : ¬ ((k + 1 : Nat) : Int) < (l.length : Int) := by omega
  refine runf (an @s0 (an @s3 @hlt')) ?_
  exact er0
 have hlt' : ((k + 1 : Nat) : Int) < (l.length : Int) := by omega
 have hg1 : l[k + 1]? = some l[k + 1] := List.getElem?_eq_getElem hlt
 have hg0 : l[k]? = some l[k] := List.getElem?_eq_getElem (by omega)
 have hc : ((k + 1 : Nat) : Int) - 1 = (k : Int) := by omega
 have hbad := times_bad hlt
 have hgood : l[k].time ≤ l[k + 1].time → ∀ j (h : j + 1 < l.length), j < k + 1 → l[j].time ≤ l[j + 1].time := fun h j hj hjk => by
  by_cases e : j = k
  ·subst e; exact h
  ·exact hall j hj (by omega)
 generalize l[k + 1] = x at *
 generalize l[k] = y at *
 by_cases ht : x.time < y.time
 ·rw [hbad ht]
  refine runf (an @s0 (an @s3 (an @hlt' (an @hg1 (an @hg0 (an @hc @hsz)))))) ?_
  exact er0
 ·refine runf (an @s0 (an @s3 (an @hlt' (an @hg1 (an @hg0 (an @hc @hsz)))))) ?_
  exact round_mk (l.length - (k + 1)) (by omega) ⟨rfl, zsl, k + 1, zsl, hgood (by omega), rfl⟩
theorem headB_len (h : Head) : (headB h).length ≤ 1000200 := by
 unfold headB
 split
 ·rename_i hr
  have hh := rightH_lin.1 hr
  have := coreR_lenH hr
  have n1 := numI_le h.sig.e (by omega)
  have n2 := numI_le h.sig.s (by omega)
  simp only [List.length_append]
  omega
 ·exact Nat.zero_le _
theorem sheadBytes_c (h : Head) : AC Tryz.prog 114 [headV h] [] (.st (headB h)) [] := by
 refine AC.enter [34, 36, 75] [] Tryz.func114 rfl (by decide) (by decide) (Nat.le_of_ble_eq_true rfl) (by kernel_rfl) ?_; refine zev ?_
 have kr := sright_c h
 unfold headB
 cases hr : rightH h with
 | false =>
  rw [hr] at kr
  rw [if_neg (by simp)]
  refine run ?_
  refine cp kr ?_
  refine run ?_
  exact er0
 | true =>
  rw [hr] at kr
  rw [if_pos rfl]
  have hh := rightH_lin.1 hr
  have hc := coreR_lenH hr
  have kc := score_c h hr
  have n1 := numI_le h.sig.e (by omega)
  have n2 := numI_le h.sig.s (by omega)
  generalize coreH h = c at *
  refine run ?_
  refine cp kr ?_
  refine run ?_
  refine cp kc ?_
  refine run ?_
  refine cp (num_c h.sig.e (by omega) (by omega)) ?_
  refine run ?_
  refine cp (num_c h.sig.s (by omega) (by omega)) ?_
  refine run ?_
  exact er0
end Go.Proofs.YtleljbiejeofgaaGreatDoor.Pe
end
section
namespace Go.Proofs.YtleljbiejeofgaaGreatDoor.Pe
open Go Go.RowKit Co Sg Ac It
set_option maxRecDepth 100000
set_option maxHeartbeats 4000000
abbrev intsV (l : List Int) : AV := .sl .ro (l.map (AV.it .i64))
structure InL (l : List Int) : Prop where
 len : l.length ≤ 140737488351232
 rng : ∀ i ∈ l, -9223372036854775808 ≤ i ∧ i ≤ 9223372036854775807
theorem shp_intsI {n us} (h : shp Tryz.prog 140737488351232 (n + 2) 22 us) : ∃ l : List Int, us = [intsV l] ∧ InL l := by
 obtain ⟨l, h1, h2, h3⟩ := shp_slice (AV.it .i64) (fun i : Int => -9223372036854775808 ≤ i ∧ i ≤ 9223372036854775807) Tryz.underlying22 h (fun x hx => by
  obtain ⟨i, rfl, hi⟩ := shp_i64 Tryz.underlying3 hx
  exact ⟨i, by rw [show aggT Tryz.prog 3 = false from by kernel_rfl]; rfl, hi⟩)
 exact ⟨l, h1, h2, h3⟩
structure InE (e : It.Entry) : Prop where
 time : -9223372036854775808 ≤ e.time ∧ e.time ≤ 9223372036854775807
 item : InI e.item
end Go.Proofs.YtleljbiejeofgaaGreatDoor.Pe
end
section
namespace Go.Proofs.YtleljbiejeofgaaGreatDoor.Pe
open Go Go.RowKit Co Sg Ac It Sl
set_option maxRecDepth 100000
set_option maxHeartbeats 4000000
abbrev mirV (m : Mirror) : AV := .agg [.it .i64 m.server, entriesV m.entries, headsV m.heads]
abbrev batchV (b : Batch) : AV := .agg [.it .i64 b.head.server, .it .i64 b.head.size, .st b.head.root, .it .i64 b.head.time, .it .i64 b.head.sig.e, .it .i64 b.head.sig.s, .it .i64 b.frm, entriesV b.entries]
structure EOk (l : List It.Entry) : Prop where
 len : l.length ≤ 1000000
 iz : ∀ e ∈ l, Iz e.item
theorem EOk.take {l : List It.Entry} (h : EOk l) (n : Nat) : EOk (l.take n) := ⟨by have := h.len; rw [List.length_take]; omega, fun e he => h.iz e (List.mem_of_mem_take he)⟩
theorem EOk.drop {l : List It.Entry} (h : EOk l) (n : Nat) : EOk (l.drop n) := ⟨by have := h.len; rw [List.length_drop]; omega, fun e he => h.iz e (List.mem_of_mem_drop he)⟩
theorem upd_self {e : Env} {d : Nat} {v : AV} (h : e d = v) : e = upd e d v := funext fun t => by
 unfold upd
 split
 ·rename_i ht; rw [ht]; exact h
 ·rfl
theorem tl0 (T : Store) (x : SObj) : (T ++ [x])[T.length]? = some x := by simp
theorem tl0s (T : Store) (x z : SObj) : (T ++ [x]).set T.length z = T ++ [z] := by simp
theorem tl1 (T : Store) (x y : SObj) : (T ++ [x] ++ [y])[T.length + 1]? = some y := by simp
theorem tl1s (T : Store) (x y z : SObj) : (T ++ [x] ++ [y]).set (T.length + 1) z = T ++ [x] ++ [z] := by simp
theorem tl10 (T : Store) (x y : SObj) : (T ++ [x] ++ [y])[T.length]? = some x := by simp
theorem mnew_c (server : Int) : AC Tryz.prog 42 [.it .i64 server] [] (mirV ⟨server, [], []⟩) [] := by
 refine AC.enter [] [] Tryz.func42 rfl (by decide) (by decide) (Nat.le_of_ble_eq_true rfl) (by kernel_rfl) ?_; refine zev ?_
 refine run ?_
 exact er0w
theorem mformed_c (b : Batch) (hl : b.entries.length ≤ 1000000) (hf : -9223372036854775808 ≤ b.frm ∧ b.frm ≤ 9223372036854775807) : AC Tryz.prog 111 [batchV b] [] (.bo (formed b)) [] := by
 refine AC.enter2 [34] [] Tryz.func111 rfl (by decide) (by decide) (Nat.le_of_ble_eq_true rfl) (by kernel_rfl) ?_; refine zev ?_
 have kr := sright_c b.head
 unfold formed
 cases hr : rightH b.head with
 | false =>
  rw [hr] at kr
  refine run ?_
  refine cp kr ?_
  refine run ?_
  exact er0
 | true =>
  rw [hr] at kr
  have hh := rightH_lin.1 hr
  by_cases h1 : 1 ≤ b.entries.length
  rotate_left
  ·rw [decide_eq_false h1]
   have h1' : ¬ (1 : Int) ≤ (b.entries.length : Int) := by omega
   refine run ?_
   refine cp kr ?_
   refine runf @h1' ?_
   exact er0
  have h1' : (1 : Int) ≤ (b.entries.length : Int) := by omega
  by_cases h2 : b.entries.length ≤ 64
  rotate_left
  ·rw [decide_eq_true h1, decide_eq_false h2]
   have h2' : ¬ (b.entries.length : Int) ≤ 64 := by omega
   refine run ?_
   refine cp kr ?_
   refine runf (an @h1' @h2') ?_
   exact er0
  have h2' : (b.entries.length : Int) ≤ 64 := by omega
  by_cases h3 : 0 ≤ b.frm
  rotate_left
  ·rw [decide_eq_true h1, decide_eq_true h2, decide_eq_false h3]
   refine run ?_
   refine cp kr ?_
   refine runf (an @h1' @h2') ?_
   exact er0
  rw [decide_eq_true h1, decide_eq_true h2, decide_eq_true h3]
  by_cases h4 : b.frm = b.head.size - b.entries.length
  ·rw [decide_eq_true h4]
   have h4' : (b.frm == b.head.size - (b.entries.length : Int)) = true := by rw [beq_iff_eq]; exact h4
   refine run ?_
   refine cp kr ?_
   refine runf (an @h1' (an @h2' @h4')) ?_
   exact er0
  ·rw [decide_eq_false h4]
   have h4' : (b.frm == b.head.size - (b.entries.length : Int)) = false := beqF h4
   refine run ?_
   refine cp kr ?_
   refine runf (an @h1' (an @h2' @h4')) ?_
   exact er0
theorem ne_nilI {s : By} (h : s ≠ []) : (s == []) = false := nilI s [] h
theorem msound_c (ps : List Int) (e : It.Entry) (h : Iz e.item) (hp : InL ps) : AC Tryz.prog 47 [intsV ps, entryV e] [] (.bo (sound ps e)) [] := by
 refine AC.enter2 [81, 91] [] Tryz.func47 rfl (by decide) (by decide) (Nat.le_of_ble_eq_true rfl) (by kernel_rfl) ?_; refine zev ?_
 have k1 := entryBytes_c e h
 have k2 := signed_c ps e.item h hp.rng
 unfold sound
 by_cases hb : entryB e = []
 ·rw [hb] at k1
  rw [decide_eq_false (fun h => h hb)]
  refine run ?_
  refine cp k1 ?_
  refine run ?_
  exact er0
 ·rw [decide_eq_true hb]
  have hn := ne_nilI hb
  generalize entryB e = x at *
  refine run ?_
  refine cp k1 ?_
  refine runf @hn ?_
  refine cp k2 ?_
  refine run ?_
  exact er0
theorem mtake_c (ps : List Int) (m : Mirror) (b : Batch) (hp : InL ps) (hm : EOk m.entries) (hm9 : m.entries.length ≤ 900000) (hh : m.heads.length ≤ 1000000) (hb : EOk b.entries) (hfr : -9223372036854775808 ≤ b.frm ∧ b.frm ≤ 9223372036854775807) :
  AC Tryz.prog 59 [intsV ps, mirV m, batchV b] [] (.tup [mirV (Sl.take ps m b).1, .it .i64 (Sl.take ps m b).2]) [] := by
 refine AC.enter2 [111, 48, 112, 33, 46, 47] [] Tryz.func59 rfl (by decide) (by decide) (Nat.le_of_ble_eq_true rfl) (by kernel_rfl) ?_; refine zev ?_
 have hml := hm.len
 have hbl := hb.len
 have hpl := hp.len
 have kf := mformed_c b hbl hfr
 have hszm := entries_sz m.entries
 have hszb := entries_sz b.entries
 have hszh := heads_sz m.heads
 have hszp : allSz 1 (ps.map (AV.it .i64)) = true := allSz_map 1 _ (fun _ => rfl) _
 unfold Sl.take
 by_cases c1 : m.server < 0
 ·rw [if_pos (.inl c1)]
  refine run ?_
  exact er0w
 by_cases c2 : (ps.length : Int) ≤ m.server
 ·rw [if_pos (.inr (.inl c2))]
  refine run ?_
  exact er0w
 cases hf : formed b with
 | false =>
  rw [hf] at kf
  rw [if_pos (.inr (.inr (.inl rfl)))]
  refine run ?_
  refine cp kf ?_
  refine run ?_
  exact er0w
 | true =>
 rw [hf] at kf
 by_cases c4 : b.head.server = m.server
 rotate_left
 ·rw [if_pos (.inr (.inr (.inr c4)))]
  have q4 : (b.head.server != m.server) = true := bneT c4
  refine run ?_
  refine cp kf ?_
  refine runf @q4 ?_
  exact er0w
 have q4 : (b.head.server != m.server) = false := bneF c4
 rw [if_neg (by rintro (h | h | h | h); exact c1 h; exact c2 h; cases h; exact h c4)]
 obtain ⟨sv, hsv⟩ := Int.eq_ofNat_of_zero_le (show 0 ≤ m.server by omega)
 have hlt : sv < ps.length := by omega
 have hg : ps[m.server.toNat]? = some (ps.getD m.server.toNat 0) := by
  rw [hsv, Int.toNat_natCast, List.getD_eq_getElem?_getD, List.getElem?_eq_getElem hlt]
  rfl
 have hpr : -9223372036854775808 ≤ ps.getD m.server.toNat 0 ∧ ps.getD m.server.toNat 0 ≤ 9223372036854775807 := by
  rw [hsv, Int.toNat_natCast, List.getD_eq_getElem?_getD, List.getElem?_eq_getElem hlt]
  exact hp.rng _ (List.getElem_mem hlt)
 generalize ps.getD m.server.toNat 0 = p at *
 have h0 : 0 ≤ m.server := by omega
 have hl : m.server < (ps.length : Int) := by omega
 have kv := sverify_c p b.head hpr
 cases hv : verifyH p b.head with
 | false =>
  rw [hv] at kv
  rw [if_pos rfl]
  refine run ?_
  refine cp kf ?_
  refine runf (an @q4 (an @h0 (an @hl (an @hg @hszp)))) ?_
  refine cp kv ?_
  refine run ?_
  exact er0w
 | true =>
 rw [hv] at kv
 rw [if_neg (by simp)]
 by_cases c5 : (m.entries.length : Int) < b.frm
 ·rw [if_pos c5]
  refine run ?_
  refine cp kf ?_
  refine runf (an @q4 (an @h0 (an @hl (an @hg @hszp)))) ?_
  refine cp kv ?_
  refine runf @c5 ?_
  exact er0w
 rw [if_neg c5]
 simp only [formed, Bool.and_eq_true, decide_eq_true_eq] at hf
 obtain ⟨⟨⟨⟨f1, f2⟩, f3⟩, f4⟩, f5⟩ := hf
 have fr := rightH_lin.1 f1
 obtain ⟨f, hfe⟩ := Int.eq_ofNat_of_zero_le f4
 have hfl : f ≤ m.entries.length := by omega
 unfold logOf
 rw [hfe, Int.toNat_natCast]
 refine run ?_
 refine cp kf ?_
 refine runf (an @q4 (an @h0 (an @hl (an @hg @hszp)))) ?_
 refine cp kv ?_
 refine runf (an @c5 @hfe) ?_
 refine loop_mk (fun mm e S => e 0 = intsV ps ∧ e 4 = .ptr 0 0 ∧ e 5 = .ptr 1 0 ∧ e 6 = .ptr 2 0 ∧ e 58 = entriesV b.entries ∧ e 59 = .it .i64 (b.entries.length : Int) ∧ ∃ (k : Nat) (T : Store), e 60 = .it .i64 (k : Int) ∧ S = .cells [.it .i64 m.server, entriesV m.entries, headsV m.heads] :: .cells [.it .i64 b.head.server, .it .i64 b.head.size, .st b.head.root, .it .i64 b.head.time, .it .i64 b.head.sig.e, .it .i64 b.head.sig.s, .it .i64 (f : Int), entriesV b.entries] :: .cells [.it .i64 0, .sl .full [], .sl .full []] :: T ∧ k ≤ b.entries.length ∧ (∀ j (h1 : j < (m.entries.drop f).length) (h2 : j < b.entries.length), j < k → (m.entries.drop f)[j] = b.entries[j]) ∧ mm = b.entries.length - k) b.entries.length
  ⟨zsl, zsl, zsl, zsl, zsl, zsl, 0, [], zsl, rfl, by omega, fun j _ _ h => absurd h (Nat.not_lt_zero _), rfl⟩ ?_
 rintro mm e S ⟨s0, s4, s5, s6, s58, s59, k, T, s60, rfl, hk, hall, rfl⟩
 rw [upd_self s6]
 have hdl : (m.entries.drop f).length = m.entries.length - f := List.length_drop
 have hc : (f : Int) + (k : Int) = ((f + k : Nat) : Int) := by omega
 by_cases hgo : k < b.entries.length ∧ f + k < m.entries.length
 focus
  obtain ⟨hgo1, hgo2⟩ := hgo
  have hgb : b.entries[k]? = some b.entries[k] := List.getElem?_eq_getElem hgo1
  have hgm : m.entries[f + k]? = some m.entries[f + k] := List.getElem?_eq_getElem hgo2
  have hzb := hb.iz b.entries[k] (List.getElem_mem hgo1)
  have hzm := hm.iz m.entries[f + k] (List.getElem_mem hgo2)
  have hdk : (m.entries.drop f)[k]'(by omega) = m.entries[f + k] := List.getElem_drop
  have hgood : m.entries[f + k] = b.entries[k] → ∀ j (h1 : j < (m.entries.drop f).length) (h2 : j < b.entries.length), j < k + 1 → (m.entries.drop f)[j] = b.entries[j] := fun h j h1 h2 hj => by
   by_cases e : j = k
   ·subst e; rw [hdk, h]
   ·exact hall j h1 h2 (by omega)
  have hbad : m.entries[f + k] ≠ b.entries[k] → clash (m.entries.drop f) b.entries = true := fun h => by
   cases hc : clash (m.entries.drop f) b.entries with
   | true => rfl
   | false => exact absurd (by rw [← hdk]; exact clash_iff.1 hc k (by omega) hgo1) h
  have hlt' : ((f + k : Nat) : Int) < (m.entries.length : Int) := by omega
  generalize b.entries[k] = x at *
  generalize m.entries[f + k] = y at *
  have ks := sameI_c y.item x.item hzm.lz hzb.lz
  by_cases ht : y.time = x.time
  ·have qt : (y.time != x.time) = false := bneF ht
   by_cases hi : y.item = x.item
   ·rw [decide_eq_true hi] at ks
    refine runf (an @s0 (an @s4 (an @s5 (an @s6 (an @s58 (an @s59 (an @s60 (an @hc (an @hlt' (an @hgb (an @hgm (an @hszm (an @hszb (an @tl0 (an @tl0s (an @tl1 (an @tl1s (an @tl10 @qt)))))))))))))))))) ?_
    refine cp ks ?_
    refine runf (an @s0 (an @s4 (an @s5 (an @s6 (an @s58 (an @s59 @s60)))))) ?_
    exact round_mk (b.entries.length - (k + 1)) (by omega) ⟨zsl, zsl, zsl, zsl, zsl, zsl, k + 1, _, zsl, rfl, by omega, hgood (by cases x; cases y; simp only at ht hi; rw [ht, hi]), rfl⟩
   ·rw [decide_eq_false hi] at ks
    rw [if_pos (hbad fun e => hi (by rw [e]))]
    refine runf (an @s0 (an @s4 (an @s5 (an @s6 (an @s58 (an @s59 (an @s60 (an @hc (an @hlt' (an @hgb (an @hgm (an @hszm (an @hszb (an @tl0 (an @tl0s (an @tl1 (an @tl1s (an @tl10 @qt)))))))))))))))))) ?_
    refine cp ks ?_
    refine runf (an @s0 (an @s4 (an @s5 (an @s6 (an @s58 (an @s59 @s60)))))) ?_
    exact er0w
  ·have qt : (y.time != x.time) = true := bneT ht
   rw [if_pos (hbad fun e => ht (by rw [e]))]
   refine runf (an @s0 (an @s4 (an @s5 (an @s6 (an @s58 (an @s59 (an @s60 (an @hc (an @hlt' (an @hgb (an @hgm (an @hszm (an @hszb (an @tl0 (an @tl0s (an @tl1 (an @tl1s (an @tl10 @qt)))))))))))))))))) ?_
   exact er0w
 have hnc : clash (m.entries.drop f) b.entries = false := clash_iff.2 fun j h1 h2 => hall j h1 h2 (by omega)
 rw [hnc, if_neg (by simp)]
 have hmap : (m.entries.take f).map entryV ++ b.entries.map entryV = (m.entries.take f ++ b.entries).map entryV := List.map_append.symm
 have hlen : (m.entries.take f ++ b.entries).length = f + b.entries.length := by rw [List.length_append, List.length_take]; omega
 have hok : EOk (m.entries.take f ++ b.entries) := ⟨by omega, fun e he => by
  rcases List.mem_append.1 he with h | h
  ·exact hm.iz e (List.mem_of_mem_take h)
  ·exact hb.iz e h⟩
 generalize m.entries.take f ++ b.entries = lg at *
 have kro := sroot_c lg hok.len hok.iz
 have kti := stimes_c lg (by have := hok.len; omega)
 have hlb : lg.length ≤ 1000000 := hok.len
 have hszt := entries_sz (m.entries.take f)
 have hcase : k = b.entries.length ∨ (k < b.entries.length ∧ m.entries.length ≤ f + k) := by omega
 rcases hcase with hcase | hcase
 focus
  have hx : ¬ (k : Int) < (b.entries.length : Int) := by omega
  refine runf (an @s0 (an @s4 (an @s5 (an @s6 (an @s58 (an @s59 (an @s60 (an @hx (an @hszm (an @hszb (an @hszt @hmap))))))))))) ?_
 rotate_left
 focus
  have hgb : b.entries[k]? = some b.entries[k] := List.getElem?_eq_getElem hcase.1
  have hx : ((m.entries.length : Nat) : Int) ≤ ((f + k : Nat) : Int) := by omega
  generalize b.entries[k] = x at *
  refine runf (an @s0 (an @s4 (an @s5 (an @s6 (an @s58 (an @s59 (an @s60 (an @hc (an @hx (an @hgb (an @hszm (an @hszb (an @hszt (an @tl0 (an @tl0s @hmap))))))))))))))) ?_
 all_goals
  refine cp kro ?_
  by_cases hr : rootE lg = b.head.root
  rotate_left
  ·have qr := nilI _ _ hr
   rw [if_pos hr]
   refine runf (an @qr (an @s0 (an @s4 (an @s5 @s6)))) ?_
   exact er0w
  have qr : (rootE lg == b.head.root) = true := by rw [hr]; exact beq_self_eq_true _
  rw [if_neg (fun h => h hr)]
  cases htm : times lg with
  | false =>
   rw [htm] at kti
   rw [if_pos rfl]
   refine runf (an @qr (an @s0 (an @s4 (an @s5 @s6)))) ?_
   refine cp kti ?_
   refine runf (an @s0 (an @s4 (an @s5 @s6))) ?_
   exact er0w
  | true =>
  rw [htm] at kti
  rw [if_neg (by simp)]
  refine runf (an @qr (an @s0 (an @s4 (an @s5 @s6)))) ?_
  refine cp kti ?_
  refine runf (an @s0 (an @s4 (an @s5 @s6))) ?_
  refine loop_mk (fun mm e S => e 0 = intsV ps ∧ e 4 = .ptr 0 0 ∧ e 5 = .ptr 1 0 ∧ e 6 = .ptr 2 0 ∧ e 116 = entriesV b.entries ∧ e 117 = .it .i64 (b.entries.length : Int) ∧ (∃ L : Nat, e 12 = .sl (.own L) (lg.map entryV)) ∧ ∃ (k : Nat) (T : Store), e 118 = .it .i64 (k : Int) ∧ S = .cells [.it .i64 m.server, entriesV m.entries, headsV m.heads] :: .cells [.it .i64 b.head.server, .it .i64 b.head.size, .st b.head.root, .it .i64 b.head.time, .it .i64 b.head.sig.e, .it .i64 b.head.sig.s, .it .i64 (f : Int), entriesV b.entries] :: .cells [.it .i64 0, .sl .full [], .sl .full []] :: T ∧ k ≤ b.entries.length ∧ (b.entries.take k).all (sound ps) = true ∧ mm = b.entries.length - k) b.entries.length
   ⟨zsl, zsl, zsl, zsl, zsl, zsl, ⟨_, zsl⟩, 0, _, zsl, rfl, by omega, rfl, rfl⟩ ?_
  clear s0 s4 s5 s6 s58 s59 s60
  rintro mm e S ⟨s0, s4, s5, s6, s116, s117, ⟨L, s12⟩, k, T, s118, rfl, hk, hall, rfl⟩
  rw [upd_self s6, upd_self s12]
  by_cases hlt2 : k < b.entries.length
  ·have hgb : b.entries[k]? = some b.entries[k] := List.getElem?_eq_getElem hlt2
   have hzb := hb.iz b.entries[k] (List.getElem_mem hlt2)
   have hstep : b.entries.take (k + 1) = b.entries.take k ++ [b.entries[k]] := List.take_succ_eq_append_getElem hlt2
   have hbad : sound ps b.entries[k] = false → b.entries.all (sound ps) = false := fun h => List.all_eq_false.2 ⟨b.entries[k], List.getElem_mem hlt2, by simp [h]⟩
   generalize b.entries[k] = x at *
   have ks := msound_c ps x hzb hp
   cases hso : sound ps x with
   | false =>
    rw [hso] at ks
    rw [hbad hso, if_pos rfl]
    refine runf (an @s0 (an @s4 (an @s5 (an @s6 (an @s116 (an @s117 (an @s12 (an @s118 (an @hgb (an @hszb (an @tl0 @tl0s))))))))))) ?_
    refine cp ks ?_
    refine runf (an @s0 (an @s4 (an @s5 (an @s6 (an @s116 (an @s117 (an @s12 @s118))))))) ?_
    exact er0w
   | true =>
    rw [hso] at ks
    refine runf (an @s0 (an @s4 (an @s5 (an @s6 (an @s116 (an @s117 (an @s12 (an @s118 (an @hgb (an @hszb (an @tl0 @tl0s))))))))))) ?_
    refine cp ks ?_
    refine runf (an @s0 (an @s4 (an @s5 (an @s6 (an @s116 (an @s117 (an @s12 @s118))))))) ?_
    exact round_mk (b.entries.length - (k + 1)) (by omega) ⟨zsl, zsl, zsl, zsl, zsl, zsl, ⟨L, zsl⟩, k + 1, _, zsl, rfl, by omega, by rw [hstep, List.all_append, hall]; simp [hso], rfl⟩
  ·obtain rfl : k = b.entries.length := by omega
   rw [List.take_length] at hall
   rw [hall, if_neg (by simp)]
   have hx : ¬ ((b.entries.length : Nat) : Int) < (b.entries.length : Int) := by omega
   by_cases hsz : b.head.size ≤ (m.entries.length : Int)
   ·first
    | (exfalso; omega)
    | (rw [if_pos hsz]
       refine runf (an @s0 (an @s4 (an @s5 (an @s6 (an @s116 (an @s117 (an @s12 (an @s118 (an @hx @hsz))))))))) ?_
       exact er0w)
   ·rw [if_neg hsz]
    have hmh : m.heads.map headV ++ [AV.agg [.it .i64 b.head.server, .it .i64 b.head.size, .st b.head.root, .it .i64 b.head.time, .it .i64 b.head.sig.e, .it .i64 b.head.sig.s]] = (m.heads ++ [b.head]).map headV := by rw [List.map_append]; rfl
    have hth : m.heads.take m.heads.length = m.heads := List.take_length
    refine runf (an @s0 (an @s4 (an @s5 (an @s6 (an @s116 (an @s117 (an @s12 (an @s118 (an @hx (an @hsz (an @hszh (an @hth @hmh)))))))))))) ?_
    exact er0w
end Go.Proofs.YtleljbiejeofgaaGreatDoor.Pe
end
