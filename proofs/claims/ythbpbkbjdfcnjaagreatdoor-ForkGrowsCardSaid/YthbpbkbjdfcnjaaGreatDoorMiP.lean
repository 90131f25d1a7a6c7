/- What a mirror does with batches of honest logs. Nothing of the program. -/
import Derived.Test.YthbpbkbjdfcnjaaGreatDoorSlP
namespace Go.Proofs.YthbpbkbjdfcnjaaGreatDoor.Sl
set_option linter.unusedSectionVars false
set_option linter.unusedVariables false
set_option linter.unusedSimpArgs false
open Go Co Sg Ac It
structure Honest (ps : List Int) (l : List It.Entry) : Prop where
  times : times l = true
  sound : l.all (sound ps) = true
theorem Honest.take {ps : List Int} {l : List It.Entry} (h : Honest ps l) (n : Nat) : Honest ps (l.take n) :=
  ⟨times_take h.times n, List.all_eq_true.2 fun x hx => List.all_eq_true.1 h.sound x (List.mem_of_mem_take hx)⟩
theorem sound_iff {ps : List Int} {e : It.Entry} : sound ps e = true ↔ isTime e.time = true ∧ right e.item = true ∧ signed ps e.item = true := by
  unfold sound
  rw [Bool.and_eq_true, decide_eq_true_eq, entryB_ne, and_assoc]
theorem Honest.time {ps : List Int} {l : List It.Entry} (h : Honest ps l) {j : Nat} (hj : j < l.length) : 0 ≤ l[j].time ∧ l[j].time ≤ 1099511627776 :=
  wi_iff.1 (sound_iff.1 (List.all_eq_true.1 h.sound _ (List.getElem_mem hj))).1
/-- the batch of a log from an index to another one, under its head -/
def lastTime (l : List It.Entry) (t : Nat) : Int := (l.getD (t - 1) entry0).time
def batchOf (k : Key) (server : Int) (l : List It.Entry) (frm to : Int) : Batch × Bool :=
  if to < 1 ∨ l.length < to then (batch0, false)
  else make l (mkHead k server (l.take to.toNat) (lastTime l to.toNat)) frm 64
/-- what the batch of an honest log is -/
structure Good (ps : List Int) (server : Int) (k : Key) (l : List It.Entry) : Prop where
  s0 : 0 ≤ server
  s1 : server < ps.length
  s2 : ps.length ≤ 20
  key : ps.getD server.toNat 0 = k.pub
  right : k.right = true
  honest : Honest ps l
  len : l.length ≤ 80
def headTo (k : Key) (server : Int) (l : List It.Entry) (t : Nat) : Head := mkHead k server (l.take t) (lastTime l t)
theorem headTo_ok {ps : List Int} {server : Int} {k : Key} {l : List It.Entry} (g : Good ps server k l) {t : Nat} (h1 : 1 ≤ t) (h2 : t ≤ l.length) :
    (headTo k server l t).server = server ∧ (headTo k server l t).size = t ∧ (headTo k server l t).root = rootE (l.take t) ∧ rightH (headTo k server l t) = true ∧ verifyH k.pub (headTo k server l t) = true := by
  have hl := g.len
  have s0 := g.s0
  have s1 := g.s1
  have s2 := g.s2
  have ht : 0 ≤ lastTime l t ∧ lastTime l t ≤ 1099511627776 := by
    unfold lastTime
    rw [List.getD_eq_getElem?_getD, List.getElem?_eq_getElem (show t - 1 < l.length by omega)]
    exact g.honest.time (by omega)
  obtain ⟨e, h3, h4⟩ := mkHead_right (k := k) (server := server) (l := l.take t) (time := lastTime l t) g.right ⟨s0, by omega⟩ (by rw [List.length_take]; omega) ht
  have e' : headTo k server l t = _ := e
  refine ⟨by rw [e'], ?_, by rw [e'], h3, h4⟩
  rw [e']
  show ((l.take t).length : Int) = t
  rw [List.length_take, Nat.min_eq_left h2]
theorem batchOf_eq {ps : List Int} {server : Int} {k : Key} {l : List It.Entry} (g : Good ps server k l) (frm to : Int) :
    batchOf k server l frm to = if 1 ≤ to ∧ to ≤ l.length ∧ 0 ≤ frm ∧ frm < to ∧ to - frm ≤ 64 then (⟨headTo k server l to.toNat, frm, (l.take to.toNat).drop frm.toNat⟩, true) else (batch0, false) := by
  unfold batchOf
  by_cases h0 : to < 1 ∨ l.length < to
  · rw [if_pos h0, if_neg (by omega)]
  rw [if_neg h0]
  obtain ⟨_, h2, _⟩ := headTo_ok g (t := to.toNat) (by omega) (by omega)
  change make l (headTo k server l to.toNat) frm 64 = _
  unfold make
  rw [h2]
  by_cases h1 : 0 ≤ frm ∧ frm < to
  · rw [if_neg (by omega)]
    by_cases h3 : to - frm ≤ 64
    · rw [if_neg (by omega), if_pos (by omega)]
      congr 3
    · rw [if_pos (by omega), if_neg (by omega)]
  · rw [if_pos (by omega), if_neg (by omega)]
theorem rootE_nil_ne : True := trivial
/-- a batch of one honest log on a mirror -/
theorem take_good {ps : List Int} {server : Int} {k : Key} {l : List It.Entry} (g : Good ps server k l) (m : Mirror) (hm : m.server = server) {frm t : Nat} (h1 : frm < t) (h2 : t ≤ l.length) (h3 : t - frm ≤ 64) :
    take ps m ⟨headTo k server l t, frm, (l.take t).drop frm⟩ =
      if m.entries.length < frm then (mirror0, 12)
      else if clash (m.entries.drop frm) ((l.take t).drop frm) = true then (mirror0, 5)
      else if rootE (m.entries.take frm ++ (l.take t).drop frm) ≠ rootE (l.take t) then (mirror0, 17)
      else if times (m.entries.take frm ++ (l.take t).drop frm) = false then (mirror0, 2)
      else if t ≤ m.entries.length then (m, 0)
      else (⟨server, m.entries.take frm ++ (l.take t).drop frm, m.heads ++ [headTo k server l t]⟩, 0) := by
  obtain ⟨e1, e2, e3, e4, e5⟩ := headTo_ok g (t := t) (by omega) h2
  have s0 := g.s0
  have s1 := g.s1
  have hlen : ((l.take t).drop frm).length = t - frm := by rw [List.length_drop, List.length_take]; omega
  have hf : formed ⟨headTo k server l t, frm, (l.take t).drop frm⟩ = true := by
    unfold formed
    simp only [e4, e2, hlen, Bool.true_and, Bool.and_eq_true, decide_eq_true_eq]
    omega
  have hall : ((l.take t).drop frm).all (sound ps) = true := List.all_eq_true.2 fun x hx => List.all_eq_true.1 g.honest.sound x (List.mem_of_mem_take (List.mem_of_mem_drop hx))
  unfold take logOf
  simp only [hf, hall, e1, e2, e3, hm, g.key, e5, Int.toNat_natCast, Int.ofNat_lt, Int.ofNat_le]
  rw [if_neg (by simp; omega), if_neg (by simp)]
  simp only [Bool.true_eq_false, if_false]
theorem pre_split (l : List It.Entry) {n frm t : Nat} (h : frm ≤ n) (hn : n ≤ l.length) (ht : frm ≤ t) : (l.take n).take frm ++ (l.take t).drop frm = l.take t := by
  rw [List.take_take, Nat.min_eq_left h]
  have h1 : l.take frm = (l.take t).take frm := by rw [List.take_take, Nat.min_eq_left ht]
  rw [h1, List.take_append_drop]
theorem no_clash (l : List It.Entry) (n frm t : Nat) : clash ((l.take n).drop frm) ((l.take t).drop frm) = false := by
  rw [clash_iff]
  intro j h1 h2
  simp only [List.getElem_drop, List.getElem_take]
/-- a batch of the log on a mirror of a beginning of the log -/
theorem take_own {ps : List Int} {server : Int} {k : Key} {l : List It.Entry} (g : Good ps server k l) (m : Mirror) (hm : m.server = server) {n : Nat} (hn : n ≤ l.length) (he : m.entries = l.take n) {frm t : Nat} (h1 : frm < t) (h2 : t ≤ l.length) (h3 : t - frm ≤ 64) :
    take ps m ⟨headTo k server l t, frm, (l.take t).drop frm⟩ =
      if n < frm then (mirror0, 12) else if t ≤ n then (m, 0) else (⟨server, l.take t, m.heads ++ [headTo k server l t]⟩, 0) := by
  have hl : m.entries.length = n := by rw [he, List.length_take, Nat.min_eq_left hn]
  rw [take_good g m hm h1 h2 h3, hl]
  by_cases hg : n < frm
  · rw [if_pos hg, if_pos hg]
  rw [if_neg hg, if_neg hg, he, no_clash, if_neg (by simp), pre_split l (by omega) hn (by omega), if_neg (by simp), times_take g.honest.times, if_neg (by simp)]
theorem headsOk_snoc {p : Int} {l : List It.Entry} {m m' : Mirror} {n t : Nat} {h : Head} (hs : m'.server = m.server) (he : m.entries = l.take n) (he' : m'.entries = l.take t) (hnt : n < t) (ht : t ≤ l.length)
    (h1 : h.server = m.server) (h2 : verifyH p h = true) (h3 : h.size = t) (h4 : h.root = rootE (l.take t)) :
    ∀ (hds : List Head) (last : Int), 0 ≤ last → headsOk p m last hds = true → headsOk p m' last (hds ++ [h]) = true
  | [], last, h0, hk => by
    simp only [headsOk, decide_eq_true_eq, he, List.length_take] at hk
    simp only [List.nil_append, headsOk, hs, h1, h2, h3, he', List.length_take, List.take_take, Int.toNat_natCast, Nat.min_self, h4, decide_true, Bool.true_and, Bool.and_true, Bool.and_eq_true, decide_eq_true_eq]
    omega
  | x :: hds, last, h0, hk => by
    simp only [headsOk, Bool.and_eq_true, decide_eq_true_eq] at hk
    obtain ⟨⟨⟨⟨⟨k1, k2⟩, k3⟩, k4⟩, k5⟩, k6⟩ := hk
    have k4' := k4
    rw [he, List.length_take] at k4'
    have hr := headsOk_snoc hs he he' hnt ht h1 h2 h3 h4 hds x.size (by omega) k6
    have hrt : x.root = rootE (m'.entries.take x.size.toNat) := by
      rw [k5, he, he', List.take_take, List.take_take, Nat.min_eq_left (by omega), Nat.min_eq_left (by omega)]
    simp only [List.cons_append, headsOk, Bool.and_eq_true, decide_eq_true_eq]
    refine ⟨⟨⟨⟨⟨k1.trans hs.symm, k2⟩, k3⟩, ?_⟩, hrt⟩, hr⟩
    rw [he', List.length_take]
    omega
/-- a mirror of a beginning of the log that is right -/
structure Mir (ps : List Int) (server : Int) (l : List It.Entry) (m : Mirror) (n : Nat) : Prop where
  server : m.server = server
  le : n ≤ l.length
  entries : m.entries = l.take n
  right : rightM ps m = true
theorem Mir.len {ps : List Int} {server : Int} {l : List It.Entry} {m : Mirror} {n : Nat} (h : Mir ps server l m n) : m.entries.length = n := by
  rw [h.entries, List.length_take, Nat.min_eq_left h.le]
theorem mir_new {ps : List Int} {server : Int} {k : Key} {l : List It.Entry} (g : Good ps server k l) : Mir ps server l ⟨server, [], []⟩ 0 := by
  refine ⟨rfl, Nat.zero_le _, by simp, ?_⟩
  have s0 := g.s0
  have s1 := g.s1
  simp only [rightM, times, headsOk, List.all_nil, Bool.and_true, Bool.and_eq_true, decide_eq_true_eq]
  exact ⟨⟨s0, s1⟩, rfl⟩
theorem mir_next {ps : List Int} {server : Int} {k : Key} {l : List It.Entry} (g : Good ps server k l) {m : Mirror} {n : Nat} (h : Mir ps server l m n) {t : Nat} (hn : n < t) (h2 : t ≤ l.length) : Mir ps server l ⟨server, l.take t, m.heads ++ [headTo k server l t]⟩ t := by
  obtain ⟨e1, e2, e3, e4, e5⟩ := headTo_ok g (t := t) (by omega) h2
  refine ⟨rfl, h2, rfl, ?_⟩
  have hr := h.right
  simp only [rightM, Bool.and_eq_true, decide_eq_true_eq] at hr
  obtain ⟨⟨⟨⟨r1, r2⟩, r3⟩, r4⟩, r5⟩ := hr
  rw [h.server] at r1 r2 r5
  simp only [rightM, Bool.and_eq_true, decide_eq_true_eq]
  refine ⟨⟨⟨⟨r1, r2⟩, times_take g.honest.times t⟩, List.all_eq_true.2 fun x hx => List.all_eq_true.1 g.honest.sound x (List.mem_of_mem_take hx)⟩, ?_⟩
  refine headsOk_snoc (m := m) (l := l) (n := n) (t := t) h.server.symm h.entries rfl hn h2 (by rw [e1, h.server]) ?_ e2 e3 m.heads 0 (by omega) r5
  rw [g.key]
  exact e5
end Go.Proofs.YthbpbkbjdfcnjaaGreatDoor.Sl
