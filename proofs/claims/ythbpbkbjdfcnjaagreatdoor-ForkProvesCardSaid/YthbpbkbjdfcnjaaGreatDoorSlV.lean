/- Several texts in one. -/
import Derived.Test.YthbpbkbjdfcnjaaGreatDoorItP
import Derived.Test.YthbpbkbjdfcnjaaGreatDoorMkU
set_option linter.unusedSectionVars false
set_option linter.unusedVariables false
set_option linter.unusedSimpArgs false
namespace Go.Proofs.YthbpbkbjdfcnjaaGreatDoor.Sl
open Go Co Sg Ac It
structure Head where
 server : Int
 size : Int
 root : By
 time : Int
 sig : Sig
 deriving DecidableEq
def head0 : Head := ⟨0, 0, [], 0, sig0⟩
def rightH (h : Head) : Bool := wi h.server 0 19 && wi h.size 0 1073741824 && wi h.time 0 1099511627776 && dig h.root && sigR h.sig
abbrev wHead : By := [104, 101, 97, 100]
def coreH (h : Head) : By := text wHead ++ numI h.server ++ numI h.size ++ text h.root ++ numI h.time
def verifyH (p : Int) (h : Head) : Bool := rightH h && verify p (coreH h) h.sig
def headB (h : Head) : By := if rightH h then coreH h ++ numI h.sig.e ++ numI h.sig.s else []
def rHead (x : R) : Head × R :=
 let server := rNum x
 let size := rNum server.2
 let root := size.2.text
 let time := rNum root.2
 let s := rSig time.2
 (⟨server.1, size.1, root.1, time.1, s.1⟩, s.2)
def readHead (s : By) : Head × Bool :=
 let n := R.text ⟨s, false⟩
 let h := rHead n.2
 if n.1 = wHead ∧ h.2.done = true ∧ rightH h.1 = true ∧ headB h.1 = s then (h.1, true) else (head0, false)
theorem readHead_right {s : By} (h : (readHead s).2 = true) : rightH (readHead s).1 = true ∧ headB (readHead s).1 = s := by
 unfold readHead at h ⊢
 simp only at h ⊢
 split at h
 ·rename_i hc
  rw [if_pos hc]
  exact ⟨hc.2.2.1, hc.2.2.2⟩
 ·cases h
theorem readHead_wrong {s : By} (h : (readHead s).2 = false) : (readHead s).1 = head0 := by
 unfold readHead at h ⊢
 simp only at h ⊢
 split at h
 ·cases h
 ·rename_i hc
  rw [if_neg hc]
theorem rightH_iff {h : Head} : rightH h = true ↔ (0 ≤ h.server ∧ h.server ≤ 19) ∧ (0 ≤ h.size ∧ h.size ≤ 1073741824) ∧ (0 ≤ h.time ∧ h.time ≤ 1099511627776) ∧ h.root.length = 32 ∧ sigR h.sig = true := by
 simp only [rightH, Bool.and_eq_true, wi_iff, dig, decide_eq_true_eq, and_assoc]
theorem rHead_back {h : Head} (hr : rightH h = true) (r : By) : rHead ⟨numI h.server ++ (numI h.size ++ (text h.root ++ (numI h.time ++ (numI h.sig.e ++ (numI h.sig.s ++ r))))), false⟩ = (h, ⟨r, false⟩) := by
 obtain ⟨h1, h2, h3, h4, h5⟩ := rightH_iff.1 hr
 unfold rHead
 simp only [rNum_back h.server _ h1.1 (by omega), rNum_back h.size _ h2.1 (by omega), text_back h.root _ (by omega), rNum_back h.time _ h3.1 (by omega), rSig_back h.sig r h5]
theorem readHead_back {h : Head} (hr : rightH h = true) : readHead (headB h) = (h, true) := by
 have hb : headB h = text wHead ++ (numI h.server ++ (numI h.size ++ (text h.root ++ (numI h.time ++ (numI h.sig.e ++ (numI h.sig.s ++ [])))))) := by
  unfold headB coreH
  rw [if_pos hr]
  simp only [List.append_assoc, List.append_nil]
 have ht : R.text ⟨headB h, false⟩ = (wHead, ⟨numI h.server ++ (numI h.size ++ (text h.root ++ (numI h.time ++ (numI h.sig.e ++ (numI h.sig.s ++ []))))), false⟩) := by
  rw [hb]; exact text_back wHead _ (by decide)
 unfold readHead
 simp only [ht, rHead_back hr]
 rw [if_pos ⟨trivial, rfl, hr, trivial⟩]
theorem headB_ne {h : Head} (hr : rightH h = true) : headB h ≠ [] := by
 unfold headB coreH
 rw [if_pos hr]
 intro e
 have := congrArg List.length e
 have h5 : (text wHead).length = 5 := rfl
 simp only [List.length_append, List.length_nil] at this
 omega
theorem headB_wrong {h : Head} (hr : rightH h = false) : headB h = [] := by unfold headB; simp [hr]
theorem headB_inj {g h : Head} (hg : rightH g = true) (hh : rightH h = true) (e : headB g = headB h) : g = h := by
 have h1 := readHead_back hg
 rw [e, readHead_back hh] at h1
 exact (congrArg Prod.fst h1).symm
def leafE (e : It.Entry) : By := Mk.leaf (entryB e)
def rootE (l : List It.Entry) : By := Mk.root (l.map leafE)
theorem leafE_len (e : It.Entry) : (leafE e).length = 32 := Mk.sha_len' _
theorem leaves_dig (l : List It.Entry) : Mk.Dig (l.map leafE) := fun x hx => by
 obtain ⟨e, _, rfl⟩ := List.mem_map.1 hx
 exact leafE_len e
theorem root_len {l : List By} (h : Mk.Dig l) : (Mk.root l).length = 32 := by
 unfold Mk.root
 split
 ·exact Mk.sha_len' _
 ·rename_i h0
  exact Mk.rt_dig (List.length_pos_iff.2 h0) h
theorem rootE_len (l : List It.Entry) : (rootE l).length = 32 := root_len (leaves_dig l)
def mkHead (k : Key) (server : Int) (l : List It.Entry) (time : Int) : Head :=
 if k.right then
  let h : Head := ⟨server, l.length, rootE l, time, sig0⟩
  if rightH h then { h with sig := sign k (coreH h) } else head0
 else head0
theorem sig_sigR (k : Key) (m : By) : sigR (sign k m) = true := by
 obtain ⟨h1, h2, h3, h4⟩ := sign_range k m
 simp only [sigR, wi, Bool.and_eq_true, decide_eq_true_eq]
 omega
theorem core_sig (h : Head) (s : Sig) : coreH { h with sig := s } = coreH h := rfl
theorem right_sig {h : Head} (hr : rightH h = true) {s : Sig} (hs : sigR s = true) : rightH { h with sig := s } = true := by
 obtain ⟨h1, h2, h3, h4, _⟩ := rightH_iff.1 hr
 exact rightH_iff.2 ⟨h1, h2, h3, h4, hs⟩
theorem mkHead_right {k : Key} {server : Int} {l : List It.Entry} {time : Int} (hk : k.right = true) (hs : 0 ≤ server ∧ server ≤ 19) (hl : l.length ≤ 1073741824) (ht : 0 ≤ time ∧ time ≤ 1099511627776) :
  mkHead k server l time = ⟨server, l.length, rootE l, time, sign k (coreH ⟨server, l.length, rootE l, time, sig0⟩)⟩ ∧ rightH (mkHead k server l time) = true ∧ verifyH k.pub (mkHead k server l time) = true := by
 have h0 : rightH ⟨server, l.length, rootE l, time, sig0⟩ = true := rightH_iff.2 ⟨hs, by simp only; omega, ht, rootE_len l, rfl⟩
 have e : mkHead k server l time = ⟨server, l.length, rootE l, time, sign k (coreH ⟨server, l.length, rootE l, time, sig0⟩)⟩ := by
  unfold mkHead
  rw [if_pos hk]
  simp only
  rw [if_pos h0]
 rw [e]
 have h1 := right_sig h0 (sig_sigR k (coreH ⟨server, l.length, rootE l, time, sig0⟩))
 refine ⟨rfl, h1, ?_⟩
 unfold verifyH
 rw [show rightH ⟨server, l.length, rootE l, time, sign k (coreH ⟨server, l.length, rootE l, time, sig0⟩)⟩ = true from h1]
 exact verify_sign hk _
theorem mkHead_verify {k : Key} {server : Int} {l : List It.Entry} {time : Int} (h : rightH (mkHead k server l time) = true) : k.right = true ∧ (0 ≤ server ∧ server ≤ 19) ∧ l.length ≤ 1073741824 ∧ (0 ≤ time ∧ time ≤ 1099511627776) := by
 unfold mkHead at h
 split at h
 ·rename_i hk
  simp only at h
  split at h
  ·rename_i hr
   obtain ⟨h1, h2, h3, _⟩ := rightH_iff.1 hr
   simp only at h1 h2 h3
   exact ⟨hk, h1, by omega, h3⟩
  ·exact absurd h (by decide)
 ·exact absurd h (by decide)
def times : List It.Entry → Bool
 | a :: b :: r => decide (a.time ≤ b.time) && times (b :: r)
 | _ => true
theorem times_iff : ∀ {l : List It.Entry}, times l = true ↔ ∀ j (h : j + 1 < l.length), l[j].time ≤ l[j + 1].time
 | [] => by simp [times]
 | [a] => by simp [times]
 | a :: b :: r => by
  rw [times, Bool.and_eq_true, decide_eq_true_eq, times_iff (l := b :: r)]
  constructor
  ·rintro ⟨h1, h2⟩ j h
   cases j with
   | zero => exact h1
   | succ j => exact h2 j (by simpa using h)
  ·intro h
   exact ⟨h 0 (by simp), fun j hj => h (j + 1) (by simpa using hj)⟩
theorem times_take {l : List It.Entry} (h : times l = true) (n : Nat) : times (l.take n) = true := by
 rw [times_iff] at h ⊢
 intro j hj
 rw [List.length_take] at hj
 rw [List.getElem_take, List.getElem_take]
 exact h j (by omega)
structure Mirror where
 server : Int
 entries : List It.Entry
 heads : List Head
 deriving DecidableEq
structure Batch where
 head : Head
 frm : Int
 entries : List It.Entry
 deriving DecidableEq
def mirror0 : Mirror := ⟨0, [], []⟩
def batch0 : Batch := ⟨head0, 0, []⟩
def make (l : List It.Entry) (h : Head) (frm most : Int) : Batch × Bool :=
 if l.length < h.size ∨ frm < 0 ∨ h.size ≤ frm then (batch0, false)
 else if 64 < h.size - frm ∨ most < h.size - frm then (batch0, false)
 else (⟨h, frm, (l.take h.size.toNat).drop frm.toNat⟩, true)
def formed (b : Batch) : Bool := rightH b.head && decide (1 ≤ b.entries.length) && decide (b.entries.length ≤ 64) && decide (0 ≤ b.frm) && decide (b.frm = b.head.size - b.entries.length)
def sound (ps : List Int) (e : It.Entry) : Bool := decide (entryB e ≠ []) && signed ps e.item
def clash : List It.Entry → List It.Entry → Bool
 | a :: l, b :: m => decide (a ≠ b) || clash l m
 | _, _ => false
def logOf (m : Mirror) (b : Batch) : List It.Entry := m.entries.take b.frm.toNat ++ b.entries
def take (ps : List Int) (m : Mirror) (b : Batch) : Mirror × Int :=
 if m.server < 0 ∨ ps.length ≤ m.server ∨ formed b = false ∨ b.head.server ≠ m.server then (mirror0, 1)
 else if verifyH (ps.getD m.server.toNat 0) b.head = false then (mirror0, 3)
 else if m.entries.length < b.frm then (mirror0, 12)
 else if clash (m.entries.drop b.frm.toNat) b.entries = true then (mirror0, 5)
 else if rootE (logOf m b) ≠ b.head.root then (mirror0, 17)
 else if times (logOf m b) = false then (mirror0, 2)
 else if b.entries.all (sound ps) = false then (mirror0, 2)
 else if b.head.size ≤ m.entries.length then (m, 0)
 else (⟨m.server, logOf m b, m.heads ++ [b.head]⟩, 0)
def headsOk (p : Int) (m : Mirror) : Int → List Head → Bool
 | last, [] => decide (last = m.entries.length)
 | last, h :: hs => decide (h.server = m.server) && verifyH p h && decide (last < h.size) && decide (h.size ≤ m.entries.length) && decide (h.root = rootE (m.entries.take h.size.toNat)) && headsOk p m h.size hs
def rightM (ps : List Int) (m : Mirror) : Bool :=
 decide (0 ≤ m.server) && decide (m.server < ps.length) && times m.entries && m.entries.all (sound ps) && headsOk (ps.getD m.server.toNat 0) m 0 m.heads
theorem clash_iff : ∀ {l m : List It.Entry}, clash l m = false ↔ ∀ j (h1 : j < l.length) (h2 : j < m.length), l[j] = m[j]
 | [], m => by simp [clash]
 | a :: l, [] => by simp [clash]
 | a :: l, b :: m => by
  rw [clash, Bool.or_eq_false_iff, decide_eq_false_iff_not, Decidable.not_not, clash_iff (l := l) (m := m)]
  constructor
  ·rintro ⟨h1, h2⟩ j hj1 hj2
   cases j with
   | zero => exact h1
   | succ j => exact h2 j (by simpa using hj1) (by simpa using hj2)
  ·intro h
   exact ⟨h 0 (by simp) (by simp), fun j h1 h2 => h (j + 1) (by simpa using h1) (by simpa using h2)⟩
end Go.Proofs.YthbpbkbjdfcnjaaGreatDoor.Sl
namespace Go.Proofs.YthbpbkbjdfcnjaaGreatDoor.Sl
open Go Co Sg Ac It
structure Honest (ps : List Int) (l : List It.Entry) : Prop where
 times : times l = true
 sound : l.all (sound ps) = true
theorem Honest.take {ps : List Int} {l : List It.Entry} (h : Honest ps l) (n : Nat) : Honest ps (l.take n) :=
 ⟨times_take h.times n, List.all_eq_true.2 fun x hx => List.all_eq_true.1 h.sound x (List.mem_of_mem_take hx)⟩
theorem sound_iff {ps : List Int} {e : It.Entry} : sound ps e = true ↔ isTime e.time = true ∧ right e.item = true ∧ signed ps e.item = true := by
 unfold sound
 rw [Bool.and_eq_true, decide_eq_true_eq, entryB_ne, and_assoc]
theorem Honest.time {ps : List Int} {l : List It.Entry} (h : Honest ps l) {j : Nat} (hj : j < l.length) : 0 ≤ l[j].time ∧ l[j].time ≤ 1099511627776 :=
 wi_iff.1 (sound_iff.1 (List.all_eq_true.1 h.sound _ (List.getElem_mem hj))).1
def lastTime (l : List It.Entry) (t : Nat) : Int := (l.getD (t - 1) entry0).time
def batchOf (k : Key) (server : Int) (l : List It.Entry) (frm to : Int) : Batch × Bool :=
 if to < 1 ∨ l.length < to then (batch0, false)
 else make l (mkHead k server (l.take to.toNat) (lastTime l to.toNat)) frm 64
structure Good (ps : List Int) (server : Int) (k : Key) (l : List It.Entry) : Prop where
 s0 : 0 ≤ server
 s1 : server < ps.length
 s2 : ps.length ≤ 20
 key : ps.getD server.toNat 0 = k.pub
 right : k.right = true
 honest : Honest ps l
 len : l.length ≤ 80
def headTo (k : Key) (server : Int) (l : List It.Entry) (t : Nat) : Head := mkHead k server (l.take t) (lastTime l t)
theorem headTo_ok {ps : List Int} {server : Int} {k : Key} {l : List It.Entry} (g : Good ps server k l) {t : Nat} (h1 : 1 ≤ t) (h2 : t ≤ l.length) :
  (headTo k server l t).server = server ∧ (headTo k server l t).size = t ∧ (headTo k server l t).root = rootE (l.take t) ∧ rightH (headTo k server l t) = true ∧ verifyH k.pub (headTo k server l t) = true := by
 have hl := g.len
 have s0 := g.s0
 have s1 := g.s1
 have s2 := g.s2
 have ht : 0 ≤ lastTime l t ∧ lastTime l t ≤ 1099511627776 := by
  unfold lastTime
  rw [List.getD_eq_getElem?_getD, List.getElem?_eq_getElem (show t - 1 < l.length by omega)]
  exact g.honest.time (by omega)
 obtain ⟨e, h3, h4⟩ := mkHead_right (k := k) (server := server) (l := l.take t) (time := lastTime l t) g.right ⟨s0, by omega⟩ (by rw [List.length_take]; omega) ht
 have e' : headTo k server l t = _ := e
 refine ⟨by rw [e'], ?_, by rw [e'], h3, h4⟩
 rw [e']
 show ((l.take t).length : Int) = t
 rw [List.length_take, Nat.min_eq_left h2]
theorem batchOf_eq {ps : List Int} {server : Int} {k : Key} {l : List It.Entry} (g : Good ps server k l) (frm to : Int) :
  batchOf k server l frm to = if 1 ≤ to ∧ to ≤ l.length ∧ 0 ≤ frm ∧ frm < to ∧ to - frm ≤ 64 then (⟨headTo k server l to.toNat, frm, (l.take to.toNat).drop frm.toNat⟩, true) else (batch0, false) := by
 unfold batchOf
 by_cases h0 : to < 1 ∨ l.length < to
 ·rw [if_pos h0, if_neg (by omega)]
 rw [if_neg h0]
 obtain ⟨_, h2, _⟩ := headTo_ok g (t := to.toNat) (by omega) (by omega)
 change make l (headTo k server l to.toNat) frm 64 = _
 unfold make
 rw [h2]
 by_cases h1 : 0 ≤ frm ∧ frm < to
 ·rw [if_neg (by omega)]
  by_cases h3 : to - frm ≤ 64
  ·rw [if_neg (by omega), if_pos (by omega)]
   congr 3
  ·rw [if_pos (by omega), if_neg (by omega)]
 ·rw [if_pos (by omega), if_neg (by omega)]
theorem rootE_nil_ne : True := trivial
theorem take_good {ps : List Int} {server : Int} {k : Key} {l : List It.Entry} (g : Good ps server k l) (m : Mirror) (hm : m.server = server) {frm t : Nat} (h1 : frm < t) (h2 : t ≤ l.length) (h3 : t - frm ≤ 64) :
  take ps m ⟨headTo k server l t, frm, (l.take t).drop frm⟩ =
   if m.entries.length < frm then (mirror0, 12)
   else if clash (m.entries.drop frm) ((l.take t).drop frm) = true then (mirror0, 5)
   else if rootE (m.entries.take frm ++ (l.take t).drop frm) ≠ rootE (l.take t) then (mirror0, 17)
   else if times (m.entries.take frm ++ (l.take t).drop frm) = false then (mirror0, 2)
   else if t ≤ m.entries.length then (m, 0)
   else (⟨server, m.entries.take frm ++ (l.take t).drop frm, m.heads ++ [headTo k server l t]⟩, 0) := by
 obtain ⟨e1, e2, e3, e4, e5⟩ := headTo_ok g (t := t) (by omega) h2
 have s0 := g.s0
 have s1 := g.s1
 have hlen : ((l.take t).drop frm).length = t - frm := by rw [List.length_drop, List.length_take]; omega
 have hf : formed ⟨headTo k server l t, frm, (l.take t).drop frm⟩ = true := by
  unfold formed
  simp only [e4, e2, hlen, Bool.true_and, Bool.and_eq_true, decide_eq_true_eq]
  omega
 have hall : ((l.take t).drop frm).all (sound ps) = true := List.all_eq_true.2 fun x hx => List.all_eq_true.1 g.honest.sound x (List.mem_of_mem_take (List.mem_of_mem_drop hx))
 unfold take logOf
 simp only [hf, hall, e1, e2, e3, hm, g.key, e5, Int.toNat_natCast, Int.ofNat_lt, Int.ofNat_le]
 rw [if_neg (by simp; omega), if_neg (by simp)]
 simp only [Bool.true_eq_false, if_false]
theorem pre_split (l : List It.Entry) {n frm t : Nat} (h : frm ≤ n) (hn : n ≤ l.length) (ht : frm ≤ t) : (l.take n).take frm ++ (l.take t).drop frm = l.take t := by
 rw [List.take_take, Nat.min_eq_left h]
 have h1 : l.take frm = (l.take t).take frm := by rw [List.take_take, Nat.min_eq_left ht]
 rw [h1, List.take_append_drop]
theorem no_clash (l : List It.Entry) (n frm t : Nat) : clash ((l.take n).drop frm) ((l.take t).drop frm) = false := by
 rw [clash_iff]
 intro j h1 h2
 simp only [List.getElem_drop, List.getElem_take]
theorem take_own {ps : List Int} {server : Int} {k : Key} {l : List It.Entry} (g : Good ps server k l) (m : Mirror) (hm : m.server = server) {n : Nat} (hn : n ≤ l.length) (he : m.entries = l.take n) {frm t : Nat} (h1 : frm < t) (h2 : t ≤ l.length) (h3 : t - frm ≤ 64) :
  take ps m ⟨headTo k server l t, frm, (l.take t).drop frm⟩ =
   if n < frm then (mirror0, 12) else if t ≤ n then (m, 0) else (⟨server, l.take t, m.heads ++ [headTo k server l t]⟩, 0) := by
 have hl : m.entries.length = n := by rw [he, List.length_take, Nat.min_eq_left hn]
 rw [take_good g m hm h1 h2 h3, hl]
 by_cases hg : n < frm
 ·rw [if_pos hg, if_pos hg]
 rw [if_neg hg, if_neg hg, he, no_clash, if_neg (by simp), pre_split l (by omega) hn (by omega), if_neg (by simp), times_take g.honest.times, if_neg (by simp)]
theorem headsOk_snoc {p : Int} {l : List It.Entry} {m m' : Mirror} {n t : Nat} {h : Head} (hs : m'.server = m.server) (he : m.entries = l.take n) (he' : m'.entries = l.take t) (hnt : n < t) (ht : t ≤ l.length)
  (h1 : h.server = m.server) (h2 : verifyH p h = true) (h3 : h.size = t) (h4 : h.root = rootE (l.take t)) :
  ∀ (hds : List Head) (last : Int), 0 ≤ last → headsOk p m last hds = true → headsOk p m' last (hds ++ [h]) = true
 | [], last, h0, hk => by
  simp only [headsOk, decide_eq_true_eq, he, List.length_take] at hk
  simp only [List.nil_append, headsOk, hs, h1, h2, h3, he', List.length_take, List.take_take, Int.toNat_natCast, Nat.min_self, h4, decide_true, Bool.true_and, Bool.and_true, Bool.and_eq_true, decide_eq_true_eq]
  omega
 | x :: hds, last, h0, hk => by
  simp only [headsOk, Bool.and_eq_true, decide_eq_true_eq] at hk
  obtain ⟨⟨⟨⟨⟨k1, k2⟩, k3⟩, k4⟩, k5⟩, k6⟩ := hk
  have k4' := k4
  rw [he, List.length_take] at k4'
  have hr := headsOk_snoc hs he he' hnt ht h1 h2 h3 h4 hds x.size (by omega) k6
  have hrt : x.root = rootE (m'.entries.take x.size.toNat) := by
   rw [k5, he, he', List.take_take, List.take_take, Nat.min_eq_left (by omega), Nat.min_eq_left (by omega)]
  simp only [List.cons_append, headsOk, Bool.and_eq_true, decide_eq_true_eq]
  refine ⟨⟨⟨⟨⟨k1.trans hs.symm, k2⟩, k3⟩, ?_⟩, hrt⟩, hr⟩
  rw [he', List.length_take]
  omega
structure Mir (ps : List Int) (server : Int) (l : List It.Entry) (m : Mirror) (n : Nat) : Prop where
 server : m.server = server
 le : n ≤ l.length
 entries : m.entries = l.take n
 right : rightM ps m = true
theorem Mir.len {ps : List Int} {server : Int} {l : List It.Entry} {m : Mirror} {n : Nat} (h : Mir ps server l m n) : m.entries.length = n := by
 rw [h.entries, List.length_take, Nat.min_eq_left h.le]
theorem mir_new {ps : List Int} {server : Int} {k : Key} {l : List It.Entry} (g : Good ps server k l) : Mir ps server l ⟨server, [], []⟩ 0 := by
 refine ⟨rfl, Nat.zero_le _, by simp, ?_⟩
 have s0 := g.s0
 have s1 := g.s1
 simp only [rightM, times, headsOk, List.all_nil, Bool.and_true, Bool.and_eq_true, decide_eq_true_eq]
 exact ⟨⟨s0, s1⟩, rfl⟩
theorem mir_next {ps : List Int} {server : Int} {k : Key} {l : List It.Entry} (g : Good ps server k l) {m : Mirror} {n : Nat} (h : Mir ps server l m n) {t : Nat} (hn : n < t) (h2 : t ≤ l.length) : Mir ps server l ⟨server, l.take t, m.heads ++ [headTo k server l t]⟩ t := by
 obtain ⟨e1, e2, e3, e4, e5⟩ := headTo_ok g (t := t) (by omega) h2
 refine ⟨rfl, h2, rfl, ?_⟩
 have hr := h.right
 simp only [rightM, Bool.and_eq_true, decide_eq_true_eq] at hr
 obtain ⟨⟨⟨⟨r1, r2⟩, r3⟩, r4⟩, r5⟩ := hr
 rw [h.server] at r1 r2 r5
 simp only [rightM, Bool.and_eq_true, decide_eq_true_eq]
 refine ⟨⟨⟨⟨r1, r2⟩, times_take g.honest.times t⟩, List.all_eq_true.2 fun x hx => List.all_eq_true.1 g.honest.sound x (List.mem_of_mem_take hx)⟩, ?_⟩
 refine headsOk_snoc (m := m) (l := l) (n := n) (t := t) h.server.symm h.entries rfl hn h2 (by rw [e1, h.server]) ?_ e2 e3 m.heads 0 (by omega) r5
 rw [g.key]
 exact e5
end Go.Proofs.YthbpbkbjdfcnjaaGreatDoor.Sl
