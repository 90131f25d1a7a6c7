/- Several texts in one, without what this claim does not use (tools/shake.py). -/
import Derived.Test.YtaphpbiaoofmkaaGreatDoorKj11
import Derived.Shelf.SlIterI.Nil
import Derived.Shelf.SortM.Plain
import Derived.Shelf.SortM.SortNone
import Derived.Ground.GgzProg
import Derived.Ground.SlgmProg
import Derived.Shelf.SlGeneric
import Derived.Test.YtaphpbiaoofmkaaGreatDoorProg
set_option linter.unusedSectionVars false
set_option linter.unusedVariables false
set_option linter.unusedSimpArgs false
section
namespace Go.Proofs.YtaphpbiaoofmkaaGreatDoor.Mk
open Go Sm
theorem flw_path : ∀ (k : Nat) (l : List By) (i : Nat) (x : By), i < l.length → l[i]? = some x → l.length ≤ k → flw (path l i).reverse i l.length x = (rt l, true) := by
 intro k
 induction k with
 | zero => intro l i x hi hx h; omega
 | succ k ih =>
  intro l i x hi hx h
  by_cases h1 : l.length = 1
  ·obtain ⟨a, rfl⟩ := List.length_eq_one_iff.1 h1
   have : i = 0 := by simp at hi; omega
   subst this
   rw [path_one (by simp), rt_one (by simp)]
   simp at hx
   subst hx
   simp [flw]
  ·have h2 : 2 ≤ l.length := by omega
   have h3 := sp_lt h2
   have h4 := sp_pos l.length
   have ht : (l.take (sp l.length)).length = sp l.length := by simp; omega
   have hd : (l.drop (sp l.length)).length = l.length - sp l.length := List.length_drop
   rw [path_two h2, rt_two h2]
   by_cases hs : i < sp l.length
   ·rw [if_pos hs, List.reverse_append, List.reverse_singleton, List.singleton_append]
    have := ih (l.take (sp l.length)) i x (by omega) (by rw [List.getElem?_take_of_lt hs]; exact hx) (by omega)
    rw [ht] at this
    simp only [flw]
    rw [if_neg h1, if_pos hs, this]
   ·rw [if_neg hs, List.reverse_append, List.reverse_singleton, List.singleton_append]
    have := ih (l.drop (sp l.length)) (i - sp l.length) x (by omega) (by rw [List.getElem?_drop, show sp l.length + (i - sp l.length) = i from by omega]; exact hx) (by omega)
    rw [hd] at this
    simp only [flw]
    rw [if_neg h1, if_neg hs]
    rw [this]
abbrev Dig (l : List By) : Prop := ∀ x ∈ l, x.length = 32
theorem sha_len' (l : By) : (sha l).length = 32 := by simp [sha, S8.list, be4]
theorem rt_dig {l : List By} (h0 : 0 < l.length) (h : Dig l) : (rt l).length = 32 := by
 by_cases h2 : 2 ≤ l.length
 ·rw [rt_two h2]; exact sha_len' _
 ·obtain ⟨a, rfl⟩ := List.length_eq_one_iff.1 (by omega : l.length = 1)
  rw [rt_one (by simp)]; exact h a (by simp)
theorem Dig.take {l : List By} (h : Dig l) (k : Nat) : Dig (l.take k) := fun x hx => h x (List.mem_of_mem_take hx)
theorem Dig.drop {l : List By} (h : Dig l) (k : Nat) : Dig (l.drop k) := fun x hx => h x (List.mem_of_mem_drop hx)
theorem Dig.snoc {l : List By} {x : By} (h : Dig l) (hx : x.length = 32) : Dig (l ++ [x]) := by
 intro y hy
 rcases List.mem_append.1 hy with hy | hy
 ·exact h y hy
 ·rw [List.mem_singleton.1 hy]; exact hx
theorem path_dig : ∀ (k : Nat) (l : List By) (i : Nat), l.length ≤ k → Dig l → Dig (path l i) := by
 intro k
 induction k with
 | zero => intro l i h hd; rw [path_one (by omega)]; intro x hx; simp at hx
 | succ k ih =>
  intro l i h hd
  by_cases h2 : 2 ≤ l.length
  ·have h3 := sp_lt h2
   have h4 := sp_pos l.length
   rw [path_two h2]
   split
   ·exact (ih _ i (by simp; omega) (hd.take _)).snoc (rt_dig (by simp; omega) (hd.drop _))
   ·exact (ih _ _ (by simp; omega) (hd.drop _)).snoc (rt_dig (by simp; omega) (hd.take _))
  ·rw [path_one (by omega)]; intro x hx; simp at hx
def Clash (l : List By) : Prop := ∃ x y, x ∈ l ∧ y ∈ l ∧ x ≠ y ∧ sha x = sha y
theorem Clash.mono {l l' : List By} (h : Clash l) (hs : ∀ x, x ∈ l → x ∈ l') : Clash l' := by
 obtain ⟨x, y, h1, h2, h3, h4⟩ := h
 exact ⟨x, y, hs x h1, hs y h2, h3, h4⟩
theorem pre_inj {a b c d : By} (h : pre a b = pre c d) (hl : a.length = c.length) : a = c ∧ b = d := by
 unfold pre at h
 exact List.append_inj (List.cons.inj h).2 hl
theorem node_eq {a b c d : By} {L : List By} (h : node a b = node c d) (hl : a.length = c.length) (h1 : pre a b ∈ L) (h2 : pre c d ∈ L) : (a = c ∧ b = d) ∨ Clash L := by
 by_cases he : pre a b = pre c d
 ·exact .inl (pre_inj he hl)
 ·exact .inr ⟨_, _, h1, h2, he, h⟩
theorem climb_flw : ∀ (p : List By) (i n : Nat) (x : By), (flw p i n x).2 = true → (climb p i n x).2.2 = true ∧ (climb p i n x).1 = (flw p i n x).1
 | [], i, n, x, h => by
  simp only [flw, climb] at h ⊢
  split at h
  ·rename_i hn; rw [if_pos hn, if_pos hn]; exact ⟨rfl, rfl⟩
  ·cases h
 | q :: r, i, n, x, h => by
  simp only [flw] at h
  simp only [flw, climb]
  by_cases hn : n = 1
  ·rw [if_pos hn] at h; cases h
  ·rw [if_neg hn] at h
   by_cases hi : i < sp n
   ·rw [if_pos hi] at h
    obtain ⟨h1, h2⟩ := climb_flw r i (sp n) x h
    rw [if_neg hn, if_neg hn, if_pos hi, if_pos hi, if_pos h1]
    exact ⟨rfl, by rw [h2]⟩
   ·rw [if_neg hi] at h
    obtain ⟨h1, h2⟩ := climb_flw r (i - sp n) (n - sp n) x h
    rw [if_neg hn, if_neg hn, if_neg hi, if_neg hi, if_pos h1]
    exact ⟨rfl, by rw [h2]⟩
theorem flw_dig : ∀ (p : List By) (i n : Nat) (x : By), x.length = 32 → (flw p i n x).2 = true → (flw p i n x).1.length = 32
 | [], i, n, x, hx, h => by
  simp only [flw] at h ⊢
  split at h
  ·rename_i hn; rw [if_pos hn]; exact hx
  ·cases h
 | q :: r, i, n, x, hx, h => by
  simp only [flw]
  split
  ·exact hx
  ·split
   ·exact sha_len' _
   ·exact sha_len' _
abbrev ins (p : List By) (i n : Nat) (x : By) : List By := (climb p i n x).2.1
theorem ins_left {q : By} {r : List By} {i n : Nat} {x : By} (hn : n ≠ 1) (hi : i < sp n) (h : (flw r i (sp n) x).2 = true) : ins (q :: r) i n x = ins r i (sp n) x ++ [pre (flw r i (sp n) x).1 q] := by
 obtain ⟨h1, h2⟩ := climb_flw r i (sp n) x h
 simp only [ins, climb]
 rw [if_neg hn, if_pos hi, if_pos h1, h2]
theorem ins_right {q : By} {r : List By} {i n : Nat} {x : By} (hn : n ≠ 1) (hi : ¬ i < sp n) (h : (flw r (i - sp n) (n - sp n) x).2 = true) : ins (q :: r) i n x = ins r (i - sp n) (n - sp n) x ++ [pre q (flw r (i - sp n) (n - sp n) x).1] := by
 obtain ⟨h1, h2⟩ := climb_flw r (i - sp n) (n - sp n) x h
 simp only [ins, climb]
 rw [if_neg hn, if_neg hi, if_pos h1, h2]
theorem mem_inputs_two {l : List By} (h : 2 ≤ l.length) : pre (rt (l.take (sp l.length))) (rt (l.drop (sp l.length))) ∈ inputs l := by
 rw [inputs_two h]; simp
theorem inputs_left {l : List By} (h : 2 ≤ l.length) : ∀ z, z ∈ inputs (l.take (sp l.length)) → z ∈ inputs l := by
 intro z hz; rw [inputs_two h]; simp [hz]
theorem inputs_right {l : List By} (h : 2 ≤ l.length) : ∀ z, z ∈ inputs (l.drop (sp l.length)) → z ∈ inputs l := by
 intro z hz; rw [inputs_two h]; simp [hz]
theorem Clash.cat {a b c d : List By} (h : Clash (a ++ b)) (h1 : ∀ z, z ∈ a → z ∈ c) (h2 : ∀ z, z ∈ b → z ∈ d) : Clash (c ++ d) :=
 h.mono fun z hz => by
  rcases List.mem_append.1 hz with hz | hz
  ·exact List.mem_append_left _ (h1 z hz)
  ·exact List.mem_append_right _ (h2 z hz)
theorem binds (k : Nat) : ∀ (l : List By) (p : List By) (i : Nat) (x : By), l.length ≤ k → i < l.length → Dig l → Dig p → x.length = 32 → flw p i l.length x = (rt l, true) →
  (l[i]? = some x ∧ p.reverse = path l i) ∨ Clash (inputs l ++ ins p i l.length x) := by
 induction k with
 | zero => intro l p i x hk hi; omega
 | succ k ih =>
  intro l p i x hk hi hl hp hx h
  by_cases h1 : l.length = 1
  ·left
   obtain ⟨a, rfl⟩ := List.length_eq_one_iff.1 h1
   have : i = 0 := by simp at hi; omega
   subst this
   rw [path_one (by simp)]
   rw [rt_one (by simp)] at h
   cases p with
   | nil => simp only [flw, List.length_singleton, if_true, Prod.mk.injEq, and_true] at h; simp [h]
   | cons q r => simp [flw] at h
  have h2 : 2 ≤ l.length := by omega
  have h3 := sp_lt h2
  have h4 := sp_pos l.length
  have ht : (l.take (sp l.length)).length = sp l.length := by simp; omega
  have hd : (l.drop (sp l.length)).length = l.length - sp l.length := List.length_drop
  cases p with
  | nil => simp only [flw, if_neg h1, Prod.mk.injEq] at h; cases h.2
  | cons q r =>
   have hr : Dig r := fun z hz => hp z (by simp [hz])
   rw [rt_two h2] at h
   by_cases hi' : i < sp l.length
   ·simp only [flw, if_neg h1, if_pos hi', Prod.mk.injEq] at h
    rw [ins_left h1 hi' h.2]
    rcases node_eq (L := inputs l ++ (ins r i (sp l.length) x ++ [pre (flw r i (sp l.length) x).1 q])) h.1 (by rw [flw_dig r i _ x hx h.2, rt_dig (by omega) (hl.take _)]) (by simp) (List.mem_append_left _ (mem_inputs_two h2)) with ⟨e1, e2⟩ | hc
    ·have := ih (l.take (sp l.length)) r i x (by omega) (by omega) (hl.take _) hr hx (by rw [ht]; exact Prod.ext e1 h.2)
     rw [ht] at this
     rcases this with ⟨e3, e4⟩ | hc
     ·left
      rw [List.getElem?_take_of_lt hi'] at e3
      exact ⟨e3, by rw [path_two h2, if_pos hi', List.reverse_cons, e4, e2]⟩
     ·exact .inr (hc.cat (inputs_left h2) fun z hz => by simp [hz])
    ·exact .inr hc
   ·simp only [flw, if_neg h1, if_neg hi', Prod.mk.injEq] at h
    rw [ins_right h1 hi' h.2]
    rcases node_eq (L := inputs l ++ (ins r (i - sp l.length) (l.length - sp l.length) x ++ [pre q (flw r (i - sp l.length) (l.length - sp l.length) x).1])) h.1 (by rw [hp q (by simp), rt_dig (by omega) (hl.take _)]) (by simp) (List.mem_append_left _ (mem_inputs_two h2)) with ⟨e1, e2⟩ | hc
    ·have := ih (l.drop (sp l.length)) r (i - sp l.length) x (by omega) (by omega) (hl.drop _) hr hx (by rw [hd]; exact Prod.ext e2 h.2)
     rw [hd] at this
     rcases this with ⟨e3, e4⟩ | hc
     ·left
      rw [List.getElem?_drop, show sp l.length + (i - sp l.length) = i from by omega] at e3
      exact ⟨e3, by rw [path_two h2, if_neg hi', List.reverse_cons, e4, e1]⟩
     ·exact .inr (hc.cat (inputs_right h2) fun z hz => by simp [hz])
    ·exact .inr hc
end Go.Proofs.YtaphpbiaoofmkaaGreatDoor.Mk
end
section
namespace Go.Proofs.YtaphpbiaoofmkaaGreatDoor.Sl
open Go Co Sg Ac It
structure Head where
 server : Int
 size : Int
 root : By
 time : Int
 sig : Sig
 deriving DecidableEq
def head0 : Head := ⟨0, 0, [], 0, sig0⟩
def rightH (h : Head) : Bool := wi h.server 0 19 && wi h.size 0 1073741824 && wi h.time 0 1099511627776 && dig h.root && sigR h.sig
abbrev wHead : By := [104, 101, 97, 100]
def coreH (h : Head) : By := text wHead ++ numI h.server ++ numI h.size ++ text h.root ++ numI h.time
def verifyH (p : Int) (h : Head) : Bool := rightH h && verify p (coreH h) h.sig
def headB (h : Head) : By := if rightH h then coreH h ++ numI h.sig.e ++ numI h.sig.s else []
theorem rightH_iff {h : Head} : rightH h = true ↔ (0 ≤ h.server ∧ h.server ≤ 19) ∧ (0 ≤ h.size ∧ h.size ≤ 1073741824) ∧ (0 ≤ h.time ∧ h.time ≤ 1099511627776) ∧ h.root.length = 32 ∧ sigR h.sig = true := by
 simp only [rightH, Bool.and_eq_true, wi_iff, dig, decide_eq_true_eq, and_assoc]
def leafE (e : It.Entry) : By := Mk.leaf (entryB e)
def rootE (l : List It.Entry) : By := Mk.root (l.map leafE)
theorem leafE_len (e : It.Entry) : (leafE e).length = 32 := Mk.sha_len' _
theorem leaves_dig (l : List It.Entry) : Mk.Dig (l.map leafE) := fun x hx => by
 obtain ⟨e, _, rfl⟩ := List.mem_map.1 hx
 exact leafE_len e
theorem root_len {l : List By} (h : Mk.Dig l) : (Mk.root l).length = 32 := by
 unfold Mk.root
 split
 ·exact Mk.sha_len' _
 ·rename_i h0
  exact Mk.rt_dig (List.length_pos_iff.2 h0) h
theorem rootE_len (l : List It.Entry) : (rootE l).length = 32 := root_len (leaves_dig l)
def mkHead (k : Key) (server : Int) (l : List It.Entry) (time : Int) : Head :=
 if k.right then
  let h : Head := ⟨server, l.length, rootE l, time, sig0⟩
  if rightH h then { h with sig := sign k (coreH h) } else head0
 else head0
theorem sig_sigR (k : Key) (m : By) : sigR (sign k m) = true := by
 obtain ⟨h1, h2, h3, h4⟩ := sign_range k m
 simp only [sigR, wi, Bool.and_eq_true, decide_eq_true_eq]
 omega
theorem right_sig {h : Head} (hr : rightH h = true) {s : Sig} (hs : sigR s = true) : rightH { h with sig := s } = true := by
 obtain ⟨h1, h2, h3, h4, _⟩ := rightH_iff.1 hr
 exact rightH_iff.2 ⟨h1, h2, h3, h4, hs⟩
theorem mkHead_right {k : Key} {server : Int} {l : List It.Entry} {time : Int} (hk : k.right = true) (hs : 0 ≤ server ∧ server ≤ 19) (hl : l.length ≤ 1073741824) (ht : 0 ≤ time ∧ time ≤ 1099511627776) :
  mkHead k server l time = ⟨server, l.length, rootE l, time, sign k (coreH ⟨server, l.length, rootE l, time, sig0⟩)⟩ ∧ rightH (mkHead k server l time) = true ∧ verifyH k.pub (mkHead k server l time) = true := by
 have h0 : rightH ⟨server, l.length, rootE l, time, sig0⟩ = true := rightH_iff.2 ⟨hs, by simp only; omega, ht, rootE_len l, rfl⟩
 have e : mkHead k server l time = ⟨server, l.length, rootE l, time, sign k (coreH ⟨server, l.length, rootE l, time, sig0⟩)⟩ := by
  unfold mkHead
  rw [if_pos hk]
  simp only
  rw [if_pos h0]
 rw [e]
 have h1 := right_sig h0 (sig_sigR k (coreH ⟨server, l.length, rootE l, time, sig0⟩))
 refine ⟨rfl, h1, ?_⟩
 unfold verifyH
 rw [show rightH ⟨server, l.length, rootE l, time, sign k (coreH ⟨server, l.length, rootE l, time, sig0⟩)⟩ = true from h1]
 exact verify_sign hk _
def times : List It.Entry → Bool
 | a :: b :: r => decide (a.time ≤ b.time) && times (b :: r)
 | _ => true
theorem times_iff : ∀ {l : List It.Entry}, times l = true ↔ ∀ j (h : j + 1 < l.length), l[j].time ≤ l[j + 1].time
 | [] => by simp [times]
 | [a] => by simp [times]
 | a :: b :: r => by
  rw [times, Bool.and_eq_true, decide_eq_true_eq, times_iff (l := b :: r)]
  constructor
  ·rintro ⟨h1, h2⟩ j h
   cases j with
   | zero => exact h1
   | succ j => exact h2 j (by simpa using h)
  ·intro h
   exact ⟨h 0 (by simp), fun j hj => h (j + 1) (by simpa using hj)⟩
theorem times_take {l : List It.Entry} (h : times l = true) (n : Nat) : times (l.take n) = true := by
 rw [times_iff] at h ⊢
 intro j hj
 rw [List.length_take] at hj
 rw [List.getElem_take, List.getElem_take]
 exact h j (by omega)
structure Mirror where
 server : Int
 entries : List It.Entry
 heads : List Head
 deriving DecidableEq
structure Batch where
 head : Head
 frm : Int
 entries : List It.Entry
 deriving DecidableEq
def mirror0 : Mirror := ⟨0, [], []⟩
def formed (b : Batch) : Bool := rightH b.head && decide (1 ≤ b.entries.length) && decide (b.entries.length ≤ 64) && decide (0 ≤ b.frm) && decide (b.frm = b.head.size - b.entries.length)
def sound (ps : List Int) (e : It.Entry) : Bool := decide (entryB e ≠ []) && signed ps e.item
def clash : List It.Entry → List It.Entry → Bool
 | a :: l, b :: m => decide (a ≠ b) || clash l m
 | _, _ => false
def logOf (m : Mirror) (b : Batch) : List It.Entry := m.entries.take b.frm.toNat ++ b.entries
def take (ps : List Int) (m : Mirror) (b : Batch) : Mirror × Int :=
 if m.server < 0 ∨ ps.length ≤ m.server ∨ formed b = false ∨ b.head.server ≠ m.server then (mirror0, 1)
 else if verifyH (ps.getD m.server.toNat 0) b.head = false then (mirror0, 3)
 else if m.entries.length < b.frm then (mirror0, 12)
 else if clash (m.entries.drop b.frm.toNat) b.entries = true then (mirror0, 5)
 else if rootE (logOf m b) ≠ b.head.root then (mirror0, 17)
 else if times (logOf m b) = false then (mirror0, 2)
 else if b.entries.all (sound ps) = false then (mirror0, 2)
 else if b.head.size ≤ m.entries.length then (m, 0)
 else (⟨m.server, logOf m b, m.heads ++ [b.head]⟩, 0)
def headsOk (p : Int) (m : Mirror) : Int → List Head → Bool
 | last, [] => decide (last = m.entries.length)
 | last, h :: hs => decide (h.server = m.server) && verifyH p h && decide (last < h.size) && decide (h.size ≤ m.entries.length) && decide (h.root = rootE (m.entries.take h.size.toNat)) && headsOk p m h.size hs
def rightM (ps : List Int) (m : Mirror) : Bool :=
 decide (0 ≤ m.server) && decide (m.server < ps.length) && times m.entries && m.entries.all (sound ps) && headsOk (ps.getD m.server.toNat 0) m 0 m.heads
structure Honest (ps : List Int) (l : List It.Entry) : Prop where
 times : times l = true
 sound : l.all (sound ps) = true
theorem Honest.take {ps : List Int} {l : List It.Entry} (h : Honest ps l) (n : Nat) : Honest ps (l.take n) :=
 ⟨times_take h.times n, List.all_eq_true.2 fun x hx => List.all_eq_true.1 h.sound x (List.mem_of_mem_take hx)⟩
theorem sound_iff {ps : List Int} {e : It.Entry} : sound ps e = true ↔ isTime e.time = true ∧ right e.item = true ∧ signed ps e.item = true := by
 unfold sound
 rw [Bool.and_eq_true, decide_eq_true_eq, entryB_ne, and_assoc]
theorem Honest.time {ps : List Int} {l : List It.Entry} (h : Honest ps l) {j : Nat} (hj : j < l.length) : 0 ≤ l[j].time ∧ l[j].time ≤ 1099511627776 :=
 wi_iff.1 (sound_iff.1 (List.all_eq_true.1 h.sound _ (List.getElem_mem hj))).1
structure Good (ps : List Int) (server : Int) (k : Key) (l : List It.Entry) : Prop where
 s0 : 0 ≤ server
 s1 : server < ps.length
 s2 : ps.length ≤ 20
 key : ps.getD server.toNat 0 = k.pub
 right : k.right = true
 honest : Honest ps l
 len : l.length ≤ 80
structure Mir (ps : List Int) (server : Int) (l : List It.Entry) (m : Mirror) (n : Nat) : Prop where
 server : m.server = server
 le : n ≤ l.length
 entries : m.entries = l.take n
 right : rightM ps m = true
theorem Mir.len {ps : List Int} {server : Int} {l : List It.Entry} {m : Mirror} {n : Nat} (h : Mir ps server l m n) : m.entries.length = n := by
 rw [h.entries, List.length_take, Nat.min_eq_left h.le]
end Go.Proofs.YtaphpbiaoofmkaaGreatDoor.Sl
end
section
namespace Go.Proofs.YtaphpbiaoofmkaaGreatDoor.Pe
open Go Sm Mk
set_option maxRecDepth 100000
abbrev slf (l : List By) : AV := .sl .full (l.map .st)
theorem mkDigest_c (l : List UInt8) : AC Tryz.prog 258 [.st l] [] (.bo ((l.length : Int) == 32)) [] := by
 refine AC.enter [] [] Tryz.func258 rfl (by decide) (by decide) (Nat.le_of_ble_eq_true rfl) (by kernel_rfl) ?_; simp only [eraseC, eraseO, List.map_cons, List.map_nil, List.map_toArray, List.getElem?_toArray, List.getElem?_cons_zero, List.getElem?_cons_succ, Option.bind_some, Option.bind_none, List.append_eq, List.cons_append, List.nil_append]
 refine run ?_
 exact ends_ret0 (by rfl) (by rfl) (by rfl)
theorem areDigests_c (l : List By) (hl : l.length ≤ 1000000) : AC Tryz.prog 259 [sls l] [] (.bo (l.all fun s => (s.length : Int) == 32)) [] := by
 refine AC.enter [258] [] Tryz.func259 rfl (by decide) (by decide) (Nat.le_of_ble_eq_true rfl) (by kernel_rfl) ?_; simp only [eraseC, eraseO, List.map_cons, List.map_nil, List.map_toArray, List.getElem?_toArray, List.getElem?_cons_zero, List.getElem?_cons_succ, Option.bind_some, Option.bind_none, List.append_eq, List.cons_append, List.nil_append]
 refine run ?_
 refine loop_mk (fun m e S => S = [] ∧ e 5 = sls l ∧ e 6 = .it .i64 (l.length : Int) ∧ ∃ k, e 7 = .it .i64 ((k : Nat) : Int) ∧ k ≤ l.length ∧ (l.take k).all (fun s => (s.length : Int) == 32) = true ∧ m = l.length - k) l.length ⟨rfl, (by first | rfl | (simp only [↓upd_apply, ↓put_some, ↓reduceIte, Nat.reduceEqDiff, ↓argEnv_zero, ↓argEnv_succ, *]; done)), by simp [↓upd_apply], 0, (by first | rfl | (simp only [↓upd_apply, ↓put_some, ↓reduceIte, Nat.reduceEqDiff, ↓argEnv_zero, ↓argEnv_succ, *]; done)), by omega, rfl, rfl⟩ ?_
 rintro m e S ⟨rfl, h5, h6, k, h7, hk, hall, rfl⟩
 refine runf (an @h5 (an @h6 @h7)) ?_
 refine iteP_mk (fun hc => ?_) (fun hc => ?_)
 ·have hlt : k < l.length := by have := of_decide_eq_true hc; omega
  have hg : l[k]? = some l[k] := List.getElem?_eq_getElem hlt
  refine runf (an @h5 (an @h6 (an @h7 @hg))) ?_
  refine call_pure (mkDigest_c l[k]) (by rfl) (by rfl) (by rfl) ?_
  refine runf (an @h5 (an @h6 (an @h7 @hg))) ?_
  refine iteP_mk (fun hd => ?_) (fun hd => ?_)
  ·refine runf (an @h5 (an @h6 @h7)) ?_
   have : (l.all fun s => (s.length : Int) == 32) = false := by
    rw [List.all_eq_false]
    exact ⟨l[k], List.getElem_mem hlt, by simpa using hd⟩
   rw [this]
   exact ends_ret0 (by rfl) (by rfl) (by rfl)
  ·refine runf (an @h5 (an @h6 @h7)) ?_
   exact round_mk (l.length - (k + 1)) (by omega) ⟨rfl, (by first | rfl | (simp only [↓upd_apply, ↓put_some, ↓reduceIte, Nat.reduceEqDiff, ↓argEnv_zero, ↓argEnv_succ, *]; done)), (by first | rfl | (simp only [↓upd_apply, ↓put_some, ↓reduceIte, Nat.reduceEqDiff, ↓argEnv_zero, ↓argEnv_succ, *]; done)), k + 1, (by first | rfl | (simp only [↓upd_apply, ↓put_some, ↓reduceIte, Nat.reduceEqDiff, ↓argEnv_zero, ↓argEnv_succ, *]; done)), by omega, by rw [List.take_succ_eq_append_getElem hlt, List.all_append, hall]; simpa using hd, rfl⟩
 ·have hge : k = l.length := by have := of_decide_eq_false hc; omega
  refine runf (an @h5 (an @h6 @h7)) ?_
  subst hge
  rw [List.take_length] at hall
  rw [hall]
  exact ends_ret0 (by rfl) (by rfl) (by rfl)
theorem leaf_c (l : List UInt8) (h : l.length ≤ 1000000) : AC Tryz.prog 255 [.st l] [] (.st (leaf l)) [] := by
 refine AC.enter [145] [] Tryz.func255 rfl (by decide) (by decide) (Nat.le_of_ble_eq_true rfl) (by kernel_rfl) ?_; simp only [eraseC, eraseO, List.map_cons, List.map_nil, List.map_toArray, List.getElem?_toArray, List.getElem?_cons_zero, List.getElem?_cons_succ, Option.bind_some, Option.bind_none, List.append_eq, List.cons_append, List.nil_append]
 refine run ?_
 refine call_pure (sha_c (0 :: l) (by simp; omega)) (by rfl) (by rfl) (by rfl) ?_
 refine run ?_
 exact ends_ret0 (by rfl) (by rfl) (by rfl)
theorem node_c (l r : List UInt8) (h : l.length ≤ 1000000) (h' : r.length ≤ 1000000) : AC Tryz.prog 287 [.st l, .st r] [] (.st (node l r)) [] := by
 refine AC.enter [145] [] Tryz.func287 rfl (by decide) (by decide) (Nat.le_of_ble_eq_true rfl) (by kernel_rfl) ?_; simp only [eraseC, eraseO, List.map_cons, List.map_nil, List.map_toArray, List.getElem?_toArray, List.getElem?_cons_zero, List.getElem?_cons_succ, Option.bind_some, Option.bind_none, List.append_eq, List.cons_append, List.nil_append]
 refine run ?_
 refine call_pure (sha_c (1 :: (l ++ r)) (by simp; omega)) (by rfl) (by rfl) (by rfl) ?_
 refine run ?_
 exact ends_ret0 (by rfl) (by rfl) (by rfl)
theorem sp_pow {n : Nat} (h : 2 ≤ n) : 2 ^ (blen (n - 1) - 1) = sp n := by
 unfold blen sp
 rw [if_neg (by omega)]
 rfl
theorem split_c (n : Nat) (h : 2 ≤ n) (h' : n < 9223372036854775808) : AC Tryz.prog 288 [.it .i64 n] [] (.it .i64 (sp n)) [] := by
 refine AC.enter [268] [] Tryz.func288 rfl (by decide) (by decide) (Nat.le_of_ble_eq_true rfl) (by kernel_rfl) ?_; simp only [eraseC, eraseO, List.map_cons, List.map_nil, List.map_toArray, List.getElem?_toArray, List.getElem?_cons_zero, List.getElem?_cons_succ, Option.bind_some, Option.bind_none, List.append_eq, List.cons_append, List.nil_append]
 have hu : IntKind.u64.wrap ((n : Int) - 1) = ((n - 1 : Nat) : Int) := by
  rw [show (n : Int) - 1 = ((n - 1 : Nat) : Int) from by omega, wrap64n]
  simp; omega
 refine runf @hu ?_
 refine call_pure (len64_c (n - 1) (by omega)) (by rfl) (by rfl) (by rfl) ?_
 have hb := blen_le (n - 1)
 have hs : aShl .i64 1 ((blen (n - 1) : Int) - 1) = some (.it .i64 (sp n : Int)) := by
  have h1 := sp_lt h
  have h2 := sp_pow h
  have h3 : 0 < blen (n - 1) := by unfold blen; rw [if_neg (by omega)]; omega
  have h4 : blen (n - 1) ≤ 63 := by
   unfold blen
   rw [if_neg (by omega)]
   have := (Nat.log2_lt (n := n - 1) (k := 63) (by omega)).2 (by omega)
   omega
  unfold aShl
  rw [if_pos (by omega)]
  congr 2
  rw [show ((blen (n - 1) : Int) - 1).toNat = blen (n - 1) - 1 from by omega, show min (blen (n - 1) - 1) IntKind.i64.bits = blen (n - 1) - 1 from Nat.min_eq_left (by show _ ≤ 64; omega)]
  rw [show (1 : Int) * 2 ^ (blen (n - 1) - 1) = ((2 ^ (blen (n - 1) - 1) : Nat) : Int) from by push_cast; omega, h2]
  exact wrap64 (by omega) (by omega)
 refine runf @hs ?_
 exact ends_ret0 (by rfl) (by rfl) (by rfl)
theorem halves_c (l : List By) (h : 2 ≤ l.length) (h' : l.length ≤ 1000000) : AC Tryz.prog 257 [sls l] [] (.tup [slf (l.take (sp l.length)), slf (l.drop (sp l.length))]) [] := by
 refine AC.enter [288] [] Tryz.func257 rfl (by decide) (by decide) (Nat.le_of_ble_eq_true rfl) (by kernel_rfl) ?_; simp only [eraseC, eraseO, List.map_cons, List.map_nil, List.map_toArray, List.getElem?_toArray, List.getElem?_cons_zero, List.getElem?_cons_succ, Option.bind_some, Option.bind_none, List.append_eq, List.cons_append, List.nil_append]
 refine run ?_
 refine call_pure (split_c l.length h (by omega)) (by rfl) (by rfl) (by rfl) ?_
 have h1 := sp_lt h
 have h2 := sp_pos l.length
 refine run ?_
 refine ends_ret0 (by rfl) (by rfl) ?_
 simp only [resV, aRes, ↓upd_apply, ↓put_some, ↓reduceIte, Nat.reduceEqDiff, ↓argEnv_zero, ↓argEnv_succ, Option.map_some, List.take_length, List.drop_zero, AV.wk, AV.wk2, AV.wk1, List.map_cons, List.map_nil]
theorem sha_len (l : List UInt8) : (sha l).length = 32 := by
 simp [sha, S8.list, be4]
def box (f : FuncId) : SObj := .cells [.fn (.func f) [] [.ptr 0 0]]
theorem boxR {P : Program} {f g : FuncId} {l : List By} {s : By} (h : AC P f [sls l, .ptr 0 0] [box g] (.st s) [box g]) (R : Store) : AC P f [sls l, .ptr 0 0] ([box g] ++ R) (.st s) ([box g] ++ R) := AC.at1 (T := [box g] ++ R) h 0 rfl rfl rfl rfl rfl
theorem rt_len {l : List By} (h : ∀ x ∈ l, x.length ≤ 1000000) : (rt l).length ≤ 1000000 := by
 by_cases h2 : 2 ≤ l.length
 ·rw [rt_two h2, node, sha_len]; omega
 ·rw [rt_one (by omega)]
  cases l with
  | nil => simp
  | cons a l => exact h a (by simp)
theorem root1_c (k : Nat) : ∀ (l : List By), l.length ≤ k → 1 ≤ l.length → l.length ≤ 1000000 → (∀ x ∈ l, x.length ≤ 1000000) →
  AC Tryz.prog 286 [sls l, .ptr 0 0] [box 286] (.st (rt l)) [box 286] := by
 induction k with
 | zero => intro l h1 h2; omega
 | succ k ih =>
  intro l hk h1 hl hx
  refine AC.enter [257, 287] [1000017, 1000020] Tryz.func286 rfl (by decide) (by decide) (Nat.le_of_ble_eq_true rfl) (by kernel_rfl) ?_; simp only [eraseC, eraseO, List.map_cons, List.map_nil, List.map_toArray, List.getElem?_toArray, List.getElem?_cons_zero, List.getElem?_cons_succ, Option.bind_some, Option.bind_none, List.append_eq, List.cons_append, List.nil_append]
  refine run ?_
  refine iteP_mk (fun hc => ?_) (fun hc => ?_)
  ·have hc : l.length = 1 := by simp at hc; omega
   obtain ⟨a, rfl⟩ := List.length_eq_one_iff.1 hc
   refine run ?_
   exact ends_ret (κ := [0]) (by rfl) (subOk_one 0 (by rfl) (by rfl)) (by rfl) (by rfl) (by rfl)
  ·have hc : l.length ≠ 1 := by simp at hc; omega
   have h2 : 2 ≤ l.length := by omega
   have h3 := sp_lt h2
   have h4 := sp_pos l.length
   refine run ?_
   refine call_pure (halves_c l h2 hl) (by rfl) (by rfl) (by rfl) ?_
   refine runf @box.eq_1 ?_
   refine call_mk ⟨boxR (ih (l.take (sp l.length)) (by simp; omega) (by simp; omega) (by simp; omega) (fun x hx' => hx x (List.mem_of_mem_take hx'))), rfl⟩ ?_
   refine runf @box.eq_1 ?_
   refine call_mk ⟨boxR (ih (l.drop (sp l.length)) (by simp; omega) (by simp; omega) (by simp; omega) (fun x hx' => hx x (List.mem_of_mem_drop hx'))), rfl⟩ ?_
   refine runf @box.eq_1 ?_
   refine call_pure (node_c (rt (l.take (sp l.length))) (rt (l.drop (sp l.length))) (rt_len (fun x hx' => hx x (List.mem_of_mem_take hx'))) (rt_len (fun x hx' => hx x (List.mem_of_mem_drop hx')))) (by rfl) (by rfl) (by rfl) ?_
   refine runf @box.eq_1 ?_
   rw [rt_two h2]
   exact ends_ret (κ := [0]) (by rfl) (subOk_one 0 (by rfl) (by rfl)) (by rfl) (by rfl) (by rfl)
theorem root_c (l : List By) (hl : l.length ≤ 1000000) (hx : ∀ x ∈ l, x.length ≤ 1000000) : AC Tryz.prog 254 [sls l] [] (.st (root l)) [] := by
 refine AC.enter [145] [] Tryz.func254 rfl (by decide) (by decide) (Nat.le_of_ble_eq_true rfl) (by kernel_rfl) ?_; simp only [eraseC, eraseO, List.map_cons, List.map_nil, List.map_toArray, List.getElem?_toArray, List.getElem?_cons_zero, List.getElem?_cons_succ, Option.bind_some, Option.bind_none, List.append_eq, List.cons_append, List.nil_append]
 by_cases h0 : l.length = 0
 ·refine run ?_
  refine call_pure (sha_c [] (by simp)) (by rfl) (by rfl) (by rfl) ?_
  refine run ?_
  have : root l = sha [] := if_pos (List.eq_nil_of_length_eq_zero h0)
  rw [this]
  exact ends_ret0 (by rfl) (by rfl) (by rfl)
 ·refine run ?_
  refine call_mk (root1_c l.length l (Nat.le_refl _) (by omega) hl hx) ?_
  refine runf @box.eq_1 ?_
  have : root l = rt l := if_neg (fun e => h0 (by rw [e]; rfl))
  rw [this]
  exact ends_ret0 (by rfl) (by rfl) (by rfl)
theorem root_rt {l : List By} (h : 0 < l.length) : root l = rt l := if_neg (fun e => by rw [e] at h; simp at h)
theorem path_len : ∀ (k : Nat) (l : List By) (i : Nat), l.length ≤ k → (path l i).length ≤ k := by
 intro k
 induction k with
 | zero => intro l i h; rw [path_one (by omega)]; simp
 | succ k ih =>
  intro l i h
  by_cases h2 : 2 ≤ l.length
  ·have h3 := sp_lt h2
   have h4 := sp_pos l.length
   rw [path_two h2]
   split
   ·have := ih (l.take (sp l.length)) i (by simp; omega); simp; omega
   ·have := ih (l.drop (sp l.length)) (i - sp l.length) (by simp; omega); simp; omega
  ·rw [path_one (by omega)]; simp
theorem path1_c (k : Nat) : ∀ (l : List By) (i : Nat), l.length ≤ k → i < l.length → l.length ≤ 1000000 → (∀ x ∈ l, x.length ≤ 1000000) →
  AC Tryz.prog 256 [sls l, .it .i64 i, .ptr 0 0] [box 256] (.sl (.own 1) ((path l i).map .st)) [box 256, .buf (path l i).length 9 1] := by
 induction k with
 | zero => intro l i h1 h2; omega
 | succ k ih =>
  intro l i hk hi hl hx
  refine AC.enter [257, 254] [] Tryz.func256 rfl (by decide) (by decide) (Nat.le_of_ble_eq_true rfl) (by kernel_rfl) ?_; simp only [eraseC, eraseO, List.map_cons, List.map_nil, List.map_toArray, List.getElem?_toArray, List.getElem?_cons_zero, List.getElem?_cons_succ, Option.bind_some, Option.bind_none, List.append_eq, List.cons_append, List.nil_append]
  by_cases h1 : l.length = 1
  ·refine run ?_
   rw [path_one (by omega)]
   refine ends_retW _ _ (Weak.reserve _ 5 (es := []) (by rfl) 9 1) [0, 1] (by rfl) (subOk_two 0 1 (by decide) (by rfl) (by rfl) (by rfl) (by rfl)) (by rfl) (by rfl) (by rfl)
  ·have h2 : 2 ≤ l.length := by omega
   have h3 := sp_lt h2
   have h4 := sp_pos l.length
   refine run ?_
   refine call_pure (halves_c l h2 hl) (by rfl) (by rfl) (by rfl) ?_
   have ht : (List.take (sp l.length) l).length = sp l.length := by simp; omega
   have hxt : ∀ x ∈ l.take (sp l.length), x.length ≤ 1000000 := fun x hx' => hx x (List.mem_of_mem_take hx')
   have hxd : ∀ x ∈ l.drop (sp l.length), x.length ≤ 1000000 := fun x hx' => hx x (List.mem_of_mem_drop hx')
   by_cases hs : i < sp l.length
   ·have hp := path_len (l.take (sp l.length)).length (l.take (sp l.length)) i (Nat.le_refl _)
    have hr : root (l.drop (sp l.length)) = rt (l.drop (sp l.length)) := root_rt (by simp; omega)
    refine runf (an @box.eq_1 @ht) ?_
    refine call_mk (ih (l.take (sp l.length)) i (by simp; omega) (by simp; omega) (by simp; omega) hxt) ?_
    refine runf (an @box.eq_1 @ht) ?_
    refine call_pure (root_c (l.drop (sp l.length)) (by simp; omega) hxd) (by rfl) (by rfl) (by rfl) ?_
    rw [hr]
    refine runf (an @box.eq_1 @ht) ?_
    rw [path_two h2, if_pos hs]
    exact ends_ret (κ := [0, 1]) (by rfl) (subOk_two 0 1 (by decide) (by rfl) (by rfl) (by rfl) (by simp [SObj.ren])) (by rfl) (by rfl) (by simp [resV, AV.ren, AV.r2, AV.r1, AV.r0, Mode.ren, idx, ↓upd_apply])
   ·have hp := path_len (l.drop (sp l.length)).length (l.drop (sp l.length)) (i - sp l.length) (Nat.le_refl _)
    have hd : (l.drop (sp l.length)).length = l.length - sp l.length := List.length_drop
    have hr : root (l.take (sp l.length)) = rt (l.take (sp l.length)) := root_rt (by simp; omega)
    have hsub : ((i : Int) - (sp l.length : Int)) = ((i - sp l.length : Nat) : Int) := by omega
    refine runf (an @box.eq_1 (an @ht @hsub)) ?_
    refine call_mk (ih (l.drop (sp l.length)) (i - sp l.length) (by simp; omega) (by simp; omega) (by simp; omega) hxd) ?_
    refine runf (an @box.eq_1 @ht) ?_
    refine call_pure (root_c (l.take (sp l.length)) (by simp; omega) hxt) (by rfl) (by rfl) (by rfl) ?_
    rw [hr]
    refine runf (an @box.eq_1 @ht) ?_
    rw [path_two h2, if_neg hs]
    exact ends_ret (κ := [0, 1]) (by rfl) (subOk_two 0 1 (by decide) (by rfl) (by rfl) (by rfl) (by simp [SObj.ren])) (by rfl) (by rfl) (by simp [resV, AV.ren, AV.r2, AV.r1, AV.r0, Mode.ren, idx, ↓upd_apply])
theorem path_c (l : List By) (i : Nat) (hi : i < l.length) (hl : l.length ≤ 1000000) (hx : ∀ x ∈ l, x.length ≤ 1000000) :
  AC Tryz.prog 164 [sls l, .it .i64 i] [] (.tup [sls (path l i), .bo true]) [] := by
 refine AC.enter [] [] Tryz.func164 rfl (by decide) (by decide) (Nat.le_of_ble_eq_true rfl) (by kernel_rfl) ?_; simp only [eraseC, eraseO, List.map_cons, List.map_nil, List.map_toArray, List.getElem?_toArray, List.getElem?_cons_zero, List.getElem?_cons_succ, Option.bind_some, Option.bind_none, List.append_eq, List.cons_append, List.nil_append]
 refine run ?_
 refine call_mk (path1_c l.length l i (Nat.le_refl _) hi hl hx) ?_
 refine runf @box.eq_1 ?_
 exact ends_ret0w (by rfl) (by rfl) (by rfl)
theorem node_len (l r : By) : (node l r).length = 32 := sha_len _
theorem flw_len : ∀ (p : List By) (i n : Nat) (x : By), x.length ≤ 1000000 → (flw p i n x).1.length ≤ 1000000
 | [], i, n, x, h => by simp only [flw]; split <;> simp [h]
 | q :: r, i, n, x, h => by
  simp only [flw]; split
  ·exact h
  ·split
   ·rw [node_len]; omega
   ·rw [node_len]; omega
theorem rev_last (r : List By) (q : By) : (r.reverse ++ [q])[r.length]? = some q := by
 rw [List.getElem?_append_right (by simp)]; simp
theorem rev_take (r : List By) (q : By) : (r.reverse ++ [q]).take r.length = r.reverse := by
 rw [List.take_append_of_le_length (by simp), List.take_of_length_le (by simp)]
theorem follow_c (p : List By) : ∀ (i n : Nat) (x : By), i < n → n ≤ 9223372036854775807 → p.length ≤ 1000000 → x.length ≤ 1000000 → (∀ y ∈ p, y.length ≤ 1000000) →
  AC Tryz.prog 260 [.st x, .it .i64 i, .it .i64 n, sls p.reverse] [] (.tup [.st (flw p i n x).1, .bo (flw p i n x).2]) [] := by
 induction p with
 | nil =>
  intro i n x hi hn hp hx hall
  refine AC.enter [260, 288, 287] [] Tryz.func260 rfl (by decide) (by decide) (Nat.le_of_ble_eq_true rfl) (by kernel_rfl) ?_; simp only [eraseC, eraseO, List.map_cons, List.map_nil, List.map_toArray, List.getElem?_toArray, List.getElem?_cons_zero, List.getElem?_cons_succ, Option.bind_some, Option.bind_none, List.append_eq, List.cons_append, List.nil_append]
  by_cases h1 : n = 1
  ·subst h1
   have : List.reverse ([] : List By) = [] := rfl
   refine runf @this ?_
   exact ends_ret0 (by rfl) (by rfl) (by rfl)
  ·have : List.reverse ([] : List By) = [] := rfl
   refine runf @this ?_
   simp only [flw, if_neg h1]
   exact ends_ret0 (by rfl) (by rfl) (by rfl)
 | cons q r ih =>
  intro i n x hi hn hp hx hall
  refine AC.enter [260, 288, 287] [] Tryz.func260 rfl (by decide) (by decide) (Nat.le_of_ble_eq_true rfl) (by kernel_rfl) ?_; simp only [eraseC, eraseO, List.map_cons, List.map_nil, List.map_toArray, List.getElem?_toArray, List.getElem?_cons_zero, List.getElem?_cons_succ, Option.bind_some, Option.bind_none, List.append_eq, List.cons_append, List.nil_append]
  have hrev : List.reverse (q :: r) = r.reverse ++ [q] := by simp
  have hlr : r.reverse.length = r.length := List.length_reverse
  rw [hrev]
  have hp' : r.length + 1 ≤ 1000000 := hp
  by_cases h1 : n = 1
  ·subst h1
   refine runf @hlr ?_
   simp only [flw, if_pos rfl]
   have : decide (((r.length : Int) + 1) = 0) = false := by simp; omega
   exact ends_ret0 (by rfl) (by rfl) (by rfl)
  ·have hl := rev_last r q
   have el : ((r.length + 1 : Nat) : Int) - 1 = (r.length : Int) := by omega
   have ht := rev_take r q
   refine runf (an @hlr (an @el (an @hl @ht))) ?_
   refine call_pure (split_c n (by omega) (by omega)) (by rfl) (by rfl) (by rfl) ?_
   have h3 := sp_lt (n := n) (by omega)
   have h4 := sp_pos n
   by_cases hs : i < sp n
   ·refine runf (an @hlr (an @el (an @hl @ht))) ?_
    refine call_pure (ih i (sp n) x hs (by omega) (by omega) hx (fun y hy => hall y (by simp [hy]))) (by rfl) (by rfl) (by rfl) ?_
    refine runf (an @hlr (an @el (an @hl @ht))) ?_
    refine call_pure (node_c _ q (flw_len r i (sp n) x hx) (hall q (by simp))) (by rfl) (by rfl) (by rfl) ?_
    refine runf (an @hlr (an @el (an @hl @ht))) ?_
    simp only [flw, if_neg h1, if_pos hs]
    exact ends_ret0 (by rfl) (by rfl) (by rfl)
   ·have e1 : (i : Int) - (sp n : Int) = ((i - sp n : Nat) : Int) := by omega
    have e2 : (n : Int) - (sp n : Int) = ((n - sp n : Nat) : Int) := by omega
    refine runf (an @hlr (an @el (an @hl (an @ht (an @e1 @e2))))) ?_
    refine call_pure (ih (i - sp n) (n - sp n) x (by omega) (by omega) (by omega) hx (fun y hy => hall y (by simp [hy]))) (by rfl) (by rfl) (by rfl) ?_
    refine runf (an @hlr (an @el (an @hl @ht))) ?_
    refine call_pure (node_c q _ (hall q (by simp)) (flw_len r (i - sp n) (n - sp n) x hx)) (by rfl) (by rfl) (by rfl) ?_
    refine runf (an @hlr (an @el (an @hl @ht))) ?_
    simp only [flw, if_neg h1, if_neg hs]
    exact ends_ret0 (by rfl) (by rfl) (by rfl)
end Go.Proofs.YtaphpbiaoofmkaaGreatDoor.Pe
end
section
namespace Go.Proofs.YtaphpbiaoofmkaaGreatDoor.Pe
open Go Go.RowKit Co Sg Ac It Sl
set_option maxRecDepth 100000
set_option maxHeartbeats 4000000
abbrev headV (h : Head) : AV := .agg [.it .i64 h.server, .it .i64 h.size, .st h.root, .it .i64 h.time, .it .i64 h.sig.e, .it .i64 h.sig.s]
abbrev entriesV (l : List It.Entry) : AV := .sl .ro (l.map entryV)
theorem entryB_len (e : It.Entry) : (entryB e).length ≤ 200009 := by
 unfold entryB
 split
 ·rename_i h
  rw [Bool.and_eq_true] at h
  have h1 := wi_iff.1 h.1
  have := numI_le e.time (by omega)
  have := bytesIt_len6 e.item
  rw [List.length_append]
  omega
 ·exact Nat.zero_le _
theorem entries_sz (l : List It.Entry) : allSz 50 (l.map entryV) = true := allSz_map 50 entryV (fun _ => rfl) _
theorem sleaf_c (e : It.Entry) (h : Iz e.item) : AC Tryz.prog 163 [entryV e] [] (.st (leafE e)) [] := by
 refine AC.enter [45, 255] [] Tryz.func163 rfl (by decide) (by decide) (Nat.le_of_ble_eq_true rfl) (by kernel_rfl) ?_; simp only [eraseC, eraseO, List.map_cons, List.map_nil, List.map_toArray, List.getElem?_toArray, List.getElem?_cons_zero, List.getElem?_cons_succ, Option.bind_some, Option.bind_none, List.append_eq, List.cons_append, List.nil_append]
 have hl := entryB_len e
 have k1 := entryBytes_c e h
 have k2 := leaf_c (entryB e) (by omega)
 refine run ?_
 refine cp k1 ?_
 refine run ?_
 refine cp k2 ?_
 refine run ?_
 exact er0
theorem sroot_c (l : List It.Entry) (hl : l.length ≤ 1000000) (hz : ∀ e ∈ l, Iz e.item) : AC Tryz.prog 162 [entriesV l] [] (.st (rootE l)) [] := by
 refine AC.enter [163, 254] [] Tryz.func162 rfl (by decide) (by decide) (Nat.le_of_ble_eq_true rfl) (by kernel_rfl) ?_; simp only [eraseC, eraseO, List.map_cons, List.map_nil, List.map_toArray, List.getElem?_toArray, List.getElem?_cons_zero, List.getElem?_cons_succ, Option.bind_some, Option.bind_none, List.append_eq, List.cons_append, List.nil_append]
 have hsz := entries_sz l
 refine run ?_
 refine loop_mk (fun m e S => e 9 = entriesV l ∧ e 10 = .it .i64 (l.length : Int) ∧ ∃ (k : Nat) (acc : List By) (T : Store), e 11 = .it .i64 (k : Int) ∧ e 3 = .sl (.own 0) (acc.map .st) ∧ S = .buf acc.length 9 1 :: T ∧ acc = (l.take k).map leafE ∧ k ≤ l.length ∧ m = l.length - k) l.length
  ⟨(by first | rfl | (simp only [↓upd_apply, ↓put_some, ↓reduceIte, Nat.reduceEqDiff, ↓argEnv_zero, ↓argEnv_succ, *]; done)), (by first | rfl | (simp only [↓upd_apply, ↓put_some, ↓reduceIte, Nat.reduceEqDiff, ↓argEnv_zero, ↓argEnv_succ, *]; done)), 0, [], [], (by first | rfl | (simp only [↓upd_apply, ↓put_some, ↓reduceIte, Nat.reduceEqDiff, ↓argEnv_zero, ↓argEnv_succ, *]; done)), (by first | rfl | (simp only [↓upd_apply, ↓put_some, ↓reduceIte, Nat.reduceEqDiff, ↓argEnv_zero, ↓argEnv_succ, *]; done)), rfl, by simp, by omega, rfl⟩ ?_
 rintro m e S ⟨s9, s10, k, acc, T, s11, s3, rfl, hacc, hk, rfl⟩
 have hT1 : ∀ y : SObj, (T ++ [y])[T.length]? = some y := fun y => by simp
 have hT2 : ∀ y z : SObj, (T ++ [y]).set T.length z = T ++ [z] := fun y z => by simp
 have hal : acc.length = k := by rw [hacc, List.length_map, List.length_take, Nat.min_eq_left hk]
 by_cases hlt : k < l.length
 ·have hg : l[k]? = some l[k] := List.getElem?_eq_getElem hlt
  have hzk := hz l[k] (List.getElem_mem hlt)
  have hst : acc ++ [leafE l[k]] = (l.take (k + 1)).map leafE := by rw [List.take_succ_eq_append_getElem hlt, List.map_append, ← hacc]; rfl
  generalize l[k] = x at *
  have kx := sleaf_c x hzk
  refine runf (an @s9 (an @s10 (an @s11 (an @s3 (an @hg (an @hsz (an @hT1 @hT2))))))) ?_
  refine cp kx ?_
  refine runf (an @s9 (an @s10 (an @s11 @s3))) ?_
  exact round_mk (l.length - (k + 1)) (by omega) ⟨(by first | rfl | (simp only [↓upd_apply, ↓put_some, ↓reduceIte, Nat.reduceEqDiff, ↓argEnv_zero, ↓argEnv_succ, *]; done)), (by first | rfl | (simp only [↓upd_apply, ↓put_some, ↓reduceIte, Nat.reduceEqDiff, ↓argEnv_zero, ↓argEnv_succ, *]; done)), k + 1, acc ++ [leafE x], _, (by first | rfl | (simp only [↓upd_apply, ↓put_some, ↓reduceIte, Nat.reduceEqDiff, ↓argEnv_zero, ↓argEnv_succ, *]; done)), by rw [List.map_append]; exact (by first | rfl | (simp only [↓upd_apply, ↓put_some, ↓reduceIte, Nat.reduceEqDiff, ↓argEnv_zero, ↓argEnv_succ, *]; done)), by rw [List.length_append]; rfl, hst, by omega, rfl⟩
 ·obtain rfl : k = l.length := by omega
  rw [List.take_length] at hacc
  have kr := root_c acc (by omega) (fun x hx => by rw [hacc] at hx; rw [leaves_dig l x hx]; decide)
  rw [show rootE l = Mk.root acc from by rw [hacc]; rfl]
  refine runf (an @s9 (an @s10 (an @s11 @s3))) ?_
  refine cp kr ?_
  refine runf @s3 ?_
  exact er0
theorem rightH_lin {h : Head} : rightH h = true ↔ (0 ≤ h.server ∧ h.server ≤ 19) ∧ (0 ≤ h.size ∧ h.size ≤ 1073741824) ∧ (0 ≤ h.time ∧ h.time ≤ 1099511627776) ∧ h.root.length = 32 ∧ (0 ≤ h.sig.e ∧ h.sig.e ≤ 2305843009213693949) ∧ (0 ≤ h.sig.s ∧ h.sig.s ≤ 2305843009213693949) := by
 rw [rightH_iff]
 simp only [sigR, Bool.and_eq_true, wi_iff]
theorem sright_c (h : Head) : AC Tryz.prog 156 [headV h] [] (.bo (rightH h)) [] := by
 refine AC.enter [] [] Tryz.func156 rfl (by decide) (by decide) (Nat.le_of_ble_eq_true rfl) (by kernel_rfl) ?_; simp only [eraseC, eraseO, List.map_cons, List.map_nil, List.map_toArray, List.getElem?_toArray, List.getElem?_cons_zero, List.getElem?_cons_succ, Option.bind_some, Option.bind_none, List.append_eq, List.cons_append, List.nil_append]
 have hf : ¬ ((0 ≤ h.server ∧ h.server ≤ 19) ∧ (0 ≤ h.size ∧ h.size ≤ 1073741824) ∧ (0 ≤ h.time ∧ h.time ≤ 1099511627776) ∧ h.root.length = 32 ∧ (0 ≤ h.sig.e ∧ h.sig.e ≤ 2305843009213693949) ∧ (0 ≤ h.sig.s ∧ h.sig.s ≤ 2305843009213693949)) → rightH h = false := fun hn => Bool.eq_false_iff.2 fun r => hn (rightH_lin.1 r)
 by_cases h1 : 0 ≤ h.server
 rotate_left
 ·rw [hf (by omega)]
  refine run ?_
  exact er0
 by_cases h2 : h.server < 20
 rotate_left
 ·rw [hf (by omega)]
  refine run ?_
  exact er0
 by_cases h3 : 0 ≤ h.size
 rotate_left
 ·rw [hf (by omega)]
  refine run ?_
  exact er0
 by_cases h4 : h.size ≤ 1073741824
 rotate_left
 ·rw [hf (by omega)]
  refine run ?_
  exact er0
 by_cases h5 : 0 ≤ h.time
 rotate_left
 ·rw [hf (by omega)]
  refine run ?_
  exact er0
 by_cases h6 : h.time ≤ 1099511627776
 rotate_left
 ·rw [hf (by omega)]
  refine run ?_
  exact er0
 by_cases h7 : h.root.length = 32
 rotate_left
 ·have h7' : ¬ (h.root.length : Int) = 32 := by omega
  rw [hf (by omega)]
  refine runf @h7' ?_
  exact er0
 have h7' : (h.root.length : Int) = 32 := by omega
 by_cases h8 : 0 ≤ h.sig.e
 rotate_left
 ·rw [hf (by omega)]
  refine runf @h7' ?_
  exact er0
 by_cases h9 : h.sig.e ≤ 2305843009213693949
 rotate_left
 ·rw [hf (by omega)]
  refine runf @h7' ?_
  exact er0
 by_cases h10 : 0 ≤ h.sig.s
 rotate_left
 ·rw [hf (by omega)]
  refine runf @h7' ?_
  exact er0
 by_cases h11 : h.sig.s ≤ 2305843009213693949
 rotate_left
 ·rw [hf (by omega)]
  refine runf @h7' ?_
  exact er0
 rw [rightH_lin.2 (by omega)]
 refine runf @h7' ?_
 exact er0
theorem coreH_len {h : Head} (h1 : h.server < 9223372036854775808) (h2 : h.size < 9223372036854775808) (h3 : h.time < 9223372036854775808) (h4 : h.root.length ≤ 1000000) : (coreH h).length ≤ 1000100 := by
 have n1 := numI_le h.server h1
 have n2 := numI_le h.size h2
 have n3 := numI_le h.time h3
 have t1 := text_len h4
 have tw : (text wHead).length = 5 := rfl
 unfold coreH
 simp only [List.length_append]
 omega
theorem score_c (h : Head) (hr : rightH h = true) : AC Tryz.prog 177 [headV h] [] (.st (coreH h)) [] := by
 refine AC.enter [115, 116] [] Tryz.func177 rfl (by decide) (by decide) (Nat.le_of_ble_eq_true rfl) (by kernel_rfl) ?_; simp only [eraseC, eraseO, List.map_cons, List.map_nil, List.map_toArray, List.getElem?_toArray, List.getElem?_cons_zero, List.getElem?_cons_succ, Option.bind_some, Option.bind_none, List.append_eq, List.cons_append, List.nil_append]
 have hh := rightH_lin.1 hr
 have n1 := numI_le h.server (by omega)
 have n2 := numI_le h.size (by omega)
 have n3 := numI_le h.time (by omega)
 have t1 := text_len (s := h.root) (by omega)
 have tw : (text wHead).length = 5 := rfl
 unfold coreH
 refine run ?_
 refine cp (text_c wHead (by simp)) ?_
 refine run ?_
 refine cp (num_c h.server (by omega) (by omega)) ?_
 refine run ?_
 refine cp (num_c h.size (by omega) (by omega)) ?_
 refine run ?_
 refine cp (text_c h.root (by omega)) ?_
 refine run ?_
 refine cp (num_c h.time (by omega) (by omega)) ?_
 refine run ?_
 exact er0
theorem coreR_lenH {h : Head} (hr : rightH h = true) : (coreH h).length ≤ 1000100 := by
 have hh := rightH_lin.1 hr
 exact coreH_len (by omega) (by omega) (by omega) (by omega)
theorem sverify_c (p : Int) (h : Head) (hp : -9223372036854775808 ≤ p ∧ p ≤ 9223372036854775807) : AC Tryz.prog 160 [.it .i64 p, headV h] [] (.bo (verifyH p h)) [] := by
 refine AC.enter [156, 177, 106] [] Tryz.func160 rfl (by decide) (by decide) (Nat.le_of_ble_eq_true rfl) (by kernel_rfl) ?_; simp only [eraseC, eraseO, List.map_cons, List.map_nil, List.map_toArray, List.getElem?_toArray, List.getElem?_cons_zero, List.getElem?_cons_succ, Option.bind_some, Option.bind_none, List.append_eq, List.cons_append, List.nil_append]
 have kr := sright_c h
 unfold verifyH
 cases hr : rightH h with
 | false =>
  rw [hr] at kr
  refine run ?_
  refine cp kr ?_
  refine run ?_
  exact er0
 | true =>
  rw [hr] at kr
  have hh := rightH_lin.1 hr
  have hc := coreR_lenH hr
  have kc := score_c h hr
  have kv := verify_c p (coreH h) h.sig (by omega) hp (by omega)
  refine run ?_
  refine cp kr ?_
  refine run ?_
  refine cp kc ?_
  refine run ?_
  refine cp kv ?_
  refine run ?_
  exact er0
theorem shead_c (k : Key) (server : Int) (l : List It.Entry) (time : Int) (hk : -9223372036854775808 ≤ k.secret ∧ k.secret ≤ 9223372036854775807) (hl : l.length ≤ 1000000) (hz : ∀ e ∈ l, Iz e.item) :
  AC Tryz.prog 78 [keyV k, .it .i64 server, entriesV l, .it .i64 time] [] (headV (mkHead k server l time)) [] := by
 refine AC.enter [100, 162, 156, 177, 101] [] Tryz.func78 rfl (by decide) (by decide) (Nat.le_of_ble_eq_true rfl) (by kernel_rfl) ?_; simp only [eraseC, eraseO, List.map_cons, List.map_nil, List.map_toArray, List.getElem?_toArray, List.getElem?_cons_zero, List.getElem?_cons_succ, Option.bind_some, Option.bind_none, List.append_eq, List.cons_append, List.nil_append]
 have k1 := keyright_c k hk
 have k2 := sroot_c l hl hz
 unfold mkHead
 cases hr : k.right with
 | false =>
  rw [if_neg (by simp)]
  rw [hr] at k1
  refine run ?_
  refine cp k1 ?_
  refine run ?_
  exact er0
 | true =>
  rw [if_pos rfl]
  rw [hr] at k1
  have k3 := sright_c ⟨server, l.length, rootE l, time, sig0⟩
  cases hh : rightH ⟨server, l.length, rootE l, time, sig0⟩ with
  | false =>
   rw [hh] at k3
   simp only [hh, Bool.false_eq_true, if_false]
   refine run ?_
   refine cp k1 ?_
   refine run ?_
   refine cp k2 ?_
   refine run ?_
   refine cp k3 ?_
   refine run ?_
   exact er0
  | true =>
   rw [hh] at k3
   simp only [hh, if_true]
   have k4 := score_c ⟨server, l.length, rootE l, time, sig0⟩ hh
   have hc := coreR_lenH hh
   have k5 := sign_c k (coreH ⟨server, l.length, rootE l, time, sig0⟩) (by omega) hk
   generalize coreH ⟨server, l.length, rootE l, time, sig0⟩ = c at *
   generalize sign k c = sg at *
   refine run ?_
   refine cp k1 ?_
   refine run ?_
   refine cp k2 ?_
   refine run ?_
   refine cp k3 ?_
   refine run ?_
   refine cp k4 ?_
   refine run ?_
   refine cp k5 ?_
   refine run ?_
   exact er0
theorem headB_len (h : Head) : (headB h).length ≤ 1000200 := by
 unfold headB
 split
 ·rename_i hr
  have hh := rightH_lin.1 hr
  have := coreR_lenH hr
  have n1 := numI_le h.sig.e (by omega)
  have n2 := numI_le h.sig.s (by omega)
  simp only [List.length_append]
  omega
 ·exact Nat.zero_le _
theorem sheadBytes_c (h : Head) : AC Tryz.prog 251 [headV h] [] (.st (headB h)) [] := by
 refine AC.enter [156, 177, 116] [] Tryz.func251 rfl (by decide) (by decide) (Nat.le_of_ble_eq_true rfl) (by kernel_rfl) ?_; simp only [eraseC, eraseO, List.map_cons, List.map_nil, List.map_toArray, List.getElem?_toArray, List.getElem?_cons_zero, List.getElem?_cons_succ, Option.bind_some, Option.bind_none, List.append_eq, List.cons_append, List.nil_append]
 have kr := sright_c h
 unfold headB
 cases hr : rightH h with
 | false =>
  rw [hr] at kr
  rw [if_neg (by simp)]
  refine run ?_
  refine cp kr ?_
  refine run ?_
  exact er0
 | true =>
  rw [hr] at kr
  rw [if_pos rfl]
  have hh := rightH_lin.1 hr
  have hc := coreR_lenH hr
  have kc := score_c h hr
  have n1 := numI_le h.sig.e (by omega)
  have n2 := numI_le h.sig.s (by omega)
  generalize coreH h = c at *
  refine run ?_
  refine cp kr ?_
  refine run ?_
  refine cp kc ?_
  refine run ?_
  refine cp (num_c h.sig.e (by omega) (by omega)) ?_
  refine run ?_
  refine cp (num_c h.sig.s (by omega) (by omega)) ?_
  refine run ?_
  exact er0
end Go.Proofs.YtaphpbiaoofmkaaGreatDoor.Pe
end
section
namespace Go.Proofs.YtaphpbiaoofmkaaGreatDoor.Sl
open Go Co Sg Ac It
structure Receipt where
 frm : Int
 head : Head
 sig : Sig
 deriving DecidableEq
structure Grave where
 at' : Int
 entry : It.Entry
 path : List By
 rcpt : Receipt
 deriving DecidableEq
def rcpt0 : Receipt := ⟨0, head0, sig0⟩
def wRcpt : By := [114, 101, 99, 101, 105, 112, 116]
def msgT (r : Receipt) : By := text wRcpt ++ numI r.frm ++ text (headB r.head)
def mkRcpt (k : Key) (frm : Int) (h : Head) : Receipt := if k.right && wi frm 0 19 && rightH h then ⟨frm, h, sign k (msgT ⟨frm, h, sig0⟩)⟩ else rcpt0
def verifyT (ps : List Int) (r : Receipt) : Bool :=
 decide (0 ≤ r.frm) && decide (r.frm < ps.length) && decide (0 ≤ r.head.server) && decide (r.head.server < ps.length) && verifyH (ps.getD r.head.server.toNat 0) r.head && verify (ps.getD r.frm.toNat 0) (msgT r) r.sig
def delT (e : It.Entry) (id : By) : Bool := wi e.time 0 1099511627776 && decide (e.item.kind = 0) && decide (e.item.act.kind = 13) && decide (e.item.act.object = id) && It.right e.item
end Go.Proofs.YtaphpbiaoofmkaaGreatDoor.Sl
end
section
namespace Go.Proofs.YtaphpbiaoofmkaaGreatDoor.Pe
open Go Go.RowKit Co Sg Ac It Sl
set_option maxRecDepth 100000
set_option maxHeartbeats 4000000
abbrev rcptV (r : Receipt) : AV := .agg [.it .i64 r.frm, .it .i64 r.head.server, .it .i64 r.head.size, .st r.head.root, .it .i64 r.head.time, .it .i64 r.head.sig.e, .it .i64 r.head.sig.s, .it .i64 r.sig.e, .it .i64 r.sig.s]
theorem msgT_len (r : Receipt) (h : r.frm < 9223372036854775808) : (msgT r).length ≤ 1000400 := by
 unfold msgT
 have n1 := numI_le r.frm h
 have h1 := headB_len r.head
 have t1 : (text (headB r.head)).length ≤ 1000209 := by
  have := num_len9 (n := (headB r.head).length) (by omega)
  unfold text; rw [List.length_append]; omega
 have tw : (text wRcpt).length = 8 := rfl
 simp only [List.length_append]
 omega
theorem tmsg_c (r : Receipt) (h : -9223372036854775808 ≤ r.frm ∧ r.frm ≤ 9223372036854775807) : AC Tryz.prog 157 [rcptV r] [] (.st (msgT r)) [] := by
 refine AC.enter2 [115, 116, 251] [] Tryz.func157 rfl (by decide) (by decide) (Nat.le_of_ble_eq_true rfl) (by kernel_rfl) ?_; simp only [eraseC, eraseO, List.map_cons, List.map_nil, List.map_toArray, List.getElem?_toArray, List.getElem?_cons_zero, List.getElem?_cons_succ, Option.bind_some, Option.bind_none, List.append_eq, List.cons_append, List.nil_append]
 have h1 := headB_len r.head
 have n1 := numI_le r.frm (by omega)
 have tw : (text wRcpt).length = 8 := rfl
 have t1 : (text (headB r.head)).length ≤ 1000209 := by
  have := num_len9 (n := (headB r.head).length) (by omega)
  unfold text; rw [List.length_append]; omega
 unfold msgT
 refine run ?_
 refine cp (text_c wRcpt (by simp [wRcpt])) ?_
 refine run ?_
 refine cp (num_c r.frm (by omega) (by omega)) ?_
 refine run ?_
 refine cp (sheadBytes_c r.head) ?_
 refine run ?_
 refine cp (text_c (headB r.head) (by omega)) ?_
 refine run ?_
 exact er0
theorem treceipt_c (k : Key) (frm : Int) (h : Head) (hk : -9223372036854775808 ≤ k.secret ∧ k.secret ≤ 9223372036854775807) : AC Tryz.prog 64 [keyV k, .it .i64 frm, headV h] [] (rcptV (mkRcpt k frm h)) [] := by
 refine AC.enter2 [100, 156, 157, 101] [] Tryz.func64 rfl (by decide) (by decide) (Nat.le_of_ble_eq_true rfl) (by kernel_rfl) ?_; simp only [eraseC, eraseO, List.map_cons, List.map_nil, List.map_toArray, List.getElem?_toArray, List.getElem?_cons_zero, List.getElem?_cons_succ, Option.bind_some, Option.bind_none, List.append_eq, List.cons_append, List.nil_append]
 have k1 := keyright_c k hk
 have k2 := sright_c h
 unfold mkRcpt wi
 cases hr : k.right with
 | false =>
  rw [hr] at k1
  rw [if_neg (by simp)]
  refine run ?_
  refine cp k1 ?_
  refine run ?_
  exact er0
 | true =>
 rw [hr] at k1
 by_cases c1 : frm < 0
 ·rw [if_neg (by simp; omega)]
  refine run ?_
  refine cp k1 ?_
  refine runf @c1 ?_
  exact er0
 by_cases c2 : (20 : Int) ≤ frm
 ·rw [if_neg (by simp; omega)]
  refine run ?_
  refine cp k1 ?_
  refine runf (an @c1 @c2) ?_
  exact er0
 cases hh : rightH h with
 | false =>
  rw [hh] at k2
  rw [if_neg (by simp)]
  refine run ?_
  refine cp k1 ?_
  refine runf (an @c1 @c2) ?_
  refine cp k2 ?_
  refine run ?_
  exact er0
 | true =>
 rw [hh] at k2
 rw [if_pos (by simp; omega)]
 have k3 := tmsg_c ⟨frm, h, sig0⟩ ⟨by show _ ≤ frm; omega, by show frm ≤ _; omega⟩
 have hl := msgT_len ⟨frm, h, sig0⟩ (by show frm < _; omega)
 have k5 := sign_c k (msgT ⟨frm, h, sig0⟩) (by omega) hk
 generalize msgT ⟨frm, h, sig0⟩ = c at *
 generalize sign k c = sg at *
 refine run ?_
 refine cp k1 ?_
 refine runf (an @c1 @c2) ?_
 refine cp k2 ?_
 refine run ?_
 refine cp k3 ?_
 refine run ?_
 refine cp k5 ?_
 refine run ?_
 exact er0
theorem tdel_c (e : It.Entry) (id : By) (h : Iz e.item) : AC Tryz.prog 168 [entryV e, .st id] [] (.bo (delT e id)) [] := by
 refine AC.enter2 [36] [] Tryz.func168 rfl (by decide) (by decide) (Nat.le_of_ble_eq_true rfl) (by kernel_rfl) ?_; simp only [eraseC, eraseO, List.map_cons, List.map_nil, List.map_toArray, List.getElem?_toArray, List.getElem?_cons_zero, List.getElem?_cons_succ, Option.bind_some, Option.bind_none, List.append_eq, List.cons_append, List.nil_append]
 have k1 := rightI_c e.item h
 unfold delT wi
 by_cases c1 : 0 ≤ e.time
 rotate_left
 ·rw [decide_eq_false c1]
  refine runf @c1 ?_
  exact er0
 by_cases c2 : e.time ≤ 1099511627776
 rotate_left
 ·rw [decide_eq_false c2, Bool.and_false]
  refine runf (an @c1 @c2) ?_
  exact er0
 rw [decide_eq_true c1, decide_eq_true c2]
 by_cases c3 : e.item.kind = 0
 rotate_left
 ·have q3 : (e.item.kind == 0) = false := beqF c3
  rw [decide_eq_false c3]
  refine runf (an @c1 (an @c2 @q3)) ?_
  exact er0
 have q3 : (e.item.kind == 0) = true := by rw [c3]; rfl
 rw [decide_eq_true c3]
 by_cases c4 : e.item.act.kind = 13
 rotate_left
 ·have q4 : (e.item.act.kind == 13) = false := beqF c4
  rw [decide_eq_false c4]
  refine runf (an @c1 (an @c2 (an @q3 @q4))) ?_
  exact er0
 have q4 : (e.item.act.kind == 13) = true := by rw [c4]; rfl
 rw [decide_eq_true c4]
 by_cases c5 : e.item.act.object = id
 rotate_left
 ·have q5 : (e.item.act.object == id) = false := by simpa using c5
  rw [decide_eq_false c5]
  refine runf (an @c1 (an @c2 (an @q3 (an @q4 @q5)))) ?_
  exact er0
 have q5 : (e.item.act.object == id) = true := by rw [c5]; exact beq_self_eq_true _
 rw [decide_eq_true c5]
 refine runf (an @c1 (an @c2 (an @q3 (an @q4 @q5)))) ?_
 refine cp k1 ?_
 refine run ?_
 exact er0
end Go.Proofs.YtaphpbiaoofmkaaGreatDoor.Pe
end
section
namespace Go.Proofs.YtaphpbiaoofmkaaGreatDoor.Pe
open Go Go.RowKit Co Sg Ac It
set_option maxRecDepth 100000
set_option maxHeartbeats 4000000
abbrev intsV (l : List Int) : AV := .sl .ro (l.map (AV.it .i64))
structure InL (l : List Int) : Prop where
 len : l.length ≤ 140737488351232
 rng : ∀ i ∈ l, -9223372036854775808 ≤ i ∧ i ≤ 9223372036854775807
theorem shp_intsI {n us} (h : shp Tryz.prog 140737488351232 (n + 2) 50 us) : ∃ l : List Int, us = [intsV l] ∧ InL l := by
 obtain ⟨l, h1, h2, h3⟩ := shp_slice (AV.it .i64) (fun i : Int => -9223372036854775808 ≤ i ∧ i ≤ 9223372036854775807) Tryz.underlying50 h (fun x hx => by
  obtain ⟨i, rfl, hi⟩ := shp_i64 Tryz.underlying3 hx
  exact ⟨i, by rw [show aggT Tryz.prog 3 = false from by kernel_rfl]; rfl, hi⟩)
 exact ⟨l, h1, h2, h3⟩
structure InE (e : It.Entry) : Prop where
 time : -9223372036854775808 ≤ e.time ∧ e.time ≤ 9223372036854775807
 item : InI e.item
theorem shp_entryI {n us} (h : shp Tryz.prog 140737488351232 (n + 7) 55 us) : ∃ e : It.Entry, us = (entryV e).cells ∧ InE e := by
 have h := shp_struct Tryz.underlying55 h
 obtain ⟨a0, b0, rfl, h0, h⟩ := h
 obtain ⟨a1, b1, rfl, h1, rfl⟩ := h
 obtain ⟨time, rfl, w0⟩ := shp_i64 Tryz.underlying3 h0
 obtain ⟨i, rfl, w1⟩ := shp_itemI h1
 exact ⟨⟨time, i⟩, rfl, w0, w1⟩
theorem shp_entriesI {n us} (h : shp Tryz.prog 140737488351232 (n + 8) 79 us) : ∃ l : List It.Entry, us = [.sl .ro (l.map entryV)] ∧ l.length ≤ 140737488351232 ∧ ∀ e ∈ l, InE e :=
 shp_slice entryV InE Tryz.underlying79 h fun x hx => by
  obtain ⟨w, rfl, hw⟩ := shp_entryI hx
  exact ⟨w, by rw [show aggT Tryz.prog 55 = true from by kernel_rfl]; rfl, hw⟩
end Go.Proofs.YtaphpbiaoofmkaaGreatDoor.Pe
end
section
namespace Go.Proofs.YtaphpbiaoofmkaaGreatDoor.Pe
open Go Go.RowKit Co Sg Ac It Sl
set_option maxRecDepth 100000
set_option maxHeartbeats 4000000
structure InR (r : Receipt) : Prop where
 frm : -9223372036854775808 ≤ r.frm ∧ r.frm ≤ 9223372036854775807
 e : -9223372036854775808 ≤ r.sig.e ∧ r.sig.e ≤ 9223372036854775807
theorem getD_of {ps : List Int} (hp : InL ps) {n : Int} (h0 : 0 ≤ n) (h : n < (ps.length : Int)) : ps[n.toNat]? = some (ps.getD n.toNat 0) ∧ -9223372036854775808 ≤ ps.getD n.toNat 0 ∧ ps.getD n.toNat 0 ≤ 9223372036854775807 := by
 have hlt : n.toNat < ps.length := by omega
 rw [List.getD_eq_getElem?_getD, List.getElem?_eq_getElem hlt]
 exact ⟨rfl, hp.rng _ (List.getElem_mem hlt)⟩
theorem tverify_c (ps : List Int) (r : Receipt) (hp : InL ps) (hr : InR r) : AC Tryz.prog 66 [intsV ps, rcptV r] [] (.bo (verifyT ps r)) [] := by
 refine AC.enter2 [160, 157, 106] [] Tryz.func66 rfl (by decide) (by decide) (Nat.le_of_ble_eq_true rfl) (by kernel_rfl) ?_; simp only [eraseC, eraseO, List.map_cons, List.map_nil, List.map_toArray, List.getElem?_toArray, List.getElem?_cons_zero, List.getElem?_cons_succ, Option.bind_some, Option.bind_none, List.append_eq, List.cons_append, List.nil_append]
 have hpl := hp.len
 have hszp : allSz 1 (ps.map (AV.it .i64)) = true := allSz_map 1 _ (fun _ => rfl) _
 have k3 := tmsg_c r hr.frm
 have hl := msgT_len r (by have := hr.frm; omega)
 unfold verifyT
 by_cases c1 : r.frm < 0
 ·rw [decide_eq_false (show ¬ 0 ≤ r.frm by omega)]
  refine runf @c1 ?_
  exact er0
 by_cases c2 : (ps.length : Int) ≤ r.frm
 ·rw [decide_eq_true (show 0 ≤ r.frm by omega), decide_eq_false (show ¬ r.frm < (ps.length : Int) by omega)]
  refine runf (an @c1 @c2) ?_
  exact er0
 by_cases c3 : r.head.server < 0
 ·rw [decide_eq_true (show 0 ≤ r.frm by omega), decide_eq_true (show r.frm < (ps.length : Int) by omega), decide_eq_false (show ¬ 0 ≤ r.head.server by omega)]
  refine runf (an @c1 (an @c2 @c3)) ?_
  exact er0
 by_cases c4 : (ps.length : Int) ≤ r.head.server
 ·rw [decide_eq_true (show 0 ≤ r.frm by omega), decide_eq_true (show r.frm < (ps.length : Int) by omega), decide_eq_true (show 0 ≤ r.head.server by omega), decide_eq_false (show ¬ r.head.server < (ps.length : Int) by omega)]
  refine runf (an @c1 (an @c2 (an @c3 @c4))) ?_
  exact er0
 have d1 : 0 ≤ r.frm := by omega
 have d2 : r.frm < (ps.length : Int) := by omega
 have d3 : 0 ≤ r.head.server := by omega
 have d4 : r.head.server < (ps.length : Int) := by omega
 rw [decide_eq_true d1, decide_eq_true d2, decide_eq_true d3, decide_eq_true d4]
 obtain ⟨g1, w1⟩ := getD_of hp d1 d2
 obtain ⟨g2, w2⟩ := getD_of hp d3 d4
 generalize ps.getD r.frm.toNat 0 = p at *
 generalize ps.getD r.head.server.toNat 0 = q at *
 have k1 := sverify_c q r.head w2
 have k2 := verify_c p (msgT r) r.sig (by omega) w1 hr.e
 generalize msgT r = c at *
 cases hv : verifyH q r.head with
 | false =>
  rw [hv] at k1
  refine runf (an @c1 (an @c2 (an @c3 (an @c4 (an @d3 (an @d4 (an @g2 @hszp))))))) ?_
  refine cp k1 ?_
  refine run ?_
  exact er0
 | true =>
 rw [hv] at k1
 refine runf (an @c1 (an @c2 (an @c3 (an @c4 (an @d3 (an @d4 (an @g2 @hszp))))))) ?_
 refine cp k1 ?_
 refine runf (an @d1 (an @d2 (an @g1 @hszp))) ?_
 refine cp k3 ?_
 refine run ?_
 refine cp k2 ?_
 refine run ?_
 exact er0
end Go.Proofs.YtaphpbiaoofmkaaGreatDoor.Pe
end
section
namespace Go.Proofs.YtaphpbiaoofmkaaGreatDoor.Sl
open Go Co Sg Ac It
def grave0 : Grave := ⟨0, ⟨0, item0⟩, [], rcpt0⟩
def proveT (l : List It.Entry) (i : Int) (r : Receipt) : Grave × Bool :=
 if i < 0 ∨ r.head.size ≤ i ∨ (l.length : Int) < r.head.size ∨ rootE (l.take r.head.size.toNat) ≠ r.head.root then (grave0, false)
 else (⟨i, l.getD i.toNat ⟨0, item0⟩, Mk.path ((l.take r.head.size.toNat).map leafE) i.toNat, r⟩, true)
end Go.Proofs.YtaphpbiaoofmkaaGreatDoor.Sl
namespace Go.Proofs.YtaphpbiaoofmkaaGreatDoor.Pe
open Go Go.RowKit Co Sg Ac It Sl
abbrev graveV (g : Grave) : AV := .agg (.it .i64 g.at' :: .it .i64 g.entry.time :: (itemL g.entry.item ++ [sls g.path, .it .i64 g.rcpt.frm, .it .i64 g.rcpt.head.server, .it .i64 g.rcpt.head.size, .st g.rcpt.head.root, .it .i64 g.rcpt.head.time, .it .i64 g.rcpt.head.sig.e, .it .i64 g.rcpt.head.sig.s, .it .i64 g.rcpt.sig.e, .it .i64 g.rcpt.sig.s]))
end Go.Proofs.YtaphpbiaoofmkaaGreatDoor.Pe
end
section
namespace Go.Proofs.YtaphpbiaoofmkaaGreatDoor.Sl
open Go Co Sg Ac It
def holdsT (ps : List Int) (id : By) (l : List It.Entry) (log : Int) (r : Receipt) : Bool :=
 decide (r.head.server = log) && verifyT ps r && (List.range l.length).any fun i => (proveT l (i : Int) r).2 && delT (l.getD i ⟨0, item0⟩) id
def answeredT (ps : List Int) (id : By) (l : List It.Entry) (log : Int) (rs : List Receipt) : List Int :=
 ((List.range ps.length).filter fun s : Nat => rs.any fun r => decide (r.frm = ((s : Nat) : Int)) && holdsT ps id l log r).map fun s : Nat => ((s : Nat) : Int)
def goodT (ps : List Int) (l : List It.Entry) (log : Int) (i : Nat) (r : Receipt) : Bool := decide (r.head.server = log) && verifyT ps r && (proveT l (i : Int) r).2
theorem proveT_ok (l : List It.Entry) (i : Int) (r : Receipt) : (proveT l i r).2 = true ↔ 0 ≤ i ∧ i < r.head.size ∧ r.head.size ≤ (l.length : Int) ∧ rootE (l.take r.head.size.toNat) = r.head.root := by
 unfold proveT
 split
 ·rename_i h
  simp only [Bool.false_eq_true, false_iff]
  rintro ⟨h1, h2, h3, h4⟩
  rcases h with h | h | h | h
  ·omega
  ·omega
  ·omega
  ·exact h h4
 ·rename_i h
  simp only [true_iff]
  refine ⟨?_, ?_, ?_, ?_⟩
  ·exact Classical.byContradiction fun hn => h (.inl (by omega))
  ·exact Classical.byContradiction fun hn => h (.inr (.inl (by omega)))
  ·exact Classical.byContradiction fun hn => h (.inr (.inr (.inl (by omega))))
  ·exact Classical.byContradiction fun hn => h (.inr (.inr (.inr hn)))
theorem holds_good {ps : List Int} {id : By} {l : List It.Entry} {log : Int} {r : Receipt} {i : Nat} (hi : i < l.length) (hd : delT (l.getD i ⟨0, item0⟩) id = true) (hf : ∀ j, j < i → delT (l.getD j ⟨0, item0⟩) id = false) :
  holdsT ps id l log r = goodT ps l log i r := by
 unfold holdsT goodT
 congr 1
 rw [Bool.eq_iff_iff, List.any_eq_true]
 constructor
 ·rintro ⟨j, hj, h⟩
  rw [Bool.and_eq_true, proveT_ok] at h
  obtain ⟨⟨h1, h2, h3, h4⟩, h5⟩ := h
  rw [proveT_ok]
  have : ¬ j < i := fun hlt => by rw [hf j hlt] at h5; cases h5
  exact ⟨by omega, by omega, h3, h4⟩
 ·intro h
  exact ⟨i, List.mem_range.2 hi, by rw [h, hd]; rfl⟩
theorem holds_none {ps : List Int} {id : By} {l : List It.Entry} {log : Int} {r : Receipt} (hf : ∀ j, j < l.length → delT (l.getD j ⟨0, item0⟩) id = false) : holdsT ps id l log r = false := by
 unfold holdsT
 rw [show ((List.range l.length).any fun i => (proveT l (i : Int) r).2 && delT (l.getD i ⟨0, item0⟩) id) = false from ?_, Bool.and_false]
 rw [List.any_eq_false]
 intro j hj h
 rw [hf j (List.mem_range.1 hj), Bool.and_false] at h
 cases h
theorem answered_none {ps : List Int} {id : By} {l : List It.Entry} {log : Int} {rs : List Receipt} (hf : ∀ j, j < l.length → delT (l.getD j ⟨0, item0⟩) id = false) : answeredT ps id l log rs = [] := by
 unfold answeredT
 rw [List.filter_eq_nil_iff.2]
 ·rfl
 ·intro s _ h
  obtain ⟨r, _, hr⟩ := List.any_eq_true.1 h
  rw [holds_none hf, Bool.and_false] at hr
  cases hr
theorem verify_frm {ps : List Int} {r : Receipt} (h : verifyT ps r = true) : 0 ≤ r.frm ∧ r.frm < (ps.length : Int) := by
 unfold verifyT at h
 simp only [Bool.and_eq_true, decide_eq_true_eq] at h
 exact ⟨h.1.1.1.1.1, h.1.1.1.1.2⟩
theorem answered_perm {ps : List Int} {id : By} {l : List It.Entry} {log : Int} {rs : List Receipt} {i : Nat} (hi : i < l.length) (hd : delT (l.getD i ⟨0, item0⟩) id = true) (hf : ∀ j, j < i → delT (l.getD j ⟨0, item0⟩) id = false)
  {acc : List Int} (hnd : acc.Nodup) (hm : ∀ s, s ∈ acc ↔ ∃ r ∈ rs, r.frm = s ∧ goodT ps l log i r = true) : acc.Perm (answeredT ps id l log rs) ∧ (answeredT ps id l log rs).Pairwise (· < ·) := by
 have hlt : (answeredT ps id l log rs).Pairwise (· < ·) := by
  unfold answeredT
  rw [List.pairwise_map]
  exact (List.Pairwise.filter _ List.pairwise_lt_range).imp fun h => by omega
 have hnd2 : (answeredT ps id l log rs).Nodup := hlt.imp fun h => by omega
 refine ⟨(List.perm_ext_iff_of_nodup hnd hnd2).2 fun s => ?_, hlt⟩
 rw [hm]
 unfold answeredT
 rw [List.mem_map]
 constructor
 ·rintro ⟨r, hr, rfl, hg⟩
  have hv : verifyT ps r = true := by
   unfold goodT at hg
   simp only [Bool.and_eq_true] at hg
   exact hg.1.2
  have hb := verify_frm hv
  refine ⟨r.frm.toNat, List.mem_filter.2 ⟨List.mem_range.2 (by omega), List.any_eq_true.2 ⟨r, hr, ?_⟩⟩, by omega⟩
  rw [holds_good hi hd hf, hg, Bool.and_true]
  exact decide_eq_true (by omega)
 ·rintro ⟨n, hn, rfl⟩
  obtain ⟨_, hn⟩ := List.mem_filter.1 hn
  obtain ⟨r, hr, h⟩ := List.any_eq_true.1 hn
  rw [Bool.and_eq_true, decide_eq_true_eq, holds_good hi hd hf] at h
  exact ⟨r, hr, h.1, h.2⟩
theorem answered_le (ps : List Int) (id : By) (l : List It.Entry) (log : Int) (rs : List Receipt) : (answeredT ps id l log rs).length ≤ ps.length := by
 unfold answeredT
 rw [List.length_map]
 have := List.length_filter_le (fun s => rs.any fun r => decide (r.frm = ((s : Nat) : Int)) && holdsT ps id l log r) (List.range ps.length)
 rw [List.length_range] at this
 exact this
theorem answered_sorted {ps : List Int} {id : By} {l : List It.Entry} {log : Int} {rs : List Receipt} {acc : List Int} (h : acc.Perm (answeredT ps id l log rs) ∧ (answeredT ps id l log rs).Pairwise (· < ·)) :
  acc.mergeSort (fun x y => decide (x ≤ y)) = answeredT ps id l log rs := by
 have tr : ∀ a b c : Int, decide (a ≤ b) = true → decide (b ≤ c) = true → decide (a ≤ c) = true := fun a b c h1 h2 => by simp only [decide_eq_true_eq] at *; omega
 have to : ∀ a b : Int, (decide (a ≤ b) || decide (b ≤ a)) = true := fun a b => by simp only [Bool.or_eq_true, decide_eq_true_eq]; omega
 have hle : (answeredT ps id l log rs).Pairwise (fun a b => decide (a ≤ b) = true) := h.2.imp fun h => by simp only [decide_eq_true_eq]; omega
 refine List.Perm.eq_of_pairwise (le := fun a b => decide (a ≤ b) = true) (fun a b _ _ h1 h2 => ?_) (List.pairwise_mergeSort tr to acc) hle ((List.mergeSort_perm acc _).trans h.1)
 simp only [decide_eq_true_eq] at h1 h2
 omega
end Go.Proofs.YtaphpbiaoofmkaaGreatDoor.Sl
end
section
namespace Go.Proofs.YtaphpbiaoofmkaaGreatDoor.Pe
open Go Sm Mk
set_option maxRecDepth 100000
set_option maxHeartbeats 4000000
theorem includesA_c (p : List By) (i n : Int) (x root : By) (hn : n ≤ 9223372036854775807) (hn' : -9223372036854775808 ≤ n) (hi : -9223372036854775808 ≤ i ∧ i ≤ 9223372036854775807) (hp : p.length ≤ 1000000) (hx : x.length ≤ 1000000) :
  AC Tryz.prog 169 [.st x, .it .i64 i, .it .i64 n, .st root, sls p] [] (.bo (decide (0 ≤ i) && decide (i < n) && ((x.length : Int) == 32) && (p.all fun s => (s.length : Int) == 32) && (flw p.reverse i.toNat n.toNat x).2 && (flw p.reverse i.toNat n.toNat x).1 == root)) [] := by
 refine AC.enter [258, 259, 260] [] Tryz.func169 rfl (by decide) (by decide) (Nat.le_of_ble_eq_true rfl) (by kernel_rfl) ?_; simp only [eraseC, eraseO, List.map_cons, List.map_nil, List.map_toArray, List.getElem?_toArray, List.getElem?_cons_zero, List.getElem?_cons_succ, Option.bind_some, Option.bind_none, List.append_eq, List.cons_append, List.nil_append]
 by_cases h0 : i < 0
 ·have : decide (0 ≤ i) = false := by simp; omega
  refine runf @this ?_
  exact ends_ret0 (by rfl) (by rfl) (by rfl)
 by_cases h1 : n ≤ i
 ·have : decide (i < n) = false := by simp; omega
  refine runf @this ?_
  exact ends_ret0 (by rfl) (by rfl) (by rfl)
 have e1 : decide (0 ≤ i) = true := by simp; omega
 have e2 : decide (i < n) = true := by simp; omega
 rw [e1, e2]
 refine run ?_
 refine call_pure (mkDigest_c x) (by rfl) (by rfl) (by rfl) ?_
 refine run ?_
 by_cases h2 : (x.length : Int) == 32
 ·try simp only [h2]
  refine run ?_
  try simp only [iteP_true]
  refine call_pure (areDigests_c p (by omega)) (by rfl) (by rfl) (by rfl) ?_
  by_cases h3 : (p.all fun s => (s.length : Int) == 32) = true
  ·have hall : ∀ y ∈ p, y.length ≤ 1000000 := fun y hy => by
    have h4 : (y.length : Int) = 32 := by simpa using List.all_eq_true.1 h3 y hy
    omega
   try simp only [h3]
   refine run ?_
   have f1 := follow_c p.reverse i.toNat n.toNat x (by omega) (by omega) (by simp; omega) hx (fun y hy => hall y (by simpa using hy))
   rw [List.reverse_reverse, show ((i.toNat : Nat) : Int) = i from by omega, show ((n.toNat : Nat) : Int) = n from by omega] at f1
   refine call_pure f1 (by rfl) (by rfl) (by rfl) ?_
   refine run ?_
   cases hf : (flw p.reverse i.toNat n.toNat x).2
   ·refine run ?_
    exact ends_ret0 (by rfl) (by rfl) (by rfl)
   ·refine run ?_
    refine run ?_
    exact ends_ret0 (by rfl) (by rfl) (by rfl)
  ·try simp only [h3]
   refine run ?_
   exact ends_ret0 (by rfl) (by rfl) (by rfl)
 ·try simp only [h2]
  refine run ?_
  try simp only [iteP_false]
  exact ends_ret0 (by rfl) (by rfl) (by rfl)
end Go.Proofs.YtaphpbiaoofmkaaGreatDoor.Pe
end
section
namespace Go.Proofs.YtaphpbiaoofmkaaGreatDoor.Sl
open Go Co Sg Ac It
def inclT (x : By) (i n : Int) (root : By) (p : List By) : Bool := decide (0 ≤ i) && decide (i < n) && ((x.length : Int) == 32) && (p.all fun s => (s.length : Int) == 32) && (Mk.flw p.reverse i.toNat n.toNat x).2 && (Mk.flw p.reverse i.toNat n.toNat x).1 == root
def checkT (ps : List Int) (id : By) (g : Grave) : Bool := verifyT ps g.rcpt && delT g.entry id && inclT (leafE g.entry) g.at' g.rcpt.head.size g.rcpt.head.root g.path
end Go.Proofs.YtaphpbiaoofmkaaGreatDoor.Sl
namespace Go.Proofs.YtaphpbiaoofmkaaGreatDoor.Pe
open Go Go.RowKit Co Sg Ac It Sl
set_option maxRecDepth 100000
set_option maxHeartbeats 4000000
theorem tcheck_c (ps : List Int) (id : By) (g : Grave) (hp : InL ps) (hr : InR g.rcpt) (hz : Iz g.entry.item) (hat : -9223372036854775808 ≤ g.at' ∧ g.at' ≤ 9223372036854775807) (hsz : -9223372036854775808 ≤ g.rcpt.head.size ∧ g.rcpt.head.size ≤ 9223372036854775807) (hpl : g.path.length ≤ 1000000) : AC Tryz.prog 72 [intsV ps, .st id, graveV g] [] (.bo (checkT ps id g)) [] := by
 refine AC.enter2 [66, 168, 163, 169] [] Tryz.func72 rfl (by decide) (by decide) (Nat.le_of_ble_eq_true rfl) (by kernel_rfl) ?_; simp only [eraseC, eraseO, List.map_cons, List.map_nil, List.map_toArray, List.getElem?_toArray, List.getElem?_cons_zero, List.getElem?_cons_succ, Option.bind_some, Option.bind_none, List.append_eq, List.cons_append, List.nil_append]
 have k1 := tverify_c ps g.rcpt hp hr
 have k2 := tdel_c g.entry id hz
 have k3 := sleaf_c g.entry hz
 have k4' := includesA_c g.path g.at' g.rcpt.head.size (leafE g.entry) g.rcpt.head.root hsz.2 hsz.1 hat hpl (by rw [leafE_len]; omega)
 unfold checkT inclT
 generalize leafE g.entry = x at *
 cases hv : verifyT ps g.rcpt with
 | false =>
  rw [hv] at k1
  refine run ?_
  refine cp k1 ?_
  refine run ?_
  exact er0
 | true =>
 rw [hv] at k1
 cases hd : delT g.entry id with
 | false =>
  rw [hd] at k2
  refine run ?_
  refine cp k1 ?_
  refine run ?_
  refine cp k2 ?_
  refine run ?_
  exact er0
 | true =>
 rw [hd] at k2
 refine run ?_
 refine cp k1 ?_
 refine run ?_
 refine cp k2 ?_
 refine run ?_
 refine cp k3 ?_
 refine run ?_
 refine cp k4' ?_
 refine run ?_
 exact er0
end Go.Proofs.YtaphpbiaoofmkaaGreatDoor.Pe
end
section
namespace Go.Proofs.YtaphpbiaoofmkaaGreatDoor.Sl
open Go Co Sg Ac It
structure HonR (k f : Key) (n : Int) (l : List It.Entry) (r : Receipt) : Prop where
 frm : r.frm = n
 server : r.head.server = 0
 size : r.head.size = l.length
 root : r.head.root = rootE l
 ver : ∀ ps : List Int, 0 < ps.length → n < ps.length → ps.getD 0 0 = k.pub → ps.getD n.toNat 0 = f.pub → verifyT ps r = true
theorem honR {k f : Key} {frm t : Int} {l : List It.Entry} (hk : k.right = true) (hf : f.right = true) (hfr : 0 ≤ frm ∧ frm ≤ 19) (hl : l.length ≤ 1000000) (ht : 0 ≤ t ∧ t ≤ 1099511627776) : HonR k f frm l (mkRcpt f frm (mkHead k 0 l t)) := by
 obtain ⟨h1, h2, h3⟩ := mkHead_right (k := k) (server := 0) (l := l) (time := t) hk ⟨by decide, by decide⟩ (by omega) ht
 have e : mkRcpt f frm (mkHead k 0 l t) = ⟨frm, mkHead k 0 l t, sign f (msgT ⟨frm, mkHead k 0 l t, sig0⟩)⟩ := by
  unfold mkRcpt
  rw [if_pos]
  rw [hf, h2, wi_iff.2 hfr]
  rfl
 have s1 : (mkHead k 0 l t).server = 0 := by rw [h1]
 have s2 : (mkHead k 0 l t).size = l.length := by rw [h1]
 have s3 : (mkHead k 0 l t).root = rootE l := by rw [h1]
 generalize mkHead k 0 l t = h at *
 rw [e]
 refine ⟨rfl, s1, s2, s3, fun ps p1 p2 p3 p4 => ?_⟩
 unfold verifyT
 simp only
 rw [s1, decide_eq_true hfr.1, decide_eq_true p2, decide_eq_true (show (0 : Int) ≤ 0 by decide), decide_eq_true (show (0 : Int) < (ps.length : Int) by omega)]
 rw [show (0 : Int).toNat = 0 from rfl, p3, h3, p4]
 have := verify_sign hf (msgT ⟨frm, h, sig0⟩)
 rw [show msgT ⟨frm, h, sign f (msgT ⟨frm, h, sig0⟩)⟩ = msgT ⟨frm, h, sig0⟩ from rfl, this]
 rfl
theorem prove_honest {k f : Key} {frm : Int} {l : List It.Entry} {n : Nat} {r : Receipt} (h : HonR k f frm (l.take n) r) (hn : n ≤ l.length) (i : Nat) : (proveT l (i : Int) r).2 = decide (i < n) := by
 have hlen : (l.take n).length = n := by rw [List.length_take]; omega
 have hsz := h.size
 rw [hlen] at hsz
 rw [Bool.eq_iff_iff, proveT_ok, decide_eq_true_eq, hsz, h.root]
 constructor
 ·rintro ⟨_, h2, _⟩; omega
 ·intro hi
  exact ⟨by omega, by omega, by omega, by rw [Int.toNat_natCast]⟩
theorem incl_prove {l : List It.Entry} {i : Int} {r : Receipt} (h : (proveT l i r).2 = true) :
  inclT (leafE (l.getD i.toNat ⟨0, item0⟩)) i r.head.size r.head.root (Mk.path ((l.take r.head.size.toNat).map leafE) i.toNat) = true := by
 obtain ⟨h1, h2, h3, h4⟩ := (proveT_ok l i r).1 h
 have hL : ((l.take r.head.size.toNat).map leafE).length = r.head.size.toNat := by rw [List.length_map, List.length_take]; omega
 have hi : i.toNat < ((l.take r.head.size.toNat).map leafE).length := by rw [hL]; omega
 have hg : ((l.take r.head.size.toNat).map leafE)[i.toNat]? = some (leafE (l.getD i.toNat ⟨0, item0⟩)) := by
  rw [List.getElem?_map, List.getElem?_take_of_lt (by omega), List.getD_eq_getElem?_getD, List.getElem?_eq_getElem (by omega)]
  rfl
 have hd := leaves_dig (l.take r.head.size.toNat)
 have hf := Mk.flw_path ((l.take r.head.size.toNat).map leafE).length ((l.take r.head.size.toNat).map leafE) i.toNat _ hi hg (Nat.le_refl _)
 have hp := Mk.path_dig ((l.take r.head.size.toNat).map leafE).length ((l.take r.head.size.toNat).map leafE) i.toNat (Nat.le_refl _) hd
 have hroot : Mk.rt ((l.take r.head.size.toNat).map leafE) = r.head.root := by
  rw [← h4]
  unfold rootE Mk.root
  rw [if_neg (by intro e; rw [e] at hi; simp at hi)]
 rw [hL] at hf
 unfold inclT
 rw [hf, decide_eq_true h1, decide_eq_true h2, leafE_len, hroot]
 have ha : ((Mk.path ((l.take r.head.size.toNat).map leafE) i.toNat).all fun s => (s.length : Int) == 32) = true := by
  rw [List.all_eq_true]
  intro s hs
  rw [hp s hs]; rfl
 rw [ha]
 simp
theorem check_prove {ps : List Int} {id : By} {l : List It.Entry} {i : Int} {r : Receipt} (h : (proveT l i r).2 = true) : checkT ps id (proveT l i r).1 = (verifyT ps r && delT (l.getD i.toNat ⟨0, item0⟩) id) := by
 have h1 := incl_prove h
 have e : (proveT l i r).1 = ⟨i, l.getD i.toNat ⟨0, item0⟩, Mk.path ((l.take r.head.size.toNat).map leafE) i.toNat, r⟩ := by
  unfold proveT at h ⊢
  split at h
  ·cases h
  ·rename_i hc; rw [if_neg hc]
 rw [e]
 unfold checkT
 simp only
 rw [h1, Bool.and_true]
theorem prove_wrong {l : List It.Entry} {i : Int} {r : Receipt} (h : (proveT l i r).2 = false) : (proveT l i r).1 = grave0 := by
 unfold proveT at h ⊢
 split at h
 ·rename_i hc; rw [if_pos hc]
 ·cases h
def delL (l : List It.Entry) (id : By) : Bool := l.any fun e => delT e id
theorem holds_honest {k f : Key} {frm : Int} {ps : List Int} {id : By} {l : List It.Entry} {log : Int} {n : Nat} {r : Receipt} (h : HonR k f frm (l.take n) r) (hn : n ≤ l.length) (hv : verifyT ps r = true) :
  holdsT ps id l log r = (decide ((0 : Int) = log) && delL (l.take n) id) := by
 unfold holdsT
 rw [h.server, hv, Bool.and_true]
 congr 1
 unfold delL
 rw [Bool.eq_iff_iff, List.any_eq_true, List.any_eq_true]
 constructor
 ·rintro ⟨i, hi, hb⟩
  rw [prove_honest h hn, Bool.and_eq_true, decide_eq_true_eq] at hb
  have hlt := List.mem_range.1 hi
  refine ⟨l.getD i ⟨0, item0⟩, ?_, hb.2⟩
  rw [List.getD_eq_getElem?_getD, List.getElem?_eq_getElem hlt]
  exact List.mem_take_iff_getElem.2 ⟨i, by omega, rfl⟩
 ·rintro ⟨e, he, hb⟩
  obtain ⟨i, hi, rfl⟩ := List.mem_take_iff_getElem.1 he
  have hlt : i < l.length := by omega
  refine ⟨i, List.mem_range.2 hlt, ?_⟩
  rw [prove_honest h hn, decide_eq_true (show i < n by omega), List.getD_eq_getElem?_getD, List.getElem?_eq_getElem hlt]
  exact hb
def delA (id : By) : Ac.Act := { act0 with author := [48, 48, 48, 48, 48, 48, 48, 48, 48, 48, 48, 48, 48, 48, 48, 49], seq := 2, prev := Sm.sha [], kind := 13, object := id }
def delE (id : By) : It.Entry := ⟨0, ofAct (signA (keySeed [97]) (delA id))⟩
theorem delA_right {id : By} (h : id.length = 32) : Ac.right (delA id) = true := by
 refine right_iff.2 ⟨rfl, ?_, rfl, rfl, .about, rfl, rfl, ?_⟩
 ·unfold placed
  rw [if_neg (show ¬ (delA id).seq = 0 from (by decide : ¬ (2 : Int) = 0))]
  have : dig (delA id).prev = true := decide_eq_true (Mk.sha_len' [])
  rw [this]
  rfl
 ·exact decide_eq_true h
theorem delE_eq {id : By} (h : id.length = 32) : delE id = ⟨0, ofAct { delA id with sig := sign (keySeed [97]) (core (delA id)) }⟩ := by
 unfold delE signA
 have e : ({ delA id with sig := sig0 } : Ac.Act) = delA id := rfl
 simp only [e]
 rw [if_pos (by rw [delA_right h, keySeed_right]; rfl)]
theorem delE_right {id : By} (h : id.length = 32) : It.right (delE id).item = true := by
 rw [delE_eq h]
 exact (right_act rfl).2 ⟨Ac.right_sig _ _ (sig_sigR _ _) (delA_right h), rfl, rfl, rfl⟩
theorem delE_del {id : By} (h : id.length = 32) (id' : By) : delT (delE id) id' = decide (id = id') := by
 have hr := delE_right h
 unfold delT
 rw [hr, delE_eq h]
 rw [show wi (0 : Int) 0 1099511627776 = true from by decide]
 simp only [ofAct, Bool.and_true, Bool.true_and]
 rfl
end Go.Proofs.YtaphpbiaoofmkaaGreatDoor.Sl
end
section
namespace Go.Proofs
open Go.Shelf
def Tryz.keysA_ren : Go.Shelf.Ren := ⟨fun | 7 => 175 | 10 => 264 | n => n, fun | 23 => 169 | 26 => 3 | 3 => 4 | 28 => 172 | 0 => 0 | 27 => 171 | 33 => 39 | 4 => 4 | n => n, fun | n => n⟩
theorem Tryz.keysA : Go.Proofs.SlLaysZI.n7 Tryz.prog Tryz.keysA_ren := {
  mixed := by kernel_rfl
  f7 := ⟨Tryz.f175.name, by decide, Tryz.func175.trans (congrArg some (by kernel_rfl))⟩
  f10 := ⟨Tryz.f264.name, by decide, Tryz.func264.trans (congrArg some (by kernel_rfl))⟩
  t0 := Tryz.underlying0
  a0 := Tryz.isAgg0
  z0 := Tryz.sizeOf0
  v0 := Tryz.zeroValue0
  t4 := Tryz.underlying4
  a4 := Tryz.isAgg4
  z4 := Tryz.sizeOf4
  v4 := Tryz.zeroValue4
  t23 := Tryz.underlying169
  a23 := Tryz.isAgg169
  z23 := Tryz.sizeOf169
  v23 := Tryz.zeroValue169
  t26 := Tryz.underlying3
  a26 := Tryz.isAgg3
  z26 := Tryz.sizeOf3
  v26 := Tryz.zeroValue3
  t27 := Tryz.underlying171
  a27 := Tryz.isAgg171
  z27 := Tryz.sizeOf171
  v27 := Tryz.zeroValue171
  t28 := Tryz.underlying172
  a28 := Tryz.isAgg172
  z28 := Tryz.sizeOf172
  v28 := Tryz.zeroValue172
  t33 := Tryz.underlying39
  a33 := Tryz.isAgg39
  z33 := Tryz.sizeOf39
  v33 := Tryz.zeroValue39 }
def Tryz.sortedA_ren : Go.Shelf.Ren := ⟨fun | 6 => 174 | 8 => 262 | 9 => 263 | 11 => 289 | 13 => 291 | 12 => 290 | 23 => 308 | 24 => 268 | 14 => 299 | 15 => 300 | 16 => 301 | 17 => 302 | 18 => 303 | 19 => 304 | 20 => 305 | 21 => 306 | 22 => 307 | 25 => 312 | 26 => 313 | 27 => 314 | 28 => 315 | 29 => 316 | 30 => 317 | 31 => 321 | n => n, fun | 26 => 3 | 28 => 172 | 24 => 50 | 0 => 0 | 3 => 3 | 37 => 202 | 48 => 198 | 50 => 203 | 4 => 4 | 40 => 240 | 39 => 239 | 45 => 245 | 5 => 5 | 9 => 9 | 51 => 250 | 55 => 254 | 57 => 259 | 58 => 260 | 33 => 39 | n => n, fun | n => n⟩
theorem Tryz.sortedA : Go.Proofs.SlLaysZI.n6 Tryz.prog Tryz.sortedA_ren := {
  mixed := by kernel_rfl
  f6 := ⟨Tryz.f174.name, by decide, Tryz.func174.trans (congrArg some (by kernel_rfl))⟩
  f8 := ⟨Tryz.f262.name, by decide, Tryz.func262.trans (congrArg some (by kernel_rfl))⟩
  f11 := ⟨Tryz.f289.name, by decide, Tryz.func289.trans (congrArg some (by kernel_rfl))⟩
  t0 := Tryz.underlying0
  a0 := Tryz.isAgg0
  z0 := Tryz.sizeOf0
  v0 := Tryz.zeroValue0
  t24 := Tryz.underlying50
  a24 := Tryz.isAgg50
  z24 := Tryz.sizeOf50
  v24 := Tryz.zeroValue50
  t26 := Tryz.underlying3
  a26 := Tryz.isAgg3
  z26 := Tryz.sizeOf3
  v26 := Tryz.zeroValue3
  t28 := Tryz.underlying172
  a28 := Tryz.isAgg172
  z28 := Tryz.sizeOf172
  v28 := Tryz.zeroValue172
  i26 := by kernel_rfl }
def Tryz.sortA_ren : Go.Shelf.Ren := ⟨fun | 5 => 263 | 8 => 291 | 7 => 290 | 19 => 308 | 20 => 268 | 10 => 299 | 11 => 300 | 12 => 301 | 13 => 302 | 14 => 303 | 15 => 304 | 16 => 305 | 17 => 306 | 18 => 307 | 30 => 312 | 31 => 313 | 32 => 314 | 33 => 315 | 34 => 316 | 35 => 317 | 40 => 321 | n => n, fun | 23 => 50 | 25 => 3 | 3 => 3 | 32 => 202 | 22 => 50 | 0 => 0 | 44 => 198 | 46 => 203 | 4 => 4 | 36 => 240 | 35 => 239 | 41 => 245 | 5 => 5 | 9 => 9 | 53 => 250 | 57 => 254 | 63 => 259 | 64 => 260 | n => n, fun | n => n⟩
theorem Tryz.sortA : Go.Proofs.SlLaysM.n5 Tryz.prog Tryz.sortA_ren := {
  mixed := by kernel_rfl
  f5 := ⟨Tryz.f263.name, by decide, Tryz.func263.trans (congrArg some (by kernel_rfl))⟩
  f7 := ⟨Tryz.f290.name, by decide, Tryz.func290.trans (congrArg some (by kernel_rfl))⟩
  f8 := Tryz.func291.trans (congrArg some (by kernel_rfl))
  f10 := ⟨Tryz.f299.name, by decide, Tryz.func299.trans (congrArg some (by kernel_rfl))⟩
  f11 := ⟨Tryz.f300.name, by decide, Tryz.func300.trans (congrArg some (by kernel_rfl))⟩
  f12 := ⟨Tryz.f301.name, by decide, Tryz.func301.trans (congrArg some (by kernel_rfl))⟩
  f13 := ⟨Tryz.f302.name, by decide, Tryz.func302.trans (congrArg some (by kernel_rfl))⟩
  f14 := ⟨Tryz.f303.name, by decide, Tryz.func303.trans (congrArg some (by kernel_rfl))⟩
  f15 := ⟨Tryz.f304.name, by decide, Tryz.func304.trans (congrArg some (by kernel_rfl))⟩
  f16 := ⟨Tryz.f305.name, by decide, Tryz.func305.trans (congrArg some (by kernel_rfl))⟩
  f17 := ⟨Tryz.f306.name, by decide, Tryz.func306.trans (congrArg some (by kernel_rfl))⟩
  f18 := ⟨Tryz.f307.name, by decide, Tryz.func307.trans (congrArg some (by kernel_rfl))⟩
  f19 := Tryz.func308.trans (congrArg some (by kernel_rfl))
  f20 := Tryz.func268.trans (congrArg some (by kernel_rfl))
  f30 := ⟨Tryz.f312.name, by decide, Tryz.func312.trans (congrArg some (by kernel_rfl))⟩
  f31 := Tryz.func313.trans (congrArg some (by kernel_rfl))
  f32 := Tryz.func314.trans (congrArg some (by kernel_rfl))
  f33 := ⟨Tryz.f315.name, by decide, Tryz.func315.trans (congrArg some (by kernel_rfl))⟩
  f34 := ⟨Tryz.f316.name, by decide, Tryz.func316.trans (congrArg some (by kernel_rfl))⟩
  f35 := ⟨Tryz.f317.name, by decide, Tryz.func317.trans (congrArg some (by kernel_rfl))⟩
  f40 := ⟨Tryz.f321.name, by decide, Tryz.func321.trans (congrArg some (by kernel_rfl))⟩
  t0 := Tryz.underlying0
  a0 := Tryz.isAgg0
  z0 := Tryz.sizeOf0
  v0 := Tryz.zeroValue0
  t3 := Tryz.underlying3
  a3 := Tryz.isAgg3
  z3 := Tryz.sizeOf3
  v3 := Tryz.zeroValue3
  t4 := Tryz.underlying4
  a4 := Tryz.isAgg4
  z4 := Tryz.sizeOf4
  v4 := Tryz.zeroValue4
  t5 := Tryz.underlying5
  a5 := Tryz.isAgg5
  z5 := Tryz.sizeOf5
  v5 := Tryz.zeroValue5
  t9 := Tryz.underlying9
  a9 := Tryz.isAgg9
  z9 := Tryz.sizeOf9
  v9 := Tryz.zeroValue9
  t22 := Tryz.underlying50
  a22 := Tryz.isAgg50
  z22 := Tryz.sizeOf50
  v22 := Tryz.zeroValue50
  t23 := Tryz.underlying50
  a23 := Tryz.isAgg50
  z23 := Tryz.sizeOf50
  v23 := Tryz.zeroValue50
  t25 := Tryz.underlying3
  a25 := Tryz.isAgg3
  z25 := Tryz.sizeOf3
  v25 := Tryz.zeroValue3
  t32 := Tryz.underlying202
  a32 := Tryz.isAgg202
  z32 := Tryz.sizeOf202
  v32 := Tryz.zeroValue202
  t35 := Tryz.underlying239
  a35 := Tryz.isAgg239
  z35 := Tryz.sizeOf239
  v35 := Tryz.zeroValue239
  t36 := Tryz.underlying240
  a36 := Tryz.isAgg240
  z36 := Tryz.sizeOf240
  v36 := Tryz.zeroValue240
  t41 := Tryz.underlying245
  a41 := Tryz.isAgg245
  z41 := Tryz.sizeOf245
  v41 := Tryz.zeroValue245
  t44 := Tryz.underlying198
  a44 := Tryz.isAgg198
  z44 := Tryz.sizeOf198
  v44 := Tryz.zeroValue198
  t46 := Tryz.underlying203
  a46 := Tryz.isAgg203
  z46 := Tryz.sizeOf203
  v46 := Tryz.zeroValue203
  t53 := Tryz.underlying250
  a53 := Tryz.isAgg250
  z53 := Tryz.sizeOf250
  v53 := Tryz.zeroValue250
  t57 := Tryz.underlying254
  a57 := Tryz.isAgg254
  z57 := Tryz.sizeOf254
  v57 := Tryz.zeroValue254
  t63 := Tryz.underlying259
  a63 := Tryz.isAgg259
  z63 := Tryz.sizeOf259
  v63 := Tryz.zeroValue259
  t64 := Tryz.underlying260
  a64 := Tryz.isAgg260
  z64 := Tryz.sizeOf260
  v64 := Tryz.zeroValue260 }
end Go.Proofs
end
