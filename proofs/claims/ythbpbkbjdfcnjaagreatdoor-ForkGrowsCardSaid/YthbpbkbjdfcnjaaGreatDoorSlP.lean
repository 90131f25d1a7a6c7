/- Heads of logs and mirrors in plain terms: which heads are right, their bytes, signing; what a mirror takes. Nothing of the program. -/
import Derived.Test.YthbpbkbjdfcnjaaGreatDoorItP
import Derived.Test.YthbpbkbjdfcnjaaGreatDoorMkQ
namespace Go.Proofs.YthbpbkbjdfcnjaaGreatDoor.Sl
set_option linter.unusedSectionVars false
set_option linter.unusedVariables false
set_option linter.unusedSimpArgs false
open Go Co Sg Ac It
structure Head where
  server : Int
  size : Int
  root : By
  time : Int
  sig : Sig
  deriving DecidableEq
def head0 : Head := ⟨0, 0, [], 0, sig0⟩
def rightH (h : Head) : Bool := wi h.server 0 19 && wi h.size 0 1073741824 && wi h.time 0 1099511627776 && dig h.root && sigR h.sig
abbrev wHead : By := [104, 101, 97, 100]
def coreH (h : Head) : By := text wHead ++ numI h.server ++ numI h.size ++ text h.root ++ numI h.time
def verifyH (p : Int) (h : Head) : Bool := rightH h && verify p (coreH h) h.sig
def headB (h : Head) : By := if rightH h then coreH h ++ numI h.sig.e ++ numI h.sig.s else []
def rHead (x : R) : Head × R :=
  let server := rNum x
  let size := rNum server.2
  let root := size.2.text
  let time := rNum root.2
  let s := rSig time.2
  (⟨server.1, size.1, root.1, time.1, s.1⟩, s.2)
def readHead (s : By) : Head × Bool :=
  let n := R.text ⟨s, false⟩
  let h := rHead n.2
  if n.1 = wHead ∧ h.2.done = true ∧ rightH h.1 = true ∧ headB h.1 = s then (h.1, true) else (head0, false)
theorem readHead_right {s : By} (h : (readHead s).2 = true) : rightH (readHead s).1 = true ∧ headB (readHead s).1 = s := by
  unfold readHead at h ⊢
  simp only at h ⊢
  split at h
  · rename_i hc
    rw [if_pos hc]
    exact ⟨hc.2.2.1, hc.2.2.2⟩
  · cases h
theorem readHead_wrong {s : By} (h : (readHead s).2 = false) : (readHead s).1 = head0 := by
  unfold readHead at h ⊢
  simp only at h ⊢
  split at h
  · cases h
  · rename_i hc
    rw [if_neg hc]
theorem rightH_iff {h : Head} : rightH h = true ↔ (0 ≤ h.server ∧ h.server ≤ 19) ∧ (0 ≤ h.size ∧ h.size ≤ 1073741824) ∧ (0 ≤ h.time ∧ h.time ≤ 1099511627776) ∧ h.root.length = 32 ∧ sigR h.sig = true := by
  simp only [rightH, Bool.and_eq_true, wi_iff, dig, decide_eq_true_eq, and_assoc]
theorem rHead_back {h : Head} (hr : rightH h = true) (r : By) : rHead ⟨numI h.server ++ (numI h.size ++ (text h.root ++ (numI h.time ++ (numI h.sig.e ++ (numI h.sig.s ++ r))))), false⟩ = (h, ⟨r, false⟩) := by
  obtain ⟨h1, h2, h3, h4, h5⟩ := rightH_iff.1 hr
  unfold rHead
  simp only [rNum_back h.server _ h1.1 (by omega), rNum_back h.size _ h2.1 (by omega), text_back h.root _ (by omega), rNum_back h.time _ h3.1 (by omega), rSig_back h.sig r h5]
theorem readHead_back {h : Head} (hr : rightH h = true) : readHead (headB h) = (h, true) := by
  have hb : headB h = text wHead ++ (numI h.server ++ (numI h.size ++ (text h.root ++ (numI h.time ++ (numI h.sig.e ++ (numI h.sig.s ++ [])))))) := by
    unfold headB coreH
    rw [if_pos hr]
    simp only [List.append_assoc, List.append_nil]
  have ht : R.text ⟨headB h, false⟩ = (wHead, ⟨numI h.server ++ (numI h.size ++ (text h.root ++ (numI h.time ++ (numI h.sig.e ++ (numI h.sig.s ++ []))))), false⟩) := by
    rw [hb]; exact text_back wHead _ (by decide)
  unfold readHead
  simp only [ht, rHead_back hr]
  rw [if_pos ⟨trivial, rfl, hr, trivial⟩]
theorem headB_ne {h : Head} (hr : rightH h = true) : headB h ≠ [] := by
  unfold headB coreH
  rw [if_pos hr]
  intro e
  have := congrArg List.length e
  have h5 : (text wHead).length = 5 := rfl
  simp only [List.length_append, List.length_nil] at this
  omega
theorem headB_wrong {h : Head} (hr : rightH h = false) : headB h = [] := by unfold headB; simp [hr]
theorem headB_inj {g h : Head} (hg : rightH g = true) (hh : rightH h = true) (e : headB g = headB h) : g = h := by
  have h1 := readHead_back hg
  rw [e, readHead_back hh] at h1
  exact (congrArg Prod.fst h1).symm
/-- the leaf of an entry; the root of entries -/
def leafE (e : It.Entry) : By := Mk.leaf (entryB e)
def rootE (l : List It.Entry) : By := Mk.root (l.map leafE)
theorem leafE_len (e : It.Entry) : (leafE e).length = 32 := Mk.sha_len' _
theorem leaves_dig (l : List It.Entry) : Mk.Dig (l.map leafE) := fun x hx => by
  obtain ⟨e, _, rfl⟩ := List.mem_map.1 hx
  exact leafE_len e
theorem root_len {l : List By} (h : Mk.Dig l) : (Mk.root l).length = 32 := by
  unfold Mk.root
  split
  · exact Mk.sha_len' _
  · rename_i h0
    exact Mk.rt_dig (List.length_pos_iff.2 h0) h
theorem rootE_len (l : List It.Entry) : (rootE l).length = 32 := root_len (leaves_dig l)
def mkHead (k : Key) (server : Int) (l : List It.Entry) (time : Int) : Head :=
  if k.right then
    let h : Head := ⟨server, l.length, rootE l, time, sig0⟩
    if rightH h then { h with sig := sign k (coreH h) } else head0
  else head0
theorem sig_sigR (k : Key) (m : By) : sigR (sign k m) = true := by
  obtain ⟨h1, h2, h3, h4⟩ := sign_range k m
  simp only [sigR, wi, Bool.and_eq_true, decide_eq_true_eq]
  omega
theorem core_sig (h : Head) (s : Sig) : coreH { h with sig := s } = coreH h := rfl
theorem right_sig {h : Head} (hr : rightH h = true) {s : Sig} (hs : sigR s = true) : rightH { h with sig := s } = true := by
  obtain ⟨h1, h2, h3, h4, _⟩ := rightH_iff.1 hr
  exact rightH_iff.2 ⟨h1, h2, h3, h4, hs⟩
theorem mkHead_right {k : Key} {server : Int} {l : List It.Entry} {time : Int} (hk : k.right = true) (hs : 0 ≤ server ∧ server ≤ 19) (hl : l.length ≤ 1073741824) (ht : 0 ≤ time ∧ time ≤ 1099511627776) :
    mkHead k server l time = ⟨server, l.length, rootE l, time, sign k (coreH ⟨server, l.length, rootE l, time, sig0⟩)⟩ ∧ rightH (mkHead k server l time) = true ∧ verifyH k.pub (mkHead k server l time) = true := by
  have h0 : rightH ⟨server, l.length, rootE l, time, sig0⟩ = true := rightH_iff.2 ⟨hs, by simp only; omega, ht, rootE_len l, rfl⟩
  have e : mkHead k server l time = ⟨server, l.length, rootE l, time, sign k (coreH ⟨server, l.length, rootE l, time, sig0⟩)⟩ := by
    unfold mkHead
    rw [if_pos hk]
    simp only
    rw [if_pos h0]
  rw [e]
  have h1 := right_sig h0 (sig_sigR k (coreH ⟨server, l.length, rootE l, time, sig0⟩))
  refine ⟨rfl, h1, ?_⟩
  unfold verifyH
  rw [show rightH ⟨server, l.length, rootE l, time, sign k (coreH ⟨server, l.length, rootE l, time, sig0⟩)⟩ = true from h1]
  exact verify_sign hk _
theorem mkHead_verify {k : Key} {server : Int} {l : List It.Entry} {time : Int} (h : rightH (mkHead k server l time) = true) : k.right = true ∧ (0 ≤ server ∧ server ≤ 19) ∧ l.length ≤ 1073741824 ∧ (0 ≤ time ∧ time ≤ 1099511627776) := by
  unfold mkHead at h
  split at h
  · rename_i hk
    simp only at h
    split at h
    · rename_i hr
      obtain ⟨h1, h2, h3, _⟩ := rightH_iff.1 hr
      simp only at h1 h2 h3
      exact ⟨hk, h1, by omega, h3⟩
    · exact absurd h (by decide)
  · exact absurd h (by decide)
/-- times do not descend -/
def times : List It.Entry → Bool
  | a :: b :: r => decide (a.time ≤ b.time) && times (b :: r)
  | _ => true
theorem times_iff : ∀ {l : List It.Entry}, times l = true ↔ ∀ j (h : j + 1 < l.length), l[j].time ≤ l[j + 1].time
  | [] => by simp [times]
  | [a] => by simp [times]
  | a :: b :: r => by
    rw [times, Bool.and_eq_true, decide_eq_true_eq, times_iff (l := b :: r)]
    constructor
    · rintro ⟨h1, h2⟩ j h
      cases j with
      | zero => exact h1
      | succ j => exact h2 j (by simpa using h)
    · intro h
      exact ⟨h 0 (by simp), fun j hj => h (j + 1) (by simpa using hj)⟩
theorem times_take {l : List It.Entry} (h : times l = true) (n : Nat) : times (l.take n) = true := by
  rw [times_iff] at h ⊢
  intro j hj
  rw [List.length_take] at hj
  rw [List.getElem_take, List.getElem_take]
  exact h j (by omega)
/- mirrors -/
structure Mirror where
  server : Int
  entries : List It.Entry
  heads : List Head
  deriving DecidableEq
structure Batch where
  head : Head
  frm : Int
  entries : List It.Entry
  deriving DecidableEq
def mirror0 : Mirror := ⟨0, [], []⟩
def batch0 : Batch := ⟨head0, 0, []⟩
def make (l : List It.Entry) (h : Head) (frm most : Int) : Batch × Bool :=
  if l.length < h.size ∨ frm < 0 ∨ h.size ≤ frm then (batch0, false)
  else if 64 < h.size - frm ∨ most < h.size - frm then (batch0, false)
  else (⟨h, frm, (l.take h.size.toNat).drop frm.toNat⟩, true)
def formed (b : Batch) : Bool := rightH b.head && decide (1 ≤ b.entries.length) && decide (b.entries.length ≤ 64) && decide (0 ≤ b.frm) && decide (b.frm = b.head.size - b.entries.length)
def sound (ps : List Int) (e : It.Entry) : Bool := decide (entryB e ≠ []) && signed ps e.item
/-- an entry that both have differs -/
def clash : List It.Entry → List It.Entry → Bool
  | a :: l, b :: m => decide (a ≠ b) || clash l m
  | _, _ => false
def logOf (m : Mirror) (b : Batch) : List It.Entry := m.entries.take b.frm.toNat ++ b.entries
def take (ps : List Int) (m : Mirror) (b : Batch) : Mirror × Int :=
  if m.server < 0 ∨ ps.length ≤ m.server ∨ formed b = false ∨ b.head.server ≠ m.server then (mirror0, 1)
  else if verifyH (ps.getD m.server.toNat 0) b.head = false then (mirror0, 3)
  else if m.entries.length < b.frm then (mirror0, 12)
  else if clash (m.entries.drop b.frm.toNat) b.entries = true then (mirror0, 5)
  else if rootE (logOf m b) ≠ b.head.root then (mirror0, 17)
  else if times (logOf m b) = false then (mirror0, 2)
  else if b.entries.all (sound ps) = false then (mirror0, 2)
  else if b.head.size ≤ m.entries.length then (m, 0)
  else (⟨m.server, logOf m b, m.heads ++ [b.head]⟩, 0)
/-- the heads of a mirror: each greater than the one before -/
def headsOk (p : Int) (m : Mirror) : Int → List Head → Bool
  | last, [] => decide (last = m.entries.length)
  | last, h :: hs => decide (h.server = m.server) && verifyH p h && decide (last < h.size) && decide (h.size ≤ m.entries.length) && decide (h.root = rootE (m.entries.take h.size.toNat)) && headsOk p m h.size hs
def rightM (ps : List Int) (m : Mirror) : Bool :=
  decide (0 ≤ m.server) && decide (m.server < ps.length) && times m.entries && m.entries.all (sound ps) && headsOk (ps.getD m.server.toNat 0) m 0 m.heads
theorem clash_iff : ∀ {l m : List It.Entry}, clash l m = false ↔ ∀ j (h1 : j < l.length) (h2 : j < m.length), l[j] = m[j]
  | [], m => by simp [clash]
  | a :: l, [] => by simp [clash]
  | a :: l, b :: m => by
    rw [clash, Bool.or_eq_false_iff, decide_eq_false_iff_not, Decidable.not_not, clash_iff (l := l) (m := m)]
    constructor
    · rintro ⟨h1, h2⟩ j hj1 hj2
      cases j with
      | zero => exact h1
      | succ j => exact h2 j (by simpa using hj1) (by simpa using hj2)
    · intro h
      exact ⟨h 0 (by simp) (by simp), fun j h1 h2 => h (j + 1) (by simpa using h1) (by simpa using h2)⟩
end Go.Proofs.YthbpbkbjdfcnjaaGreatDoor.Sl
