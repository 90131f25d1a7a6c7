/- Package fork in plain terms: evidences, what makes them, what accepts them, their bytes. Nothing of the program but the merkle tree's plain functions. -/
import Derived.Test.YthbpbkbjdfcnjaaGreatDoorMiP
import Derived.Test.YthbpbkbjdfcnjaaGreatDoorMkW
namespace Go.Proofs.YthbpbkbjdfcnjaaGreatDoor.Sl
set_option linter.unusedSectionVars false
set_option linter.unusedVariables false
set_option linter.unusedSimpArgs false
open Go Co Sg Ac It
structure Evidence where
  old : Head
  new : Head
  root : By
  link : List By
  deriving DecidableEq
def evid0 : Evidence := ⟨head0, head0, [], []⟩
def linkE (l : List By) (m : Nat) : List By := if m = 0 then [] else Mk.link l m true
def mkEv (l : List It.Entry) (now old : Head) : Evidence × Bool :=
  if now.server ≠ old.server ∨ old.size < 0 ∨ now.size < old.size ∨ l.length < now.size then (evid0, false)
  else if rootE (l.take now.size.toNat) ≠ now.root ∨ rootE (l.take old.size.toNat) = old.root then (evid0, false)
  else (⟨old, now, rootE (l.take old.size.toNat), linkE ((l.take now.size.toNat).map leafE) old.size.toNat⟩, true)
def formedE (e : Evidence) : Bool := rightH e.old && rightH e.new && decide (e.root.length = 32) && decide (e.link.length ≤ 64) && e.link.all dig
def checkE (ps : List Int) (e : Evidence) : Bool :=
  formedE e && decide (e.old.server = e.new.server) && decide (e.old.server < ps.length) && verifyH (ps.getD e.old.server.toNat 0) e.old && verifyH (ps.getD e.old.server.toNat 0) e.new && !decide (e.root = e.old.root) && Pe.extB e.old.size e.new.size e.root e.new.root e.link
def findE (ps : List Int) (l : List It.Entry) (hs : List Head) (h : Head) : Evidence × Bool :=
  match hs.getLast? with
  | none => (evid0, false)
  | some x => if (mkEv l x h).2 = true ∧ checkE ps (mkEv l x h).1 = true then ((mkEv l x h).1, true) else (evid0, false)
def evidB (e : Evidence) : By := if formedE e then text (headB e.old) ++ text (headB e.new) ++ text e.root ++ list e.link else []
def readEv (s : By) : Evidence × Bool :=
  let o := R.text ⟨s, false⟩
  let n := o.2.text
  let r := n.2.text
  let k := r.2.list
  let e : Evidence := ⟨(readHead o.1).1, (readHead n.1).1, r.1, k.1⟩
  if k.2.done = true ∧ (readHead o.1).2 = true ∧ (readHead n.1).2 = true ∧ formedE e = true ∧ evidB e = s then (e, true) else (evid0, false)
theorem readEv_right {s : By} (h : (readEv s).2 = true) : formedE (readEv s).1 = true ∧ evidB (readEv s).1 = s := by
  unfold readEv at h ⊢
  simp only at h ⊢
  split at h
  · rename_i hc
    rw [if_pos hc]
    exact ⟨hc.2.2.2.1, hc.2.2.2.2⟩
  · cases h
theorem formedE_iff {e : Evidence} : formedE e = true ↔ rightH e.old = true ∧ rightH e.new = true ∧ e.root.length = 32 ∧ e.link.length ≤ 64 ∧ ∀ x ∈ e.link, x.length = 32 := by
  simp only [formedE, Bool.and_eq_true, decide_eq_true_eq, List.all_eq_true, dig, and_assoc]
theorem headB_small {h : Head} (hr : rightH h = true) : (headB h).length < 2 ^ 63 := by
  obtain ⟨h1, h2, h3, h4, h5⟩ := rightH_iff.1 hr
  simp only [sigR, Bool.and_eq_true, wi_iff] at h5
  have n1 := numI_le h.server (by omega)
  have n2 := numI_le h.size (by omega)
  have n3 := numI_le h.time (by omega)
  have n4 := numI_le h.sig.e (by omega)
  have n5 := numI_le h.sig.s (by omega)
  have t1 : (text h.root).length ≤ 41 := by
    have := num_le 8 h.root.length (by omega)
    unfold text
    rw [List.length_append]
    omega
  have tw : (text wHead).length = 5 := rfl
  unfold headB coreH
  rw [if_pos hr]
  simp only [List.length_append]
  omega
theorem readEv_back {e : Evidence} (h : formedE e = true) : readEv (evidB e) = (e, true) := by
  obtain ⟨h1, h2, h3, h4, h5⟩ := formedE_iff.1 h
  have hb : evidB e = text (headB e.old) ++ (text (headB e.new) ++ (text e.root ++ (list e.link ++ []))) := by
    unfold evidB
    rw [if_pos h]
    simp only [List.append_assoc, List.append_nil]
  have t1 : R.text ⟨evidB e, false⟩ = (headB e.old, ⟨text (headB e.new) ++ (text e.root ++ (list e.link ++ [])), false⟩) := by
    rw [hb]; exact text_back _ _ (headB_small h1)
  have t2 := text_back (headB e.new) (text e.root ++ (list e.link ++ [])) (headB_small h2)
  have t3 := text_back e.root (list e.link ++ []) (by omega)
  have t4 := list_back e.link [] (by omega) (fun s hs => by rw [h5 s hs]; decide)
  unfold readEv
  simp only [t1, t2, t3, t4, readHead_back h1, readHead_back h2]
  rw [if_pos ⟨rfl, trivial, trivial, h, trivial⟩]
/-- a link that was made is accepted -/
theorem root_rt' {l : List By} (h : 0 < l.length) : Mk.root l = Mk.rt l := if_neg (fun e => by rw [e] at h; simp at h)
theorem ext_made (l : List By) (hl : Mk.Dig l) {m : Nat} (hm : m ≤ l.length) : Pe.extB (m : Int) (l.length : Int) (Mk.root (l.take m)) (Mk.root l) (linkE l m) = true := by
  have r1 : (Mk.root (l.take m)).length = 32 := root_len (Mk.Dig.take hl m)
  have r2 : (Mk.root l).length = 32 := root_len hl
  unfold Pe.extB
  by_cases h0 : m = 0
  · subst h0
    have hd : Pe.digs (linkE l 0) = true := rfl
    rw [if_neg (by rintro (h | h | h | h | h); (· omega); (· omega); (· exact h r1); (· exact h r2); (· rw [hd] at h; cases h)), if_pos ⟨rfl, rfl, rfl⟩]
  have hlk : linkE l m = Mk.link l m true := if_neg h0
  rw [hlk]
  have hdig := Mk.link_dig l.length l m true (by omega) hm (Nat.le_refl _) hl
  have hd : Pe.digs (Mk.link l m true) = true := by
    unfold Pe.digs
    rw [List.all_eq_true]
    intro x hx
    have := hdig x hx
    simp [this]
  rw [if_neg (by rintro (h | h | h | h | h); (· omega); (· omega); (· exact h r1); (· exact h r2); (· rw [hd] at h; cases h))]
  rw [if_neg (by rintro ⟨h, _⟩; omega)]
  by_cases he : m = l.length
  · subst he
    rw [List.take_length, if_pos ⟨rfl, rfl, by rw [Mk.link_all]; rfl⟩]
  rw [if_neg (by rintro ⟨h, _⟩; omega), if_neg (by omega)]
  have hrt1 := root_rt' (l := l.take m) (by rw [List.length_take]; omega)
  have hrt2 := root_rt' (l := l) (by omega)
  rw [hrt1, hrt2, Int.toNat_natCast, Int.toNat_natCast]
  rw [Mk.roots_link l.length l m (Mk.rt (l.take m)) true (by omega) hm (Nat.le_refl _) (fun _ => rfl)]
  simp
end Go.Proofs.YthbpbkbjdfcnjaaGreatDoor.Sl
