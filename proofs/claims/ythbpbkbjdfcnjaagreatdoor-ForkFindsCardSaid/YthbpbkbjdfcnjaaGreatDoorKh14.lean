/- Several texts in one, without what this claim does not use (tools/shake.py). -/
import Derived.Test.YthbpbkbjdfcnjaaGreatDoorKh1
import Derived.Test.YthbpbkbjdfcnjaaGreatDoorKh2
import Derived.Test.YthbpbkbjdfcnjaaGreatDoorKh3
import Derived.Test.YthbpbkbjdfcnjaaGreatDoorKh4
import Derived.Test.YthbpbkbjdfcnjaaGreatDoorKh5
import Derived.Test.YthbpbkbjdfcnjaaGreatDoorKh6
import Derived.Test.YthbpbkbjdfcnjaaGreatDoorKh7
import Derived.Test.YthbpbkbjdfcnjaaGreatDoorKh8
import Derived.Test.YthbpbkbjdfcnjaaGreatDoorKh9
import Derived.Test.YthbpbkbjdfcnjaaGreatDoorKh10
import Derived.Test.YthbpbkbjdfcnjaaGreatDoorKh11
import Derived.Test.YthbpbkbjdfcnjaaGreatDoorKh12
import Derived.Test.YthbpbkbjdfcnjaaGreatDoorKh13
set_option linter.unusedSectionVars false
set_option linter.unusedVariables false
set_option linter.unusedSimpArgs false
section
namespace Go.Proofs.YthbpbkbjdfcnjaaGreatDoor.Sl
open Go Co Sg Ac It
structure Evidence where
 old : Head
 new : Head
 root : By
 link : List By
 deriving DecidableEq
def evid0 : Evidence := ⟨head0, head0, [], []⟩
def linkE (l : List By) (m : Nat) : List By := if m = 0 then [] else Mk.link l m true
def mkEv (l : List It.Entry) (now old : Head) : Evidence × Bool :=
 if now.server ≠ old.server ∨ old.size < 0 ∨ now.size < old.size ∨ l.length < now.size then (evid0, false)
 else if rootE (l.take now.size.toNat) ≠ now.root ∨ rootE (l.take old.size.toNat) = old.root then (evid0, false)
 else (⟨old, now, rootE (l.take old.size.toNat), linkE ((l.take now.size.toNat).map leafE) old.size.toNat⟩, true)
def formedE (e : Evidence) : Bool := rightH e.old && rightH e.new && decide (e.root.length = 32) && decide (e.link.length ≤ 64) && e.link.all dig
def checkE (ps : List Int) (e : Evidence) : Bool :=
 formedE e && decide (e.old.server = e.new.server) && decide (e.old.server < ps.length) && verifyH (ps.getD e.old.server.toNat 0) e.old && verifyH (ps.getD e.old.server.toNat 0) e.new && !decide (e.root = e.old.root) && Pe.extB e.old.size e.new.size e.root e.new.root e.link
def evidB (e : Evidence) : By := if formedE e then text (headB e.old) ++ text (headB e.new) ++ text e.root ++ list e.link else []
def readEv (s : By) : Evidence × Bool :=
 let o := R.text ⟨s, false⟩
 let n := o.2.text
 let r := n.2.text
 let k := r.2.list
 let e : Evidence := ⟨(readHead o.1).1, (readHead n.1).1, r.1, k.1⟩
 if k.2.done = true ∧ (readHead o.1).2 = true ∧ (readHead n.1).2 = true ∧ formedE e = true ∧ evidB e = s then (e, true) else (evid0, false)
theorem formedE_iff {e : Evidence} : formedE e = true ↔ rightH e.old = true ∧ rightH e.new = true ∧ e.root.length = 32 ∧ e.link.length ≤ 64 ∧ ∀ x ∈ e.link, x.length = 32 := by
 simp only [formedE, Bool.and_eq_true, decide_eq_true_eq, List.all_eq_true, dig, and_assoc]
theorem headB_small {h : Head} (hr : rightH h = true) : (headB h).length < 2 ^ 63 := by
 obtain ⟨h1, h2, h3, h4, h5⟩ := rightH_iff.1 hr
 simp only [sigR, Bool.and_eq_true, wi_iff] at h5
 have n1 := numI_le h.server (by omega)
 have n2 := numI_le h.size (by omega)
 have n3 := numI_le h.time (by omega)
 have n4 := numI_le h.sig.e (by omega)
 have n5 := numI_le h.sig.s (by omega)
 have t1 : (text h.root).length ≤ 41 := by
  have := num_le 8 h.root.length (by omega)
  unfold text
  rw [List.length_append]
  omega
 have tw : (text wHead).length = 5 := rfl
 unfold headB coreH
 rw [if_pos hr]
 simp only [List.length_append]
 omega
theorem readEv_back {e : Evidence} (h : formedE e = true) : readEv (evidB e) = (e, true) := by
 obtain ⟨h1, h2, h3, h4, h5⟩ := formedE_iff.1 h
 have hb : evidB e = text (headB e.old) ++ (text (headB e.new) ++ (text e.root ++ (list e.link ++ []))) := by
  unfold evidB
  rw [if_pos h]
  simp only [List.append_assoc, List.append_nil]
 have t1 : R.text ⟨evidB e, false⟩ = (headB e.old, ⟨text (headB e.new) ++ (text e.root ++ (list e.link ++ [])), false⟩) := by
  rw [hb]; exact text_back _ _ (headB_small h1)
 have t2 := text_back (headB e.new) (text e.root ++ (list e.link ++ [])) (headB_small h2)
 have t3 := text_back e.root (list e.link ++ []) (by omega)
 have t4 := list_back e.link [] (by omega) (fun s hs => by rw [h5 s hs]; decide)
 unfold readEv
 simp only [t1, t2, t3, t4, readHead_back h1, readHead_back h2]
 rw [if_pos ⟨rfl, trivial, trivial, h, trivial⟩]
theorem root_rt' {l : List By} (h : 0 < l.length) : Mk.root l = Mk.rt l := if_neg (fun e => by rw [e] at h; simp at h)
theorem ext_made (l : List By) (hl : Mk.Dig l) {m : Nat} (hm : m ≤ l.length) : Pe.extB (m : Int) (l.length : Int) (Mk.root (l.take m)) (Mk.root l) (linkE l m) = true := by
 have r1 : (Mk.root (l.take m)).length = 32 := root_len (Mk.Dig.take hl m)
 have r2 : (Mk.root l).length = 32 := root_len hl
 unfold Pe.extB
 by_cases h0 : m = 0
 ·subst h0
  have hd : Pe.digs (linkE l 0) = true := rfl
  rw [if_neg (by rintro (h | h | h | h | h); (· omega); (· omega); (· exact h r1); (· exact h r2); (· rw [hd] at h; cases h)), if_pos ⟨rfl, rfl, rfl⟩]
 have hlk : linkE l m = Mk.link l m true := if_neg h0
 rw [hlk]
 have hdig := Mk.link_dig l.length l m true (by omega) hm (Nat.le_refl _) hl
 have hd : Pe.digs (Mk.link l m true) = true := by
  unfold Pe.digs
  rw [List.all_eq_true]
  intro x hx
  have := hdig x hx
  simp [this]
 rw [if_neg (by rintro (h | h | h | h | h); (· omega); (· omega); (· exact h r1); (· exact h r2); (· rw [hd] at h; cases h))]
 rw [if_neg (by rintro ⟨h, _⟩; omega)]
 by_cases he : m = l.length
 ·subst he
  rw [List.take_length, if_pos ⟨rfl, rfl, by rw [Mk.link_all]; rfl⟩]
 rw [if_neg (by rintro ⟨h, _⟩; omega), if_neg (by omega)]
 have hrt1 := root_rt' (l := l.take m) (by rw [List.length_take]; omega)
 have hrt2 := root_rt' (l := l) (by omega)
 rw [hrt1, hrt2, Int.toNat_natCast, Int.toNat_natCast]
 rw [Mk.roots_link l.length l m (Mk.rt (l.take m)) true (by omega) hm (Nat.le_refl _) (fun _ => rfl)]
 simp
end Go.Proofs.YthbpbkbjdfcnjaaGreatDoor.Sl
namespace Go.Proofs.YthbpbkbjdfcnjaaGreatDoor.Sl
open Go Co Sg Ac It
theorem made_ok {k : Key} (hk : k.right = true) (ps : List Int) (hp : ps = [k.pub]) {o l : List It.Entry} {t u : Int} (hl : l.length ≤ 64) (hol : o.length ≤ l.length) (ht : 0 ≤ t ∧ t ≤ 1099511627776) (hu : 0 ≤ u ∧ u ≤ 1099511627776) :
  (mkEv l (mkHead k 0 l u) (mkHead k 0 o t)).2 = (!decide (rootE (l.take o.length) = rootE o)) ∧
  (rootE (l.take o.length) ≠ rootE o → checkE ps (mkEv l (mkHead k 0 l u) (mkHead k 0 o t)).1 = true) := by
 subst hp
 obtain ⟨a1, a2, a3⟩ := mkHead_right (k := k) (server := 0) (l := l) (time := u) hk ⟨by decide, by decide⟩ (by omega) hu
 obtain ⟨b1, b2, b3⟩ := mkHead_right (k := k) (server := 0) (l := o) (time := t) hk ⟨by decide, by decide⟩ (by omega) ht
 have a4 : (mkHead k 0 l u).server = 0 := by rw [a1]
 have a5 : (mkHead k 0 l u).size = l.length := by rw [a1]
 have a6 : (mkHead k 0 l u).root = rootE l := by rw [a1]
 have b4 : (mkHead k 0 o t).server = 0 := by rw [b1]
 have b5 : (mkHead k 0 o t).size = o.length := by rw [b1]
 have b6 : (mkHead k 0 o t).root = rootE o := by rw [b1]
 clear a1 b1
 generalize mkHead k 0 l u = now at *
 generalize mkHead k 0 o t = old at *
 have hm : mkEv l now old = if rootE (l.take o.length) = rootE o then (evid0, false) else (⟨old, now, rootE (l.take o.length), linkE (l.map leafE) o.length⟩, true) := by
  unfold mkEv
  rw [a4, a5, a6, b4, b5, b6, Int.toNat_natCast, Int.toNat_natCast, List.take_length]
  rw [if_neg (by rintro (h | h | h | h); exact h rfl; omega; omega; omega)]
  by_cases he : rootE (l.take o.length) = rootE o
  ·rw [if_pos (.inr he), if_pos he]
  ·rw [if_neg (by rintro (h | h); exact h rfl; exact he h), if_neg he]
 rw [hm]
 constructor
 ·by_cases he : rootE (l.take o.length) = rootE o
  ·rw [if_pos he, decide_eq_true he]; rfl
  ·rw [if_neg he, decide_eq_false he]; rfl
 intro he
 rw [if_neg he]
 have hdig := leaves_dig l
 have hmap : (l.take o.length).map leafE = (l.map leafE).take o.length := List.map_take
 have hext := ext_made (l.map leafE) hdig (m := o.length) (by rw [List.length_map]; exact hol)
 rw [List.length_map] at hext
 have hlk : (linkE (l.map leafE) o.length).length ≤ 64 ∧ ∀ x ∈ linkE (l.map leafE) o.length, x.length = 32 := by
  unfold linkE
  by_cases h0 : o.length = 0
  ·rw [if_pos h0]; exact ⟨by decide, fun x hx => by cases hx⟩
  ·rw [if_neg h0]
   refine ⟨Nat.le_trans (Pe.link_len l.length _ _ _ (by omega) (by rw [List.length_map]; exact hol) (by rw [List.length_map]; exact Nat.le_refl _)) hl, Mk.link_dig _ _ _ _ (by omega) (by rw [List.length_map]; exact hol) (Nat.le_refl _) hdig⟩
 have hform : formedE ⟨old, now, rootE (l.take o.length), linkE (l.map leafE) o.length⟩ = true := formedE_iff.2 ⟨b2, a2, rootE_len _, hlk.1, hlk.2⟩
 unfold checkE
 rw [hform]
 simp only [a4, a5, a6, b4, b5, b6]
 rw [show ([k.pub] : List Int).getD (0 : Int).toNat 0 = k.pub from rfl, b3, a3]
 rw [decide_eq_false he]
 have hx : Pe.extB (o.length : Int) (l.length : Int) (rootE (l.take o.length)) (rootE l) (linkE (l.map leafE) o.length) = true := by
  unfold rootE
  rw [hmap]
  exact hext
 rw [hx]
 rfl
structure Grown (k : Key) (l : List It.Entry) (m : Mirror) (n : Nat) : Prop where
 server : m.server = 0
 le : n ≤ l.length
 entries : m.entries = l.take n
 last : m.heads.getLast? = if n = 0 then none else some (mkHead k 0 (l.take n) n)
abbrev fkActor : By := [48, 48, 48, 48, 48, 48, 48, 48, 48, 48, 48, 48, 48, 48, 48, 49]
def fkEntry (n : Int) : It.Entry := ⟨n, ⟨1, act0, ⟨fkActor, 1, Mk.leaf [], 0, 0, 37, n, sig0⟩, ballot0, decision0⟩⟩
def fkA : List It.Entry := [fkEntry 1, fkEntry 2]
def fkB : List It.Entry := [fkEntry 1, fkEntry 3, fkEntry 4]
def fkKey : Key := keySeed [97]
theorem fkKey_right : fkKey.right = true := keySeed_right _
theorem fk_ne : rootE (fkB.take 2) ≠ rootE fkA := by decide +kernel
def fkOld : Head := mkHead fkKey 0 fkA 2
def fkNow : Head := mkHead fkKey 0 fkB 4
def fkOld2 : Head := mkHead fkKey 0 (fkB.take 2) 3
theorem fk_37 : verifyH 37 fkOld = false := by decide +kernel
def fkE : Evidence := (mkEv fkB fkNow fkOld).1
theorem fk_made : mkEv fkB fkNow fkOld = (fkE, true) := by
 have h1 := (made_ok fkKey_right [fkKey.pub] rfl (o := fkA) (l := fkB) (t := 2) (u := 4) (by decide) (by decide) (by decide) (by decide)).1
 have h2 : decide (rootE (fkB.take fkA.length) = rootE fkA) = false := decide_eq_false fk_ne
 rw [h2] at h1
 have h3 : (mkEv fkB fkNow fkOld).2 = true := h1
 have hp : ∀ p : Evidence × Bool, p.2 = true → p = (p.1, true) := fun p h => by
  obtain ⟨a, b⟩ := p
  simp only at h
  rw [h]
 exact hp _ h3
theorem fk_none : mkEv fkB fkNow fkOld2 = (evid0, false) := by
 have h1 := (made_ok fkKey_right [fkKey.pub] rfl (o := fkB.take 2) (l := fkB) (t := 3) (u := 4) (by decide) (by decide) (by decide) (by decide)).1
 have h2 : decide (rootE (fkB.take (fkB.take 2).length) = rootE (fkB.take 2)) = true := decide_eq_true rfl
 rw [h2] at h1
 have e : (mkEv fkB fkNow fkOld2).2 = false := h1
 refine Prod.ext ?_ e
 unfold mkEv at e ⊢
 split
 ·rfl
 ·rename_i h1
  rw [if_neg h1] at e
  split
  ·rfl
  ·rename_i h2
   rw [if_neg h2] at e
   cases e
theorem fk_check : checkE [fkKey.pub] fkE = true := (made_ok fkKey_right [fkKey.pub] rfl (o := fkA) (l := fkB) (t := 2) (u := 4) (by decide) (by decide) (by decide) (by decide)).2 fk_ne
theorem fk_formed : formedE fkE = true := by
 have := fk_check
 unfold checkE at this
 simp only [Bool.and_eq_true] at this
 exact this.1.1.1.1.1.1
theorem fkE_old : fkE.old = fkOld := by
 have h := fk_made
 unfold mkEv at h
 split at h
 ·have := congrArg Prod.snd h; cases this
 ·split at h
  ·have := congrArg Prod.snd h; cases this
  ·obtain ⟨h', _⟩ := Prod.mk.inj h
   rw [← h']
theorem fk_old0 : fkE.old.server = 0 := by
 rw [fkE_old]
 have := (mkHead_right (k := fkKey) (server := 0) (l := fkA) (time := 2) fkKey_right ⟨by decide, by decide⟩ (by decide) (by decide)).1
 unfold fkOld
 rw [this]
theorem fk_check37 : checkE [37] fkE = false := by
 unfold checkE
 rw [fk_old0, fkE_old, show ([37] : List Int).getD (0 : Int).toNat 0 = 37 from rfl, fk_37]
 simp
end Go.Proofs.YthbpbkbjdfcnjaaGreatDoor.Sl
namespace Go.Proofs.YthbpbkbjdfcnjaaGreatDoor.Sl
open Go Co Sg Ac It
def evOf (k : Key) (server : Int) (l o : List It.Entry) (u t : Int) : Evidence := ⟨mkHead k server o t, mkHead k server l u, rootE (l.take o.length), linkE (l.map leafE) o.length⟩
structure Made (k : Key) (server : Int) (l o : List It.Entry) (u t : Int) : Prop where
 eq : mkEv l (mkHead k server l u) (mkHead k server o t) = if rootE (l.take o.length) = rootE o then (evid0, false) else (evOf k server l o u t, true)
 formed : formedE (evOf k server l o u t) = true
 srv : (evOf k server l o u t).old.server = server
 check : ∀ ps : List Int, server < ps.length → ps.getD server.toNat 0 = k.pub → rootE (l.take o.length) ≠ rootE o → checkE ps (evOf k server l o u t) = true
 none : ∀ ps : List Int, (ps.length : Int) ≤ server → checkE ps (evOf k server l o u t) = false
theorem ext_of {m n : Nat} {old now : By} {p : List By} (h : Pe.extB m n old now p = true) : (m = 0 ∧ (old = Mk.root [] ∨ (n = 0 ∧ now = old))) ∨ (0 < m ∧ m ≤ n ∧ old.length = 32 ∧ Mk.Dig p ∧ Mk.roots p.reverse m n old true = (old, now, true)) := by
 unfold Pe.extB at h
 split at h
 ·cases h
 rename_i g0
 simp only [not_or] at g0
 have hd : Mk.Dig p := fun y hy => by
  have := g0.2.2.2.2
  simp only [Pe.digs, Bool.not_eq_false, List.all_eq_true] at this
  have := this y hy
  simp at this
  omega
 split at h
 ·rename_i g1
  exact .inl ⟨by omega, .inl g1.2.1⟩
 by_cases hm : m = 0
 ·subst hm
  split at h
  ·rename_i g1
   exact .inl ⟨rfl, .inr ⟨by omega, g1.2.1⟩⟩
  ·rw [if_pos (.inl rfl)] at h
   cases h
 right
 refine ⟨by omega, by omega, by omega, hd, ?_⟩
 split at h
 ·rename_i g1
  obtain ⟨g1, g2, g3⟩ := g1
  have : p = [] := List.eq_nil_of_length_eq_zero g3
  subst this
  have : m = n := by omega
  subst this
  simp [Mk.roots, g2]
 split at h
 ·cases h
 simp only [Bool.and_eq_true, beq_iff_eq, Int.toNat_natCast] at h
 exact Prod.ext h.1.2 (Prod.ext h.2 h.1.1)
theorem honest_clash {k : Key} {l : List It.Entry} {m n : Nat} (hm : m ≤ l.length) (hn : n ≤ l.length) {e : Evidence} {t u : Int} (ho : e.old = mkHead k 0 (l.take m) t) (hw : e.new = mkHead k 0 (l.take n) u) (hc : checkE [k.pub] e = true) :
  0 < m ∧ m ≤ n ∧ Mk.Dig e.link ∧ e.root.length = 32 ∧ (Mk.rootsR e.link.reverse m n e.root true).2.2.2 = true ∧ Mk.Clash ((Mk.inputs ((l.map leafE).take m) ++ Mk.inputs ((l.map leafE).take n)) ++ (Mk.rootsR e.link.reverse m n e.root true).2.2.1) := by
 unfold checkE at hc
 simp only [Bool.and_eq_true, decide_eq_true_eq, Bool.not_eq_true', decide_eq_false_iff_not] at hc
 obtain ⟨⟨⟨⟨⟨⟨h1, h2⟩, h3⟩, h4⟩, h5⟩, h6⟩, h7⟩ := hc
 have r1 : rightH e.old = true := by unfold verifyH at h4; rw [Bool.and_eq_true] at h4; exact h4.1
 have r2 : rightH e.new = true := by unfold verifyH at h5; rw [Bool.and_eq_true] at h5; exact h5.1
 rw [ho] at r1
 rw [hw] at r2
 obtain ⟨k1, k2, k3, k4⟩ := mkHead_verify r1
 obtain ⟨_, n2, n3, n4⟩ := mkHead_verify r2
 obtain ⟨e1, _, _⟩ := mkHead_right k1 k2 k3 k4
 obtain ⟨e2, _, _⟩ := mkHead_right k1 n2 n3 n4
 have s1 : e.old.size = m := by rw [ho, e1]; show ((l.take m).length : Int) = m; rw [List.length_take]; omega
 have s2 : e.new.size = n := by rw [hw, e2]; show ((l.take n).length : Int) = n; rw [List.length_take]; omega
 have s3 : e.old.root = rootE (l.take m) := by rw [ho, e1]
 have s4 : e.new.root = rootE (l.take n) := by rw [hw, e2]
 rw [s1, s2, s4] at h7
 rw [s3] at h6
 rcases ext_of h7 with ⟨h0, hr | ⟨hn0, hr⟩⟩ | ⟨h0, hmn, hr, hd, hroots⟩
 ·subst h0
  exact absurd hr h6
 ·subst h0 hn0
  exact absurd hr.symm h6
 ·obtain ⟨q1, q2, q3⟩ := Mk.rootsR_roots e.link.reverse m n e.root true (by rw [hroots])
  have hdr : Mk.Dig e.link.reverse := fun y hy => hd y (by simpa using hy)
  have hln : ((l.map leafE).take n).length = n := by rw [List.length_take, List.length_map]; omega
  have hdl : Mk.Dig ((l.map leafE).take n) := (leaves_dig l).take n
  have hnow : rootE (l.take n) = Mk.rt ((l.map leafE).take n) := by
   unfold rootE
   rw [List.map_take]
   exact root_rt' (by omega)
  have hold : rootE (l.take m) = Mk.rt ((l.map leafE).take m) := by
   unfold rootE
   rw [List.map_take]
   exact root_rt' (by rw [List.length_take, List.length_map]; omega)
  refine ⟨h0, hmn, hd, hr, q1, ?_⟩
  have := Mk.leads n ((l.map leafE).take n) e.link.reverse m e.root true (by omega) h0 (by omega) hdl hdr hr (by rw [hln, hroots, hnow])
  rw [hln, hroots] at this
  rcases this with h8 | h8
  ·exfalso
   refine h6 ?_
   rw [hold]
   rw [List.take_take, Nat.min_eq_left hmn] at h8
   exact h8
  ·exact h8.mono fun z hz => by
    rcases List.mem_append.1 hz with hz | hz
    ·exact List.mem_append_left _ (List.mem_append_right _ hz)
    ·exact List.mem_append_right _ hz
end Go.Proofs.YthbpbkbjdfcnjaaGreatDoor.Sl
end
section
namespace Go.Proofs.YthbpbkbjdfcnjaaGreatDoor.Pe
open Go Go.RowKit Co Sg Ac It Sl
set_option maxRecDepth 100000
set_option maxHeartbeats 4000000
abbrev evV (e : Evidence) : AV := .agg [.it .i64 e.old.server, .it .i64 e.old.size, .st e.old.root, .it .i64 e.old.time, .it .i64 e.old.sig.e, .it .i64 e.old.sig.s, .it .i64 e.new.server, .it .i64 e.new.size, .st e.new.root, .it .i64 e.new.time, .it .i64 e.new.sig.e, .it .i64 e.new.sig.s, .st e.root, sls e.link]
abbrev evL (e : Evidence) : List AV := [.it .i64 e.old.server, .it .i64 e.old.size, .st e.old.root, .it .i64 e.old.time, .it .i64 e.old.sig.e, .it .i64 e.old.sig.s, .it .i64 e.new.server, .it .i64 e.new.size, .st e.new.root, .it .i64 e.new.time, .it .i64 e.new.sig.e, .it .i64 e.new.sig.s, .st e.root, sls e.link]
abbrev headL (h : Head) : List AV := [.it .i64 h.server, .it .i64 h.size, .st h.root, .it .i64 h.time, .it .i64 h.sig.e, .it .i64 h.sig.s]
theorem fkserver_c (e : Evidence) : AC Tryz.prog 37 [evV e] [] (.it .i64 e.old.server) [] := by
 refine AC.enter2 [] [] Tryz.func37 rfl (by decide) (by decide) (Nat.le_of_ble_eq_true rfl) (by kernel_rfl) ?_; simp only [eraseC, eraseO, List.map_cons, List.map_nil, List.map_toArray, List.getElem?_toArray, List.getElem?_cons_zero, List.getElem?_cons_succ, Option.bind_some, Option.bind_none, List.append_eq, List.cons_append, List.nil_append]
 refine run ?_
 exact er0
theorem fkformed_c (e : Evidence) (hl : e.link.length ≤ 140737488355328) : AC Tryz.prog 64 [evV e] [] (.bo (formedE e)) [] := by
 refine AC.enter2 [60] [] Tryz.func64 rfl (by decide) (by decide) (Nat.le_of_ble_eq_true rfl) (by kernel_rfl) ?_; simp only [eraseC, eraseO, List.map_cons, List.map_nil, List.map_toArray, List.getElem?_toArray, List.getElem?_cons_zero, List.getElem?_cons_succ, Option.bind_some, Option.bind_none, List.append_eq, List.cons_append, List.nil_append]
 have k1 := sright_c e.old
 have k2 := sright_c e.new
 unfold formedE
 cases h1 : rightH e.old with
 | false =>
  rw [h1] at k1
  refine run ?_
  refine cp k1 ?_
  refine run ?_
  exact er0
 | true =>
 rw [h1] at k1
 cases h2 : rightH e.new with
 | false =>
  rw [h2] at k2
  refine run ?_
  refine cp k1 ?_
  refine run ?_
  refine cp k2 ?_
  refine run ?_
  exact er0
 | true =>
 rw [h2] at k2
 by_cases h3 : e.root.length = 32
 rotate_left
 ·have h3' : ((e.root.length : Int) != 32) = true := bneT (by omega)
  rw [decide_eq_false h3]
  refine run ?_
  refine cp k1 ?_
  refine run ?_
  refine cp k2 ?_
  refine runf @h3' ?_
  exact er0
 have h3' : ((e.root.length : Int) != 32) = false := bneF (by omega)
 by_cases h4 : e.link.length ≤ 64
 rotate_left
 ·have h4' : (64 : Int) < (e.link.length : Int) := by omega
  rw [decide_eq_true h3, decide_eq_false h4]
  refine run ?_
  refine cp k1 ?_
  refine run ?_
  refine cp k2 ?_
  refine runf (an @h3' @h4') ?_
  exact er0
 have h4' : ¬ (64 : Int) < (e.link.length : Int) := by omega
 rw [decide_eq_true h3, decide_eq_true h4]
 refine run ?_
 refine cp k1 ?_
 refine run ?_
 refine cp k2 ?_
 refine runf (an @h3' @h4') ?_
 refine loop_mk (fun m en S => S = [.cells (evL e)] ∧ en 28 = sls e.link ∧ en 29 = .it .i64 (e.link.length : Int) ∧ ∃ k : Nat, en 30 = .it .i64 (k : Int) ∧ k ≤ e.link.length ∧ (e.link.take k).all dig = true ∧ m = e.link.length - k) e.link.length
  ⟨rfl, (by first | rfl | (simp only [↓upd_apply, ↓put_some, ↓reduceIte, Nat.reduceEqDiff, ↓argEnv_zero, ↓argEnv_succ, *]; done)), (by first | rfl | (simp only [↓upd_apply, ↓put_some, ↓reduceIte, Nat.reduceEqDiff, ↓argEnv_zero, ↓argEnv_succ, *]; done)), 0, (by first | rfl | (simp only [↓upd_apply, ↓put_some, ↓reduceIte, Nat.reduceEqDiff, ↓argEnv_zero, ↓argEnv_succ, *]; done)), by omega, rfl, rfl⟩ ?_
 rintro m en S ⟨rfl, s28, s29, k, s30, hk, hall, rfl⟩
 by_cases hlt : k < e.link.length
 ·have hg : e.link[k]? = some e.link[k] := List.getElem?_eq_getElem hlt
  have hstep : e.link.take (k + 1) = e.link.take k ++ [e.link[k]] := List.take_succ_eq_append_getElem hlt
  have hbad : dig e.link[k] = false → e.link.all dig = false := fun h => List.all_eq_false.2 ⟨e.link[k], List.getElem_mem hlt, by simp [h]⟩
  generalize e.link[k] = x at *
  by_cases hx : x.length = 32
  ·have hx' : ((x.length : Int) != 32) = false := bneF (by omega)
   have hd : dig x = true := decide_eq_true hx
   refine runf (an @s28 (an @s29 (an @s30 (an @hg @hx')))) ?_
   exact round_mk (e.link.length - (k + 1)) (by omega) ⟨rfl, (by first | rfl | (simp only [↓upd_apply, ↓put_some, ↓reduceIte, Nat.reduceEqDiff, ↓argEnv_zero, ↓argEnv_succ, *]; done)), (by first | rfl | (simp only [↓upd_apply, ↓put_some, ↓reduceIte, Nat.reduceEqDiff, ↓argEnv_zero, ↓argEnv_succ, *]; done)), k + 1, (by first | rfl | (simp only [↓upd_apply, ↓put_some, ↓reduceIte, Nat.reduceEqDiff, ↓argEnv_zero, ↓argEnv_succ, *]; done)), by omega, by rw [hstep, List.all_append, hall]; simp [hd], rfl⟩
  ·have hx' : ((x.length : Int) != 32) = true := bneT (by omega)
   rw [hbad (decide_eq_false hx)]
   refine runf (an @s28 (an @s29 (an @s30 (an @hg @hx')))) ?_
   exact er0
 ·obtain rfl : k = e.link.length := by omega
  rw [List.take_length] at hall
  rw [hall]
  have hx : ¬ ((e.link.length : Nat) : Int) < (e.link.length : Int) := by omega
  refine runf (an @s28 (an @s29 (an @s30 @hx))) ?_
  exact er0
theorem fkmake_c (l : List It.Entry) (now old : Head) (hl : EOk l) : AC Tryz.prog 35 [entriesV l, headV now, headV old] [] (.tup [evV (mkEv l now old).1, .bo (mkEv l now old).2]) [] := by
 refine AC.enter2 [57, 58, 85] [] Tryz.func35 rfl (by decide) (by decide) (Nat.le_of_ble_eq_true rfl) (by kernel_rfl) ?_; simp only [eraseC, eraseO, List.map_cons, List.map_nil, List.map_toArray, List.getElem?_toArray, List.getElem?_cons_zero, List.getElem?_cons_succ, Option.bind_some, Option.bind_none, List.append_eq, List.cons_append, List.nil_append]
 have hll := hl.len
 have hsz := entries_sz l
 unfold mkEv
 by_cases c1 : now.server = old.server
 rotate_left
 ·have q1 : (now.server != old.server) = true := bneT c1
  rw [if_pos (.inl c1)]
  refine runf @q1 ?_
  exact er0w
 have q1 : (now.server != old.server) = false := bneF c1
 by_cases c2 : old.size < 0
 ·rw [if_pos (.inr (.inl c2))]
  refine runf (an @q1 @c2) ?_
  exact er0w
 by_cases c3 : now.size < old.size
 ·rw [if_pos (.inr (.inr (.inl c3)))]
  refine runf (an @q1 (an @c2 @c3)) ?_
  exact er0w
 by_cases c4 : (l.length : Int) < now.size
 ·rw [if_pos (.inr (.inr (.inr c4)))]
  refine runf (an @q1 (an @c2 (an @c3 @c4))) ?_
  exact er0w
 rw [if_neg (by rintro (h | h | h | h); exact h c1; exact c2 h; exact c3 h; exact c4 h)]
 have hn0 : 0 ≤ now.size := by omega
 have ho0 : 0 ≤ old.size := by omega
 have hnl : now.size.toNat ≤ l.length := by omega
 have hszn := entries_sz (l.take now.size.toNat)
 have hol : (l.take now.size.toNat).length = now.size.toNat := by rw [List.length_take]; omega
 have hon : old.size.toNat ≤ (l.take now.size.toNat).length := by omega
 have hlt2 : l.take old.size.toNat = (l.take now.size.toNat).take old.size.toNat := by rw [List.take_take, Nat.min_eq_left (by omega)]
 have hok := hl.take now.size.toNat
 have hokl := hok.len
 rw [hlt2]
 generalize hln : l.take now.size.toNat = ln at *
 have hoi : (ln.length : Int) = now.size := by omega
 refine runf (an @q1 (an @c2 (an @c3 (an @c4 (an @hn0 (an @hnl (an @hsz @hln))))))) ?_
 refine loop_mk (fun m e S => e 4 = .ptr 0 0 ∧ e 5 = .ptr 1 0 ∧ e 6 = .ptr 2 0 ∧ e 45 = entriesV ln ∧ e 46 = .it .i64 (ln.length : Int) ∧ ∃ (k : Nat) (acc : List By) (T : Store), e 47 = .it .i64 (k : Int) ∧ e 8 = .sl (.own 3) (acc.map .st) ∧ S = .cells (headL now) :: .cells (headL old) :: .cells [.it .i64 0, .it .i64 0, .st [], .it .i64 0, .it .i64 0, .it .i64 0, .it .i64 0, .it .i64 0, .st [], .it .i64 0, .it .i64 0, .it .i64 0, .st [], .sl .full []] :: .buf acc.length 9 1 :: T ∧ acc = (ln.take k).map leafE ∧ k ≤ ln.length ∧ m = ln.length - k) ln.length
  ⟨(by first | rfl | (simp only [↓upd_apply, ↓put_some, ↓reduceIte, Nat.reduceEqDiff, ↓argEnv_zero, ↓argEnv_succ, *]; done)), (by first | rfl | (simp only [↓upd_apply, ↓put_some, ↓reduceIte, Nat.reduceEqDiff, ↓argEnv_zero, ↓argEnv_succ, *]; done)), (by first | rfl | (simp only [↓upd_apply, ↓put_some, ↓reduceIte, Nat.reduceEqDiff, ↓argEnv_zero, ↓argEnv_succ, *]; done)), (by first | rfl | (simp only [↓upd_apply, ↓put_some, ↓reduceIte, Nat.reduceEqDiff, ↓argEnv_zero, ↓argEnv_succ, *]; done)), (by first | rfl | (simp only [↓upd_apply, ↓put_some, ↓reduceIte, Nat.reduceEqDiff, ↓argEnv_zero, ↓argEnv_succ, *]; done)), 0, [], [], (by first | rfl | (simp only [↓upd_apply, ↓put_some, ↓reduceIte, Nat.reduceEqDiff, ↓argEnv_zero, ↓argEnv_succ, *]; done)), (by first | rfl | (simp only [↓upd_apply, ↓put_some, ↓reduceIte, Nat.reduceEqDiff, ↓argEnv_zero, ↓argEnv_succ, *]; done)), rfl, by simp, by omega, rfl⟩ ?_
 rintro m e S ⟨s4, s5, s6, s45, s46, k, acc, T, s47, s8, rfl, hacc, hk, rfl⟩
 have hal : acc.length = k := by rw [hacc, List.length_map, List.length_take, Nat.min_eq_left hk]
 by_cases hlt : k < ln.length
 ·have hg : ln[k]? = some ln[k] := List.getElem?_eq_getElem hlt
  have hz := hok.iz ln[k] (List.getElem_mem hlt)
  have hst : acc ++ [leafE ln[k]] = (ln.take (k + 1)).map leafE := by rw [List.take_succ_eq_append_getElem hlt, List.map_append, ← hacc]; rfl
  generalize ln[k] = x at *
  have kx := sleaf_c x hz
  refine runf (an @s4 (an @s5 (an @s6 (an @s45 (an @s46 (an @s47 (an @s8 (an @hg (an @hszn (an @tl0 @tl0s)))))))))) ?_
  refine cp kx ?_
  refine runf (an @s4 (an @s5 (an @s6 (an @s45 (an @s46 (an @s47 @s8)))))) ?_
  exact round_mk (ln.length - (k + 1)) (by omega) ⟨(by first | rfl | (simp only [↓upd_apply, ↓put_some, ↓reduceIte, Nat.reduceEqDiff, ↓argEnv_zero, ↓argEnv_succ, *]; done)), (by first | rfl | (simp only [↓upd_apply, ↓put_some, ↓reduceIte, Nat.reduceEqDiff, ↓argEnv_zero, ↓argEnv_succ, *]; done)), (by first | rfl | (simp only [↓upd_apply, ↓put_some, ↓reduceIte, Nat.reduceEqDiff, ↓argEnv_zero, ↓argEnv_succ, *]; done)), (by first | rfl | (simp only [↓upd_apply, ↓put_some, ↓reduceIte, Nat.reduceEqDiff, ↓argEnv_zero, ↓argEnv_succ, *]; done)), (by first | rfl | (simp only [↓upd_apply, ↓put_some, ↓reduceIte, Nat.reduceEqDiff, ↓argEnv_zero, ↓argEnv_succ, *]; done)), k + 1, acc ++ [leafE x], _, (by first | rfl | (simp only [↓upd_apply, ↓put_some, ↓reduceIte, Nat.reduceEqDiff, ↓argEnv_zero, ↓argEnv_succ, *]; done)), by rw [List.map_append]; exact (by first | rfl | (simp only [↓upd_apply, ↓put_some, ↓reduceIte, Nat.reduceEqDiff, ↓argEnv_zero, ↓argEnv_succ, *]; done)), by rw [List.length_append]; rfl, hst, by omega, rfl⟩
 obtain rfl : k = ln.length := by omega
 rw [List.take_length] at hacc
 have hx : ¬ ((ln.length : Nat) : Int) < (ln.length : Int) := by omega
 have hx32 : ∀ x ∈ acc, x.length ≤ 1000000 := fun x hx => by rw [hacc] at hx; rw [leaves_dig _ x hx]; decide
 have hoa : old.size.toNat ≤ acc.length := by omega
 have kr1 := root_c (acc.take old.size.toNat) (by rw [List.length_take]; omega) (fun x hx => hx32 x (List.mem_of_mem_take hx))
 have kr2 := root_c acc (by omega) hx32
 have kl := link_c acc old.size.toNat hoa (by omega) hx32
 have e1 : Mk.root (acc.take old.size.toNat) = rootE (ln.take old.size.toNat) := by rw [hacc, ← List.map_take]; rfl
 have e2 : Mk.root acc = rootE ln := by rw [hacc]; rfl
 have e3 : (if old.size.toNat = 0 then [] else Mk.link acc old.size.toNat true) = linkE (ln.map leafE) old.size.toNat := by rw [hacc]; rfl
 have e4 : ((old.size.toNat : Nat) : Int) = old.size := by omega
 rw [e1] at kr1
 rw [e2] at kr2
 rw [e3, e4] at kl
 generalize rootE (ln.take old.size.toNat) = ro at *
 generalize rootE ln = rn at *
 generalize linkE (ln.map leafE) old.size.toNat = lk at *
 rw [upd_self s6]
 refine runf (an @s4 (an @s5 (an @s6 (an @s45 (an @s46 (an @s47 (an @s8 (an @hx (an @ho0 @hoa))))))))) ?_
 refine cp kr1 ?_
 refine runf (an @s4 (an @s5 (an @s6 (an @s45 (an @s46 (an @s47 @s8)))))) ?_
 refine cp kr2 ?_
 by_cases d1 : rn = now.root
 rotate_left
 ·have p1 := nilI _ _ d1
  rw [if_pos (.inl d1)]
  refine runf (an @s4 (an @s5 (an @s6 (an @s45 (an @s46 (an @s47 (an @s8 @p1))))))) ?_
  exact er0w
 have p1 : (rn == now.root) = true := by rw [d1]; exact beq_self_eq_true _
 by_cases d2 : ro = old.root
 ·have p2 : (ro == old.root) = true := by rw [d2]; exact beq_self_eq_true _
  rw [if_pos (.inr d2)]
  refine runf (an @s4 (an @s5 (an @s6 (an @s45 (an @s46 (an @s47 (an @s8 (an @p1 @p2)))))))) ?_
  exact er0w
 have p2 := nilI _ _ d2
 rw [if_neg (by rintro (h | h); exact h d1; exact d2 h)]
 refine runf (an @s4 (an @s5 (an @s6 (an @s45 (an @s46 (an @s47 (an @s8 (an @p1 @p2)))))))) ?_
 refine cp kl ?_
 refine runf (an @s4 (an @s5 (an @s6 (an @s45 (an @s46 (an @s47 @s8)))))) ?_
 exact er0w
theorem fkcheck_c (ps : List Int) (e : Evidence) (hp : InL ps) (hl : e.link.length ≤ 1000000) : AC Tryz.prog 36 [intsV ps, evV e] [] (.bo (checkE ps e)) [] := by
 refine AC.enter2 [64, 24, 86] [] Tryz.func36 rfl (by decide) (by decide) (Nat.le_of_ble_eq_true rfl) (by kernel_rfl) ?_; simp only [eraseC, eraseO, List.map_cons, List.map_nil, List.map_toArray, List.getElem?_toArray, List.getElem?_cons_zero, List.getElem?_cons_succ, Option.bind_some, Option.bind_none, List.append_eq, List.cons_append, List.nil_append]
 have hpl := hp.len
 have kf := fkformed_c e (by omega)
 have hszp : allSz 1 (ps.map (AV.it .i64)) = true := allSz_map 1 _ (fun _ => rfl) _
 unfold checkE
 cases hf : formedE e with
 | false =>
  rw [hf] at kf
  refine run ?_
  refine cp kf ?_
  refine run ?_
  exact er0
 | true =>
 rw [hf] at kf
 obtain ⟨h1, h2, h3, h4, h5⟩ := formedE_iff.1 hf
 have r1 := rightH_lin.1 h1
 have r2 := rightH_lin.1 h2
 by_cases c1 : e.old.server = e.new.server
 rotate_left
 ·have q1 : (e.old.server != e.new.server) = true := bneT c1
  rw [decide_eq_false c1]
  refine run ?_
  refine cp kf ?_
  refine runf @q1 ?_
  exact er0
 have q1 : (e.old.server != e.new.server) = false := bneF c1
 by_cases c2 : e.old.server < (ps.length : Int)
 rotate_left
 ·rw [decide_eq_true c1, decide_eq_false c2]
  refine run ?_
  refine cp kf ?_
  refine runf (an @q1 @c2) ?_
  exact er0
 rw [decide_eq_true c1, decide_eq_true c2]
 have c0 : 0 ≤ e.old.server := by omega
 have hlt : e.old.server.toNat < ps.length := by omega
 have hg : ps[e.old.server.toNat]? = some (ps.getD e.old.server.toNat 0) := by
  rw [List.getD_eq_getElem?_getD, List.getElem?_eq_getElem hlt]
  rfl
 have hpr : -9223372036854775808 ≤ ps.getD e.old.server.toNat 0 ∧ ps.getD e.old.server.toNat 0 ≤ 9223372036854775807 := by
  rw [List.getD_eq_getElem?_getD, List.getElem?_eq_getElem hlt]
  exact hp.rng _ (List.getElem_mem hlt)
 generalize ps.getD e.old.server.toNat 0 = p at *
 have k1 := sverify_c p e.old hpr
 have k2 := sverify_c p e.new hpr
 have k3 := extends_c e.link e.old.size e.new.size e.root e.new.root (by omega) hl (fun y hy => by rw [h5 y hy]; decide)
 generalize extB e.old.size e.new.size e.root e.new.root e.link = xb at *
 cases hv1 : verifyH p e.old with
 | false =>
  rw [hv1] at k1
  refine run ?_
  refine cp kf ?_
  refine runf (an @q1 (an @c2 (an @c0 (an @hg @hszp)))) ?_
  refine cp k1 ?_
  refine run ?_
  exact er0
 | true =>
 rw [hv1] at k1
 cases hv2 : verifyH p e.new with
 | false =>
  rw [hv2] at k2
  refine run ?_
  refine cp kf ?_
  refine runf (an @q1 (an @c2 (an @c0 (an @hg @hszp)))) ?_
  refine cp k1 ?_
  refine run ?_
  refine cp k2 ?_
  refine run ?_
  exact er0
 | true =>
 rw [hv2] at k2
 by_cases hr : e.root = e.old.root
 ·have qr : (e.root == e.old.root) = true := by rw [hr]; exact beq_self_eq_true _
  rw [decide_eq_true hr]
  refine run ?_
  refine cp kf ?_
  refine runf (an @q1 (an @c2 (an @c0 (an @hg @hszp)))) ?_
  refine cp k1 ?_
  refine run ?_
  refine cp k2 ?_
  refine runf @qr ?_
  exact er0
 ·have qr := nilI _ _ hr
  rw [decide_eq_false hr]
  refine run ?_
  refine cp kf ?_
  refine runf (an @q1 (an @c2 (an @c0 (an @hg @hszp)))) ?_
  refine cp k1 ?_
  refine run ?_
  refine cp k2 ?_
  refine runf @qr ?_
  refine cp k3 ?_
  refine run ?_
  exact er0
end Go.Proofs.YthbpbkbjdfcnjaaGreatDoor.Pe
end
section
namespace Go.Proofs.YthbpbkbjdfcnjaaGreatDoor.Pe
open Go Sm Mk
set_option maxRecDepth 100000
theorem rsplit_c (n : Nat) (h : 2 ≤ n) (h' : n < 9223372036854775808) : AC Tryz.prog 87 [.it .i64 n] [] (.it .i64 (sp n)) [] := by
 refine AC.enter [] [] Tryz.func87 rfl (by decide) (by decide) (Nat.le_of_ble_eq_true rfl) (by kernel_rfl) ?_; simp only [eraseC, eraseO, List.map_cons, List.map_nil, List.map_toArray, List.getElem?_toArray, List.getElem?_cons_zero, List.getElem?_cons_succ, Option.bind_some, Option.bind_none, List.append_eq, List.cons_append, List.nil_append]
 refine run ?_
 refine loop_mk (fun m e S => S = [] ∧ e 0 = .it .i64 n ∧ ∃ j, e 3 = .it .i64 ((2 ^ j : Nat) : Int) ∧ 2 ^ j < n ∧ m = n - 2 ^ j) (n - 1) ⟨rfl, (by first | rfl | (simp only [↓upd_apply, ↓put_some, ↓reduceIte, Nat.reduceEqDiff, ↓argEnv_zero, ↓argEnv_succ, *]; done)), 0, (by first | rfl | (simp only [↓upd_apply, ↓put_some, ↓reduceIte, Nat.reduceEqDiff, ↓argEnv_zero, ↓argEnv_succ, *]; done)), by omega, rfl⟩ ?_
 rintro m e S ⟨rfl, h0, j, h3, hj, rfl⟩
 generalize hk : 2 ^ j = k at *
 have hw : IntKind.i64.wrap ((n : Int) - (k : Int)) = (n : Int) - (k : Int) := wrap64 (by omega) (by omega)
 refine runf (an @h0 (an @h3 @hw)) ?_
 refine iteP_mk (fun hc => ?_) (fun hc => ?_)
 ·have hlt : k < n - k := by simp at hc; omega
  have hw2 : IntKind.i64.wrap (2 * (k : Int)) = 2 * (k : Int) := wrap64 (by omega) (by omega)
  refine runf (an @h0 (an @h3 @hw2)) ?_
  exact round_mk (n - 2 * k) (by have := Nat.pow_pos (n := j) (show 0 < 2 by omega); omega) ⟨rfl, (by first | rfl | (simp only [↓upd_apply, ↓put_some, ↓reduceIte, Nat.reduceEqDiff, ↓argEnv_zero, ↓argEnv_succ, *]; done)), j + 1, by rw [Nat.pow_succ, hk, Nat.mul_comm]; exact (by first | rfl | (simp only [↓upd_apply, ↓put_some, ↓reduceIte, Nat.reduceEqDiff, ↓argEnv_zero, ↓argEnv_succ, *]; done)), by rw [Nat.pow_succ, hk]; omega, by rw [Nat.pow_succ, hk, Nat.mul_comm]⟩
 ·have hge : ¬ k < n - k := by simp at hc; omega
  refine runf (an @h0 @h3) ?_
  have e : sp n = k := by rw [← hk]; exact sp_of (by omega) (by rw [Nat.pow_succ]; omega)
  rw [e]
  exact ends_ret0 (by rfl) (by rfl) (by rfl)
theorem rleaf_c (l : List UInt8) (h : l.length ≤ 1000000) : AC Tryz.prog 117 [.st l] [] (.st (leaf l)) [] := by
 refine AC.enter [92] [] Tryz.func117 rfl (by decide) (by decide) (Nat.le_of_ble_eq_true rfl) (by kernel_rfl) ?_; simp only [eraseC, eraseO, List.map_cons, List.map_nil, List.map_toArray, List.getElem?_toArray, List.getElem?_cons_zero, List.getElem?_cons_succ, Option.bind_some, Option.bind_none, List.append_eq, List.cons_append, List.nil_append]
 refine run ?_
 refine call_pure (rsha_c (0 :: l) (by simp; omega)) (by rfl) (by rfl) (by rfl) ?_
 refine run ?_
 exact ends_ret0 (by rfl) (by rfl) (by rfl)
theorem rpre_c (l r : List UInt8) (h : l.length ≤ 1000000) (h' : r.length ≤ 1000000) : AC Tryz.prog 89 [.st l, .st r] [] (.st (pre l r)) [] := by
 refine AC.enter [] [] Tryz.func89 rfl (by decide) (by decide) (Nat.le_of_ble_eq_true rfl) (by kernel_rfl) ?_; simp only [eraseC, eraseO, List.map_cons, List.map_nil, List.map_toArray, List.getElem?_toArray, List.getElem?_cons_zero, List.getElem?_cons_succ, Option.bind_some, Option.bind_none, List.append_eq, List.cons_append, List.nil_append]
 refine run ?_
 exact ends_ret0 (by rfl) (by rfl) (by rfl)
theorem rnode_c (l r : List UInt8) (h : l.length ≤ 1000000) (h' : r.length ≤ 1000000) : AC Tryz.prog 88 [.st l, .st r] [] (.st (node l r)) [] := by
 refine AC.enter [92, 89] [] Tryz.func88 rfl (by decide) (by decide) (Nat.le_of_ble_eq_true rfl) (by kernel_rfl) ?_; simp only [eraseC, eraseO, List.map_cons, List.map_nil, List.map_toArray, List.getElem?_toArray, List.getElem?_cons_zero, List.getElem?_cons_succ, Option.bind_some, Option.bind_none, List.append_eq, List.cons_append, List.nil_append]
 refine run ?_
 refine call_pure (rpre_c l r h h') (by rfl) (by rfl) (by rfl) ?_
 refine run ?_
 refine call_pure (rsha_c (pre l r) (by simp [pre]; omega)) (by rfl) (by rfl) (by rfl) ?_
 refine run ?_
 exact ends_ret0 (by rfl) (by rfl) (by rfl)
theorem rroot_c (k : Nat) : ∀ (l : List By), l.length ≤ k → l.length ≤ 1000000 → (∀ x ∈ l, x.length ≤ 1000000) →
  AC Tryz.prog 91 [sls l] [] (.st (root l)) [] := by
 induction k with
 | zero =>
  intro l hk hl hx
  have : l = [] := List.eq_nil_of_length_eq_zero (by omega)
  subst this
  refine AC.enter [91, 87, 88, 92] [] Tryz.func91 rfl (by decide) (by decide) (Nat.le_of_ble_eq_true rfl) (by kernel_rfl) ?_; simp only [eraseC, eraseO, List.map_cons, List.map_nil, List.map_toArray, List.getElem?_toArray, List.getElem?_cons_zero, List.getElem?_cons_succ, Option.bind_some, Option.bind_none, List.append_eq, List.cons_append, List.nil_append]
  refine run ?_
  refine call_pure (rsha_c [] (by simp)) (by rfl) (by rfl) (by rfl) ?_
  refine run ?_
  exact ends_ret0 (by rfl) (by rfl) (by rfl)
 | succ k ih =>
  intro l hk hl hx
  refine AC.enter [91, 87, 88, 92] [] Tryz.func91 rfl (by decide) (by decide) (Nat.le_of_ble_eq_true rfl) (by kernel_rfl) ?_; simp only [eraseC, eraseO, List.map_cons, List.map_nil, List.map_toArray, List.getElem?_toArray, List.getElem?_cons_zero, List.getElem?_cons_succ, Option.bind_some, Option.bind_none, List.append_eq, List.cons_append, List.nil_append]
  by_cases h0 : l.length = 0
  ·have : l = [] := List.eq_nil_of_length_eq_zero (by omega)
   subst this
   refine run ?_
   refine call_pure (rsha_c [] (by simp)) (by rfl) (by rfl) (by rfl) ?_
   refine run ?_
   exact ends_ret0 (by rfl) (by rfl) (by rfl)
  rw [root_rt (by omega)]
  by_cases h1 : l.length = 1
  ·obtain ⟨a, rfl⟩ := List.length_eq_one_iff.1 h1
   refine run ?_
   rw [rt_one (by simp)]
   exact ends_ret0 (by rfl) (by rfl) (by rfl)
  ·have h2 : 2 ≤ l.length := by omega
   have h3 := sp_lt h2
   have h4 := sp_pos l.length
   have ht : (List.take (sp l.length) l).length = sp l.length := by simp; omega
   have hd : (l.drop (sp l.length)).length = l.length - sp l.length := List.length_drop
   have hxt : ∀ x ∈ l.take (sp l.length), x.length ≤ 1000000 := fun x hx' => hx x (List.mem_of_mem_take hx')
   have hxd : ∀ x ∈ l.drop (sp l.length), x.length ≤ 1000000 := fun x hx' => hx x (List.mem_of_mem_drop hx')
   have f1 := ih (l.take (sp l.length)) (by omega) (by omega) hxt
   have f2 := ih (l.drop (sp l.length)) (by omega) (by omega) hxd
   rw [root_rt (by omega)] at f1 f2
   refine run ?_
   refine call_pure (rsplit_c l.length h2 (by omega)) (by rfl) (by rfl) (by rfl) ?_
   refine run ?_
   refine call_pure f1 (by rfl) (by rfl) (by rfl) ?_
   refine runf (@List.take_length (List UInt8)) ?_
   refine call_pure f2 (by rfl) (by rfl) (by rfl) ?_
   refine run ?_
   refine call_pure (rnode_c _ _ (rt_len hxt) (rt_len hxd)) (by rfl) (by rfl) (by rfl) ?_
   refine run ?_
   rw [rt_two h2]
   exact ends_ret0 (by rfl) (by rfl) (by rfl)
end Go.Proofs.YthbpbkbjdfcnjaaGreatDoor.Pe
end
section
namespace Go.Proofs.YthbpbkbjdfcnjaaGreatDoor.Pe
open Go Go.RowKit Co Sg Ac It Sl
theorem keyE_rng {k : Key} (h : k.right = true) : (-9223372036854775808 ≤ k.secret ∧ k.secret ≤ 9223372036854775807) ∧ (-9223372036854775808 ≤ k.pub ∧ k.pub ≤ 9223372036854775807) := by
 obtain ⟨h1, h2, h3⟩ := Key.right_iff.1 h
 have := pub_range h
 exact ⟨by omega, by omega⟩
theorem headE_eqb (x y : Head) : ((x.server == y.server) && ((x.size == y.size) && ((x.root == y.root) && ((x.time == y.time) && ((x.sig.e == y.sig.e) && (x.sig.s == y.sig.s)))))) = decide (x = y) := by
 obtain ⟨x1, x2, x3, x4, ⟨x5, x6⟩⟩ := x
 obtain ⟨y1, y2, y3, y4, ⟨y5, y6⟩⟩ := y
 rw [Bool.eq_iff_iff]
 simp
end Go.Proofs.YthbpbkbjdfcnjaaGreatDoor.Pe
end
section
namespace Go.Proofs.YthbpbkbjdfcnjaaGreatDoor.Pe
open Go Go.RowKit Co Sg Ac It Sl
set_option maxRecDepth 100000
set_option maxHeartbeats 4000000
theorem evidB_len (e : Evidence) : (evidB e).length ≤ 900000000 := by
 unfold evidB
 split
 ·rename_i h
  obtain ⟨h1, h2, h3, h4, h5⟩ := formedE_iff.1 h
  have a1 := text_le (headB e.old) (by have := headB_len e.old; omega)
  have a2 := text_le (headB e.new) (by have := headB_len e.new; omega)
  have a3 := text_len (s := e.root) (by omega)
  have a4 : (list e.link).length ≤ 100000000 := by
   have hn := num_len9 (n := e.link.length) (by omega)
   have hf := fl_len (l := e.link) (fun x hx => by rw [h5 x hx]; decide)
   have : e.link.length * 1000009 ≤ 64 * 1000009 := Nat.mul_le_mul_right _ h4
   unfold list
   rw [List.length_append]
   omega
  simp only [List.length_append]
  omega
 ·exact Nat.zero_le _
theorem fkbytes_c (e : Evidence) (hl : e.link.length ≤ 140737488355328) : AC Tryz.prog 27 [evV e] [] (.st (evidB e)) [] := by
 refine AC.enter2 [64, 66, 65, 67] [] Tryz.func27 rfl (by decide) (by decide) (Nat.le_of_ble_eq_true rfl) (by kernel_rfl) ?_; simp only [eraseC, eraseO, List.map_cons, List.map_nil, List.map_toArray, List.getElem?_toArray, List.getElem?_cons_zero, List.getElem?_cons_succ, Option.bind_some, Option.bind_none, List.append_eq, List.cons_append, List.nil_append]
 have kf := fkformed_c e hl
 have hlen := evidB_len e
 unfold evidB at hlen ⊢
 cases hf : formedE e with
 | false =>
  rw [hf] at kf
  rw [if_neg (by simp)]
  refine run ?_
  refine cp kf ?_
  refine run ?_
  exact er0
 | true =>
  rw [hf] at kf hlen
  rw [if_pos rfl] at hlen ⊢
  obtain ⟨h1, h2, h3, h4, h5⟩ := formedE_iff.1 hf
  have b1 := headB_len e.old
  have b2 := headB_len e.new
  have k1 := sheadBytes_c e.old
  have k2 := sheadBytes_c e.new
  have k3 := text_c (headB e.old) (by omega)
  have k4 := text_c (headB e.new) (by omega)
  have k5 := text_c e.root (by omega)
  have k6 := list_c e.link (by omega) (fun x hx => by rw [h5 x hx]; decide)
  simp only [List.length_append] at hlen
  generalize text (headB e.old) = t1 at *
  generalize text (headB e.new) = t2 at *
  generalize text e.root = t3 at *
  generalize list e.link = t4 at *
  refine run ?_
  refine cp kf ?_
  refine run ?_
  refine cp k1 ?_
  refine run ?_
  refine cp k3 ?_
  refine run ?_
  refine cp k2 ?_
  refine run ?_
  refine cp k4 ?_
  refine run ?_
  refine cp k5 ?_
  refine run ?_
  refine cp k6 ?_
  refine run ?_
  exact er0
theorem fkread_c (s : By) (hs : s.length ≤ 1000000) : AC Tryz.prog 28 [.st s] [] (.tup [evV (readEv s).1, .bo (readEv s).2]) [] := by
 refine AC.enter2 [72, 64, 27] [] Tryz.func28 rfl (by decide) (by decide) (Nat.le_of_ble_eq_true rfl) (by kernel_rfl) ?_; simp only [eraseC, eraseO, List.map_cons, List.map_nil, List.map_toArray, List.getElem?_toArray, List.getElem?_cons_zero, List.getElem?_cons_succ, Option.bind_some, Option.bind_none, List.append_eq, List.cons_append, List.nil_append]
 obtain ⟨o, x0, e0, b0, d0, k0⟩ := rtext_s ⟨s, false⟩ hs
 obtain ⟨n, x1, e1, b1, d1, k1⟩ := rtext_s x0 b0
 obtain ⟨r, x2, e2, b2, d2, k2⟩ := rtext_s x1 b1
 obtain ⟨l, x3, e3, b3, d3, d3', k3⟩ := rlist_s x2 b2
 have kd := done_c x3
 change AC _ _ _ _ (.bo x3.done) _ at kd
 have kh1 := readHead_c o d0
 have kh2 := readHead_c n d1
 have hread : readEv s = if x3.done = true ∧ (readHead o).2 = true ∧ (readHead n).2 = true ∧ formedE ⟨(readHead o).1, (readHead n).1, r, l⟩ = true ∧ evidB ⟨(readHead o).1, (readHead n).1, r, l⟩ = s then (⟨(readHead o).1, (readHead n).1, r, l⟩, true) else (evid0, false) := by
  unfold readEv
  simp only [e0, e1, e2, e3]
 generalize readHead o = ro at *
 generalize readHead n = rn at *
 obtain ⟨ho, oo⟩ := ro
 obtain ⟨hn, on⟩ := rn
 simp only at hread kh1 kh2
 have kf := fkformed_c ⟨ho, hn, r, l⟩ (by show l.length ≤ _; omega)
 have kb := fkbytes_c ⟨ho, hn, r, l⟩ (by show l.length ≤ _; omega)
 generalize formedE ⟨ho, hn, r, l⟩ = fo at *
 generalize evidB ⟨ho, hn, r, l⟩ = bs at *
 generalize x3.done = dn at *
 refine run ?_
 refine call_mk (AC.newAt (open_c s) _) ?_
 refine run ?_
 refine c1 1 k0 ?_
 refine run ?_
 refine c1 1 k1 ?_
 refine run ?_
 refine c1 1 k2 ?_
 refine run ?_
 refine c1 1 k3 ?_
 refine run ?_
 refine c1 1 kd ?_
 cases dn with
 | false =>
  rw [if_neg (fun h => by cases h.1)] at hread
  rw [hread]
  refine run ?_
  exact er0w
 | true =>
 refine run ?_
 refine cp kh1 ?_
 cases oo with
 | false =>
  rw [if_neg (fun h => by cases h.2.1)] at hread
  rw [hread]
  refine run ?_
  exact er0w
 | true =>
 refine run ?_
 refine cp kh2 ?_
 cases on with
 | false =>
  rw [if_neg (fun h => by cases h.2.2.1)] at hread
  rw [hread]
  refine run ?_
  exact er0w
 | true =>
 refine run ?_
 refine cp kf ?_
 cases fo with
 | false =>
  rw [if_neg (fun h => by cases h.2.2.2.1)] at hread
  rw [hread]
  refine run ?_
  exact er0w
 | true =>
 refine run ?_
 refine cp kb ?_
 by_cases hb : bs = s
 ·subst hb
  rw [if_pos ⟨rfl, rfl, rfl, rfl, rfl⟩] at hread
  rw [hread]
  refine run ?_
  exact er0w
 ·rw [if_neg (fun h => hb h.2.2.2.2)] at hread
  rw [hread]
  have hne := nilI bs s hb
  refine runf @hne ?_
  exact er0w
theorem fsameTexts_c (a b : List By) (ha : a.length ≤ 1000000) (hb : b.length ≤ 1000000) : AC Tryz.prog 81 [sls a, sls b] [] (.bo (decide (a = b))) [] := by
 refine AC.enter2 [] [] Tryz.func81 rfl (by decide) (by decide) (Nat.le_of_ble_eq_true rfl) (by kernel_rfl) ?_; simp only [eraseC, eraseO, List.map_cons, List.map_nil, List.map_toArray, List.getElem?_toArray, List.getElem?_cons_zero, List.getElem?_cons_succ, Option.bind_some, Option.bind_none, List.append_eq, List.cons_append, List.nil_append]
 by_cases h0 : a.length = b.length
 rotate_left
 ·rw [decide_eq_false (fun h => h0 (by rw [h]))]
  refine run ?_
  exact er0
 refine run ?_
 refine loop_mk (fun m e S => S = [] ∧ e 0 = sls a ∧ e 1 = sls b ∧ ∃ k, e 5 = .it .i64 ((k : Nat) : Int) ∧ k ≤ a.length ∧ a.take k = b.take k ∧ m = a.length - k) a.length ⟨rfl, (by first | rfl | (simp only [↓upd_apply, ↓put_some, ↓reduceIte, Nat.reduceEqDiff, ↓argEnv_zero, ↓argEnv_succ, *]; done)), (by first | rfl | (simp only [↓upd_apply, ↓put_some, ↓reduceIte, Nat.reduceEqDiff, ↓argEnv_zero, ↓argEnv_succ, *]; done)), 0, (by first | rfl | (simp only [↓upd_apply, ↓put_some, ↓reduceIte, Nat.reduceEqDiff, ↓argEnv_zero, ↓argEnv_succ, *]; done)), by omega, rfl, rfl⟩ ?_
 rintro m e S ⟨rfl, h1, h2, k, h3, hk, hab, rfl⟩
 by_cases hlt : k < a.length
 ·have ga : a[k]? = some a[k] := List.getElem?_eq_getElem hlt
  have gb : b[k]? = some (b[k]'(by omega)) := List.getElem?_eq_getElem (by omega)
  by_cases he : a[k] = b[k]'(by omega)
  ·have he' : (a[k] == b[k]'(by omega)) = true := by simp [he]
   refine runf (an @h1 (an @h2 (an @h3 (an @ga (an @gb @he'))))) ?_
   exact round_mk (a.length - (k + 1)) (by omega) ⟨rfl, (by first | rfl | (simp only [↓upd_apply, ↓put_some, ↓reduceIte, Nat.reduceEqDiff, ↓argEnv_zero, ↓argEnv_succ, *]; done)), (by first | rfl | (simp only [↓upd_apply, ↓put_some, ↓reduceIte, Nat.reduceEqDiff, ↓argEnv_zero, ↓argEnv_succ, *]; done)), k + 1, (by first | rfl | (simp only [↓upd_apply, ↓put_some, ↓reduceIte, Nat.reduceEqDiff, ↓argEnv_zero, ↓argEnv_succ, *]; done)), by omega, by rw [List.take_succ_eq_append_getElem hlt, List.take_succ_eq_append_getElem (by omega : k < b.length), hab, he], rfl⟩
  ·have he' : (a[k] == b[k]'(by omega)) = false := by simp [he]
   have : decide (a = b) = false := by rw [decide_eq_false_iff_not]; intro h; subst h; exact he rfl
   rw [this]
   refine runf (an @h1 (an @h2 (an @h3 (an @ga (an @gb @he'))))) ?_
   exact er0
 ·have hk' : k = a.length := by omega
  have : decide (a = b) = true := by
   rw [decide_eq_true_iff, ← List.take_length (l := a), ← List.take_length (l := b), ← h0, ← hk']; exact hab
  rw [this]
  refine runf (an @h1 (an @h2 @h3)) ?_
  exact er0
theorem fsame17_c (a b : Evidence) (ha : a.link.length ≤ 1000000) (hb : b.link.length ≤ 1000000) : AC Tryz.prog 31 [evV a, evV b] [] (.bo (decide (a = b))) [] := by
 refine AC.enter2 [81] [] Tryz.func31 rfl (by decide) (by decide) (Nat.le_of_ble_eq_true rfl) (by kernel_rfl) ?_; simp only [eraseC, eraseO, List.map_cons, List.map_nil, List.map_toArray, List.getElem?_toArray, List.getElem?_cons_zero, List.getElem?_cons_succ, Option.bind_some, Option.bind_none, List.append_eq, List.cons_append, List.nil_append]
 obtain ⟨q, hq⟩ : ∃ q, decide (a = b) = q := ⟨_, rfl⟩
 rw [hq]
 have w1 := headE_eqb a.old b.old
 have w2 := headE_eqb a.new b.new
 have k := fsameTexts_c a.link b.link ha hb
 by_cases h1 : a.old = b.old
 rotate_left
 ·obtain rfl : q = false := by rw [← hq]; exact decide_eq_false (fun e => h1 (by rw [e]))
  rw [decide_eq_false h1] at w1
  refine runf @w1 ?_
  exact er0
 rw [decide_eq_true h1] at w1
 by_cases h2 : a.new = b.new
 rotate_left
 ·obtain rfl : q = false := by rw [← hq]; exact decide_eq_false (fun e => h2 (by rw [e]))
  rw [decide_eq_false h2] at w2
  refine runf (an @w1 @w2) ?_
  exact er0
 rw [decide_eq_true h2] at w2
 by_cases h3 : a.root = b.root
 rotate_left
 ·obtain rfl : q = false := by rw [← hq]; exact decide_eq_false (fun e => h3 (by rw [e]))
  have w3 := nilI _ _ h3
  refine runf (an @w1 (an @w2 @w3)) ?_
  exact er0
 have w3 : (a.root == b.root) = true := by rw [h3]; exact beq_self_eq_true _
 have e5 : decide (a.link = b.link) = q := by
  rw [← hq, Bool.eq_iff_iff, decide_eq_true_eq, decide_eq_true_eq]
  constructor
  ·intro h5
   cases a; cases b
   simp only at *
   simp only [*]
  ·intro e; rw [e]
 rw [e5] at k
 refine runf (an @w1 (an @w2 @w3)) ?_
 refine cp k ?_
 refine run ?_
 exact er0
def light17 (l : List It.Entry) : Bool := decide (l.length ≤ 30) && l.all fun e => decide (e.item.act.to.length ≤ 100) && decide (e.item.act.wraps.length ≤ 100) && decide (e.item.decision.to.length ≤ 100)
theorem light17_c (l : List It.Entry) (hl : l.length ≤ 140737488351232) : AC Tryz.prog 32 [entriesV l] [] (.bo (light17 l)) [] := by
 refine AC.enter2 [] [] Tryz.func32 rfl (by decide) (by decide) (Nat.le_of_ble_eq_true rfl) (by kernel_rfl) ?_; simp only [eraseC, eraseO, List.map_cons, List.map_nil, List.map_toArray, List.getElem?_toArray, List.getElem?_cons_zero, List.getElem?_cons_succ, Option.bind_some, Option.bind_none, List.append_eq, List.cons_append, List.nil_append]
 unfold light17
 have hsz := entries_sz l
 by_cases c1 : l.length ≤ 30
 rotate_left
 ·have c1' : (30 : Int) < (l.length : Int) := by omega
  rw [decide_eq_false c1]
  refine runf @c1' ?_
  exact er0
 have c1' : ¬ (30 : Int) < (l.length : Int) := by omega
 rw [decide_eq_true c1]
 obtain ⟨sh, hsh⟩ : ∃ sh : It.Entry → Bool, sh = fun e => decide (e.item.act.to.length ≤ 100) && decide (e.item.act.wraps.length ≤ 100) && decide (e.item.decision.to.length ≤ 100) := ⟨_, rfl⟩
 rw [← hsh]
 refine runf @c1' ?_
 refine loop_mk (fun m e S => e 0 = entriesV l ∧ ∃ (k : Nat) (T : Store), e 3 = .it .i64 (k : Int) ∧ S = T ∧ k ≤ l.length ∧ (l.take k).all sh = true ∧ m = l.length - k) l.length
  ⟨(by first | rfl | (simp only [↓upd_apply, ↓put_some, ↓reduceIte, Nat.reduceEqDiff, ↓argEnv_zero, ↓argEnv_succ, *]; done)), 0, [], (by first | rfl | (simp only [↓upd_apply, ↓put_some, ↓reduceIte, Nat.reduceEqDiff, ↓argEnv_zero, ↓argEnv_succ, *]; done)), rfl, by omega, rfl, rfl⟩ ?_
 rintro m e S ⟨s0, k, T, s3, rfl, hk, hall, rfl⟩
 by_cases hlt : k < l.length
 rotate_left
 ·obtain rfl : k = l.length := by omega
  rw [List.take_length] at hall
  rw [hall]
  have hx : ¬ ((l.length : Nat) : Int) < (l.length : Int) := by omega
  refine runf (an @s0 (an @s3 @hx)) ?_
  exact er0
 have hg : l[k]? = some l[k] := List.getElem?_eq_getElem hlt
 have hstep : l.take (k + 1) = l.take k ++ [l[k]] := List.take_succ_eq_append_getElem hlt
 have hbad : sh l[k] = false → l.all sh = false := fun h => List.all_eq_false.2 ⟨l[k], List.getElem_mem hlt, by simp [h]⟩
 generalize l[k] = x at *
 have hun : sh x = (decide (x.item.act.to.length ≤ 100) && decide (x.item.act.wraps.length ≤ 100) && decide (x.item.decision.to.length ≤ 100)) := by rw [hsh]
 by_cases d1 : x.item.act.to.length ≤ 100
 rotate_left
 ·have d1' : (100 : Int) < (x.item.act.to.length : Int) := by omega
  rw [hbad (by rw [hun, decide_eq_false d1]; simp)]
  refine runf (an @s0 (an @s3 (an @hg (an @hsz (an @tl0 (an @tl0s @d1')))))) ?_
  exact er0
 have d1' : ¬ (100 : Int) < (x.item.act.to.length : Int) := by omega
 by_cases d2 : x.item.act.wraps.length ≤ 100
 rotate_left
 ·have d2' : (100 : Int) < (x.item.act.wraps.length : Int) := by omega
  rw [hbad (by rw [hun, decide_eq_false d2]; simp)]
  refine runf (an @s0 (an @s3 (an @hg (an @hsz (an @tl0 (an @tl0s (an @d1' @d2'))))))) ?_
  exact er0
 have d2' : ¬ (100 : Int) < (x.item.act.wraps.length : Int) := by omega
 by_cases d3 : x.item.decision.to.length ≤ 100
 rotate_left
 ·have d3' : (100 : Int) < (x.item.decision.to.length : Int) := by omega
  rw [hbad (by rw [hun, decide_eq_false d3]; simp)]
  refine runf (an @s0 (an @s3 (an @hg (an @hsz (an @tl0 (an @tl0s (an @d1' (an @d2' @d3')))))))) ?_
  exact er0
 have d3' : ¬ (100 : Int) < (x.item.decision.to.length : Int) := by omega
 have hs : sh x = true := by rw [hun, decide_eq_true d1, decide_eq_true d2, decide_eq_true d3]; rfl
 refine runf (an @s0 (an @s3 (an @hg (an @hsz (an @tl0 (an @tl0s (an @d1' (an @d2' @d3')))))))) ?_
 exact round_mk (l.length - (k + 1)) (by omega) ⟨(by first | rfl | (simp only [↓upd_apply, ↓put_some, ↓reduceIte, Nat.reduceEqDiff, ↓argEnv_zero, ↓argEnv_succ, *]; done)), k + 1, _, (by first | rfl | (simp only [↓upd_apply, ↓put_some, ↓reduceIte, Nat.reduceEqDiff, ↓argEnv_zero, ↓argEnv_succ, *]; done)), rfl, by omega, by rw [hstep, List.all_append, hall]; simp [hs], rfl⟩
theorem fkentry_c (n : Int) : AC Tryz.prog 63 [.it .i64 n] [] (entryV (fkEntry n)) [] := by
 refine AC.enter2 [117] [] Tryz.func63 rfl (by decide) (by decide) (Nat.le_of_ble_eq_true rfl) (by kernel_rfl) ?_; simp only [eraseC, eraseO, List.map_cons, List.map_nil, List.map_toArray, List.getElem?_toArray, List.getElem?_cons_zero, List.getElem?_cons_succ, Option.bind_some, Option.bind_none, List.append_eq, List.cons_append, List.nil_append]
 have k := rleaf_c [] (by decide)
 have e : fkEntry n = ⟨n, ⟨1, act0, ⟨fkActor, 1, Mk.leaf [], 0, 0, 37, n, sig0⟩, ballot0, decision0⟩⟩ := rfl
 rw [e]
 generalize Mk.leaf [] = lf at *
 refine run ?_
 refine cp k ?_
 refine run ?_
 exact er0w
theorem fkIz (n : Int) : Iz (fkEntry n).item := ⟨szI0, by show fkActor.length ≤ _; decide, Nat.zero_le _, dz0⟩
theorem fkA_ok : EOk fkA := ⟨by decide, fun e he => by
 rcases List.mem_cons.1 he with rfl | he
 ·exact fkIz 1
 rcases List.mem_cons.1 he with rfl | he
 ·exact fkIz 2
 ·cases he⟩
theorem fkB_ok : EOk fkB := ⟨by decide, fun e he => by
 rcases List.mem_cons.1 he with rfl | he
 ·exact fkIz 1
 rcases List.mem_cons.1 he with rfl | he
 ·exact fkIz 3
 rcases List.mem_cons.1 he with rfl | he
 ·exact fkIz 4
 ·cases he⟩
theorem fkE_len : (evidB fkE).length ≤ 1000000 ∧ fkE.link.length ≤ 64 := by
 obtain ⟨h1, h2, h3, h4, h5⟩ := formedE_iff.1 fk_formed
 refine ⟨?_, h4⟩
 have hh : ∀ h : Head, rightH h = true → (text (headB h)).length ≤ 200 := fun h hr => by
  obtain ⟨r1, r2, r3, r4, r5⟩ := rightH_iff.1 hr
  simp only [sigR, Bool.and_eq_true, wi_iff] at r5
  have n1 := numI_le h.server (by omega)
  have n2 := numI_le h.size (by omega)
  have n3 := numI_le h.time (by omega)
  have n4 := numI_le h.sig.e (by omega)
  have n5 := numI_le h.sig.s (by omega)
  have t1 := textT (s := h.root) (n := 32) (by omega) (by omega)
  have tw : (text wHead).length = 5 := rfl
  have hb : (headB h).length ≤ 91 := by
   unfold headB coreH
   rw [if_pos hr]
   simp only [List.length_append]
   omega
  have := textT hb (by omega)
  omega
 have a1 := hh _ h1
 have a2 := hh _ h2
 have a3 := textT (s := fkE.root) (n := 32) (by omega) (by omega)
 have a4 : (list fkE.link).length ≤ 900000 := by
  have hn := num_len9 (n := fkE.link.length) (by omega)
  have hf : (fkE.link.map text).flatten.length ≤ fkE.link.length * 41 := by
   have hall : ∀ l : List By, (∀ x ∈ l, x.length = 32) → (l.map text).flatten.length ≤ l.length * 41 := by
    intro l
    induction l with
    | nil => intro _; simp
    | cons x l ih =>
     intro hx
     have i1 := ih fun y hy => hx y (by simp [hy])
     have i2 := textT (s := x) (n := 32) (by rw [hx x (by simp)]; omega) (by omega)
     rw [List.map_cons, List.flatten_cons, List.length_append, List.length_cons, Nat.succ_mul]
     omega
   exact hall _ h5
  have : fkE.link.length * 41 ≤ 64 * 41 := Nat.mul_le_mul_right _ h4
  unfold list
  rw [List.length_append]
  omega
 unfold evidB
 rw [if_pos fk_formed]
 simp only [List.length_append]
 omega
theorem small17_c : AC Tryz.prog 26 [] [] (.bo true) [] := by
 refine AC.enter2 [33, 63, 34, 35, 27, 28, 36, 31, 37] [] Tryz.func26 rfl (by decide) (by decide) (Nat.le_of_ble_eq_true rfl) (by kernel_rfl) ?_; simp only [eraseC, eraseO, List.map_cons, List.map_nil, List.map_toArray, List.getElem?_toArray, List.getElem?_cons_zero, List.getElem?_cons_succ, Option.bind_some, Option.bind_none, List.append_eq, List.cons_append, List.nil_append]
 have hkr := keyE_rng fkKey_right
 have hps : InL [fkKey.pub] := ⟨by decide, fun i hi => by rw [List.mem_singleton.1 hi]; exact hkr.2⟩
 have hps37 : InL [37] := ⟨by decide, fun i hi => by rw [List.mem_singleton.1 hi]; decide⟩
 have k1 := keySeed_c [97] (by decide)
 change AC _ _ _ _ (keyV fkKey) _ at k1
 have k2 := shead_c fkKey 0 fkB 4 hkr.1 (by decide) fkB_ok.iz
 change AC _ _ _ _ (headV fkNow) _ at k2
 have k3 := shead_c fkKey 0 fkA 2 hkr.1 (by decide) fkA_ok.iz
 change AC _ _ _ _ (headV fkOld) _ at k3
 have k4 := shead_c fkKey 0 (fkB.take 2) 3 hkr.1 (by decide) (fkB_ok.take 2).iz
 change AC _ _ _ _ (headV fkOld2) _ at k4
 have k5 := fkmake_c fkB fkNow fkOld fkB_ok
 rw [fk_made] at k5
 have k6 := fkmake_c fkB fkNow fkOld2 fkB_ok
 rw [fk_none] at k6
 have hle := fkE_len
 have k7 := fkbytes_c fkE (by omega)
 have k8 := fkread_c (evidB fkE) hle.1
 rw [readEv_back fk_formed] at k8
 have k9 := fkcheck_c [fkKey.pub] fkE hps (by omega)
 rw [fk_check] at k9
 have k10 := fkcheck_c [37] fkE hps37 (by omega)
 rw [fk_check37] at k10
 have k11 := fsame17_c fkE fkE (by omega) (by omega)
 rw [decide_eq_true (p := fkE = fkE) rfl] at k11
 have k12 := fkserver_c fkE
 rw [fk_old0] at k12
 have k13 := fkbytes_c evid0 (by decide)
 rw [show evidB evid0 = [] from rfl] at k13
 have hA : fkA = [fkEntry 1, fkEntry 2] := rfl
 have hB : fkB = [fkEntry 1, fkEntry 3, fkEntry 4] := rfl
 rw [hB] at k2 k4 k5 k6
 rw [hA] at k3
 clear hA hB
 have e1 := fkentry_c 1
 have e2 := fkentry_c 2
 have e3 := fkentry_c 3
 have e4 := fkentry_c 4
 generalize fkNow = now at *
 generalize fkOld = old at *
 generalize fkOld2 = old2 at *
 generalize fkE = ev at *
 generalize fkKey = ky at *
 generalize evidB ev = eb at *
 generalize fkEntry 1 = f1 at *
 generalize fkEntry 2 = f2 at *
 generalize fkEntry 3 = f3 at *
 generalize fkEntry 4 = f4 at *
 refine run ?_
 refine cp k1 ?_
 refine run ?_
 refine cp e1 ?_
 refine run ?_
 refine cp e2 ?_
 refine run ?_
 refine cp e1 ?_
 refine run ?_
 refine cp e3 ?_
 refine run ?_
 refine cp e4 ?_
 refine run ?_
 refine cp k2 ?_
 refine run ?_
 refine cp k3 ?_
 refine run ?_
 refine cp k5 ?_
 refine run ?_
 refine cp k4 ?_
 refine run ?_
 refine cp k6 ?_
 refine run ?_
 refine cp k7 ?_
 refine run ?_
 refine cp k8 ?_
 refine run ?_
 refine cp k9 ?_
 refine run ?_
 refine cp k10 ?_
 refine run ?_
 refine cp k11 ?_
 refine run ?_
 refine cp k12 ?_
 refine run ?_
 refine cp k13 ?_
 refine run ?_
 exact er0
end Go.Proofs.YthbpbkbjdfcnjaaGreatDoor.Pe
end
section
namespace Go.Proofs.YthbpbkbjdfcnjaaGreatDoor.Pe
open Go Go.RowKit Co
set_option maxRecDepth 100000
set_option maxHeartbeats 4000000
theorem fnum_nat : ∀ (f n : Nat), n < f → n < 9223372036854775808 → AC Tryz.prog 128 [.it .i64 n] [] (.st (num n)) []
 | 0, n, h, _ => absurd h (Nat.not_lt_zero _)
 | f + 1, n, hf, hn => by
  by_cases hs : n < 128
  ·refine AC.enter [128] [] Tryz.func128 rfl (by decide) (by decide) (Nat.le_of_ble_eq_true rfl) (by kernel_rfl) ?_; simp only [eraseC, eraseO, List.map_cons, List.map_nil, List.map_toArray, List.getElem?_toArray, List.getElem?_cons_zero, List.getElem?_cons_succ, Option.bind_some, Option.bind_none, List.append_eq, List.cons_append, List.nil_append]
   have h0 : ¬ (n : Int) < 0 := by omega
   have h1 : (n : Int) < 128 := by omega
   have hw : IntKind.u8.wrap (n : Int) = (n : Int) := wrap8 (by omega) (by omega)
   have hb : bytesOf [AV.it .u8 (n : Int)] = some [UInt8.ofNat n] := by
    rw [show (AV.it .u8 (n : Int)) = u8 (UInt8.ofNat n) from by unfold u8; rw [ofNat8 (by omega)]]
    exact bytesOf_map [UInt8.ofNat n]
   rw [num_small hs]
   refine runf (an @h0 (an @h1 (an @hw @hb))) ?_
   exact er0
  ·have ih := fnum_nat f (n / 128) (by omega) (by omega)
   refine AC.enter [128] [] Tryz.func128 rfl (by decide) (by decide) (Nat.le_of_ble_eq_true rfl) (by kernel_rfl) ?_; simp only [eraseC, eraseO, List.map_cons, List.map_nil, List.map_toArray, List.getElem?_toArray, List.getElem?_cons_zero, List.getElem?_cons_succ, Option.bind_some, Option.bind_none, List.append_eq, List.cons_append, List.nil_append]
   have h0 : ¬ (n : Int) < 0 := by omega
   have h1 : ¬ (n : Int) < 128 := by omega
   have hm : (n : Int).tmod 128 = ((n % 128 : Nat) : Int) := by rw [Int.tmod_eq_emod_of_nonneg (by omega)]; omega
   have hd : (n : Int).tdiv 128 = ((n / 128 : Nat) : Int) := by rw [Int.tdiv_eq_ediv_of_nonneg (by omega)]; omega
   have hw : IntKind.u8.wrap (128 + ((n % 128 : Nat) : Int)) = ((128 + n % 128 : Nat) : Int) := by rw [show (128 : Int) + ((n % 128 : Nat) : Int) = ((128 + n % 128 : Nat) : Int) from by omega]; exact wrap8 (by omega) (by omega)
   have hb : bytesOf [AV.it .u8 ((128 + n % 128 : Nat) : Int)] = some [UInt8.ofNat (128 + n % 128)] := by
    rw [show (AV.it .u8 ((128 + n % 128 : Nat) : Int)) = u8 (UInt8.ofNat (128 + n % 128)) from by unfold u8; rw [ofNat8 (by omega)]]
    exact bytesOf_map [UInt8.ofNat (128 + n % 128)]
   have hl := num_len9 (n := n / 128) (by omega)
   rw [num_big hs]
   refine runf (an @h0 (an @h1 (an @hm (an @hd (an @hw @hb))))) ?_
   refine cp ih ?_
   refine run ?_
   exact er0
theorem fnum_c (n : Int) (h : n < 9223372036854775808) : AC Tryz.prog 128 [.it .i64 n] [] (.st (numI n)) [] := by
 by_cases h0 : n < 0
 ·refine AC.enter [128] [] Tryz.func128 rfl (by decide) (by decide) (Nat.le_of_ble_eq_true rfl) (by kernel_rfl) ?_; simp only [eraseC, eraseO, List.map_cons, List.map_nil, List.map_toArray, List.getElem?_toArray, List.getElem?_cons_zero, List.getElem?_cons_succ, Option.bind_some, Option.bind_none, List.append_eq, List.cons_append, List.nil_append]
  rw [show numI n = [] from by unfold numI; rw [if_pos h0]]
  refine run ?_
  exact er0
 ·obtain ⟨m, rfl⟩ : ∃ m : Nat, n = (m : Int) := ⟨n.toNat, by omega⟩
  rw [numI_nat]
  exact fnum_nat (m + 1) m (by omega) (by omega)
theorem ftext_c (s : By) (h : s.length ≤ 1000000000) : AC Tryz.prog 78 [.st s] [] (.st (text s)) [] := by
 refine AC.enter [128] [] Tryz.func78 rfl (by decide) (by decide) (Nat.le_of_ble_eq_true rfl) (by kernel_rfl) ?_; simp only [eraseC, eraseO, List.map_cons, List.map_nil, List.map_toArray, List.getElem?_toArray, List.getElem?_cons_zero, List.getElem?_cons_succ, Option.bind_some, Option.bind_none, List.append_eq, List.cons_append, List.nil_append]
 have k := fnum_c (s.length : Int) (by omega)
 rw [numI_nat] at k
 have hl := num_len9 (n := s.length) (by omega)
 unfold text
 refine run ?_
 refine cp k ?_
 refine run ?_
 exact er0
end Go.Proofs.YthbpbkbjdfcnjaaGreatDoor.Pe
namespace Go.Proofs.YthbpbkbjdfcnjaaGreatDoor.Pe
open Go Go.RowKit Co Sg
set_option maxRecDepth 100000
set_option maxHeartbeats 4000000
end Go.Proofs.YthbpbkbjdfcnjaaGreatDoor.Pe
namespace Go.Proofs.YthbpbkbjdfcnjaaGreatDoor.Pe
open Go Go.RowKit Co Sg
set_option maxRecDepth 100000
set_option maxHeartbeats 4000000
end Go.Proofs.YthbpbkbjdfcnjaaGreatDoor.Pe
namespace Go.Proofs.YthbpbkbjdfcnjaaGreatDoor.Pe
open Go Go.RowKit Co Sg Ac It
set_option maxRecDepth 100000
set_option maxHeartbeats 4000000
theorem flist_c (l : List By) (hl : l.length ≤ 1000000) (hx : ∀ x ∈ l, x.length ≤ 1000000) : AC Tryz.prog 80 [sls l] [] (.st (list l)) [] := by
 refine AC.enter [128, 78] [] Tryz.func80 rfl (by decide) (by decide) (Nat.le_of_ble_eq_true rfl) (by kernel_rfl) ?_; simp only [eraseC, eraseO, List.map_cons, List.map_nil, List.map_toArray, List.getElem?_toArray, List.getElem?_cons_zero, List.getElem?_cons_succ, Option.bind_some, Option.bind_none, List.append_eq, List.cons_append, List.nil_append]
 have hn9 := num_len9 (n := l.length) (by omega)
 have kn := fnum_c (l.length : Int) (by omega)
 rw [numI_nat] at kn
 refine run ?_
 refine cp kn ?_
 refine run ?_
 refine loop_mk (fun m e S => S = [] ∧ e 0 = sls l ∧ ∃ (k : Nat) (acc : By), e 3 = .st acc ∧ e 4 = .it .i64 (k : Int) ∧ acc = num l.length ++ ((l.take k).map text).flatten ∧ k ≤ l.length ∧ m = l.length - k) l.length
  ⟨rfl, (by first | rfl | (simp only [↓upd_apply, ↓put_some, ↓reduceIte, Nat.reduceEqDiff, ↓argEnv_zero, ↓argEnv_succ, *]; done)), 0, num l.length, (by first | rfl | (simp only [↓upd_apply, ↓put_some, ↓reduceIte, Nat.reduceEqDiff, ↓argEnv_zero, ↓argEnv_succ, *]; done)), (by first | rfl | (simp only [↓upd_apply, ↓put_some, ↓reduceIte, Nat.reduceEqDiff, ↓argEnv_zero, ↓argEnv_succ, *]; done)), by simp, by omega, rfl⟩ ?_
 rintro m e S ⟨rfl, s0, k, acc, s3, s4, hacc, hk, rfl⟩
 by_cases hlt : k < l.length
 ·have ga : l[k]? = some l[k] := List.getElem?_eq_getElem hlt
  have hxk := hx l[k] (List.getElem_mem hlt)
  have htl := text_len hxk
  have hal : acc.length ≤ 1000009000009 := by
   have h1 := fl_len (l := l.take k) fun x h => hx x (List.mem_of_mem_take h)
   have h2 : (l.take k).length * 1000009 ≤ 1000000 * 1000009 := Nat.mul_le_mul_right _ (by rw [List.length_take]; omega)
   rw [hacc, List.length_append]; omega
  have hft := fl_take hlt
  generalize l[k] = x at *
  refine runf (an @s0 (an @s3 (an @s4 @ga))) ?_
  refine cp (ftext_c x (by omega)) ?_
  refine runf (an @s0 (an @s3 @s4)) ?_
  refine round_mk (l.length - (k + 1)) (by omega) ⟨rfl, (by first | rfl | (simp only [↓upd_apply, ↓put_some, ↓reduceIte, Nat.reduceEqDiff, ↓argEnv_zero, ↓argEnv_succ, *]; done)), k + 1, acc ++ text x, (by first | rfl | (simp only [↓upd_apply, ↓put_some, ↓reduceIte, Nat.reduceEqDiff, ↓argEnv_zero, ↓argEnv_succ, *]; done)), (by first | rfl | (simp only [↓upd_apply, ↓put_some, ↓reduceIte, Nat.reduceEqDiff, ↓argEnv_zero, ↓argEnv_succ, *]; done)), by rw [hacc, hft, List.append_assoc], by omega, rfl⟩
 ·obtain rfl : k = l.length := by omega
  rw [List.take_length] at hacc
  refine runf (an @s0 (an @s3 @s4)) ?_
  rw [show list l = acc from hacc.symm]
  exact er0
theorem fclaim_c (c : It.Claim) (h1 : c.actor.length ≤ 1000000 ∧ c.prev.length ≤ 1000000) (h2 : ∀ x ∈ [c.base, c.gen, c.home, c.pub, c.time], -9223372036854775808 ≤ x ∧ x ≤ 9223372036854775807) : AC Tryz.prog 209 [claimV c] [] (.st (claimB c)) [] := by
 refine AC.enter [78, 128] [] Tryz.func209 rfl (by decide) (by decide) (Nat.le_of_ble_eq_true rfl) (by kernel_rfl) ?_; simp only [eraseC, eraseO, List.map_cons, List.map_nil, List.map_toArray, List.getElem?_toArray, List.getElem?_cons_zero, List.getElem?_cons_succ, Option.bind_some, Option.bind_none, List.append_eq, List.cons_append, List.nil_append]
 simp only [List.forall_mem_cons] at h2
 have l1 := text_len h1.1
 have l2 := text_len h1.2
 have n1 := numI_le c.base (by omega)
 have n2 := numI_le c.gen (by omega)
 have n3 := numI_le c.home (by omega)
 have n4 := numI_le c.pub (by omega)
 have n5 := numI_le c.time (by omega)
 unfold claimB
 refine run ?_
 refine cp (ftext_c c.actor (by omega)) ?_
 refine run ?_
 refine cp (fnum_c c.base (by omega)) ?_
 refine run ?_
 refine cp (ftext_c c.prev (by omega)) ?_
 refine run ?_
 refine cp (fnum_c c.gen (by omega)) ?_
 refine run ?_
 refine cp (fnum_c c.home (by omega)) ?_
 refine run ?_
 refine cp (fnum_c c.pub (by omega)) ?_
 refine run ?_
 refine cp (fnum_c c.time (by omega)) ?_
 refine run ?_
 exact er0
theorem fballot_c (b : It.Ballot) (h1 : b.actor.length ≤ 1000000 ∧ b.claim.length ≤ 1000000) (h2 : ∀ x ∈ [b.server, b.gen, b.time], -9223372036854775808 ≤ x ∧ x ≤ 9223372036854775807) : AC Tryz.prog 150 [ballotV b] [] (.st (ballotB b)) [] := by
 refine AC.enter [78, 128] [] Tryz.func150 rfl (by decide) (by decide) (Nat.le_of_ble_eq_true rfl) (by kernel_rfl) ?_; simp only [eraseC, eraseO, List.map_cons, List.map_nil, List.map_toArray, List.getElem?_toArray, List.getElem?_cons_zero, List.getElem?_cons_succ, Option.bind_some, Option.bind_none, List.append_eq, List.cons_append, List.nil_append]
 simp only [List.forall_mem_cons] at h2
 have l1 := text_len h1.1
 have l2 := text_len h1.2
 have n1 := numI_le b.server (by omega)
 have n2 := numI_le b.gen (by omega)
 have n3 := numI_le b.time (by omega)
 unfold ballotB
 refine run ?_
 refine cp (fnum_c b.server (by omega)) ?_
 refine run ?_
 refine cp (ftext_c b.actor (by omega)) ?_
 refine run ?_
 refine cp (fnum_c b.gen (by omega)) ?_
 refine run ?_
 refine cp (ftext_c b.claim (by omega)) ?_
 refine run ?_
 refine cp (fnum_c b.time (by omega)) ?_
 refine run ?_
 exact er0
theorem fdecision_c (d : It.Decision) (h1 : d.actor.length ≤ 1000000 ∧ d.object.length ≤ 1000000 ∧ d.text.length ≤ 1000000) (ht : d.to.length ≤ 1000000 ∧ ∀ s ∈ d.to, s.length ≤ 1000000) (h2 : ∀ x ∈ [d.server, d.number, d.kind, d.n, d.frm, d.til], -9223372036854775808 ≤ x ∧ x ≤ 9223372036854775807) : AC Tryz.prog 211 [decisionV d] [] (.st (decisionB d)) [] := by
 refine AC.enter [78, 128, 80] [] Tryz.func211 rfl (by decide) (by decide) (Nat.le_of_ble_eq_true rfl) (by kernel_rfl) ?_; simp only [eraseC, eraseO, List.map_cons, List.map_nil, List.map_toArray, List.getElem?_toArray, List.getElem?_cons_zero, List.getElem?_cons_succ, Option.bind_some, Option.bind_none, List.append_eq, List.cons_append, List.nil_append]
 simp only [List.forall_mem_cons] at h2
 have l1 := text_len h1.1
 have l2 := text_len h1.2.1
 have l3 := text_len h1.2.2
 have n1 := numI_le d.server (by omega)
 have n2 := numI_le d.number (by omega)
 have n3 := numI_le d.kind (by omega)
 have n4 := numI_le d.n (by omega)
 have n5 := numI_le d.frm (by omega)
 have n6 := numI_le d.til (by omega)
 have ll := list_len ht.1 ht.2
 unfold decisionB
 refine run ?_
 refine cp (fnum_c d.server (by omega)) ?_
 refine run ?_
 refine cp (fnum_c d.number (by omega)) ?_
 refine run ?_
 refine cp (fnum_c d.kind (by omega)) ?_
 refine run ?_
 refine cp (ftext_c d.actor (by omega)) ?_
 refine run ?_
 refine cp (ftext_c d.object (by omega)) ?_
 refine run ?_
 refine cp (ftext_c d.text (by omega)) ?_
 refine run ?_
 refine cp (flist_c d.to ht.1 ht.2) ?_
 refine run ?_
 refine cp (fnum_c d.n (by omega)) ?_
 refine run ?_
 refine cp (fnum_c d.frm (by omega)) ?_
 refine run ?_
 refine cp (fnum_c d.til (by omega)) ?_
 refine run ?_
 exact er0
end Go.Proofs.YthbpbkbjdfcnjaaGreatDoor.Pe
end
section
namespace Go.Proofs.YthbpbkbjdfcnjaaGreatDoor.Pe
open Go Go.RowKit Co
set_option maxRecDepth 100000
set_option maxHeartbeats 4000000
def val : By → Nat
 | [] => 0
 | d :: r => d.toNat % 128 + 128 * val r
end Go.Proofs.YthbpbkbjdfcnjaaGreatDoor.Pe
end
section
namespace Go.Proofs.YthbpbkbjdfcnjaaGreatDoor.Pe
open Go Go.RowKit Co Sg Ac
set_option maxRecDepth 100000
set_option maxHeartbeats 4000000
theorem less_tri : ∀ (x y : By), (!Op.bytesLess x y) = (Op.bytesLess y x || y == x)
 | [], [] => rfl
 | _ :: _, [] => rfl
 | [], _ :: _ => rfl
 | a :: x, b :: y => by
  have ih := less_tri x y
  rw [Op.bytesLess, Op.bytesLess]
  by_cases h : a = b
  ·subst h
   have h0 : ¬ a < a := by rw [UInt8.lt_iff_toNat_lt]; omega
   have hb : (a == a) = true := beq_self_eq_true a
   rw [decide_eq_false h0, hb, show ((a :: y == a :: x) : Bool) = (y == x) from by simp]
   simpa using ih
  ·have h1 : (a == b) = false := by simpa using h
   have h2 : (b == a) = false := by simpa using fun e : b = a => h e.symm
   have h3 : ((b :: y == a :: x) : Bool) = false := by simpa using fun e : b = a => absurd e.symm h
   rw [h1, h2, h3]
   by_cases h4 : a < b
   ·have h5 : ¬ b < a := by rw [UInt8.lt_iff_toNat_lt] at *; omega
    simp [h4, h5]
   ·have h5 : b < a := by
     rw [UInt8.lt_iff_toNat_lt] at *
     have : a.toNat ≠ b.toNat := fun e => h (UInt8.toNat_inj.1 e)
     omega
    simp [h4, h5]
theorem fin_c (b l h : Nat) : AC Tryz.prog 253 [.it .u8 b, .it .u8 l, .it .u8 h] [] (.bo (decide (l ≤ b) && decide (b ≤ h))) [] := by
 refine AC.enter [] [] Tryz.func253 rfl (by decide) (by decide) (Nat.le_of_ble_eq_true rfl) (by kernel_rfl) ?_; simp only [eraseC, eraseO, List.map_cons, List.map_nil, List.map_toArray, List.getElem?_toArray, List.getElem?_cons_zero, List.getElem?_cons_succ, Option.bind_some, Option.bind_none, List.append_eq, List.cons_append, List.nil_append]
 by_cases h1 : l ≤ b
 rotate_left
 ·have h1' : ¬ (l : Int) ≤ (b : Int) := by omega
  rw [decide_eq_false h1]
  refine runf @h1' ?_
  exact er0
 by_cases h2 : b ≤ h
 ·have h1' : (l : Int) ≤ (b : Int) := by omega
  have h2' : (b : Int) ≤ (h : Int) := by omega
  rw [decide_eq_true h1, decide_eq_true h2]
  refine runf (an @h1' @h2') ?_
  exact er0
 ·have h1' : (l : Int) ≤ (b : Int) := by omega
  have h2' : ¬ (b : Int) ≤ (h : Int) := by omega
  rw [decide_eq_true h1, decide_eq_false h2]
  refine runf (an @h1' @h2') ?_
  exact er0
theorem fidright_c (s : By) (hs : s.length ≤ 140737488355328) : AC Tryz.prog 248 [.st s] [] (.bo (idR s)) [] := by
 refine AC.enter [253] [] Tryz.func248 rfl (by decide) (by decide) (Nat.le_of_ble_eq_true rfl) (by kernel_rfl) ?_; simp only [eraseC, eraseO, List.map_cons, List.map_nil, List.map_toArray, List.getElem?_toArray, List.getElem?_cons_zero, List.getElem?_cons_succ, Option.bind_some, Option.bind_none, List.append_eq, List.cons_append, List.nil_append]
 unfold idR
 refine run ?_
 refine loop_mk (fun m e S => S = [] ∧ e 0 = .st s ∧ ∃ k : Nat, e 3 = .it .i64 (k : Int) ∧ k ≤ s.length ∧ (s.take k).all hexc = true ∧ m = s.length - k) s.length ⟨rfl, (by first | rfl | (simp only [↓upd_apply, ↓put_some, ↓reduceIte, Nat.reduceEqDiff, ↓argEnv_zero, ↓argEnv_succ, *]; done)), 0, (by first | rfl | (simp only [↓upd_apply, ↓put_some, ↓reduceIte, Nat.reduceEqDiff, ↓argEnv_zero, ↓argEnv_succ, *]; done)), by omega, rfl, rfl⟩ ?_
 rintro m e S ⟨rfl, s0, k, s3, hk, hall, rfl⟩
 by_cases hlt : k < s.length
 rotate_left
 ·obtain rfl : k = s.length := by omega
  rw [List.take_length] at hall
  rw [hall]
  by_cases h16 : s.length = 16
  ·have h16' : (s.length : Int) = 16 := by omega
   rw [decide_eq_true h16]
   refine runf (an @s0 (an @s3 @h16')) ?_
   exact er0
  ·have h16' : ¬ (s.length : Int) = 16 := by omega
   rw [decide_eq_false h16]
   refine runf (an @s0 (an @s3 @h16')) ?_
   exact er0
 have hg : s[k]? = some s[k] := List.getElem?_eq_getElem hlt
 have hstep : s.take (k + 1) = s.take k ++ [s[k]] := List.take_succ_eq_append_getElem hlt
 have hbad : hexc s[k] = false → s.all hexc = false := fun h => List.all_eq_false.2 ⟨s[k], List.getElem_mem hlt, by simp [h]⟩
 generalize s[k] = b at *
 have hu : u8 b = .it .u8 (b.toNat : Int) := rfl
 have k1 := fin_c b.toNat 48 57
 have k2 := fin_c b.toNat 97 102
 have hx : hexc b = ((decide (48 ≤ b.toNat) && decide (b.toNat ≤ 57)) || (decide (97 ≤ b.toNat) && decide (b.toNat ≤ 102))) := rfl
 generalize (decide (48 ≤ b.toNat) && decide (b.toNat ≤ 57)) = c1 at *
 generalize (decide (97 ≤ b.toNat) && decide (b.toNat ≤ 102)) = c2 at *
 refine runf (an @s0 (an @s3 (an @hg @hu))) ?_
 refine cp k1 ?_
 cases c1 with
 | true =>
  refine runf (an @s0 (an @s3 (an @hg @hu))) ?_
  exact round_mk (s.length - (k + 1)) (by omega) ⟨rfl, (by first | rfl | (simp only [↓upd_apply, ↓put_some, ↓reduceIte, Nat.reduceEqDiff, ↓argEnv_zero, ↓argEnv_succ, *]; done)), k + 1, (by first | rfl | (simp only [↓upd_apply, ↓put_some, ↓reduceIte, Nat.reduceEqDiff, ↓argEnv_zero, ↓argEnv_succ, *]; done)), by omega, by rw [hstep, List.all_append, hall]; simp [hx], rfl⟩
 | false =>
  refine runf (an @s0 (an @s3 (an @hg @hu))) ?_
  refine cp k2 ?_
  cases c2 with
  | true =>
   refine runf (an @s0 (an @s3 (an @hg @hu))) ?_
   exact round_mk (s.length - (k + 1)) (by omega) ⟨rfl, (by first | rfl | (simp only [↓upd_apply, ↓put_some, ↓reduceIte, Nat.reduceEqDiff, ↓argEnv_zero, ↓argEnv_succ, *]; done)), k + 1, (by first | rfl | (simp only [↓upd_apply, ↓put_some, ↓reduceIte, Nat.reduceEqDiff, ↓argEnv_zero, ↓argEnv_succ, *]; done)), by omega, by rw [hstep, List.all_append, hall]; simp [hx], rfl⟩
  | false =>
   rw [hbad (by rw [hx]; rfl), Bool.and_false]
   refine runf (an @s0 (an @s3 (an @hg @hu))) ?_
   exact er0
theorem fname_c (s : By) (hs : s.length ≤ 140737488355328) : AC Tryz.prog 255 [.st s] [] (.bo (nameR s)) [] := by
 refine AC.enter [253] [] Tryz.func255 rfl (by decide) (by decide) (Nat.le_of_ble_eq_true rfl) (by kernel_rfl) ?_; simp only [eraseC, eraseO, List.map_cons, List.map_nil, List.map_toArray, List.getElem?_toArray, List.getElem?_cons_zero, List.getElem?_cons_succ, Option.bind_some, Option.bind_none, List.append_eq, List.cons_append, List.nil_append]
 refine run ?_
 refine loop_mk (fun m e S => S = [] ∧ e 0 = .st s ∧ ∃ k : Nat, e 3 = .it .i64 (k : Int) ∧ k ≤ s.length ∧ (∀ j (hj : j < s.length), j < k → (if j = 0 then letter s[j] else namec s[j]) = true) ∧ m = s.length - k) s.length ⟨rfl, (by first | rfl | (simp only [↓upd_apply, ↓put_some, ↓reduceIte, Nat.reduceEqDiff, ↓argEnv_zero, ↓argEnv_succ, *]; done)), 0, (by first | rfl | (simp only [↓upd_apply, ↓put_some, ↓reduceIte, Nat.reduceEqDiff, ↓argEnv_zero, ↓argEnv_succ, *]; done)), by omega, fun j _ h => absurd h (Nat.not_lt_zero _), rfl⟩ ?_
 rintro m e S ⟨rfl, s0, k, s3, hk, hall, rfl⟩
 by_cases hlt : k < s.length
 rotate_left
 ·obtain rfl : k = s.length := by omega
  by_cases h1 : 1 ≤ s.length
  rotate_left
  ·have h1' : ¬ (1 : Int) ≤ (s.length : Int) := by omega
   obtain rfl : s = [] := List.eq_nil_of_length_eq_zero (by omega)
   refine runf (an @s0 (an @s3 @h1')) ?_
   exact er0
  have h1' : (1 : Int) ≤ (s.length : Int) := by omega
  by_cases h2 : s.length ≤ 24
  ·have h2' : (s.length : Int) ≤ 24 := by omega
   rw [nameR_true (by omega) h2 fun j hj => hall j hj hj]
   refine runf (an @s0 (an @s3 (an @h1' @h2'))) ?_
   exact er0
  ·have h2' : ¬ (s.length : Int) ≤ 24 := by omega
   rw [nameR_long (by omega)]
   refine runf (an @s0 (an @s3 (an @h1' @h2'))) ?_
   exact er0
 have hg : s[k]? = some s[k] := List.getElem?_eq_getElem hlt
 have hbad : (if k = 0 then letter s[k] else namec s[k]) = false → nameR s = false := nameR_false hlt
 have hgood : (if k = 0 then letter s[k] else namec s[k]) = true → ∀ j (hj : j < s.length), j < k + 1 → (if j = 0 then letter s[j] else namec s[j]) = true := fun h j hj hjk => by
  by_cases e : j = k
  ·subst e; exact h
  ·exact hall j hj (by omega)
 generalize s[k] = b at *
 have hu : u8 b = .it .u8 (b.toNat : Int) := rfl
 have k1 := fin_c b.toNat 97 122
 have k2 := fin_c b.toNat 48 57
 have hx : letter b = (decide (97 ≤ b.toNat) && decide (b.toNat ≤ 122)) := rfl
 have hy : namec b = (letter b || (decide (48 ≤ b.toNat) && decide (b.toNat ≤ 57)) || decide (b.toNat = 95)) := rfl
 rw [← hx] at k1
 clear hx
 generalize (decide (48 ≤ b.toNat) && decide (b.toNat ≤ 57)) = c2 at *
 refine runf (an @s0 (an @s3 (an @hg @hu))) ?_
 refine cp k1 ?_
 cases hl : letter b with
 | true =>
  rw [hl] at hy hgood
  refine runf (an @s0 (an @s3 (an @hg @hu))) ?_
  exact round_mk (s.length - (k + 1)) (by omega) ⟨rfl, (by first | rfl | (simp only [↓upd_apply, ↓put_some, ↓reduceIte, Nat.reduceEqDiff, ↓argEnv_zero, ↓argEnv_succ, *]; done)), k + 1, (by first | rfl | (simp only [↓upd_apply, ↓put_some, ↓reduceIte, Nat.reduceEqDiff, ↓argEnv_zero, ↓argEnv_succ, *]; done)), by omega, hgood (by rw [hy]; simp), rfl⟩
 | false =>
  rw [hl] at hy hbad hgood
  by_cases h0 : k = 0
  ·subst h0
   rw [hbad (by simp)]
   refine runf (an @s0 (an @s3 (an @hg @hu))) ?_
   exact er0
  have h0' : ¬ (k : Int) = 0 := by omega
  rw [if_neg h0] at hbad hgood
  cases c2 with
  | true =>
   refine runf (an @s0 (an @s3 (an @hg (an @hu @h0')))) ?_
   refine cp k2 ?_
   refine runf (an @s0 (an @s3 (an @hg @hu))) ?_
   exact round_mk (s.length - (k + 1)) (by omega) ⟨rfl, (by first | rfl | (simp only [↓upd_apply, ↓put_some, ↓reduceIte, Nat.reduceEqDiff, ↓argEnv_zero, ↓argEnv_succ, *]; done)), k + 1, (by first | rfl | (simp only [↓upd_apply, ↓put_some, ↓reduceIte, Nat.reduceEqDiff, ↓argEnv_zero, ↓argEnv_succ, *]; done)), by omega, hgood (by rw [hy]; simp), rfl⟩
  | false =>
   by_cases h95 : b.toNat = 95
   ·have e95 : ((b.toNat : Int) != 95) = false := by rw [h95]; rfl
    refine runf (an @s0 (an @s3 (an @hg (an @hu @h0')))) ?_
    refine cp k2 ?_
    refine runf (an @s0 (an @s3 (an @hg (an @hu @e95)))) ?_
    exact round_mk (s.length - (k + 1)) (by omega) ⟨rfl, (by first | rfl | (simp only [↓upd_apply, ↓put_some, ↓reduceIte, Nat.reduceEqDiff, ↓argEnv_zero, ↓argEnv_succ, *]; done)), k + 1, (by first | rfl | (simp only [↓upd_apply, ↓put_some, ↓reduceIte, Nat.reduceEqDiff, ↓argEnv_zero, ↓argEnv_succ, *]; done)), by omega, hgood (by rw [hy, h95]; rfl), rfl⟩
   ·have e95 : ((b.toNat : Int) != 95) = true := bneT (by omega)
    rw [hbad (by rw [hy, decide_eq_false h95]; rfl)]
    refine runf (an @s0 (an @s3 (an @hg (an @hu @h0')))) ?_
    refine cp k2 ?_
    refine runf (an @s0 (an @s3 (an @hg (an @hu @e95)))) ?_
    exact er0
theorem fids_c (l : List By) (hs : ∀ s ∈ l, s.length ≤ 140737488355328) (hl : l.length ≤ 140737488355328) : AC Tryz.prog 251 [sls l] [] (.bo (idsR l)) [] := by
 refine AC.enter2 [248] [] Tryz.func251 rfl (by decide) (by decide) (Nat.le_of_ble_eq_true rfl) (by kernel_rfl) ?_; simp only [eraseC, eraseO, List.map_cons, List.map_nil, List.map_toArray, List.getElem?_toArray, List.getElem?_cons_zero, List.getElem?_cons_succ, Option.bind_some, Option.bind_none, List.append_eq, List.cons_append, List.nil_append]
 unfold idsR
 refine run ?_
 refine loop_mk (fun m e S => S = [] ∧ e 0 = sls l ∧ ∃ k : Nat, e 3 = .it .i64 (k : Int) ∧ k ≤ l.length ∧ (∀ j (h : j < l.length), j < k → idR l[j] = true) ∧
  (∀ j (h : j + 1 < l.length), j + 1 < k → (Op.bytesLess l[j + 1] l[j] || l[j + 1] == l[j]) = false) ∧ m = l.length - k) l.length ⟨rfl, (by first | rfl | (simp only [↓upd_apply, ↓put_some, ↓reduceIte, Nat.reduceEqDiff, ↓argEnv_zero, ↓argEnv_succ, *]; done)), 0, (by first | rfl | (simp only [↓upd_apply, ↓put_some, ↓reduceIte, Nat.reduceEqDiff, ↓argEnv_zero, ↓argEnv_succ, *]; done)), by omega, fun j _ h => absurd h (Nat.not_lt_zero _), fun j _ h => absurd h (Nat.not_lt_zero _), rfl⟩ ?_
 rintro m e S ⟨rfl, s0, k, s3, hk, hid, hasc, rfl⟩
 by_cases hlt : k < l.length
 rotate_left
 ·obtain rfl : k = l.length := by omega
  have h1 : l.all idR = true := List.all_eq_true.2 fun x hx => by
   obtain ⟨j, hj, rfl⟩ := List.getElem_of_mem hx
   exact hid j hj hj
  rw [h1, asc_true fun j h => hasc j h h]
  by_cases h64 : l.length ≤ 64
  ·have h64' : (l.length : Int) ≤ 64 := by omega
   rw [decide_eq_true h64]
   refine runf (an @s0 (an @s3 @h64')) ?_
   exact er0
  ·have h64' : ¬ (l.length : Int) ≤ 64 := by omega
   rw [decide_eq_false h64]
   refine runf (an @s0 (an @s3 @h64')) ?_
   exact er0
 have hg : l[k]? = some l[k] := List.getElem?_eq_getElem hlt
 have hsk := hs l[k] (List.getElem_mem hlt)
 have ki := fidright_c l[k] hsk
 cases hb : idR l[k] with
 | false =>
  have : l.all idR = false := List.all_eq_false.2 ⟨l[k], List.getElem_mem hlt, by simp [hb]⟩
  rw [this, Bool.and_false, Bool.false_and]
  rw [hb] at ki
  refine runf (an @s0 (an @s3 @hg)) ?_
  refine cp ki ?_
  refine runf (an @s0 (an @s3 @hg)) ?_
  exact er0
 | true =>
  rw [hb] at ki
  have hid' : ∀ j (h : j < l.length), j < k + 1 → idR l[j] = true := fun j h hj => by
   by_cases e : j = k
   ·subst e; exact hb
   ·exact hid j h (by omega)
  cases k with
  | zero =>
   refine runf (an @s0 (an @s3 @hg)) ?_
   refine cp ki ?_
   refine runf (an @s0 (an @s3 @hg)) ?_
   exact round_mk (l.length - 1) (by omega) ⟨rfl, (by first | rfl | (simp only [↓upd_apply, ↓put_some, ↓reduceIte, Nat.reduceEqDiff, ↓argEnv_zero, ↓argEnv_succ, *]; done)), 1, (by first | rfl | (simp only [↓upd_apply, ↓put_some, ↓reduceIte, Nat.reduceEqDiff, ↓argEnv_zero, ↓argEnv_succ, *]; done)), by omega, hid', fun j _ h => by omega, rfl⟩
  | succ k =>
   have hg' : l[k]? = some l[k] := List.getElem?_eq_getElem (by omega)
   have hc : ((k + 1 : Nat) : Int) - 1 = (k : Int) := by omega
   have hpos : (0 : Int) < ((k + 1 : Nat) : Int) := by omega
   cases hcmp : (Op.bytesLess l[k + 1] l[k] || l[k + 1] == l[k]) with
   | true =>
    have hcm : Op.bytesLess l[k] l[k + 1] = false := by
     have := less_tri l[k] l[k + 1]
     rw [hcmp] at this
     simpa using this
    rw [asc_false (j := k) hlt hcmp, Bool.and_false]
    refine runf (an @s0 (an @s3 @hg)) ?_
    refine cp ki ?_
    refine runf (an @s0 (an @s3 (an @hg (an @hg' (an @hc (an @hcm @hpos)))))) ?_
    exact er0
   | false =>
    have hcm : Op.bytesLess l[k] l[k + 1] = true := by
     have := less_tri l[k] l[k + 1]
     rw [hcmp] at this
     simpa using this
    refine runf (an @s0 (an @s3 @hg)) ?_
    refine cp ki ?_
    refine runf (an @s0 (an @s3 (an @hg (an @hg' (an @hc (an @hcm @hpos)))))) ?_
    exact round_mk (l.length - (k + 1 + 1)) (by omega) ⟨rfl, (by first | rfl | (simp only [↓upd_apply, ↓put_some, ↓reduceIte, Nat.reduceEqDiff, ↓argEnv_zero, ↓argEnv_succ, *]; done)), k + 1 + 1, (by first | rfl | (simp only [↓upd_apply, ↓put_some, ↓reduceIte, Nat.reduceEqDiff, ↓argEnv_zero, ↓argEnv_succ, *]; done)), by omega, hid', fun j h hj => by
     by_cases e : j = k
     ·subst e; exact hcmp
     ·exact hasc j h (by omega), rfl⟩
end Go.Proofs.YthbpbkbjdfcnjaaGreatDoor.Pe
end
