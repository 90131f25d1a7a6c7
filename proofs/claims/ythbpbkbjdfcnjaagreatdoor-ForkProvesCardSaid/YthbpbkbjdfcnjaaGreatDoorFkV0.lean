/- Several texts in one. -/
import Derived.Test.YthbpbkbjdfcnjaaGreatDoorSlV
import Derived.Test.YthbpbkbjdfcnjaaGreatDoorMkW
import Derived.Test.YthbpbkbjdfcnjaaGreatDoorMkU
set_option linter.unusedSectionVars false
set_option linter.unusedVariables false
set_option linter.unusedSimpArgs false
namespace Go.Proofs.YthbpbkbjdfcnjaaGreatDoor.Sl
open Go Co Sg Ac It
structure Evidence where
 old : Head
 new : Head
 root : By
 link : List By
 deriving DecidableEq
def evid0 : Evidence := ⟨head0, head0, [], []⟩
def linkE (l : List By) (m : Nat) : List By := if m = 0 then [] else Mk.link l m true
def mkEv (l : List It.Entry) (now old : Head) : Evidence × Bool :=
 if now.server ≠ old.server ∨ old.size < 0 ∨ now.size < old.size ∨ l.length < now.size then (evid0, false)
 else if rootE (l.take now.size.toNat) ≠ now.root ∨ rootE (l.take old.size.toNat) = old.root then (evid0, false)
 else (⟨old, now, rootE (l.take old.size.toNat), linkE ((l.take now.size.toNat).map leafE) old.size.toNat⟩, true)
def formedE (e : Evidence) : Bool := rightH e.old && rightH e.new && decide (e.root.length = 32) && decide (e.link.length ≤ 64) && e.link.all dig
def checkE (ps : List Int) (e : Evidence) : Bool :=
 formedE e && decide (e.old.server = e.new.server) && decide (e.old.server < ps.length) && verifyH (ps.getD e.old.server.toNat 0) e.old && verifyH (ps.getD e.old.server.toNat 0) e.new && !decide (e.root = e.old.root) && Pe.extB e.old.size e.new.size e.root e.new.root e.link
def findE (ps : List Int) (l : List It.Entry) (hs : List Head) (h : Head) : Evidence × Bool :=
 match hs.getLast? with
 | none => (evid0, false)
 | some x => if (mkEv l x h).2 = true ∧ checkE ps (mkEv l x h).1 = true then ((mkEv l x h).1, true) else (evid0, false)
def evidB (e : Evidence) : By := if formedE e then text (headB e.old) ++ text (headB e.new) ++ text e.root ++ list e.link else []
def readEv (s : By) : Evidence × Bool :=
 let o := R.text ⟨s, false⟩
 let n := o.2.text
 let r := n.2.text
 let k := r.2.list
 let e : Evidence := ⟨(readHead o.1).1, (readHead n.1).1, r.1, k.1⟩
 if k.2.done = true ∧ (readHead o.1).2 = true ∧ (readHead n.1).2 = true ∧ formedE e = true ∧ evidB e = s then (e, true) else (evid0, false)
theorem readEv_right {s : By} (h : (readEv s).2 = true) : formedE (readEv s).1 = true ∧ evidB (readEv s).1 = s := by
 unfold readEv at h ⊢
 simp only at h ⊢
 split at h
 ·rename_i hc
  rw [if_pos hc]
  exact ⟨hc.2.2.2.1, hc.2.2.2.2⟩
 ·cases h
theorem formedE_iff {e : Evidence} : formedE e = true ↔ rightH e.old = true ∧ rightH e.new = true ∧ e.root.length = 32 ∧ e.link.length ≤ 64 ∧ ∀ x ∈ e.link, x.length = 32 := by
 simp only [formedE, Bool.and_eq_true, decide_eq_true_eq, List.all_eq_true, dig, and_assoc]
theorem headB_small {h : Head} (hr : rightH h = true) : (headB h).length < 2 ^ 63 := by
 obtain ⟨h1, h2, h3, h4, h5⟩ := rightH_iff.1 hr
 simp only [sigR, Bool.and_eq_true, wi_iff] at h5
 have n1 := numI_le h.server (by omega)
 have n2 := numI_le h.size (by omega)
 have n3 := numI_le h.time (by omega)
 have n4 := numI_le h.sig.e (by omega)
 have n5 := numI_le h.sig.s (by omega)
 have t1 : (text h.root).length ≤ 41 := by
  have := num_le 8 h.root.length (by omega)
  unfold text
  rw [List.length_append]
  omega
 have tw : (text wHead).length = 5 := rfl
 unfold headB coreH
 rw [if_pos hr]
 simp only [List.length_append]
 omega
theorem readEv_back {e : Evidence} (h : formedE e = true) : readEv (evidB e) = (e, true) := by
 obtain ⟨h1, h2, h3, h4, h5⟩ := formedE_iff.1 h
 have hb : evidB e = text (headB e.old) ++ (text (headB e.new) ++ (text e.root ++ (list e.link ++ []))) := by
  unfold evidB
  rw [if_pos h]
  simp only [List.append_assoc, List.append_nil]
 have t1 : R.text ⟨evidB e, false⟩ = (headB e.old, ⟨text (headB e.new) ++ (text e.root ++ (list e.link ++ [])), false⟩) := by
  rw [hb]; exact text_back _ _ (headB_small h1)
 have t2 := text_back (headB e.new) (text e.root ++ (list e.link ++ [])) (headB_small h2)
 have t3 := text_back e.root (list e.link ++ []) (by omega)
 have t4 := list_back e.link [] (by omega) (fun s hs => by rw [h5 s hs]; decide)
 unfold readEv
 simp only [t1, t2, t3, t4, readHead_back h1, readHead_back h2]
 rw [if_pos ⟨rfl, trivial, trivial, h, trivial⟩]
theorem root_rt' {l : List By} (h : 0 < l.length) : Mk.root l = Mk.rt l := if_neg (fun e => by rw [e] at h; simp at h)
theorem ext_made (l : List By) (hl : Mk.Dig l) {m : Nat} (hm : m ≤ l.length) : Pe.extB (m : Int) (l.length : Int) (Mk.root (l.take m)) (Mk.root l) (linkE l m) = true := by
 have r1 : (Mk.root (l.take m)).length = 32 := root_len (Mk.Dig.take hl m)
 have r2 : (Mk.root l).length = 32 := root_len hl
 unfold Pe.extB
 by_cases h0 : m = 0
 ·subst h0
  have hd : Pe.digs (linkE l 0) = true := rfl
  rw [if_neg (by rintro (h | h | h | h | h); (· omega); (· omega); (· exact h r1); (· exact h r2); (· rw [hd] at h; cases h)), if_pos ⟨rfl, rfl, rfl⟩]
 have hlk : linkE l m = Mk.link l m true := if_neg h0
 rw [hlk]
 have hdig := Mk.link_dig l.length l m true (by omega) hm (Nat.le_refl _) hl
 have hd : Pe.digs (Mk.link l m true) = true := by
  unfold Pe.digs
  rw [List.all_eq_true]
  intro x hx
  have := hdig x hx
  simp [this]
 rw [if_neg (by rintro (h | h | h | h | h); (· omega); (· omega); (· exact h r1); (· exact h r2); (· rw [hd] at h; cases h))]
 rw [if_neg (by rintro ⟨h, _⟩; omega)]
 by_cases he : m = l.length
 ·subst he
  rw [List.take_length, if_pos ⟨rfl, rfl, by rw [Mk.link_all]; rfl⟩]
 rw [if_neg (by rintro ⟨h, _⟩; omega), if_neg (by omega)]
 have hrt1 := root_rt' (l := l.take m) (by rw [List.length_take]; omega)
 have hrt2 := root_rt' (l := l) (by omega)
 rw [hrt1, hrt2, Int.toNat_natCast, Int.toNat_natCast]
 rw [Mk.roots_link l.length l m (Mk.rt (l.take m)) true (by omega) hm (Nat.le_refl _) (fun _ => rfl)]
 simp
end Go.Proofs.YthbpbkbjdfcnjaaGreatDoor.Sl
namespace Go.Proofs.YthbpbkbjdfcnjaaGreatDoor.Sl
open Go Co Sg Ac It
theorem made_ok {k : Key} (hk : k.right = true) (ps : List Int) (hp : ps = [k.pub]) {o l : List It.Entry} {t u : Int} (hl : l.length ≤ 64) (hol : o.length ≤ l.length) (ht : 0 ≤ t ∧ t ≤ 1099511627776) (hu : 0 ≤ u ∧ u ≤ 1099511627776) :
  (mkEv l (mkHead k 0 l u) (mkHead k 0 o t)).2 = (!decide (rootE (l.take o.length) = rootE o)) ∧
  (rootE (l.take o.length) ≠ rootE o → checkE ps (mkEv l (mkHead k 0 l u) (mkHead k 0 o t)).1 = true) := by
 subst hp
 obtain ⟨a1, a2, a3⟩ := mkHead_right (k := k) (server := 0) (l := l) (time := u) hk ⟨by decide, by decide⟩ (by omega) hu
 obtain ⟨b1, b2, b3⟩ := mkHead_right (k := k) (server := 0) (l := o) (time := t) hk ⟨by decide, by decide⟩ (by omega) ht
 have a4 : (mkHead k 0 l u).server = 0 := by rw [a1]
 have a5 : (mkHead k 0 l u).size = l.length := by rw [a1]
 have a6 : (mkHead k 0 l u).root = rootE l := by rw [a1]
 have b4 : (mkHead k 0 o t).server = 0 := by rw [b1]
 have b5 : (mkHead k 0 o t).size = o.length := by rw [b1]
 have b6 : (mkHead k 0 o t).root = rootE o := by rw [b1]
 clear a1 b1
 generalize mkHead k 0 l u = now at *
 generalize mkHead k 0 o t = old at *
 have hm : mkEv l now old = if rootE (l.take o.length) = rootE o then (evid0, false) else (⟨old, now, rootE (l.take o.length), linkE (l.map leafE) o.length⟩, true) := by
  unfold mkEv
  rw [a4, a5, a6, b4, b5, b6, Int.toNat_natCast, Int.toNat_natCast, List.take_length]
  rw [if_neg (by rintro (h | h | h | h); exact h rfl; omega; omega; omega)]
  by_cases he : rootE (l.take o.length) = rootE o
  ·rw [if_pos (.inr he), if_pos he]
  ·rw [if_neg (by rintro (h | h); exact h rfl; exact he h), if_neg he]
 rw [hm]
 constructor
 ·by_cases he : rootE (l.take o.length) = rootE o
  ·rw [if_pos he, decide_eq_true he]; rfl
  ·rw [if_neg he, decide_eq_false he]; rfl
 intro he
 rw [if_neg he]
 have hdig := leaves_dig l
 have hmap : (l.take o.length).map leafE = (l.map leafE).take o.length := List.map_take
 have hext := ext_made (l.map leafE) hdig (m := o.length) (by rw [List.length_map]; exact hol)
 rw [List.length_map] at hext
 have hlk : (linkE (l.map leafE) o.length).length ≤ 64 ∧ ∀ x ∈ linkE (l.map leafE) o.length, x.length = 32 := by
  unfold linkE
  by_cases h0 : o.length = 0
  ·rw [if_pos h0]; exact ⟨by decide, fun x hx => by cases hx⟩
  ·rw [if_neg h0]
   refine ⟨Nat.le_trans (Pe.link_len l.length _ _ _ (by omega) (by rw [List.length_map]; exact hol) (by rw [List.length_map]; exact Nat.le_refl _)) hl, Mk.link_dig _ _ _ _ (by omega) (by rw [List.length_map]; exact hol) (Nat.le_refl _) hdig⟩
 have hform : formedE ⟨old, now, rootE (l.take o.length), linkE (l.map leafE) o.length⟩ = true := formedE_iff.2 ⟨b2, a2, rootE_len _, hlk.1, hlk.2⟩
 unfold checkE
 rw [hform]
 simp only [a4, a5, a6, b4, b5, b6]
 rw [show ([k.pub] : List Int).getD (0 : Int).toNat 0 = k.pub from rfl, b3, a3]
 rw [decide_eq_false he]
 have hx : Pe.extB (o.length : Int) (l.length : Int) (rootE (l.take o.length)) (rootE l) (linkE (l.map leafE) o.length) = true := by
  unfold rootE
  rw [hmap]
  exact hext
 rw [hx]
 rfl
structure Grown (k : Key) (l : List It.Entry) (m : Mirror) (n : Nat) : Prop where
 server : m.server = 0
 le : n ≤ l.length
 entries : m.entries = l.take n
 last : m.heads.getLast? = if n = 0 then none else some (mkHead k 0 (l.take n) n)
theorem grown_find {k : Key} (hk : k.right = true) {l : List It.Entry} {m : Mirror} {n : Nat} (g : Grown k l m n) (hl : l.length ≤ 64) {o : List It.Entry} {t : Int} (ho : o.length ≤ 64) (ht : 0 ≤ t ∧ t ≤ 1099511627776) :
  (findE [k.pub] m.entries m.heads (mkHead k 0 o t)).2 = (decide (0 < n) && decide (o.length ≤ n) && !decide (rootE o = rootE ((l.take n).take o.length))) := by
 unfold findE
 rw [g.last]
 by_cases h0 : n = 0
 ·rw [if_pos h0, decide_eq_false (by omega)]
  rfl
 rw [if_neg h0, decide_eq_true (show 0 < n by omega), Bool.true_and]
 simp only
 have hln : (l.take n).length = n := by rw [List.length_take, Nat.min_eq_left g.le]
 have hle := g.le
 rw [g.entries]
 by_cases h1 : o.length ≤ n
 rotate_left
 ·rw [decide_eq_false h1, Bool.false_and]
  obtain ⟨a1, _, _⟩ := mkHead_right (k := k) (server := 0) (l := l.take n) (time := (n : Int)) hk ⟨by decide, by decide⟩ (by omega) (by omega)
  obtain ⟨b1, _, _⟩ := mkHead_right (k := k) (server := 0) (l := o) (time := t) hk ⟨by decide, by decide⟩ (by omega) ht
  have e : mkEv (l.take n) (mkHead k 0 (l.take n) n) (mkHead k 0 o t) = (evid0, false) := by
   unfold mkEv
   rw [if_pos]
   right; right; left
   rw [a1, b1]
   simp only
   omega
  rw [e]
  rfl
 rw [decide_eq_true h1, Bool.true_and]
 obtain ⟨q1, q2⟩ := made_ok hk [k.pub] rfl (o := o) (l := l.take n) (t := t) (u := (n : Int)) (by omega) (by omega) ht (by omega)
 by_cases he : rootE ((l.take n).take o.length) = rootE o
 ·rw [decide_eq_true he.symm, q1, decide_eq_true he]
  rfl
 ·rw [decide_eq_false (fun h => he h.symm), q1, decide_eq_false he, q2 he]
  rfl
theorem take_ok0 (ps : List Int) (m : Mirror) (b : Batch) : (take ps m b).2 = 0 → (take ps m b).1 = if b.head.size ≤ m.entries.length then m else ⟨m.server, logOf m b, m.heads ++ [b.head]⟩ := by
 unfold take
 intro h
 split at h
 ·cases h
 rename_i h1; rw [if_neg h1]
 split at h
 ·cases h
 rename_i h2; rw [if_neg h2]
 split at h
 ·cases h
 rename_i h3; rw [if_neg h3]
 split at h
 ·cases h
 rename_i h4; rw [if_neg h4]
 split at h
 ·cases h
 rename_i h5; rw [if_neg h5]
 split at h
 ·cases h
 rename_i h6; rw [if_neg h6]
 split at h
 ·cases h
 rename_i h7; rw [if_neg h7]
 split <;> rfl
theorem grown_new (k : Key) (l : List It.Entry) : Grown k l ⟨0, [], []⟩ 0 := ⟨rfl, Nat.zero_le _, by simp, rfl⟩
theorem grown_next {k : Key} (hk : k.right = true) {l : List It.Entry} {m : Mirror} {n : Nat} (g : Grown k l m n) (hl : l.length ≤ 64) {s : Nat} (h1 : n < s) (h2 : s ≤ l.length)
  (hok : (take [k.pub] m ⟨mkHead k 0 (l.take s) s, n, (l.take s).drop n⟩).2 = 0) : Grown k l (take [k.pub] m ⟨mkHead k 0 (l.take s) s, n, (l.take s).drop n⟩).1 s ∧ (take [k.pub] m ⟨mkHead k 0 (l.take s) s, n, (l.take s).drop n⟩).1.heads.length = m.heads.length + 1 := by
 have hle := g.le
 have hls : (l.take s).length = s := by rw [List.length_take, Nat.min_eq_left h2]
 obtain ⟨a1, _, _⟩ := mkHead_right (k := k) (server := 0) (l := l.take s) (time := (s : Int)) hk ⟨by decide, by decide⟩ (by omega) (by omega)
 have hsz : (mkHead k 0 (l.take s) s).size = s := by rw [a1]; show ((l.take s).length : Int) = s; rw [hls]
 have hml : m.entries.length = n := by rw [g.entries, List.length_take, Nat.min_eq_left hle]
 rw [take_ok0 _ _ _ hok]
 rw [if_neg (by rw [hml]; show ¬ (mkHead k 0 (l.take s) s).size ≤ (n : Int); rw [hsz]; omega)]
 refine ⟨⟨g.server, h2, ?_, ?_⟩, by simp⟩
 ·show m.entries.take (n : Int).toNat ++ (l.take s).drop n = l.take s
  rw [g.entries, Int.toNat_natCast, pre_split l (Nat.le_refl n) hle (by omega)]
 ·rw [if_neg (by omega)]
  show (m.heads ++ [mkHead k 0 (l.take s) s]).getLast? = _
  simp
abbrev fkActor : By := [48, 48, 48, 48, 48, 48, 48, 48, 48, 48, 48, 48, 48, 48, 48, 49]
def fkEntry (n : Int) : It.Entry := ⟨n, ⟨1, act0, ⟨fkActor, 1, Mk.leaf [], 0, 0, 37, n, sig0⟩, ballot0, decision0⟩⟩
def fkA : List It.Entry := [fkEntry 1, fkEntry 2]
def fkB : List It.Entry := [fkEntry 1, fkEntry 3, fkEntry 4]
def fkKey : Key := keySeed [97]
theorem fkKey_right : fkKey.right = true := keySeed_right _
theorem fk_ne : rootE (fkB.take 2) ≠ rootE fkA := by decide +kernel
def fkOld : Head := mkHead fkKey 0 fkA 2
def fkNow : Head := mkHead fkKey 0 fkB 4
def fkOld2 : Head := mkHead fkKey 0 (fkB.take 2) 3
theorem fk_37 : verifyH 37 fkOld = false := by decide +kernel
def fkE : Evidence := (mkEv fkB fkNow fkOld).1
theorem fk_made : mkEv fkB fkNow fkOld = (fkE, true) := by
 have h1 := (made_ok fkKey_right [fkKey.pub] rfl (o := fkA) (l := fkB) (t := 2) (u := 4) (by decide) (by decide) (by decide) (by decide)).1
 have h2 : decide (rootE (fkB.take fkA.length) = rootE fkA) = false := decide_eq_false fk_ne
 rw [h2] at h1
 have h3 : (mkEv fkB fkNow fkOld).2 = true := h1
 have hp : ∀ p : Evidence × Bool, p.2 = true → p = (p.1, true) := fun p h => by
  obtain ⟨a, b⟩ := p
  simp only at h
  rw [h]
 exact hp _ h3
theorem fk_none : mkEv fkB fkNow fkOld2 = (evid0, false) := by
 have h1 := (made_ok fkKey_right [fkKey.pub] rfl (o := fkB.take 2) (l := fkB) (t := 3) (u := 4) (by decide) (by decide) (by decide) (by decide)).1
 have h2 : decide (rootE (fkB.take (fkB.take 2).length) = rootE (fkB.take 2)) = true := decide_eq_true rfl
 rw [h2] at h1
 have e : (mkEv fkB fkNow fkOld2).2 = false := h1
 refine Prod.ext ?_ e
 unfold mkEv at e ⊢
 split
 ·rfl
 ·rename_i h1
  rw [if_neg h1] at e
  split
  ·rfl
  ·rename_i h2
   rw [if_neg h2] at e
   cases e
theorem fk_check : checkE [fkKey.pub] fkE = true := (made_ok fkKey_right [fkKey.pub] rfl (o := fkA) (l := fkB) (t := 2) (u := 4) (by decide) (by decide) (by decide) (by decide)).2 fk_ne
theorem fk_formed : formedE fkE = true := by
 have := fk_check
 unfold checkE at this
 simp only [Bool.and_eq_true] at this
 exact this.1.1.1.1.1.1
theorem fkE_old : fkE.old = fkOld := by
 have h := fk_made
 unfold mkEv at h
 split at h
 ·have := congrArg Prod.snd h; cases this
 ·split at h
  ·have := congrArg Prod.snd h; cases this
  ·obtain ⟨h', _⟩ := Prod.mk.inj h
   rw [← h']
theorem fk_old0 : fkE.old.server = 0 := by
 rw [fkE_old]
 have := (mkHead_right (k := fkKey) (server := 0) (l := fkA) (time := 2) fkKey_right ⟨by decide, by decide⟩ (by decide) (by decide)).1
 unfold fkOld
 rw [this]
theorem fk_check37 : checkE [37] fkE = false := by
 unfold checkE
 rw [fk_old0, fkE_old, show ([37] : List Int).getD (0 : Int).toNat 0 = 37 from rfl, fk_37]
 simp
end Go.Proofs.YthbpbkbjdfcnjaaGreatDoor.Sl
namespace Go.Proofs.YthbpbkbjdfcnjaaGreatDoor.Sl
open Go Co Sg Ac It
def evOf (k : Key) (server : Int) (l o : List It.Entry) (u t : Int) : Evidence := ⟨mkHead k server o t, mkHead k server l u, rootE (l.take o.length), linkE (l.map leafE) o.length⟩
structure Made (k : Key) (server : Int) (l o : List It.Entry) (u t : Int) : Prop where
 eq : mkEv l (mkHead k server l u) (mkHead k server o t) = if rootE (l.take o.length) = rootE o then (evid0, false) else (evOf k server l o u t, true)
 formed : formedE (evOf k server l o u t) = true
 srv : (evOf k server l o u t).old.server = server
 check : ∀ ps : List Int, server < ps.length → ps.getD server.toNat 0 = k.pub → rootE (l.take o.length) ≠ rootE o → checkE ps (evOf k server l o u t) = true
 none : ∀ ps : List Int, (ps.length : Int) ≤ server → checkE ps (evOf k server l o u t) = false
theorem made_of {k : Key} (hk : k.right = true) {server : Int} (hs : 0 ≤ server ∧ server ≤ 19) {o l : List It.Entry} {t u : Int} (hl : l.length ≤ 64) (hol : o.length ≤ l.length) (ht : 0 ≤ t ∧ t ≤ 1099511627776) (hu : 0 ≤ u ∧ u ≤ 1099511627776) : Made k server l o u t := by
 obtain ⟨a1, a2, a3⟩ := mkHead_right (k := k) (server := server) (l := l) (time := u) hk hs (by omega) hu
 obtain ⟨b1, b2, b3⟩ := mkHead_right (k := k) (server := server) (l := o) (time := t) hk hs (by omega) ht
 have a4 : (mkHead k server l u).server = server := by rw [a1]
 have a5 : (mkHead k server l u).size = l.length := by rw [a1]
 have a6 : (mkHead k server l u).root = rootE l := by rw [a1]
 have b4 : (mkHead k server o t).server = server := by rw [b1]
 have b5 : (mkHead k server o t).size = o.length := by rw [b1]
 have b6 : (mkHead k server o t).root = rootE o := by rw [b1]
 clear a1 b1
 have hdig := leaves_dig l
 have hmap : (l.take o.length).map leafE = (l.map leafE).take o.length := List.map_take
 have hext := ext_made (l.map leafE) hdig (m := o.length) (by rw [List.length_map]; exact hol)
 rw [List.length_map] at hext
 have hlk : (linkE (l.map leafE) o.length).length ≤ 64 ∧ ∀ x ∈ linkE (l.map leafE) o.length, x.length = 32 := by
  unfold linkE
  by_cases h0 : o.length = 0
  ·rw [if_pos h0]; exact ⟨by decide, fun x hx => by cases hx⟩
  ·rw [if_neg h0]
   refine ⟨Nat.le_trans (Pe.link_len l.length _ _ _ (by omega) (by rw [List.length_map]; exact hol) (by rw [List.length_map]; exact Nat.le_refl _)) hl, Mk.link_dig _ _ _ _ (by omega) (by rw [List.length_map]; exact hol) (Nat.le_refl _) hdig⟩
 have hform : formedE (evOf k server l o u t) = true := formedE_iff.2 ⟨b2, a2, rootE_len _, hlk.1, hlk.2⟩
 have hx : Pe.extB (o.length : Int) (l.length : Int) (rootE (l.take o.length)) (rootE l) (linkE (l.map leafE) o.length) = true := by
  unfold rootE
  rw [hmap]
  exact hext
 refine ⟨?_, hform, b4, fun ps h1 h2 he => ?_, fun ps h1 => ?_⟩
 ·unfold mkEv
  rw [a4, a5, a6, b4, b5, b6, Int.toNat_natCast, Int.toNat_natCast, List.take_length]
  rw [if_neg (by rintro (h | h | h | h); exact h rfl; omega; omega; omega)]
  by_cases he : rootE (l.take o.length) = rootE o
  ·rw [if_pos (.inr he), if_pos he]
  ·rw [if_neg (by rintro (h | h); exact h rfl; exact he h), if_neg he]
   rfl
 ·unfold checkE
  rw [hform]
  show (true && decide ((mkHead k server o t).server = (mkHead k server l u).server) && decide ((mkHead k server o t).server < ps.length) && verifyH (ps.getD (mkHead k server o t).server.toNat 0) (mkHead k server o t) && verifyH (ps.getD (mkHead k server o t).server.toNat 0) (mkHead k server l u) && !decide (rootE (l.take o.length) = (mkHead k server o t).root) && Pe.extB (mkHead k server o t).size (mkHead k server l u).size (rootE (l.take o.length)) (mkHead k server l u).root (linkE (l.map leafE) o.length)) = true
  simp only [a4, a5, a6, b4, b5, b6, h2, a3, b3, hx, decide_eq_true h1, decide_eq_false he]
  simp
 ·unfold checkE
  have : decide ((evOf k server l o u t).old.server < ps.length) = false := decide_eq_false (by
   show ¬ (mkHead k server o t).server < _
   rw [b4]; omega)
  rw [this]
  simp
theorem evOf_link {k : Key} {server : Int} {o l : List It.Entry} {t u : Int} (h : formedE (evOf k server l o u t) = true) : (evOf k server l o u t).link.length ≤ 64 := (formedE_iff.1 h).2.2.2.1
theorem ext_of {m n : Nat} {old now : By} {p : List By} (h : Pe.extB m n old now p = true) : (m = 0 ∧ (old = Mk.root [] ∨ (n = 0 ∧ now = old))) ∨ (0 < m ∧ m ≤ n ∧ old.length = 32 ∧ Mk.Dig p ∧ Mk.roots p.reverse m n old true = (old, now, true)) := by
 unfold Pe.extB at h
 split at h
 ·cases h
 rename_i g0
 simp only [not_or] at g0
 have hd : Mk.Dig p := fun y hy => by
  have := g0.2.2.2.2
  simp only [Pe.digs, Bool.not_eq_false, List.all_eq_true] at this
  have := this y hy
  simp at this
  omega
 split at h
 ·rename_i g1
  exact .inl ⟨by omega, .inl g1.2.1⟩
 by_cases hm : m = 0
 ·subst hm
  split at h
  ·rename_i g1
   exact .inl ⟨rfl, .inr ⟨by omega, g1.2.1⟩⟩
  ·rw [if_pos (.inl rfl)] at h
   cases h
 right
 refine ⟨by omega, by omega, by omega, hd, ?_⟩
 split at h
 ·rename_i g1
  obtain ⟨g1, g2, g3⟩ := g1
  have : p = [] := List.eq_nil_of_length_eq_zero g3
  subst this
  have : m = n := by omega
  subst this
  simp [Mk.roots, g2]
 split at h
 ·cases h
 simp only [Bool.and_eq_true, beq_iff_eq, Int.toNat_natCast] at h
 exact Prod.ext h.1.2 (Prod.ext h.2 h.1.1)
theorem honest_clash {k : Key} {l : List It.Entry} {m n : Nat} (hm : m ≤ l.length) (hn : n ≤ l.length) {e : Evidence} {t u : Int} (ho : e.old = mkHead k 0 (l.take m) t) (hw : e.new = mkHead k 0 (l.take n) u) (hc : checkE [k.pub] e = true) :
  0 < m ∧ m ≤ n ∧ Mk.Dig e.link ∧ e.root.length = 32 ∧ (Mk.rootsR e.link.reverse m n e.root true).2.2.2 = true ∧ Mk.Clash ((Mk.inputs ((l.map leafE).take m) ++ Mk.inputs ((l.map leafE).take n)) ++ (Mk.rootsR e.link.reverse m n e.root true).2.2.1) := by
 unfold checkE at hc
 simp only [Bool.and_eq_true, decide_eq_true_eq, Bool.not_eq_true', decide_eq_false_iff_not] at hc
 obtain ⟨⟨⟨⟨⟨⟨h1, h2⟩, h3⟩, h4⟩, h5⟩, h6⟩, h7⟩ := hc
 have r1 : rightH e.old = true := by unfold verifyH at h4; rw [Bool.and_eq_true] at h4; exact h4.1
 have r2 : rightH e.new = true := by unfold verifyH at h5; rw [Bool.and_eq_true] at h5; exact h5.1
 rw [ho] at r1
 rw [hw] at r2
 obtain ⟨k1, k2, k3, k4⟩ := mkHead_verify r1
 obtain ⟨_, n2, n3, n4⟩ := mkHead_verify r2
 obtain ⟨e1, _, _⟩ := mkHead_right k1 k2 k3 k4
 obtain ⟨e2, _, _⟩ := mkHead_right k1 n2 n3 n4
 have s1 : e.old.size = m := by rw [ho, e1]; show ((l.take m).length : Int) = m; rw [List.length_take]; omega
 have s2 : e.new.size = n := by rw [hw, e2]; show ((l.take n).length : Int) = n; rw [List.length_take]; omega
 have s3 : e.old.root = rootE (l.take m) := by rw [ho, e1]
 have s4 : e.new.root = rootE (l.take n) := by rw [hw, e2]
 rw [s1, s2, s4] at h7
 rw [s3] at h6
 rcases ext_of h7 with ⟨h0, hr | ⟨hn0, hr⟩⟩ | ⟨h0, hmn, hr, hd, hroots⟩
 ·subst h0
  exact absurd hr h6
 ·subst h0 hn0
  exact absurd hr.symm h6
 ·obtain ⟨q1, q2, q3⟩ := Mk.rootsR_roots e.link.reverse m n e.root true (by rw [hroots])
  have hdr : Mk.Dig e.link.reverse := fun y hy => hd y (by simpa using hy)
  have hln : ((l.map leafE).take n).length = n := by rw [List.length_take, List.length_map]; omega
  have hdl : Mk.Dig ((l.map leafE).take n) := (leaves_dig l).take n
  have hnow : rootE (l.take n) = Mk.rt ((l.map leafE).take n) := by
   unfold rootE
   rw [List.map_take]
   exact root_rt' (by omega)
  have hold : rootE (l.take m) = Mk.rt ((l.map leafE).take m) := by
   unfold rootE
   rw [List.map_take]
   exact root_rt' (by rw [List.length_take, List.length_map]; omega)
  refine ⟨h0, hmn, hd, hr, q1, ?_⟩
  have := Mk.leads n ((l.map leafE).take n) e.link.reverse m e.root true (by omega) h0 (by omega) hdl hdr hr (by rw [hln, hroots, hnow])
  rw [hln, hroots] at this
  rcases this with h8 | h8
  ·exfalso
   refine h6 ?_
   rw [hold]
   rw [List.take_take, Nat.min_eq_left hmn] at h8
   exact h8
  ·exact h8.mono fun z hz => by
    rcases List.mem_append.1 hz with hz | hz
    ·exact List.mem_append_left _ (List.mem_append_right _ hz)
    ·exact List.mem_append_right _ hz
end Go.Proofs.YthbpbkbjdfcnjaaGreatDoor.Sl
