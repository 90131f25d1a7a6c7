/- What fork finds in a mirror of one log; the example of layer 17. Nothing of the program but the merkle tree's plain functions. -/
import Derived.Test.YthbpbkbjdfcnjaaGreatDoorFkP
namespace Go.Proofs.YthbpbkbjdfcnjaaGreatDoor.Sl
set_option linter.unusedSectionVars false
set_option linter.unusedVariables false
set_option linter.unusedSimpArgs false
open Go Co Sg Ac It
theorem made_ok {k : Key} (hk : k.right = true) (ps : List Int) (hp : ps = [k.pub]) {o l : List It.Entry} {t u : Int} (hl : l.length ≤ 64) (hol : o.length ≤ l.length) (ht : 0 ≤ t ∧ t ≤ 1099511627776) (hu : 0 ≤ u ∧ u ≤ 1099511627776) :
    (mkEv l (mkHead k 0 l u) (mkHead k 0 o t)).2 = (!decide (rootE (l.take o.length) = rootE o)) ∧
    (rootE (l.take o.length) ≠ rootE o → checkE ps (mkEv l (mkHead k 0 l u) (mkHead k 0 o t)).1 = true) := by
  subst hp
  obtain ⟨a1, a2, a3⟩ := mkHead_right (k := k) (server := 0) (l := l) (time := u) hk ⟨by decide, by decide⟩ (by omega) hu
  obtain ⟨b1, b2, b3⟩ := mkHead_right (k := k) (server := 0) (l := o) (time := t) hk ⟨by decide, by decide⟩ (by omega) ht
  have a4 : (mkHead k 0 l u).server = 0 := by rw [a1]
  have a5 : (mkHead k 0 l u).size = l.length := by rw [a1]
  have a6 : (mkHead k 0 l u).root = rootE l := by rw [a1]
  have b4 : (mkHead k 0 o t).server = 0 := by rw [b1]
  have b5 : (mkHead k 0 o t).size = o.length := by rw [b1]
  have b6 : (mkHead k 0 o t).root = rootE o := by rw [b1]
  clear a1 b1
  generalize mkHead k 0 l u = now at *
  generalize mkHead k 0 o t = old at *
  have hm : mkEv l now old = if rootE (l.take o.length) = rootE o then (evid0, false) else (⟨old, now, rootE (l.take o.length), linkE (l.map leafE) o.length⟩, true) := by
    unfold mkEv
    rw [a4, a5, a6, b4, b5, b6, Int.toNat_natCast, Int.toNat_natCast, List.take_length]
    rw [if_neg (by rintro (h | h | h | h); exact h rfl; omega; omega; omega)]
    by_cases he : rootE (l.take o.length) = rootE o
    · rw [if_pos (.inr he), if_pos he]
    · rw [if_neg (by rintro (h | h); exact h rfl; exact he h), if_neg he]
  rw [hm]
  constructor
  · by_cases he : rootE (l.take o.length) = rootE o
    · rw [if_pos he, decide_eq_true he]; rfl
    · rw [if_neg he, decide_eq_false he]; rfl
  intro he
  rw [if_neg he]
  have hdig := leaves_dig l
  have hmap : (l.take o.length).map leafE = (l.map leafE).take o.length := List.map_take
  have hext := ext_made (l.map leafE) hdig (m := o.length) (by rw [List.length_map]; exact hol)
  rw [List.length_map] at hext
  have hlk : (linkE (l.map leafE) o.length).length ≤ 64 ∧ ∀ x ∈ linkE (l.map leafE) o.length, x.length = 32 := by
    unfold linkE
    by_cases h0 : o.length = 0
    · rw [if_pos h0]; exact ⟨by decide, fun x hx => by cases hx⟩
    · rw [if_neg h0]
      refine ⟨Nat.le_trans (Pe.link_len l.length _ _ _ (by omega) (by rw [List.length_map]; exact hol) (by rw [List.length_map]; exact Nat.le_refl _)) hl, Mk.link_dig _ _ _ _ (by omega) (by rw [List.length_map]; exact hol) (Nat.le_refl _) hdig⟩
  have hform : formedE ⟨old, now, rootE (l.take o.length), linkE (l.map leafE) o.length⟩ = true := formedE_iff.2 ⟨b2, a2, rootE_len _, hlk.1, hlk.2⟩
  unfold checkE
  rw [hform]
  simp only [a4, a5, a6, b4, b5, b6]
  rw [show ([k.pub] : List Int).getD (0 : Int).toNat 0 = k.pub from rfl, b3, a3]
  rw [decide_eq_false he]
  have hx : Pe.extB (o.length : Int) (l.length : Int) (rootE (l.take o.length)) (rootE l) (linkE (l.map leafE) o.length) = true := by
    unfold rootE
    rw [hmap]
    exact hext
  rw [hx]
  rfl
/-- a mirror of the beginning of a log, with its last head -/
structure Grown (k : Key) (l : List It.Entry) (m : Mirror) (n : Nat) : Prop where
  server : m.server = 0
  le : n ≤ l.length
  entries : m.entries = l.take n
  last : m.heads.getLast? = if n = 0 then none else some (mkHead k 0 (l.take n) n)
theorem grown_find {k : Key} (hk : k.right = true) {l : List It.Entry} {m : Mirror} {n : Nat} (g : Grown k l m n) (hl : l.length ≤ 64) {o : List It.Entry} {t : Int} (ho : o.length ≤ 64) (ht : 0 ≤ t ∧ t ≤ 1099511627776) :
    (findE [k.pub] m.entries m.heads (mkHead k 0 o t)).2 = (decide (0 < n) && decide (o.length ≤ n) && !decide (rootE o = rootE ((l.take n).take o.length))) := by
  unfold findE
  rw [g.last]
  by_cases h0 : n = 0
  · rw [if_pos h0, decide_eq_false (by omega)]
    rfl
  rw [if_neg h0, decide_eq_true (show 0 < n by omega), Bool.true_and]
  simp only
  have hln : (l.take n).length = n := by rw [List.length_take, Nat.min_eq_left g.le]
  have hle := g.le
  rw [g.entries]
  by_cases h1 : o.length ≤ n
  rotate_left
  · rw [decide_eq_false h1, Bool.false_and]
    obtain ⟨a1, _, _⟩ := mkHead_right (k := k) (server := 0) (l := l.take n) (time := (n : Int)) hk ⟨by decide, by decide⟩ (by omega) (by omega)
    obtain ⟨b1, _, _⟩ := mkHead_right (k := k) (server := 0) (l := o) (time := t) hk ⟨by decide, by decide⟩ (by omega) ht
    have e : mkEv (l.take n) (mkHead k 0 (l.take n) n) (mkHead k 0 o t) = (evid0, false) := by
      unfold mkEv
      rw [if_pos]
      right; right; left
      rw [a1, b1]
      simp only
      omega
    rw [e]
    rfl
  rw [decide_eq_true h1, Bool.true_and]
  obtain ⟨q1, q2⟩ := made_ok hk [k.pub] rfl (o := o) (l := l.take n) (t := t) (u := (n : Int)) (by omega) (by omega) ht (by omega)
  by_cases he : rootE ((l.take n).take o.length) = rootE o
  · rw [decide_eq_true he.symm, q1, decide_eq_true he]
    rfl
  · rw [decide_eq_false (fun h => he h.symm), q1, decide_eq_false he, q2 he]
    rfl
theorem take_ok0 (ps : List Int) (m : Mirror) (b : Batch) : (take ps m b).2 = 0 → (take ps m b).1 = if b.head.size ≤ m.entries.length then m else ⟨m.server, logOf m b, m.heads ++ [b.head]⟩ := by
  unfold take
  intro h
  split at h
  · cases h
  rename_i h1; rw [if_neg h1]
  split at h
  · cases h
  rename_i h2; rw [if_neg h2]
  split at h
  · cases h
  rename_i h3; rw [if_neg h3]
  split at h
  · cases h
  rename_i h4; rw [if_neg h4]
  split at h
  · cases h
  rename_i h5; rw [if_neg h5]
  split at h
  · cases h
  rename_i h6; rw [if_neg h6]
  split at h
  · cases h
  rename_i h7; rw [if_neg h7]
  split <;> rfl
theorem grown_new (k : Key) (l : List It.Entry) : Grown k l ⟨0, [], []⟩ 0 := ⟨rfl, Nat.zero_le _, by simp, rfl⟩
theorem grown_next {k : Key} (hk : k.right = true) {l : List It.Entry} {m : Mirror} {n : Nat} (g : Grown k l m n) (hl : l.length ≤ 64) {s : Nat} (h1 : n < s) (h2 : s ≤ l.length)
    (hok : (take [k.pub] m ⟨mkHead k 0 (l.take s) s, n, (l.take s).drop n⟩).2 = 0) : Grown k l (take [k.pub] m ⟨mkHead k 0 (l.take s) s, n, (l.take s).drop n⟩).1 s ∧ (take [k.pub] m ⟨mkHead k 0 (l.take s) s, n, (l.take s).drop n⟩).1.heads.length = m.heads.length + 1 := by
  have hle := g.le
  have hls : (l.take s).length = s := by rw [List.length_take, Nat.min_eq_left h2]
  obtain ⟨a1, _, _⟩ := mkHead_right (k := k) (server := 0) (l := l.take s) (time := (s : Int)) hk ⟨by decide, by decide⟩ (by omega) (by omega)
  have hsz : (mkHead k 0 (l.take s) s).size = s := by rw [a1]; show ((l.take s).length : Int) = s; rw [hls]
  have hml : m.entries.length = n := by rw [g.entries, List.length_take, Nat.min_eq_left hle]
  rw [take_ok0 _ _ _ hok]
  rw [if_neg (by rw [hml]; show ¬ (mkHead k 0 (l.take s) s).size ≤ (n : Int); rw [hsz]; omega)]
  refine ⟨⟨g.server, h2, ?_, ?_⟩, by simp⟩
  · show m.entries.take (n : Int).toNat ++ (l.take s).drop n = l.take s
    rw [g.entries, Int.toNat_natCast, pre_split l (Nat.le_refl n) hle (by omega)]
  · rw [if_neg (by omega)]
    show (m.heads ++ [mkHead k 0 (l.take s) s]).getLast? = _
    simp
/- the example -/
abbrev fkActor : By := [48, 48, 48, 48, 48, 48, 48, 48, 48, 48, 48, 48, 48, 48, 48, 49]
def fkEntry (n : Int) : It.Entry := ⟨n, ⟨1, act0, ⟨fkActor, 1, Mk.leaf [], 0, 0, 37, n, sig0⟩, ballot0, decision0⟩⟩
def fkA : List It.Entry := [fkEntry 1, fkEntry 2]
def fkB : List It.Entry := [fkEntry 1, fkEntry 3, fkEntry 4]
def fkKey : Key := keySeed [97]
theorem fkKey_right : fkKey.right = true := keySeed_right _
theorem fk_ne : rootE (fkB.take 2) ≠ rootE fkA := by decide +kernel
def fkOld : Head := mkHead fkKey 0 fkA 2
def fkNow : Head := mkHead fkKey 0 fkB 4
def fkOld2 : Head := mkHead fkKey 0 (fkB.take 2) 3
theorem fk_37 : verifyH 37 fkOld = false := by decide +kernel
def fkE : Evidence := (mkEv fkB fkNow fkOld).1
theorem fk_made : mkEv fkB fkNow fkOld = (fkE, true) := by
  have h1 := (made_ok fkKey_right [fkKey.pub] rfl (o := fkA) (l := fkB) (t := 2) (u := 4) (by decide) (by decide) (by decide) (by decide)).1
  have h2 : decide (rootE (fkB.take fkA.length) = rootE fkA) = false := decide_eq_false fk_ne
  rw [h2] at h1
  have h3 : (mkEv fkB fkNow fkOld).2 = true := h1
  have hp : ∀ p : Evidence × Bool, p.2 = true → p = (p.1, true) := fun p h => by
    obtain ⟨a, b⟩ := p
    simp only at h
    rw [h]
  exact hp _ h3
theorem fk_none : mkEv fkB fkNow fkOld2 = (evid0, false) := by
  have h1 := (made_ok fkKey_right [fkKey.pub] rfl (o := fkB.take 2) (l := fkB) (t := 3) (u := 4) (by decide) (by decide) (by decide) (by decide)).1
  have h2 : decide (rootE (fkB.take (fkB.take 2).length) = rootE (fkB.take 2)) = true := decide_eq_true rfl
  rw [h2] at h1
  have e : (mkEv fkB fkNow fkOld2).2 = false := h1
  refine Prod.ext ?_ e
  unfold mkEv at e ⊢
  split
  · rfl
  · rename_i h1
    rw [if_neg h1] at e
    split
    · rfl
    · rename_i h2
      rw [if_neg h2] at e
      cases e
theorem fk_check : checkE [fkKey.pub] fkE = true := (made_ok fkKey_right [fkKey.pub] rfl (o := fkA) (l := fkB) (t := 2) (u := 4) (by decide) (by decide) (by decide) (by decide)).2 fk_ne
theorem fk_formed : formedE fkE = true := by
  have := fk_check
  unfold checkE at this
  simp only [Bool.and_eq_true] at this
  exact this.1.1.1.1.1.1
theorem fkE_old : fkE.old = fkOld := by
  have h := fk_made
  unfold mkEv at h
  split at h
  · have := congrArg Prod.snd h; cases this
  · split at h
    · have := congrArg Prod.snd h; cases this
    · obtain ⟨h', _⟩ := Prod.mk.inj h
      rw [← h']
theorem fk_old0 : fkE.old.server = 0 := by
  rw [fkE_old]
  have := (mkHead_right (k := fkKey) (server := 0) (l := fkA) (time := 2) fkKey_right ⟨by decide, by decide⟩ (by decide) (by decide)).1
  unfold fkOld
  rw [this]
theorem fk_check37 : checkE [37] fkE = false := by
  unfold checkE
  rw [fk_old0, fkE_old, show ([37] : List Int).getD (0 : Int).toNat 0 = 37 from rfl, fk_37]
  simp
end Go.Proofs.YthbpbkbjdfcnjaaGreatDoor.Sl
