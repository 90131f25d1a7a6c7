/- A part. -/
import Derived.Test.YtldohjjoicmfpaaGreatDoorKr13
set_option linter.unusedSectionVars false
set_option linter.unusedVariables false
set_option linter.unusedSimpArgs false
namespace Go.Proofs.YtldohjjoicmfpaaGreatDoor
section
namespace It
open Tryz
open Go Co Sg Ac
structure Claim where
 actor : By
 base : Int
 prev : By
 gen : Int
 home : Int
 pub : Int
 time : Int
 sig : Sig
 deriving DecidableEq
structure Ballot where
 server : Int
 actor : By
 gen : Int
 claim : By
 time : Int
 sig : Sig
 deriving DecidableEq
structure Decision where
 server : Int
 number : Int
 kind : Int
 actor : By
 object : By
 text : By
 to : List By
 n : Int
 frm : Int
 til : Int
 sig : Sig
 deriving DecidableEq
structure Item where
 kind : Int
 act : Ac.Act
 claim : Claim
 ballot : Ballot
 decision : Decision
 deriving DecidableEq
structure Entry where
 time : Int
 item : Item
 deriving DecidableEq
def CZ : Claim := ⟨[], 0, [], 0, 0, 0, 0, BX⟩
def C0 : Ballot := ⟨0, [], 0, [], 0, BX⟩
def CI : Decision := ⟨0, 0, 0, [], [], [], [], 0, 0, 0, BX⟩
def AI : Item := ⟨0, BU, CZ, C0, CI⟩
def MN : Entry := ⟨0, AI⟩
def Ca (n : Int) : Bool := wi n 0 19
def isTime (n : Int) : Bool := wi n 0 1099511627776
def D0 (c : Claim) : Bool := Ax c.actor && wi c.base 1 1073741824 && Bd c.prev && wi c.gen 0 1073741824 && Ca c.home && wi c.pub 1 2305843009213693950 && isTime c.time && AT c.sig
def D2 (b : Ballot) : Bool := Ca b.server && Ax b.actor && wi b.gen 0 1073741824 && Bd b.claim && isTime b.time && AT b.sig
def Aw (d : Decision) : Bool := decide (d.to = []) && decide (d.n = 0)
def BP (d : Decision) : Bool :=
 if d.kind = 0 ∨ d.kind = 1 ∨ d.kind = 4 ∨ d.kind = 6 ∨ d.kind = 7 then Ax d.actor && decide (d.object = []) && Cx d.text && Aw d
 else if d.kind = 2 ∨ d.kind = 3 ∨ d.kind = 5 then decide (d.actor = []) && Bd d.object && Cx d.text && Aw d
 else if d.kind = 8 then decide (d.actor = []) && decide (d.object = []) && Cx d.text && BS d.to && wi d.n 1 d.to.length
 else if d.kind = 9 then decide (d.actor = []) && decide (d.object = []) && decide (d.text.length ≤ 4096) && Aw d
 else false
def DZ (d : Decision) : Bool := Ca d.server && wi d.number 0 1073741824 && isTime d.frm && isTime d.til && decide (d.frm < d.til) && BP d && AT d.sig
def rest (it : Item) : Item :=
 if it.kind = 0 then { it with kind := 0, act := BU } else if it.kind = 1 then { it with kind := 0, claim := CZ } else if it.kind = 2 then { it with kind := 0, ballot := C0 } else if it.kind = 3 then { it with kind := 0, decision := CI } else { it with kind := 0 }
def H9 (it : Item) : Bool := if it.kind = 0 then Ac.right it.act else if it.kind = 1 then D0 it.claim else if it.kind = 2 then D2 it.ballot else if it.kind = 3 then DZ it.decision else false
def right (it : Item) : Bool := H9 it && decide (rest it = AI)
def Da (c : Claim) : By := text c.actor ++ Ah c.base ++ text c.prev ++ Ah c.gen ++ Ah c.home ++ Ah c.pub ++ Ah c.time
def Dc (b : Ballot) : By := Ah b.server ++ text b.actor ++ Ah b.gen ++ text b.claim ++ Ah b.time
def C8 (d : Decision) : By := Ah d.server ++ Ah d.number ++ Ah d.kind ++ text d.actor ++ text d.object ++ text d.text ++ list d.to ++ Ah d.n ++ Ah d.frm ++ Ah d.til
abbrev Qr : By := [99, 108, 97, 105, 109]
abbrev Qs : By := [98, 97, 108, 108, 111, 116]
abbrev Qq : By := [100, 101, 99, 105, 115, 105, 111, 110]
def BW (it : Item) : Sig := if it.kind = 1 then it.claim.sig else if it.kind = 2 then it.ballot.sig else it.decision.sig
def EU (it : Item) : By := if it.kind = 1 then Da it.claim else if it.kind = 2 then Dc it.ballot else C8 it.decision
def Zb3 (it : Item) : By := if it.kind = 1 then Qr else if it.kind = 2 then Qs else Qq
def Zb7 (it : Item) : By := text (Zb3 it) ++ EU it
def Y2 (p : Int) (it : Item) : Bool := IU p (Zb7 it) (BW it)
def D9 (it : Item) : By := if it.kind = 0 then Ac.bytes it.act else EU it ++ (Ah (BW it).e ++ Ah (BW it).s)
def bytes (it : Item) : By := if right it then Ah it.kind ++ D9 it else []
def FB (x : R) : Sig × R := (⟨(Ap x).1, (Ap (Ap x).2).1⟩, (Ap (Ap x).2).2)
def GK (x : R) : Claim × R :=
 let actor := x.text
 let base := Ap actor.2
 let prev := base.2.text
 let gen := Ap prev.2
 let home := Ap gen.2
 let pub := Ap home.2
 let time := Ap pub.2
 let s := FB time.2
 (⟨actor.1, base.1, prev.1, gen.1, home.1, pub.1, time.1, s.1⟩, s.2)
def GL (x : R) : Ballot × R :=
 let server := Ap x
 let actor := server.2.text
 let gen := Ap actor.2
 let claim := gen.2.text
 let time := Ap claim.2
 let s := FB time.2
 (⟨server.1, actor.1, gen.1, claim.1, time.1, s.1⟩, s.2)
def GJ (x : R) : Decision × R :=
 let server := Ap x
 let number := Ap server.2
 let kind := Ap number.2
 let actor := kind.2.text
 let object := actor.2.text
 let text := object.2.text
 let to := text.2.list
 let n := Ap to.2
 let frm := Ap n.2
 let til := Ap frm.2
 let s := FB til.2
 (⟨server.1, number.1, kind.1, actor.1, object.1, text.1, to.1, n.1, frm.1, til.1, s.1⟩, s.2)
def Eu (x : R) : Item × Bool × R :=
 let k := Ap x
 if k.1 = 0 then
  let t := k.2.take k.2.rest.length
  let a := Ac.read t.1
  ({ AI with act := a.1 }, a.2, t.2)
 else if k.1 = 1 then ({ AI with kind := 1, claim := (GK k.2).1 }, true, (GK k.2).2)
 else if k.1 = 2 then ({ AI with kind := 2, ballot := (GL k.2).1 }, true, (GL k.2).2)
 else if k.1 = 3 then ({ AI with kind := 3, decision := (GJ k.2).1 }, true, (GJ k.2).2)
 else ({ AI with kind := k.1 }, true, k.2)
def read (s : By) : Item × Bool :=
 let x := Eu ⟨s, false⟩
 if x.2.1 = true ∧ x.2.2.done = true ∧ s ≠ [] ∧ bytes x.1 = s then (x.1, true) else (AI, false)
def digest (it : Item) : By := if bytes it = [] then [] else Sm.sha (bytes it)
def SH (a : Ac.Act) : Item := { AI with act := a }
def Ra (it : Item) : Int := if it.kind = 2 then it.ballot.server else it.decision.server
def signed (ps : List Int) (it : Item) : Bool :=
 if right it then (if it.kind = 2 ∨ it.kind = 3 then decide (Ra it < ps.length) && Y2 (ps.getD (Ra it).toNat 0) it else true) else false
def AB (e : Entry) : By := if isTime e.time && right e.item then Ah e.time ++ bytes e.item else []
def Dv (s : By) : Entry × Bool :=
 let t := Ap ⟨s, false⟩
 let r := read (t.2.take t.2.rest.length).1
 if r.2 = true ∧ isTime t.1 = true then (⟨t.1, r.1⟩, true) else (MN, false)
theorem right_act {it : Item} (h0 : it.kind = 0) : right it = true ↔ Ac.right it.act = true ∧ it.claim = CZ ∧ it.ballot = C0 ∧ it.decision = CI := by
 obtain ⟨k, a, c, b, d⟩ := it;simp only at h0
 subst h0;simp [right, H9, rest, AI]
theorem right_claim {it : Item} (h0 : it.kind = 1) : right it = true ↔ D0 it.claim = true ∧ it.act = BU ∧ it.ballot = C0 ∧ it.decision = CI := by
 obtain ⟨k, a, c, b, d⟩ := it;simp only at h0
 subst h0;simp [right, H9, rest, AI]
theorem right_ballot {it : Item} (h0 : it.kind = 2) : right it = true ↔ D2 it.ballot = true ∧ it.act = BU ∧ it.claim = CZ ∧ it.decision = CI := by
 obtain ⟨k, a, c, b, d⟩ := it;simp only at h0
 subst h0;simp [right, H9, rest, AI]
theorem right_decision {it : Item} (h0 : it.kind = 3) : right it = true ↔ DZ it.decision = true ∧ it.act = BU ∧ it.claim = CZ ∧ it.ballot = C0 := by
 obtain ⟨k, a, c, b, d⟩ := it;simp only at h0
 subst h0;simp [right, H9, rest, AI]
theorem right_kind {it : Item} (h : right it = true) : it.kind = 0 ∨ it.kind = 1 ∨ it.kind = 2 ∨ it.kind = 3 := by
 unfold right H9 at h;rw [Bool.and_eq_true] at h;have h := h.1;split at h
 ·omega
 split at h
 ·omega
 split at h
 ·omega
 split at h
 ·omega
 ·cases h
structure SmC (c : Claim) : Prop where
 actor : c.actor.length = 16
 base : 1 ≤ c.base ∧ c.base ≤ 1073741824
 prev : c.prev.length = 32
 gen : 0 ≤ c.gen ∧ c.gen ≤ 1073741824
 home : 0 ≤ c.home ∧ c.home ≤ 19
 pub : 1 ≤ c.pub ∧ c.pub ≤ 2305843009213693950
 time : 0 ≤ c.time ∧ c.time ≤ 1099511627776
 sig : AT c.sig = true
theorem MW {c : Claim} (h : D0 c = true) : SmC c := by
 simp only [D0, Ca, isTime, Bool.and_eq_true, AZ] at h;obtain ⟨⟨⟨⟨⟨⟨⟨h1, h2⟩, h3⟩, h4⟩, h5⟩, h6⟩, h7⟩, h8⟩ := h;exact ⟨GW h1, h2, of_decide_eq_true h3, h4, h5, h6, h7, h8⟩
structure SmB (b : Ballot) : Prop where
 server : 0 ≤ b.server ∧ b.server ≤ 19
 actor : b.actor.length = 16
 gen : 0 ≤ b.gen ∧ b.gen ≤ 1073741824
 claim : b.claim.length = 32
 time : 0 ≤ b.time ∧ b.time ≤ 1099511627776
 sig : AT b.sig = true
theorem M7 {b : Ballot} (h : D2 b = true) : SmB b := by
 simp only [D2, Ca, isTime, Bool.and_eq_true, AZ] at h;obtain ⟨⟨⟨⟨⟨h1, h2⟩, h3⟩, h4⟩, h5⟩, h6⟩ := h;exact ⟨h1, GW h2, h3, of_decide_eq_true h4, h5, h6⟩
structure SmD (d : Decision) : Prop where
 server : 0 ≤ d.server ∧ d.server ≤ 19
 number : 0 ≤ d.number ∧ d.number ≤ 1073741824
 kind : 0 ≤ d.kind ∧ d.kind ≤ 9
 actor : d.actor.length ≤ 16
 object : d.object.length ≤ 32
 text : d.text.length ≤ 4096
 to : d.to.length ≤ 64 ∧ ∀ s ∈ d.to, s.length = 16
 n : 0 ≤ d.n ∧ d.n ≤ 64
 frm : 0 ≤ d.frm ∧ d.frm ≤ 1099511627776
 til : 0 ≤ d.til ∧ d.til ≤ 1099511627776
 sig : AT d.sig = true
theorem Of {d : Decision} : Aw d = true ↔ d.to = [] ∧ d.n = 0 := by simp [Aw]
theorem MS {d : Decision} (h : DZ d = true) : SmD d := by
 simp only [DZ, Ca, isTime, Bool.and_eq_true, AZ] at h;obtain ⟨⟨⟨⟨⟨⟨h1, h2⟩, h3⟩, h4⟩, h5⟩, h6⟩, h7⟩ := h;have key : (0 ≤ d.kind ∧ d.kind ≤ 9) ∧ d.actor.length ≤ 16 ∧ d.object.length ≤ 32 ∧ d.text.length ≤ 4096 ∧ (d.to.length ≤ 64 ∧ ∀ s ∈ d.to, s.length = 16) ∧ (0 ≤ d.n ∧ d.n ≤ 64) := by
  unfold BP at h6;split at h6
  ·simp only [Bool.and_eq_true, decide_eq_true_eq, Of] at h6
   obtain ⟨⟨⟨a1, a2⟩, a3⟩, a4, a5⟩ := h6;have := GW a1;have := I0 a3;exact ⟨by omega, by omega, by simp [a2], by omega, by simp [a4], by omega⟩
  split at h6
  ·simp only [Bool.and_eq_true, decide_eq_true_eq, Of] at h6
   obtain ⟨⟨⟨a1, a2⟩, a3⟩, a4, a5⟩ := h6;have := I0 a3;exact ⟨by omega, by simp [a1], Is a2, by omega, by simp [a4], by omega⟩
  split at h6
  ·simp only [Bool.and_eq_true, decide_eq_true_eq, AZ] at h6
   obtain ⟨⟨⟨⟨a1, a2⟩, a3⟩, a4⟩, a5⟩ := h6;have := I0 a3;have := KA a4;exact ⟨by omega, by simp [a1], by simp [a2], by omega, this, by omega⟩
  split at h6
  ·simp only [Bool.and_eq_true, decide_eq_true_eq, Of] at h6
   obtain ⟨⟨⟨a1, a2⟩, a3⟩, a4, a5⟩ := h6;exact ⟨by omega, by simp [a1], by simp [a2], a3, by simp [a4], by omega⟩
  ·cases h6
 obtain ⟨k1, k2, k3, k4, k5, k6⟩ := key;exact ⟨h1, h2, k1, k2, k3, k4, k5, k6, h3, h4, h7⟩
theorem Y6 {s : Sig} (h : AT s = true) : (0 ≤ s.e ∧ s.e < 9223372036854775808) ∧ (0 ≤ s.s ∧ s.s < 9223372036854775808) := by
 simp only [AT, Bool.and_eq_true, AZ] at h;omega
theorem Oa (s : Sig) (r : By) (h : AT s = true) : FB ⟨Ah s.e ++ (Ah s.s ++ r), false⟩ = (s, ⟨r, false⟩) := by
 have := Y6 h;unfold FB;rw [Bf _ _ (by omega) (by omega)]; simp only
 rw [Bf _ _ (by omega) (by omega)]
theorem Zbj {c : Claim} (h : SmC c) (r : By) : GK ⟨Da c ++ (Ah c.sig.e ++ (Ah c.sig.s ++ r)), false⟩ = (c, ⟨r, false⟩) := by
 have h1 := h.actor; have h2 := h.base; have h3 := h.prev; have h4 := h.gen; have h5 := h.home; have h6 := h.pub; have h7 := h.time;unfold GK Da;simp only [List.append_assoc];rw [Cd _ _ (by omega)]; simp only
 rw [Bf _ _ (by omega) (by omega)]; simp only
 rw [Cd _ _ (by omega)]; simp only
 rw [Bf _ _ (by omega) (by omega)]; simp only
 rw [Bf _ _ (by omega) (by omega)]; simp only
 rw [Bf _ _ (by omega) (by omega)]; simp only
 rw [Bf _ _ (by omega) (by omega)]; simp only
 rw [Oa _ _ h.sig]
theorem Zbk {b : Ballot} (h : SmB b) (r : By) : GL ⟨Dc b ++ (Ah b.sig.e ++ (Ah b.sig.s ++ r)), false⟩ = (b, ⟨r, false⟩) := by
 have h1 := h.actor; have h2 := h.server; have h3 := h.claim; have h4 := h.gen; have h5 := h.time;unfold GL Dc;simp only [List.append_assoc];rw [Bf _ _ (by omega) (by omega)]; simp only
 rw [Cd _ _ (by omega)]; simp only
 rw [Bf _ _ (by omega) (by omega)]; simp only
 rw [Cd _ _ (by omega)]; simp only
 rw [Bf _ _ (by omega) (by omega)]; simp only
 rw [Oa _ _ h.sig]
theorem Zbi {d : Decision} (h : SmD d) (r : By) : GJ ⟨C8 d ++ (Ah d.sig.e ++ (Ah d.sig.s ++ r)), false⟩ = (d, ⟨r, false⟩) := by
 have h1 := h.actor; have h2 := h.server; have h3 := h.number; have h4 := h.kind; have h5 := h.object; have h6 := h.text; have h7 := h.to; have h8 := h.n; have h9 := h.frm; have h10 := h.til;unfold GJ C8;simp only [List.append_assoc];rw [Bf _ _ (by omega) (by omega)]; simp only
 rw [Bf _ _ (by omega) (by omega)]; simp only
 rw [Bf _ _ (by omega) (by omega)]; simp only
 rw [Cd _ _ (by omega)]; simp only
 rw [Cd _ _ (by omega)]; simp only
 rw [Cd _ _ (by omega)]; simp only
 rw [OA _ _ (by omega) (fun s hs => by have := h7.2 s hs; omega)]; simp only
 rw [Bf _ _ (by omega) (by omega)]; simp only
 rw [Bf _ _ (by omega) (by omega)]; simp only
 rw [Bf _ _ (by omega) (by omega)]; simp only
 rw [Oa _ _ h.sig]
theorem bytes_right {it : Item} (h : right it = true) : bytes it = Ah it.kind ++ D9 it := by unfold bytes; rw [if_pos h]
theorem bytes_wrong {it : Item} (h : right it = false) : bytes it = [] := by unfold bytes; simp [h]
theorem M0 {it : Item} (h : right it = true) : bytes it ≠ [] := by
 rw [bytes_right h];have hk := right_kind h;intro e;exact Mr (by omega) (List.append_eq_nil_iff.1 e).1
theorem JS (x : R) (h : x.bad = false) : x.take x.rest.length = (x.rest, ⟨[], false⟩) := by
 unfold R.take;rw [if_neg (by simp [h]), h]
 simp
theorem R6 {it : Item} (h : right it = true) (r : By) (hr : it.kind = 0 → r = []) : Eu ⟨bytes it ++ r, false⟩ = (it, true, ⟨r, false⟩) := by
 rw [bytes_right h];obtain ⟨k, a, c, b, d⟩ := it;rcases right_kind h with e | e | e | e <;> simp only at e <;> subst e
 ·obtain ⟨q1, q2, q3, q4⟩ := (right_act rfl).1 h
  simp only at q1 q2 q3 q4
  subst q2 q3 q4;obtain rfl := hr rfl;unfold Eu;rw [List.append_nil, Bf 0 _ (by omega) (by omega)]
  simp only [if_true];rw [JS _ rfl];simp only [D9, if_true];rw [Ka q1];rfl
 ·obtain ⟨q1, q2, q3, q4⟩ := (right_claim rfl).1 h
  simp only at q1 q2 q3 q4
  subst q2 q3 q4;have hb : D9 ⟨1, BU, c, C0, CI⟩ = Da c ++ (Ah c.sig.e ++ Ah c.sig.s) := rfl;unfold Eu;rw [hb, List.append_assoc, Bf 1 _ (by omega) (by omega)]
  simp only [List.append_assoc];rw [Zbj (MW q1)];rfl
 ·obtain ⟨q1, q2, q3, q4⟩ := (right_ballot rfl).1 h
  simp only at q1 q2 q3 q4
  subst q2 q3 q4;have hb : D9 ⟨2, BU, CZ, b, CI⟩ = Dc b ++ (Ah b.sig.e ++ Ah b.sig.s) := rfl;unfold Eu;rw [hb, List.append_assoc, Bf 2 _ (by omega) (by omega)]
  simp only [List.append_assoc];rw [Zbk (M7 q1)];rfl
 ·obtain ⟨q1, q2, q3, q4⟩ := (right_decision rfl).1 h
  simp only at q1 q2 q3 q4
  subst q2 q3 q4;have hb : D9 ⟨3, BU, CZ, C0, d⟩ = C8 d ++ (Ah d.sig.e ++ Ah d.sig.s) := rfl;unfold Eu;rw [hb, List.append_assoc, Bf 3 _ (by omega) (by omega)]
  simp only [List.append_assoc];rw [Zbi (MS q1)];rfl
theorem Ka {it : Item} (h : right it = true) : read (bytes it) = (it, true) := by
 have := R6 h [] (fun _ => rfl)
 rw [List.append_nil] at this;unfold read;simp only [this];exact if_pos ⟨by trivial, rfl, M0 h, by trivial⟩
theorem read_right {s : By} (h : (read s).2 = true) : right (read s).1 = true ∧ bytes (read s).1 = s := by
 unfold read at h ⊢;simp only at h ⊢
 split at h
 ·rename_i hc
  rw [if_pos hc];obtain ⟨_, _, h3, h4⟩ := hc;refine ⟨?_, h4⟩
  refine Classical.byContradiction fun hn => ?_
  rw [bytes_wrong (by simpa using hn)] at h4
  exact h3 h4.symm
 ·cases h
theorem read_wrong {s : By} (h : (read s).2 = false) : (read s).1 = AI := by
 unfold read at h ⊢;simp only at h ⊢
 split at h
 ·cases h
 ·rename_i hc
  rw [if_neg hc]
theorem ZaS : (read []).2 = false := by
 cases h : (read []).2 with
 | false => rfl
 | true =>
  obtain ⟨h1, h2⟩ := read_right h;exact absurd h2 (M0 h1)
theorem ZdC {e : Entry} : (AB e ≠ []) ↔ (isTime e.time = true ∧ right e.item = true) := by
 unfold AB;constructor
 ·intro h
  split at h
  ·rename_i hc; simpa using hc
  ·exact absurd rfl h
 ·rintro ⟨h1, h2⟩
  rw [if_pos (by rw [h1, h2]; rfl)]
  intro e;exact M0 h2 (List.append_eq_nil_iff.1 e).2
theorem RR {e : Entry} (h1 : isTime e.time = true) (h2 : right e.item = true) : Dv (AB e) = (e, true) := by
 have ht : 0 ≤ e.time ∧ e.time ≤ 1099511627776 := AZ.1 h1;have hb : AB e = Ah e.time ++ bytes e.item := by unfold AB; rw [h1, h2]; rfl
 rw [hb];unfold Dv;rw [Bf _ _ (by omega) (by omega)]
 simp only
 rw [JS _ rfl, Ka h2];exact if_pos ⟨rfl, h1⟩
end It
end
section
namespace Pe
open Tryz
open Go Go.RowKit Co Sg Ac It
set_option maxRecDepth 100000
set_option maxHeartbeats 4000000
abbrev KP (c : It.Claim) : AV := .agg [.st c.actor, .it .i64 c.base, .st c.prev, .it .i64 c.gen, .it .i64 c.home, .it .i64 c.pub, .it .i64 c.time, .it .i64 c.sig.e, .it .i64 c.sig.s]
abbrev KW (b : It.Ballot) : AV := .agg [.it .i64 b.server, .st b.actor, .it .i64 b.gen, .st b.claim, .it .i64 b.time, .it .i64 b.sig.e, .it .i64 b.sig.s]
abbrev FP (d : It.Decision) : AV := .agg [.it .i64 d.server, .it .i64 d.number, .it .i64 d.kind, .st d.actor, .st d.object, .st d.text, Bn d.to, .it .i64 d.n, .it .i64 d.frm, .it .i64 d.til, .it .i64 d.sig.e, .it .i64 d.sig.s]
abbrev Zcu (i : It.Item) : List AV := [.it .i64 i.kind, .st i.act.author, .it .i64 i.act.seq, .st i.act.prev, .it .i64 i.act.kind, .it .i64 i.act.time, .st i.act.object, .st i.act.target, .it .i64 i.act.scope, .st i.act.group, Bn i.act.to, .st i.act.text, .st i.act.body.nonce, .st i.act.body.data, .st i.act.body.tag, .it .i64 i.act.epoch, .sl .ro (i.act.wraps.map Bb), .it .i64 i.act.n, .it .i64 i.act.m, .it .i64 i.act.sig.e, .it .i64 i.act.sig.s, .st i.claim.actor, .it .i64 i.claim.base, .st i.claim.prev, .it .i64 i.claim.gen, .it .i64 i.claim.home, .it .i64 i.claim.pub, .it .i64 i.claim.time, .it .i64 i.claim.sig.e, .it .i64 i.claim.sig.s, .it .i64 i.ballot.server, .st i.ballot.actor, .it .i64 i.ballot.gen, .st i.ballot.claim, .it .i64 i.ballot.time, .it .i64 i.ballot.sig.e, .it .i64 i.ballot.sig.s, .it .i64 i.decision.server, .it .i64 i.decision.number, .it .i64 i.decision.kind, .st i.decision.actor, .st i.decision.object, .st i.decision.text, Bn i.decision.to, .it .i64 i.decision.n, .it .i64 i.decision.frm, .it .i64 i.decision.til, .it .i64 i.decision.sig.e, .it .i64 i.decision.sig.s]
abbrev Bc (i : It.Item) : AV := .agg [.it .i64 i.kind, .st i.act.author, .it .i64 i.act.seq, .st i.act.prev, .it .i64 i.act.kind, .it .i64 i.act.time, .st i.act.object, .st i.act.target, .it .i64 i.act.scope, .st i.act.group, Bn i.act.to, .st i.act.text, .st i.act.body.nonce, .st i.act.body.data, .st i.act.body.tag, .it .i64 i.act.epoch, .sl .ro (i.act.wraps.map Bb), .it .i64 i.act.n, .it .i64 i.act.m, .it .i64 i.act.sig.e, .it .i64 i.act.sig.s, .st i.claim.actor, .it .i64 i.claim.base, .st i.claim.prev, .it .i64 i.claim.gen, .it .i64 i.claim.home, .it .i64 i.claim.pub, .it .i64 i.claim.time, .it .i64 i.claim.sig.e, .it .i64 i.claim.sig.s, .it .i64 i.ballot.server, .st i.ballot.actor, .it .i64 i.ballot.gen, .st i.ballot.claim, .it .i64 i.ballot.time, .it .i64 i.ballot.sig.e, .it .i64 i.ballot.sig.s, .it .i64 i.decision.server, .it .i64 i.decision.number, .it .i64 i.decision.kind, .st i.decision.actor, .st i.decision.object, .st i.decision.text, Bn i.decision.to, .it .i64 i.decision.n, .it .i64 i.decision.frm, .it .i64 i.decision.til, .it .i64 i.decision.sig.e, .it .i64 i.decision.sig.s]
theorem Zez (x y : It.Claim) : ((x.actor == y.actor) && ((x.base == y.base) && ((x.prev == y.prev) && ((x.gen == y.gen) && ((x.home == y.home) && ((x.pub == y.pub) && ((x.time == y.time) && ((x.sig.e == y.sig.e) && (x.sig.s == y.sig.s))))))))) = decide (x = y) := by
 obtain ⟨x1, x2, x3, x4, x5, x6, x7, ⟨x8, x9⟩⟩ := x;obtain ⟨y1, y2, y3, y4, y5, y6, y7, ⟨y8, y9⟩⟩ := y;rw [Bool.eq_iff_iff];simp
theorem Ze6 (x y : It.Ballot) : ((x.server == y.server) && ((x.actor == y.actor) && ((x.gen == y.gen) && ((x.claim == y.claim) && ((x.time == y.time) && ((x.sig.e == y.sig.e) && (x.sig.s == y.sig.s))))))) = decide (x = y) := by
 obtain ⟨x1, x2, x3, x4, x5, ⟨x8, x9⟩⟩ := x;obtain ⟨y1, y2, y3, y4, y5, ⟨y8, y9⟩⟩ := y;rw [Bool.eq_iff_iff];simp
theorem Zv (a b : It.Decision) (ha : a.to.length ≤ 140737488355328) (hb : b.to.length ≤ 140737488355328) : AC prog 112 [FP a, FP b] [] (.bo (decide (a = b))) [] := by
 refine Ai [174] [] func112 ?_;obtain ⟨q, hq⟩ : ∃ q, decide (a = b) = q := ⟨_, rfl⟩
 rw [hq];obtain ⟨a_server, a_number, a_kind, a_actor, a_object, a_text, a_to, a_n, a_frm, a_til, ⟨a_se, a_ss⟩⟩ := a;obtain ⟨b_server, b_number, b_kind, b_actor, b_object, b_text, b_to, b_n, b_frm, b_til, ⟨b_se, b_ss⟩⟩ := b;by_cases h_server : a_server = b_server
 rotate_left
 ·obtain rfl : q = false := by rw [← hq]; exact decide_eq_false (fun e => h_server (by cases e; rfl))
  refine run ?_;exact Ab
 subst h_server;by_cases h_number : a_number = b_number
 rotate_left
 ·obtain rfl : q = false := by rw [← hq]; exact decide_eq_false (fun e => h_number (by cases e; rfl))
  refine run ?_;exact Ab
 subst h_number;by_cases h_kind : a_kind = b_kind
 rotate_left
 ·obtain rfl : q = false := by rw [← hq]; exact decide_eq_false (fun e => h_kind (by cases e; rfl))
  refine run ?_;exact Ab
 subst h_kind;by_cases h_actor : a_actor = b_actor
 rotate_left
 ·obtain rfl : q = false := by rw [← hq]; exact decide_eq_false (fun e => h_actor (by cases e; rfl))
  have e_actor : (a_actor == b_actor) = false := by simpa using h_actor
  refine Aa e_actor ?_;exact Ab
 subst h_actor;by_cases h_object : a_object = b_object
 rotate_left
 ·obtain rfl : q = false := by rw [← hq]; exact decide_eq_false (fun e => h_object (by cases e; rfl))
  have e_object : (a_object == b_object) = false := by simpa using h_object
  refine Aa e_object ?_;exact Ab
 subst h_object;by_cases h_text : a_text = b_text
 rotate_left
 ·obtain rfl : q = false := by rw [← hq]; exact decide_eq_false (fun e => h_text (by cases e; rfl))
  have e_text : (a_text == b_text) = false := by simpa using h_text
  refine Aa e_text ?_;exact Ab
 subst h_text;refine run ?_;refine cp (Uy a_to b_to ha hb) ?_;by_cases h_to : a_to = b_to
 rotate_left
 ·obtain rfl : q = false := by rw [← hq]; exact decide_eq_false (fun e => h_to (by cases e; rfl))
  rw [decide_eq_false h_to];refine run ?_;exact Ab
 subst h_to;rw [decide_eq_true (p := a_to = a_to) rfl];by_cases h_n : a_n = b_n
 rotate_left
 ·obtain rfl : q = false := by rw [← hq]; exact decide_eq_false (fun e => h_n (by cases e; rfl))
  refine run ?_;exact Ab
 subst h_n;by_cases h_frm : a_frm = b_frm
 rotate_left
 ·obtain rfl : q = false := by rw [← hq]; exact decide_eq_false (fun e => h_frm (by cases e; rfl))
  refine run ?_;exact Ab
 subst h_frm;by_cases h_til : a_til = b_til
 rotate_left
 ·obtain rfl : q = false := by rw [← hq]; exact decide_eq_false (fun e => h_til (by cases e; rfl))
  refine run ?_;exact Ab
 subst h_til;by_cases h_se : a_se = b_se
 rotate_left
 ·obtain rfl : q = false := by rw [← hq]; exact decide_eq_false (fun e => h_se (by cases e; rfl))
  refine run ?_;exact Ab
 subst h_se;by_cases h_ss : a_ss = b_ss
 rotate_left
 ·obtain rfl : q = false := by rw [← hq]; exact decide_eq_false (fun e => h_ss (by cases e; rfl))
  refine run ?_;exact Ab
 subst h_ss;obtain rfl : q = true := by rw [← hq]; exact decide_eq_true rfl
 refine run ?_;exact Ab
structure Lz (i : It.Item) : Prop where
 to : i.act.to.length ≤ 140737488355328
 wraps : i.act.wraps.length ≤ 140737488355328
 dto : i.decision.to.length ≤ 140737488355328
theorem J0 (a b : It.Item) (ha : Lz a) (hb : Lz b) : AC prog 57 [Bc a, Bc b] [] (.bo (decide (a = b))) [] := by
 refine Ai [111, 112] [] func57 ?_;obtain ⟨q, hq⟩ : ∃ q, decide (a = b) = q := ⟨_, rfl⟩
 rw [hq];obtain ⟨a_kind, a_act, a_claim, a_ballot, a_dec⟩ := a;obtain ⟨b_kind, b_act, b_claim, b_ballot, b_dec⟩ := b;by_cases h_kind : a_kind = b_kind
 rotate_left
 ·obtain rfl : q = false := by rw [← hq]; exact decide_eq_false (fun e => h_kind (by cases e; rfl))
  refine run ?_;exact Ab
 subst h_kind;refine run ?_;refine cp (Zu a_act b_act ⟨ha.to, ha.wraps⟩ ⟨hb.to, hb.wraps⟩) ?_;by_cases h_act : a_act = b_act
 rotate_left
 ·obtain rfl : q = false := by rw [← hq]; exact decide_eq_false (fun e => h_act (by cases e; rfl))
  rw [decide_eq_false h_act];refine run ?_;exact Ab
 subst h_act;rw [decide_eq_true (p := a_act = a_act) rfl];by_cases h_claim : a_claim = b_claim
 rotate_left
 ·obtain rfl : q = false := by rw [← hq]; exact decide_eq_false (fun e => h_claim (by cases e; rfl))
  have e_claim := Zez a_claim b_claim;rw [decide_eq_false h_claim] at e_claim;refine Aa e_claim ?_;exact Ab
 subst h_claim;by_cases h_ballot : a_ballot = b_ballot
 rotate_left
 ·obtain rfl : q = false := by rw [← hq]; exact decide_eq_false (fun e => h_ballot (by cases e; rfl))
  have e_ballot := Ze6 a_ballot b_ballot;rw [decide_eq_false h_ballot] at e_ballot;refine Aa e_ballot ?_;exact Ab
 subst h_ballot;refine run ?_;refine cp (Zv a_dec b_dec ha.dto hb.dto) ?_;by_cases h_dec : a_dec = b_dec
 rotate_left
 ·obtain rfl : q = false := by rw [← hq]; exact decide_eq_false (fun e => h_dec (by cases e; rfl))
  rw [decide_eq_false h_dec];refine run ?_;exact Ab
 subst h_dec;rw [decide_eq_true (p := a_dec = a_dec) rfl];obtain rfl : q = true := by rw [← hq]; exact decide_eq_true rfl
 refine run ?_;exact Ab
theorem FI (n lo hi : Int) : AC prog 140 [.it .i64 n, .it .i64 lo, .it .i64 hi] [] (.bo (wi n lo hi)) [] := by
 refine Ai [] [] func140 ?_;unfold wi;by_cases h : lo ≤ n
 ·rw [decide_eq_true h]
  refine run ?_;exact Ab
 ·rw [decide_eq_false h]
  refine run ?_;exact Ab
theorem OO (n : Int) : AC prog 165 [.it .i64 n] [] (.bo (Ca n)) [] := by
 refine Ai [140] [] func165 ?_;refine run ?_;refine cp (FI n 0 19) ?_;refine run ?_;exact Ab
theorem Jk (n : Int) : AC prog 80 [.it .i64 n] [] (.bo (isTime n)) [] := by
 refine Ai [140] [] func80 ?_;refine run ?_;refine cp (FI n 0 1099511627776) ?_;refine run ?_;exact Ab
theorem OP (s : By) : AC prog 164 [.st s] [] (.bo (Bd s)) [] := by
 refine Ai [] [] func164 ?_;rw [B5];refine run ?_;exact Ab
theorem N4 (s : Sig) : AC prog 166 [H5 s] [] (.bo (AT s)) [] := by
 refine Ai [140] [] func166 ?_;unfold AT;refine run ?_;refine cp (FI s.e 0 2305843009213693949) ?_;cases h1 : wi s.e 0 2305843009213693949 with
 | false => refine run ?_; exact Ab
 | true =>
  refine run ?_;refine cp (FI s.s 0 2305843009213693949) ?_;refine run ?_;exact Ab
theorem Zar (c : It.Claim) (ha : c.actor.length ≤ 140737488355328) : AC prog 95 [KP c] [] (.bo (D0 c)) [] := by
 refine Ai [159, 140, 164, 165, 80, 166] [] func95 ?_;unfold D0;refine run ?_;refine cp (Jl c.actor ha) ?_;cases h0 : Ax c.actor with
 | false => refine run ?_; exact Ab
 | true =>
  refine run ?_;refine cp (FI c.base 1 1073741824) ?_;cases h1 : wi c.base 1 1073741824 with
  | false => refine run ?_; exact Ab
  | true =>
   refine run ?_;refine cp (OP c.prev) ?_;cases h2 : Bd c.prev with
   | false => refine run ?_; exact Ab
   | true =>
    refine run ?_;refine cp (FI c.gen 0 1073741824) ?_;cases h3 : wi c.gen 0 1073741824 with
    | false => refine run ?_; exact Ab
    | true =>
     refine run ?_;refine cp (OO c.home) ?_;cases h4 : Ca c.home with
     | false => refine run ?_; exact Ab
     | true =>
      refine run ?_;refine cp (FI c.pub 1 2305843009213693950) ?_;cases h5 : wi c.pub 1 2305843009213693950 with
      | false => refine run ?_; exact Ab
      | true =>
       refine run ?_;refine cp (Jk c.time) ?_;cases h6 : isTime c.time with
       | false => refine run ?_; exact Ab
       | true =>
        refine run ?_;refine cp (N4 c.sig) ?_;refine run ?_;exact Ab
theorem Zas (b : It.Ballot) (ha : b.actor.length ≤ 140737488355328) : AC prog 96 [KW b] [] (.bo (D2 b)) [] := by
 refine Ai [159, 140, 164, 165, 80, 166] [] func96 ?_;unfold D2;refine run ?_;refine cp (OO b.server) ?_;cases h0 : Ca b.server with
 | false => refine run ?_; exact Ab
 | true =>
  refine run ?_;refine cp (Jl b.actor ha) ?_;cases h1 : Ax b.actor with
  | false => refine run ?_; exact Ab
  | true =>
   refine run ?_;refine cp (FI b.gen 0 1073741824) ?_;cases h2 : wi b.gen 0 1073741824 with
   | false => refine run ?_; exact Ab
   | true =>
    refine run ?_;refine cp (OP b.claim) ?_;cases h3 : Bd b.claim with
    | false => refine run ?_; exact Ab
    | true =>
     refine run ?_;refine cp (Jk b.time) ?_;cases h4 : isTime b.time with
     | false => refine run ?_; exact Ab
     | true =>
      refine run ?_;refine cp (N4 b.sig) ?_;refine run ?_;exact Ab
structure Dz (d : It.Decision) : Prop where
 actor : d.actor.length ≤ 140737488355328
 to : d.to.length ≤ 140737488355328
 tos : ∀ s ∈ d.to, s.length ≤ 140737488355328
theorem Zbx (d : It.Decision) : Aw d = (if (d.to.length : Int) = 0 then (d.n == 0) else false) := by
 unfold Aw;by_cases h : d.to = []
 ·rw [decide_eq_true h, if_pos (by rw [h]; rfl)]
  rfl
 ·rw [decide_eq_false h, if_neg (by have := List.length_pos_iff.2 h; omega)]
  rfl
set_option maxHeartbeats 8000000 in
theorem Zao (d : It.Decision) (h : Dz d) : AC prog 167 [FP d] [] (.bo (BP d)) [] := by
 refine Ai [159, 164, 224, 140] [] func167 ?_;have hn := EO;have hs : decide ((d.text.length : Int) ≤ 500) = Cx d.text := (GE d.text).symm;have hl : decide ((d.text.length : Int) ≤ 4096) = decide (d.text.length ≤ 4096) := by
  rw [Bool.eq_iff_iff];simp only [decide_eq_true_eq];omega
 obtain ⟨p, hp⟩ : ∃ p, Aw d = p := ⟨_, rfl⟩
 have hpe := Zbx d;rw [hp] at hpe;unfold BP;rw [hp];have k1 := Jl d.actor h.actor;have k2 := OP d.object;have k3 := Kz d.to h.tos h.to;have k4 := FI d.n 1 d.to.length;generalize Cx d.text = sh at *;generalize decide (d.text.length ≤ 4096) = lg at *;by_cases hto : (d.to.length : Int) = 0
 focus
  rw [if_pos hto] at hpe;have hpe := hpe.symm
 rotate_left;focus
  rw [if_neg hto] at hpe;subst hpe;have hpe : d.n = d.n := rfl
 all_goals
  by_cases c1 : d.kind = 0 ∨ d.kind = 1 ∨ d.kind = 4 ∨ d.kind = 6 ∨ d.kind = 7
  focus
   rw [if_pos c1];rcases c1 with c | c | c | c | c
   all_goals
    refine Aa (A3 hs hl hpe) ?_;refine cp k1 ?_;cases h1 : Ax d.actor with
    | false => refine run ?_; exact Ab
    | true =>
     by_cases h2 : d.object = []
     ·try rw [decide_eq_true h2]
      refine Aa (an hn h2) ?_;cases sh with
      | false => refine run ?_; exact Ab
      | true => refine run ?_; exact Ab
     ·try rw [decide_eq_false h2]
      refine Aa (an hn h2) ?_;exact Ab
  rw [if_neg c1];by_cases c2 : d.kind = 2 ∨ d.kind = 3 ∨ d.kind = 5
  focus
   rw [if_pos c2];rcases c2 with c | c | c
   all_goals
    by_cases h2 : d.actor = []
    rotate_left
    ·try rw [decide_eq_false h2]
     refine Aa (A5 hs hl hpe hn h2) ?_;exact Ab
    try rw [decide_eq_true h2]
    have h2' : (d.actor == []) = true := by rw [h2]; rfl
    refine Aa (A4 hs hl hpe h2') ?_;refine cp k2 ?_;cases h3 : Bd d.object with
    | false => refine run ?_; exact Ab
    | true =>
     cases sh with
     | false => refine run ?_; exact Ab
     | true => refine run ?_; exact Ab
  rw [if_neg c2];by_cases c3 : d.kind = 8
  focus
   rw [if_pos c3];by_cases h2 : d.actor = []
   rotate_left
   ·try rw [decide_eq_false h2]
    refine Aa (A5 hs hl hpe hn h2) ?_;exact Ab
   try rw [decide_eq_true h2]
   have h2' : (d.actor == []) = true := by rw [h2]; rfl
   by_cases h3 : d.object = []
   rotate_left
   ·try rw [decide_eq_false h3]
    refine Aa (A6 hs hl hpe hn h2' h3) ?_;exact Ab
   try rw [decide_eq_true h3]
   have h3' : (d.object == []) = true := by rw [h3]; rfl
   cases sh with
   | false => refine Aa (A5 hs hl hpe h2' h3') ?_; exact Ab
   | true =>
    refine Aa (A5 hs hl hpe h2' h3') ?_;refine cp k3 ?_;cases h4 : BS d.to with
    | false => refine run ?_; exact Ab
    | true =>
     refine run ?_;refine cp k4 ?_;refine run ?_;exact Ab
  rw [if_neg c3];by_cases c4 : d.kind = 9
  focus
   rw [if_pos c4];by_cases h2 : d.actor = []
   rotate_left
   ·try rw [decide_eq_false h2]
    refine Aa (A5 hs hl hpe hn h2) ?_;exact Ab
   try rw [decide_eq_true h2]
   have h2' : (d.actor == []) = true := by rw [h2]; rfl
   by_cases h3 : d.object = []
   rotate_left
   ·try rw [decide_eq_false h3]
    refine Aa (A6 hs hl hpe hn h2' h3) ?_;exact Ab
   try rw [decide_eq_true h3]
   have h3' : (d.object == []) = true := by rw [h3]; rfl
   cases lg with
   | false => refine Aa (A5 hs hl hpe h2' h3') ?_; exact Ab
   | true => refine Aa (A5 hs hl hpe h2' h3') ?_; exact Ab
  rw [if_neg c4];refine Aa (A3 hs hl hpe) ?_;exact Ab
theorem Zaq (d : It.Decision) (h : Dz d) : AC prog 97 [FP d] [] (.bo (DZ d)) [] := by
 refine Ai [165, 140, 80, 167, 166] [] func97 ?_;unfold DZ;refine run ?_;refine cp (OO d.server) ?_;cases h0 : Ca d.server with
 | false => refine run ?_; exact Ab
 | true =>
  refine run ?_;refine cp (FI d.number 0 1073741824) ?_;cases h1 : wi d.number 0 1073741824 with
  | false => refine run ?_; exact Ab
  | true =>
   refine run ?_;refine cp (Jk d.frm) ?_;cases h2 : isTime d.frm with
   | false => refine run ?_; exact Ab
   | true =>
    refine run ?_;refine cp (Jk d.til) ?_;cases h3 : isTime d.til with
    | false => refine run ?_; exact Ab
    | true =>
     by_cases h4 : d.frm < d.til
     rotate_left
     ·rw [decide_eq_false h4]
      refine run ?_;exact Ab
     rw [decide_eq_true h4];refine run ?_;refine cp (Zao d h) ?_;cases h5 : BP d with
     | false => refine run ?_; exact Ab
     | true =>
      refine run ?_;refine cp (N4 d.sig) ?_;refine run ?_;exact Ab
structure Iz (i : It.Item) : Prop where
 act : Sz i.act
 claim : i.claim.actor.length ≤ 140737488355328
 ballot : i.ballot.actor.length ≤ 140737488355328
 decision : Dz i.decision
theorem Iz.lz {i : It.Item} (h : Iz i) : Lz i := ⟨h.act.to, h.act.wraps, h.decision.to⟩
theorem My : Lz AI := ⟨by decide, by decide, by decide⟩
theorem H8 (i : It.Item) (h : Iz i) : AC prog 47 [Bc i] [] (.bo (It.right i)) [] := by
 refine Ai [94, 95, 96, 97, 57] [] func47 ?_;have hl := h.lz;unfold It.right H9 rest;have lz : ∀ j : It.Item, (j.act = i.act ∨ j.act = BU) → (j.decision = i.decision ∨ j.decision = CI) → Lz j := fun j h1 h2 => by
  refine ⟨?_, ?_, ?_⟩
  ·rcases h1 with e | e <;> rw [e]; exact hl.to; exact by decide
  ·rcases h1 with e | e <;> rw [e]; exact hl.wraps; exact by decide
  ·rcases h2 with e | e <;> rw [e]; exact hl.dto; exact by decide
 by_cases h0 : i.kind = 0
 ·rw [if_pos h0, if_pos h0]
  have ks : AC _ _ [Bc { i with kind := 0, act := BU }, Bc AI] [] _ [] := J0 { i with kind := 0, act := BU } AI (lz _ (.inr rfl) (.inl rfl)) My
  refine run ?_;refine cp (RI i.act h.act) ?_;cases hr : Ac.right i.act with
  | false => refine run ?_; exact Ab
  | true =>
   refine run ?_;refine cp ks ?_;refine run ?_;exact Ab
 rw [if_neg h0, if_neg h0];by_cases h1 : i.kind = 1
 ·rw [if_pos h1, if_pos h1]
  have ks : AC _ _ [Bc { i with kind := 0, claim := CZ }, Bc AI] [] _ [] := J0 { i with kind := 0, claim := CZ } AI (lz _ (.inl rfl) (.inl rfl)) My
  refine run ?_;refine cp (Zar i.claim h.claim) ?_;cases hr : D0 i.claim with
  | false => refine run ?_; exact Ab
  | true =>
   refine run ?_;refine cp ks ?_;refine run ?_;exact Ab
 rw [if_neg h1, if_neg h1];by_cases h2 : i.kind = 2
 ·rw [if_pos h2, if_pos h2]
  have ks : AC _ _ [Bc { i with kind := 0, ballot := C0 }, Bc AI] [] _ [] := J0 { i with kind := 0, ballot := C0 } AI (lz _ (.inl rfl) (.inl rfl)) My
  refine run ?_;refine cp (Zas i.ballot h.ballot) ?_;cases hr : D2 i.ballot with
  | false => refine run ?_; exact Ab
  | true =>
   refine run ?_;refine cp ks ?_;refine run ?_;exact Ab
 rw [if_neg h2, if_neg h2];by_cases h3 : i.kind = 3
 ·rw [if_pos h3, if_pos h3]
  have ks : AC _ _ [Bc { i with kind := 0, decision := CI }, Bc AI] [] _ [] := J0 { i with kind := 0, decision := CI } AI (lz _ (.inl rfl) (.inr rfl)) My
  refine run ?_;refine cp (Zaq i.decision h.decision) ?_;cases hr : DZ i.decision with
  | false => refine run ?_; exact Ab
  | true =>
   refine run ?_;refine cp ks ?_;refine run ?_;exact Ab
 ·rw [if_neg h3]
  refine run ?_;exact Ab
theorem Ay.reserveC [Tab] (N0 : Nat) {e : Af} {S : Ae} (l : Nat) {es : List AV} (hS : S[l]? = some (.cells [.sl .full es])) (ty : TypeId) (sz : Nat) : Ay N0 e S e (S.set l (.cells [.sl (.own S.length) es]) ++ [.buf es.length ty sz]) := by
 rintro N w0 g0 a w hn ⟨h1, h2, g, h3, h4, h5⟩
 obtain ⟨g', h6, h7, h8, h9, h10⟩ := h3.reserve es.length ty sz;have hlS := (List.getElem?_eq_some_iff.1 hS).1
 have hn3 := h3.nid;have hn6 := h6.nid;rw [List.length_append, List.length_singleton] at hn6;refine ⟨h1, h2, g', ⟨by rw [List.length_append, List.length_set, List.length_singleton]; exact hn6, fun k o hk => ?_, h6.disj, h6.lt, h6.tab⟩, fun t => (h4 t).le h7.toLe, h5.trans h7⟩
 by_cases hkl : k = l
 ·subst hkl
  rw [List.getElem?_append_left (by rw [List.length_set]; exact hlS), List.getElem?_set_self hlS] at hk
  cases hk
  obtain ⟨k1, k2, k3, arr, T, fr, k4, k5, k6, k7, k8⟩ := h6.obj k (.cells [.sl .full es]) (Dy hS _);refine ⟨k1, k2, k3, arr, T, fr, k4, k5, by simpa using k6, k7, fun j u v hu hv => ?_⟩
  cases j with
  | zero =>
   simp only [List.getElem?_cons_zero, Option.some.injEq] at hu
   subst hu;refine (k8 0 _ v rfl hv).own_full (by omega) ?_ ?_
   ·rw [← hn3]; exact h9
   ·rw [← hn3]; exact h10
  | succ j => simp at hu
 ·refine h6.obj k o ?_
  by_cases hkS : k < S.length
  ·rw [List.getElem?_append_left (by rw [List.length_set]; exact hkS), List.getElem?_set_ne (Ne.symm hkl)] at hk
   rw [List.getElem?_append_left hkS]
   exact hk
  ·rw [List.getElem?_append_right (by rw [List.length_set]; omega), List.length_set] at hk
   rw [List.getElem?_append_right (by omega)]
   exact hk
abbrev BV (ty : TypeId) (acc : By) : Ae := [.cells [.sl (.own 1) (acc.map u8)], .buf acc.length ty 1]
section
variable [Tab] {P : Program} {pf rf : List FuncId} {e : Af} {f : FuncId} {d : Option Nat} {rest : List AO} {K : Af → Ae → Prop}
theorem cb {args gargs : List AV} {T : Ae} {acc acc' : By} {v : AV} {ty : TypeId} (l l' : Nat) (h : AC P f (.ptr 0 0 :: args) (BV ty acc) v (BV ty acc'))
  (h' : Bh P pf rf rest (put e d v) ((T.set l (.cells [.sl (.own l') (acc'.map u8)])).set l' (.buf acc'.length ty 1)) K)
  (ha : args.all (AV.ok 0) = true := by rfl) (hv : v.ok 0 = true := by rfl) (hne : l ≠ l' := by decide) (hT : T[l]? = some (.cells [.sl (.own l') (acc.map u8)]) := by rfl) (hT' : T[l']? = some (.buf acc.length ty 1) := by rfl)
  (hg : gargs.map AV.wk = .ptr l 0 :: args := by rfl) : BL (EE P f gargs T) (CN P pf rf d rest e K) := by
 refine Au (show AC P f (gargs.map AV.wk) T v _ from ?_) h'
 rw [hg];have ha1 : ∀ u ∈ args, u.ok 2 = true := fun u hu => CT (List.all_eq_true.1 ha u hu) (Nat.zero_le 2)
 have := h.frame (T := T) [l, l'] (QM l l' hne rfl rfl hT hT') (by simp only [List.all_cons, Bool.and_eq_true]; exact ⟨rfl, List.all_eq_true.2 ha1⟩) (CT hv (Nat.zero_le 2)) (fun i o hi => by
  match i, hi with
  | 0, hi => cases hi; rfl
  | 1, hi => cases hi; rfl)
 rw [List.map_cons, F5 ha, Cn hv (fun i hi => absurd hi (Nat.not_lt_zero _))] at this
 simpa [after, B6, ext, At, SObj.ren, AV.r1, AV.r0, Mode.ren, AV.ren, AV.r2] using this
theorem MZ {args gargs : List AV} {T : Ae} {acc' : By} {v : AV} {ty : TypeId} (l : Nat) (h : AC P f (.ptr 0 0 :: args) [.cells [.sl .full []]] v (BV ty acc'))
  (h' : Bh P pf rf rest (put e d v) (T.set l (.cells [.sl (.own T.length) (acc'.map u8)]) ++ [.buf acc'.length ty 1]) K)
  (ha : args.all (AV.ok 0) = true := by rfl) (hv : v.ok 0 = true := by rfl) (hT : T[l]? = some (.cells [.sl .full []]) := by rfl)
  (hg : gargs.map AV.wk = .ptr l 0 :: args := by rfl) : BL (EE P f gargs T) (CN P pf rf d rest e K) := by
 refine Au (show AC P f (gargs.map AV.wk) T v _ from ?_) h'
 rw [hg];have ha1 : ∀ u ∈ args, u.ok 1 = true := fun u hu => CT (List.all_eq_true.1 ha u hu) (Nat.zero_le 1)
 have := h.frame (T := T) [l] (EI l rfl hT) (by simp only [List.all_cons, Bool.and_eq_true]; exact ⟨rfl, List.all_eq_true.2 ha1⟩) (CT hv (Nat.zero_le 2)) (fun i o hi => by
  match i, hi with
  | 0, hi => cases hi; rfl
  | 1, hi => cases hi; rfl)
 rw [List.map_cons, F5 ha, Cn hv (fun i hi => absurd hi (Nat.not_lt_zero _))] at this
 simpa [after, B6, ext, At, SObj.ren, AV.r1, AV.r0, Mode.ren, AV.ren, AV.r2] using this
theorem Ju {rs : List ResultVar} {v : AV} {S : Ae} {o o' : SObj} {vs : List AV} {N0 : Nat} (hn : [0, 1].take N0 = List.range N0) (h : CM P rs e S = some vs := by rfl) (ho : o.ok 2 = true := by rfl) (ho' : o'.ok 2 = true := by rfl)
  (hS : S[0]? = some (o.ren (At [0, 1])) := by rfl) (hS' : S[1]? = some (o'.ren (At [0, 1])) := by rfl) (hk : v.ok 2 = true := by rfl) (hv : Dh vs = v.ren (At [0, 1]) := by rfl) : C6 P rs N0 v [o, o'] .norm e S :=
 ⟨e, S, vs, [0, 1], Ay.refl N0 e S, h, QM 0 1 (by decide) ho ho' hS hS', hn, hk, .inl hv⟩
end
theorem Py (ty : TypeId) (a b : By) : [SObj.cells [.sl (.own 1) (a.map u8 ++ b.map u8)], .buf (a.length + b.length) ty 1] = BV ty (a ++ b) := by
 show _ = [SObj.cells [.sl (.own 1) ((a ++ b).map u8)], .buf (a ++ b).length ty 1]
 rw [List.map_append, List.length_append]
theorem O3 {α : Type} (g : α → By) {l : List α} {k : Nat} (hk : k < l.length) : ((l.take (k + 1)).map g).flatten = ((l.take k).map g).flatten ++ g l[k] := by
 rw [List.take_succ_eq_append_getElem hk, List.map_append, List.flatten_append];congr 1
 exact List.append_nil _
theorem O4 {α : Type} (g : α → By) (l : List α) (B k : Nat) (h : ∀ x ∈ l, (g x).length ≤ B) : ((l.take k).map g).flatten.length ≤ k * B := by
 induction l generalizing k with
 | nil => simp
 | cons a l ih =>
  cases k with
  | zero => simp
  | succ k =>
   have h1 := h a (by simp)
   have h2 := ih k fun x hx => h x (by simp [hx])
   simp only [List.take_succ_cons, List.map_cons, List.flatten_cons, List.length_append, Nat.succ_mul];omega
theorem FE (l : List Int) (acc : By) (hl : l.length ≤ 100) (h : ∀ x ∈ l, -9223372036854775808 ≤ x ∧ x ≤ 9223372036854775807) (hac : acc.length ≤ 1000000000) : AC prog 141 [.ptr 0 0, .sl .ro (l.map (AV.it .i64))] (BV 5 acc) (.tup []) (BV 5 (acc ++ (l.map Ah).flatten)) := by
 refine Ai [68] [] func141 ?_;refine run ?_;refine Eg (fun m e S => e 0 = .ptr 0 0 ∧ e 6 = .sl .ro (l.map (AV.it .i64)) ∧ e 7 = .it .i64 (l.length : Int) ∧ ∃ (k : Nat) (cur : By), e 8 = .it .i64 (k : Int) ∧ S = BV 5 cur ∧ cur = acc ++ ((l.take k).map Ah).flatten ∧ k ≤ l.length ∧ m = l.length - k) l.length _ _ (Ay.refl 2 _ _)
  ⟨Ad, Ad, Ad, 0, acc, Ad, rfl, by simp, by omega, rfl⟩ ?_
 rintro m e S ⟨s0, s6, s7, k, cur, s8, rfl, hcur, hk, rfl⟩
 have hb := O4 Ah l 9 k (fun x hx => Ak x (by have := h x hx; omega))
 have hk100 : k * 9 ≤ 100 * 9 := Nat.mul_le_mul_right _ (by omega)
 have hcl : cur.length ≤ 1000000000 + 100 * 9 := by rw [hcur]; rw [List.length_append]; omega
 by_cases hlt : k < l.length
 rotate_left
 ·obtain rfl : k = l.length := by omega
  rw [List.take_length] at hcur;rw [← hcur];refine Aa (A4 s0 s6 s7 s8) ?_;exact Ju rfl
 have hg : l[k]? = some l[k] := List.getElem?_eq_getElem hlt
 have hx := h l[k] (List.getElem_mem hlt);have hst := O3 Ah hlt;have hbx := ((fun x hx => Ak x (by have := h x hx; omega))) l[k] (List.getElem_mem hlt)
 generalize l[k] = x at *;have hsz : AE 1 (l.map (AV.it .i64)) = true := BN 1 _ (fun _ => rfl) _
 refine Aa (A6 s0 s6 s7 s8 hg hsz) ?_;refine cp (Cf x (by omega) (by omega)) ?_
 refine Aa (A4 s0 s6 s7 s8) ?_;exact AG (l.length - (k + 1)) (by omega) ⟨Ad, Ad, Ad, k + 1, cur ++ Ah x, Ad, Py _ _ _, by rw [hst, hcur]; rw [List.append_assoc], by omega, rfl⟩
theorem Mp (l : List Int) (hl : l.length ≤ 100) (h : ∀ x ∈ l, -9223372036854775808 ≤ x ∧ x ≤ 9223372036854775807) : AC prog 141 [.ptr 0 0, .sl .ro (l.map (AV.it .i64))] [.cells [.sl .full []]] (.tup []) (BV 5 ((l.map Ah).flatten)) := by
 refine Ai [68] [] func141 ?_;refine run ?_;refine Eg (fun m e S => e 0 = .ptr 0 0 ∧ e 6 = .sl .ro (l.map (AV.it .i64)) ∧ e 7 = .it .i64 (l.length : Int) ∧ ∃ (k : Nat) (cur : By), e 8 = .it .i64 (k : Int) ∧ S = BV 5 cur ∧ cur = ((l.take k).map Ah).flatten ∧ k ≤ l.length ∧ m = l.length - k) l.length _ _ (Ay.reserveC 1 0 (es := []) (by rfl) 5 1)
  ⟨Ad, Ad, Ad, 0, [], Ad, rfl, by simp, by omega, rfl⟩ ?_
 rintro m e S ⟨s0, s6, s7, k, cur, s8, rfl, hcur, hk, rfl⟩
 have hb := O4 Ah l 9 k (fun x hx => Ak x (by have := h x hx; omega))
 have hk100 : k * 9 ≤ 100 * 9 := Nat.mul_le_mul_right _ (by omega)
 have hcl : cur.length ≤ 100 * 9 := by rw [hcur]; exact Nat.le_trans hb hk100
 by_cases hlt : k < l.length
 rotate_left
 ·obtain rfl : k = l.length := by omega
  rw [List.take_length] at hcur;rw [← hcur];refine Aa (A4 s0 s6 s7 s8) ?_;exact Ju rfl
 have hg : l[k]? = some l[k] := List.getElem?_eq_getElem hlt
 have hx := h l[k] (List.getElem_mem hlt);have hst := O3 Ah hlt;have hbx := ((fun x hx => Ak x (by have := h x hx; omega))) l[k] (List.getElem_mem hlt)
 generalize l[k] = x at *;have hsz : AE 1 (l.map (AV.it .i64)) = true := BN 1 _ (fun _ => rfl) _
 refine Aa (A6 s0 s6 s7 s8 hg hsz) ?_;refine cp (Cf x (by omega) (by omega)) ?_
 refine Aa (A4 s0 s6 s7 s8) ?_;exact AG (l.length - (k + 1)) (by omega) ⟨Ad, Ad, Ad, k + 1, cur ++ Ah x, Ad, Py _ _ _, by rw [hst, hcur], by omega, rfl⟩
theorem JO (l : List By) (acc : By) (hl : l.length ≤ 100) (h : ∀ x ∈ l, x.length ≤ 1000000) (hac : acc.length ≤ 1000000000) : AC prog 257 [.ptr 0 0, Bn l] (BV 5 acc) (.tup []) (BV 5 (acc ++ (l.map text).flatten)) := by
 refine Ai [33] [] func257 ?_;refine run ?_;refine Eg (fun m e S => e 0 = .ptr 0 0 ∧ e 6 = Bn l ∧ e 7 = .it .i64 (l.length : Int) ∧ ∃ (k : Nat) (cur : By), e 8 = .it .i64 (k : Int) ∧ S = BV 5 cur ∧ cur = acc ++ ((l.take k).map text).flatten ∧ k ≤ l.length ∧ m = l.length - k) l.length _ _ (Ay.refl 2 _ _)
  ⟨Ad, Ad, Ad, 0, acc, Ad, rfl, by simp, by omega, rfl⟩ ?_
 rintro m e S ⟨s0, s6, s7, k, cur, s8, rfl, hcur, hk, rfl⟩
 have hb := O4 text l 1000009 k (fun x hx => AR (h x hx))
 have hk100 : k * 1000009 ≤ 100 * 1000009 := Nat.mul_le_mul_right _ (by omega)
 have hcl : cur.length ≤ 1000000000 + 100 * 1000009 := by rw [hcur]; rw [List.length_append]; omega
 by_cases hlt : k < l.length
 rotate_left
 ·obtain rfl : k = l.length := by omega
  rw [List.take_length] at hcur;rw [← hcur];refine Aa (A4 s0 s6 s7 s8) ?_;exact Ju rfl
 have hg : l[k]? = some l[k] := List.getElem?_eq_getElem hlt
 have hx := h l[k] (List.getElem_mem hlt);have hst := O3 text hlt;have hbx := ((fun x hx => AR (h x hx))) l[k] (List.getElem_mem hlt)
 generalize l[k] = x at *;have hsz : AE 1 (l.map AV.st) = true := BN 1 _ (fun _ => rfl) _
 refine Aa (A6 s0 s6 s7 s8 hg hsz) ?_;refine cp (CO x (by omega)) ?_
 refine Aa (A4 s0 s6 s7 s8) ?_;exact AG (l.length - (k + 1)) (by omega) ⟨Ad, Ad, Ad, k + 1, cur ++ text x, Ad, Py _ _ _, by rw [hst, hcur]; rw [List.append_assoc], by omega, rfl⟩
structure Ez (i : It.Item) : Prop where
 c : i.claim.actor.length ≤ 1000000 ∧ i.claim.prev.length ≤ 1000000
 ci : ∀ x ∈ [i.claim.base, i.claim.gen, i.claim.home, i.claim.pub, i.claim.time], -9223372036854775808 ≤ x ∧ x ≤ 9223372036854775807
 b : i.ballot.actor.length ≤ 1000000 ∧ i.ballot.claim.length ≤ 1000000
 bi : ∀ x ∈ [i.ballot.server, i.ballot.gen, i.ballot.time], -9223372036854775808 ≤ x ∧ x ≤ 9223372036854775807
 d : i.decision.actor.length ≤ 1000000 ∧ i.decision.object.length ≤ 1000000 ∧ i.decision.text.length ≤ 1000000
 dt : i.decision.to.length ≤ 1000000 ∧ ∀ s ∈ i.decision.to, s.length ≤ 1000000
 di : ∀ x ∈ [i.decision.server, i.decision.number, i.decision.kind, i.decision.n, i.decision.frm, i.decision.til], -9223372036854775808 ≤ x ∧ x ≤ 9223372036854775807
theorem Jo (g : Int → By) (a : Int) : ([a].map g).flatten = g a := by simp
theorem Ub (a : By) : ([a].map text).flatten = text a := by simp
theorem Ze3 (i : It.Item) (acc : By) (h : Ez i) (hac : acc.length ≤ 100000000) : AC prog 199 [.ptr 0 0, Bc i] (BV 5 acc) (.tup []) (BV 5 (acc ++ Da i.claim)) := by
 refine Ai [] [] func199 ?_;have h1 := h.c;have h2 := h.ci;simp only [List.forall_mem_cons] at h2;have l1 := AR h1.1;have l2 := Ak i.claim.base (by omega)
 have l3 := AR h1.2;have k1 := JO [i.claim.actor] acc (by simp) (by simpa using h1.1) (by omega)
 have k2 := FE [i.claim.base] (acc ++ text i.claim.actor) (by simp) (by simp; omega) (by simp only [List.length_append]; omega)
 have k3 := JO [i.claim.prev] (acc ++ text i.claim.actor ++ Ah i.claim.base) (by simp) (by simpa using h1.2) (by simp only [List.length_append]; omega)
 have k4 := FE [i.claim.gen, i.claim.home, i.claim.pub, i.claim.time] (acc ++ text i.claim.actor ++ Ah i.claim.base ++ text i.claim.prev) (by simp) (by simp; omega) (by simp only [List.length_append]; omega)
 rw [Ub] at k1 k3;rw [Jo] at k2;have he : acc ++ Da i.claim = acc ++ text i.claim.actor ++ Ah i.claim.base ++ text i.claim.prev ++ ([i.claim.gen, i.claim.home, i.claim.pub, i.claim.time].map Ah).flatten := by
  unfold Da;simp
 rw [he];clear he l1 l2 l3 h1 h2;generalize ([i.claim.gen, i.claim.home, i.claim.pub, i.claim.time].map Ah).flatten = tl at *;generalize acc ++ text i.claim.actor ++ Ah i.claim.base ++ text i.claim.prev ++ tl = a4 at *;generalize acc ++ text i.claim.actor ++ Ah i.claim.base ++ text i.claim.prev = a3 at *;generalize acc ++ text i.claim.actor ++ Ah i.claim.base = a2 at *;generalize acc ++ text i.claim.actor = a1 at *;refine run ?_;refine cb 0 1 k1 ?_
 refine run ?_;refine cb 0 1 k2 ?_
 refine run ?_;refine cb 0 1 k3 ?_
 refine run ?_;refine cb 0 1 k4 ?_
 refine run ?_;exact Ju rfl
theorem Ze4 (i : It.Item) (acc : By) (h : Ez i) (hac : acc.length ≤ 100000000) : AC prog 200 [.ptr 0 0, Bc i] (BV 5 acc) (.tup []) (BV 5 (acc ++ Dc i.ballot)) := by
 refine Ai [] [] func200 ?_;have h1 := h.b;have h2 := h.bi;simp only [List.forall_mem_cons] at h2;have l1 := Ak i.ballot.server (by omega)
 have l2 := AR h1.1;have l3 := Ak i.ballot.gen (by omega)
 have l4 := AR h1.2;have k1 := FE [i.ballot.server] acc (by simp) (by simp; omega) (by omega)
 have k2 := JO [i.ballot.actor] (acc ++ Ah i.ballot.server) (by simp) (by simpa using h1.1) (by simp only [List.length_append]; omega)
 have k3 := FE [i.ballot.gen] (acc ++ Ah i.ballot.server ++ text i.ballot.actor) (by simp) (by simp; omega) (by simp only [List.length_append]; omega)
 have k4 := JO [i.ballot.claim] (acc ++ Ah i.ballot.server ++ text i.ballot.actor ++ Ah i.ballot.gen) (by simp) (by simpa using h1.2) (by simp only [List.length_append]; omega)
 have k5 := FE [i.ballot.time] (acc ++ Ah i.ballot.server ++ text i.ballot.actor ++ Ah i.ballot.gen ++ text i.ballot.claim) (by simp) (by simp; omega) (by simp only [List.length_append]; omega)
 rw [Ub] at k2 k4;rw [Jo] at k1 k3 k5;have he : acc ++ Dc i.ballot = acc ++ Ah i.ballot.server ++ text i.ballot.actor ++ Ah i.ballot.gen ++ text i.ballot.claim ++ Ah i.ballot.time := by
  unfold Dc;simp only [List.append_assoc]
 rw [he];clear he l1 l2 l3 l4 h1 h2;generalize acc ++ Ah i.ballot.server ++ text i.ballot.actor ++ Ah i.ballot.gen ++ text i.ballot.claim ++ Ah i.ballot.time = a5 at *;generalize acc ++ Ah i.ballot.server ++ text i.ballot.actor ++ Ah i.ballot.gen ++ text i.ballot.claim = a4 at *;generalize acc ++ Ah i.ballot.server ++ text i.ballot.actor ++ Ah i.ballot.gen = a3 at *;generalize acc ++ Ah i.ballot.server ++ text i.ballot.actor = a2 at *;generalize acc ++ Ah i.ballot.server = a1 at *;refine run ?_;refine cb 0 1 k1 ?_
 refine run ?_;refine cb 0 1 k2 ?_
 refine run ?_;refine cb 0 1 k3 ?_
 refine run ?_;refine cb 0 1 k4 ?_
 refine run ?_;refine cb 0 1 k5 ?_
 refine run ?_;exact Ju rfl
theorem Ze2 (i : It.Item) (acc : By) (h : Ez i) (hac : acc.length ≤ 100000000) (hlist : (list i.decision.to).length ≤ 100000000) : AC prog 201 [.ptr 0 0, Bc i] (BV 5 acc) (.tup []) (BV 5 (acc ++ C8 i.decision)) := by
 refine As [255] [] func201 ?_;have h1 := h.d;have h2 := h.di;have h3 := h.dt;simp only [List.forall_mem_cons] at h2;have hx3 : ([i.decision.server, i.decision.number, i.decision.kind].map Ah).flatten = Ah i.decision.server ++ (Ah i.decision.number ++ Ah i.decision.kind) := by simp
 have hx4 : ([i.decision.actor, i.decision.object, i.decision.text].map text).flatten = text i.decision.actor ++ (text i.decision.object ++ text i.decision.text) := by simp
 have hx5 : ([i.decision.n, i.decision.frm, i.decision.til].map Ah).flatten = Ah i.decision.n ++ (Ah i.decision.frm ++ Ah i.decision.til) := by simp
 have n1 := Ak i.decision.server (by omega)
 have n2 := Ak i.decision.number (by omega)
 have n3 := Ak i.decision.kind (by omega)
 have t1 := AR h1.1;have t2 := AR h1.2.1;have t3 := AR h1.2.2;have k1 := FE [i.decision.server, i.decision.number, i.decision.kind] acc (by simp) (by simp; omega) (by omega)
 rw [hx3] at k1;have k2 := JO [i.decision.actor, i.decision.object, i.decision.text] (acc ++ (Ah i.decision.server ++ (Ah i.decision.number ++ Ah i.decision.kind))) (by simp) (by simp; omega) (by simp only [List.length_append]; omega)
 rw [hx4] at k2;have k3 := Te i.decision.to h3.1 h3.2;have he : acc ++ C8 i.decision = acc ++ (Ah i.decision.server ++ (Ah i.decision.number ++ Ah i.decision.kind)) ++ (text i.decision.actor ++ (text i.decision.object ++ text i.decision.text)) ++ list i.decision.to ++ (Ah i.decision.n ++ (Ah i.decision.frm ++ Ah i.decision.til)) := by
  unfold C8;simp only [List.append_assoc]
 rw [he];have hl1 : (acc ++ (Ah i.decision.server ++ (Ah i.decision.number ++ Ah i.decision.kind)) ++ (text i.decision.actor ++ (text i.decision.object ++ text i.decision.text))).length ≤ 200000000 := by simp only [List.length_append]; omega
 have k4 := FE [i.decision.n, i.decision.frm, i.decision.til] (acc ++ (Ah i.decision.server ++ (Ah i.decision.number ++ Ah i.decision.kind)) ++ (text i.decision.actor ++ (text i.decision.object ++ text i.decision.text)) ++ list i.decision.to) (by simp) (by simp; omega) (by rw [List.length_append]; omega)
 rw [hx5] at k4;generalize acc ++ (Ah i.decision.server ++ (Ah i.decision.number ++ Ah i.decision.kind)) ++ (text i.decision.actor ++ (text i.decision.object ++ text i.decision.text)) = a2 at *;generalize acc ++ (Ah i.decision.server ++ (Ah i.decision.number ++ Ah i.decision.kind)) = a1 at *;generalize list i.decision.to = li at *;generalize Ah i.decision.n ++ (Ah i.decision.frm ++ Ah i.decision.til) = tl at *;have hmap : a2.map u8 ++ li.map u8 = (a2 ++ li).map u8 := List.map_append.symm;have hlen : a2.length + li.length = (a2 ++ li).length := List.length_append.symm;clear n1 n2 n3 t1 t2 t3 he hx3 hx4 hx5;generalize a2 ++ li = a3 at *;generalize a3 ++ tl = a4 at *;refine run ?_;refine cb 0 1 k1 ?_
 refine run ?_;refine cb 0 1 k2 ?_
 refine run ?_;refine cp k3 ?_;refine Aa (an hmap hlen) ?_;refine cb 0 1 k4 ?_
 refine run ?_;exact Ju rfl
end Pe
namespace Pe
open Tryz
open Go Go.RowKit Co Sg Ac It
set_option maxRecDepth 100000
set_option maxHeartbeats 4000000
theorem Up {c : It.Claim} (h : D0 c = true ∨ c = CZ) : (c.actor.length ≤ 1000000 ∧ c.prev.length ≤ 1000000) ∧ ∀ x ∈ [c.base, c.gen, c.home, c.pub, c.time], -9223372036854775808 ≤ x ∧ x ≤ 9223372036854775807 := by
 rcases h with h | rfl
 ·have s := MW h
  have h1 := s.actor; have h2 := s.base; have h3 := s.prev; have h4 := s.gen; have h5 := s.home; have h6 := s.pub; have h7 := s.time;simp only [List.forall_mem_cons, List.not_mem_nil, false_implies, implies_true, and_true];omega
 ·decide
theorem Uq {b : It.Ballot} (h : D2 b = true ∨ b = C0) : (b.actor.length ≤ 1000000 ∧ b.claim.length ≤ 1000000) ∧ ∀ x ∈ [b.server, b.gen, b.time], -9223372036854775808 ≤ x ∧ x ≤ 9223372036854775807 := by
 rcases h with h | rfl
 ·have s := M7 h
  have h1 := s.actor; have h2 := s.server; have h3 := s.claim; have h4 := s.gen; have h5 := s.time;simp only [List.forall_mem_cons, List.not_mem_nil, false_implies, implies_true, and_true];omega
 ·decide
theorem MM {d : It.Decision} (h : DZ d = true ∨ d = CI) : (d.actor.length ≤ 1000000 ∧ d.object.length ≤ 1000000 ∧ d.text.length ≤ 1000000) ∧ (d.to.length ≤ 64 ∧ ∀ s ∈ d.to, s.length ≤ 16) ∧ ∀ x ∈ [d.server, d.number, d.kind, d.n, d.frm, d.til], -9223372036854775808 ≤ x ∧ x ≤ 9223372036854775807 := by
 rcases h with h | rfl
 ·have s := MS h
  have h1 := s.actor; have h2 := s.server; have h3 := s.number; have h4 := s.kind; have h5 := s.object; have h6 := s.text; have h7 := s.to; have h8 := s.n; have h9 := s.frm; have h10 := s.til;simp only [List.forall_mem_cons, List.not_mem_nil, false_implies, implies_true, and_true];refine ⟨by omega, ⟨h7.1, fun s hs => Nat.le_of_eq (h7.2 s hs)⟩, by omega⟩
 ·decide
theorem Mc {i : It.Item} (h : It.right i = true) : (Ac.right i.act = true ∨ i.act = BU) ∧ (D0 i.claim = true ∨ i.claim = CZ) ∧ (D2 i.ballot = true ∨ i.ballot = C0) ∧ (DZ i.decision = true ∨ i.decision = CI) := by
 rcases right_kind h with e | e | e | e
 ·obtain ⟨q1, q2, q3, q4⟩ := (right_act e).1 h
  exact ⟨.inl q1, .inr q2, .inr q3, .inr q4⟩
 ·obtain ⟨q1, q2, q3, q4⟩ := (right_claim e).1 h
  exact ⟨.inr q2, .inl q1, .inr q3, .inr q4⟩
 ·obtain ⟨q1, q2, q3, q4⟩ := (right_ballot e).1 h
  exact ⟨.inr q2, .inr q3, .inl q1, .inr q4⟩
 ·obtain ⟨q1, q2, q3, q4⟩ := (right_decision e).1 h
  exact ⟨.inr q2, .inr q3, .inr q4, .inl q1⟩
theorem Zdq {i : It.Item} (hc : D0 i.claim = true ∨ i.claim = CZ) (hb : D2 i.ballot = true ∨ i.ballot = C0) (hd : DZ i.decision = true ∨ i.decision = CI) : Ez i := by
 have c := Up hc;have b := Uq hb;have d := MM hd;exact ⟨c.1, c.2, b.1, b.2, d.1, ⟨by have := d.2.1.1; omega, fun s hs => by have := d.2.1.2 s hs; omega⟩, d.2.2⟩
theorem Zdp {i : It.Item} (h : It.right i = true) : Ez i := have p := Mc h; Zdq p.2.1 p.2.2.1 p.2.2.2
theorem GD {i : It.Item} (h : It.right i = true) (h0 : i.kind ≠ 0) : AT (BW i) = true := by
 unfold BW;rcases right_kind h with e | e | e | e
 ·exact absurd e h0
 ·rw [if_pos e]; exact (MW ((right_claim e).1 h).1).sig
 ·rw [if_neg (by omega), if_pos e]; exact (M7 ((right_ballot e).1 h).1).sig
 ·rw [if_neg (by omega), if_neg (by omega)]; exact (MS ((right_decision e).1 h).1).sig
theorem Td {l : List By} (h : l.length ≤ 64 ∧ ∀ s ∈ l, s.length ≤ 16) : (list l).length ≤ 2000 := by
 have h1 := Ef (n := l.length) (by have := h.1; omega)
 have h2 : ∀ l : List By, (∀ s ∈ l, s.length ≤ 16) → (l.map text).flatten.length ≤ l.length * 25 := fun l => by
  induction l with
  | nil => intro _; simp
  | cons s l ih =>
   intro h;have e0 := h s (by simp)
   have e1 : (text s).length ≤ 25 := by
    have := Ef (n := s.length) (by omega)
    unfold text;rw [List.length_append];omega
   have e2 := ih fun x hx => h x (by simp [hx])
   rw [List.map_cons, List.flatten_cons, List.length_append, List.length_cons, Nat.succ_mul];omega
 have h3 := h2 l h.2;have h4 : l.length * 25 ≤ 64 * 25 := Nat.mul_le_mul_right _ h.1;unfold list;rw [List.length_append];omega
structure Sh (i : It.Item) : Prop where
 ez : Ez i
 to : (list i.decision.to).length ≤ 50000000
theorem JY {i : It.Item} (h : It.right i = true) : Sh i := ⟨Zdp h, by have := Td (MM (Mc h).2.2.2).2.1; omega⟩
theorem Pw {i : It.Item} (h : Ez i) : (Da i.claim).length ≤ 10000000 := by
 have h1 := h.c;have h2 := h.ci;simp only [List.forall_mem_cons] at h2;have l1 := AR h1.1;have l2 := AR h1.2;have n1 := Ak i.claim.base (by omega)
 have n2 := Ak i.claim.gen (by omega)
 have n3 := Ak i.claim.home (by omega)
 have n4 := Ak i.claim.pub (by omega)
 have n5 := Ak i.claim.time (by omega)
 unfold Da;simp only [List.length_append];omega
theorem PD {i : It.Item} (h : Ez i) : (Dc i.ballot).length ≤ 10000000 := by
 have h1 := h.b;have h2 := h.bi;simp only [List.forall_mem_cons] at h2;have l1 := AR h1.1;have l2 := AR h1.2;have n1 := Ak i.ballot.server (by omega)
 have n2 := Ak i.ballot.gen (by omega)
 have n3 := Ak i.ballot.time (by omega)
 unfold Dc;simp only [List.length_append];omega
theorem Pn {i : It.Item} (h : Sh i) : (C8 i.decision).length ≤ 60000000 := by
 have h1 := h.ez.d;have h2 := h.ez.di;have h3 := h.to;simp only [List.forall_mem_cons] at h2;have l1 := AR h1.1;have l2 := AR h1.2.1;have l3 := AR h1.2.2;have n1 := Ak i.decision.server (by omega)
 have n2 := Ak i.decision.number (by omega)
 have n3 := Ak i.decision.kind (by omega)
 have n4 := Ak i.decision.n (by omega)
 have n5 := Ak i.decision.frm (by omega)
 have n6 := Ak i.decision.til (by omega)
 unfold C8;simp only [List.length_append];omega
theorem Zeo {i : It.Item} (h : Sh i) : (EU i).length ≤ 60000000 := by
 have h1 := Pw h.ez;have h2 := PD h.ez;have h3 := Pn h;unfold EU;split
 ·omega
 split <;> omega
abbrev O1 (F : FuncId) (n : By) (s : Sig) : AV := .agg [.st n, .fn (.func F) [] [], .it .i64 s.e, .it .i64 s.s]
theorem Zc2 (i : It.Item) (hk : i.kind = 1) : AC prog 143 [Bc i] [] (O1 199 Qr i.claim.sig) [] := by
 refine Ai [] [] func143 ?_;refine Aa hk ?_;exact AH
theorem Zc1 (i : It.Item) (hk : i.kind = 2) : AC prog 143 [Bc i] [] (O1 200 Qs i.ballot.sig) [] := by
 refine Ai [] [] func143 ?_;refine Aa hk ?_;exact AH
theorem Zc0 (i : It.Item) (hk : i.kind ≠ 1 ∧ i.kind ≠ 2) : AC prog 143 [Bc i] [] (O1 201 Qq i.decision.sig) [] := by
 refine Ai [] [] func143 ?_;obtain ⟨h1, h2⟩ := hk;refine run ?_;exact AH
theorem O6 (g : Int → By) (a b : Int) : ([a, b].map g).flatten = g a ++ g b := by simp
theorem VI {i : It.Item} (h : It.right i = true) (h0 : i.kind = 0) : It.bytes i = Ah i.kind ++ Ac.bytes i.act := by
 rw [bytes_right h];unfold D9;rw [if_pos h0]
theorem ZeS (i : It.Item) (h : Iz i) (h0 : i.kind = 0) (hr : It.right i = true) : AC prog 81 [Bc i] [] (.st (It.bytes i)) [] := by
 refine As [47, 142, 143] [] func81 ?_;have kr := H8 i h;rw [hr] at kr;rw [VI hr h0];have k1 := Mp [i.kind] (by simp) (by simp [h0])
 rw [Jo] at k1;have hq : (i.kind == 0) = true := by rw [h0]; rfl
 have k2 := VG i.act h.act;have hl := M1 (a := i.act);have hl0 := Ak i.kind (by omega)
 generalize Ac.bytes i.act = z at *;generalize Ah i.kind = n0 at *;refine run ?_;refine cp kr ?_;refine Aa hq ?_;refine MZ 1 k1 ?_
 refine Aa hq ?_;refine cp k2 ?_;have hmap : n0.map u8 ++ z.map u8 = (n0 ++ z).map u8 := List.map_append.symm;have hlen : n0.length + z.length = (n0 ++ z).length := List.length_append.symm;generalize n0 ++ z = c1 at *;refine Aa (A3 hq hmap hlen) ?_;exact Ab
theorem ZeR (i : It.Item) (h : Iz i) (hk : i.kind = 1) (hr : It.right i = true) : AC prog 81 [Bc i] [] (.st (It.bytes i)) [] := by
 refine As [47, 142, 143] [] func81 ?_;have kr := H8 i h;rw [hr] at kr;have h3 := JY hr;have hs := GD hr (by omega)
 have hb : It.bytes i = Ah i.kind ++ Da i.claim ++ (Ah i.claim.sig.e ++ Ah i.claim.sig.s) := by
  rw [bytes_right hr];unfold D9 EU BW;have e0 : i.kind ≠ 0 := by omega
  simp [hk]
 have hsg : BW i = i.claim.sig := by unfold BW; simp [hk]
 rw [hsg] at hs;simp only [AT, Bool.and_eq_true, AZ] at hs;rw [hb];have k1 := Mp [i.kind] (by simp) (by simp [hk])
 rw [Jo] at k1;have hl0 := Ak i.kind (by omega)
 have hq : (i.kind == 0) = false := Ea (by omega)
 have k2 := Ze3 i (Ah i.kind) h3.ez (by omega)
 have hl : (Da i.claim).length ≤ 60000000 := by have := Pw h3.ez; omega
 have k3 := FE [i.claim.sig.e, i.claim.sig.s] (Ah i.kind ++ Da i.claim) (by simp) (by simp; omega) (by rw [List.length_append]; omega)
 rw [O6] at k3;have n1 := Ak i.claim.sig.e (by omega)
 have n2 := Ak i.claim.sig.s (by omega)
 have kf := Zc2 i hk;generalize Ah i.claim.sig.e ++ Ah i.claim.sig.s = tl at *;generalize Ah i.kind = n0 at *;generalize Da i.claim = Bk at *;generalize n0 ++ Bk ++ tl = c2 at *;generalize n0 ++ Bk = c1 at *;refine run ?_;refine cp kr ?_;refine Aa hq ?_;refine MZ 1 k1 ?_
 refine Aa hq ?_;refine cp kf ?_;refine Aa hq ?_;refine cb 1 2 k2 ?_
 refine Aa hq ?_;refine cb 1 2 k3 ?_
 refine run ?_;exact Ab
theorem ZeQ (i : It.Item) (h : Iz i) (hk : i.kind = 2) (hr : It.right i = true) : AC prog 81 [Bc i] [] (.st (It.bytes i)) [] := by
 refine As [47, 142, 143] [] func81 ?_;have kr := H8 i h;rw [hr] at kr;have h3 := JY hr;have hs := GD hr (by omega)
 have hb : It.bytes i = Ah i.kind ++ Dc i.ballot ++ (Ah i.ballot.sig.e ++ Ah i.ballot.sig.s) := by
  rw [bytes_right hr];unfold D9 EU BW;have e0 : i.kind ≠ 0 := by omega
  simp [hk]
 have hsg : BW i = i.ballot.sig := by unfold BW; simp [hk]
 rw [hsg] at hs;simp only [AT, Bool.and_eq_true, AZ] at hs;rw [hb];have k1 := Mp [i.kind] (by simp) (by simp [hk])
 rw [Jo] at k1;have hl0 := Ak i.kind (by omega)
 have hq : (i.kind == 0) = false := Ea (by omega)
 have k2 := Ze4 i (Ah i.kind) h3.ez (by omega)
 have hl : (Dc i.ballot).length ≤ 60000000 := by have := PD h3.ez; omega
 have k3 := FE [i.ballot.sig.e, i.ballot.sig.s] (Ah i.kind ++ Dc i.ballot) (by simp) (by simp; omega) (by rw [List.length_append]; omega)
 rw [O6] at k3;have n1 := Ak i.ballot.sig.e (by omega)
 have n2 := Ak i.ballot.sig.s (by omega)
 have kf := Zc1 i hk;generalize Ah i.ballot.sig.e ++ Ah i.ballot.sig.s = tl at *;generalize Ah i.kind = n0 at *;generalize Dc i.ballot = Bk at *;generalize n0 ++ Bk ++ tl = c2 at *;generalize n0 ++ Bk = c1 at *;refine run ?_;refine cp kr ?_;refine Aa hq ?_;refine MZ 1 k1 ?_
 refine Aa hq ?_;refine cp kf ?_;refine Aa hq ?_;refine cb 1 2 k2 ?_
 refine Aa hq ?_;refine cb 1 2 k3 ?_
 refine run ?_;exact Ab
theorem ZeP (i : It.Item) (h : Iz i) (hk : i.kind = 3) (hr : It.right i = true) : AC prog 81 [Bc i] [] (.st (It.bytes i)) [] := by
 refine As [47, 142, 143] [] func81 ?_;have kr := H8 i h;rw [hr] at kr;have h3 := JY hr;have hs := GD hr (by omega)
 have hb : It.bytes i = Ah i.kind ++ C8 i.decision ++ (Ah i.decision.sig.e ++ Ah i.decision.sig.s) := by
  rw [bytes_right hr];unfold D9 EU BW;have e0 : i.kind ≠ 0 := by omega
  simp [hk]
 have hsg : BW i = i.decision.sig := by unfold BW; simp [hk]
 rw [hsg] at hs;simp only [AT, Bool.and_eq_true, AZ] at hs;rw [hb];have k1 := Mp [i.kind] (by simp) (by simp [hk])
 rw [Jo] at k1;have hl0 := Ak i.kind (by omega)
 have hq : (i.kind == 0) = false := Ea (by omega)
 have k2 := Ze2 i (Ah i.kind) h3.ez (by omega) (by have := h3.to; omega)
 have hl : (C8 i.decision).length ≤ 60000000 := by have := Pn h3; omega
 have k3 := FE [i.decision.sig.e, i.decision.sig.s] (Ah i.kind ++ C8 i.decision) (by simp) (by simp; omega) (by rw [List.length_append]; omega)
 rw [O6] at k3;have n1 := Ak i.decision.sig.e (by omega)
 have n2 := Ak i.decision.sig.s (by omega)
 have kf := Zc0 i (by omega)
 generalize Ah i.decision.sig.e ++ Ah i.decision.sig.s = tl at *;generalize Ah i.kind = n0 at *;generalize C8 i.decision = Bk at *;generalize n0 ++ Bk ++ tl = c2 at *;generalize n0 ++ Bk = c1 at *;refine run ?_;refine cp kr ?_;refine Aa hq ?_;refine MZ 1 k1 ?_
 refine Aa hq ?_;refine cp kf ?_;refine Aa hq ?_;refine cb 1 2 k2 ?_
 refine Aa hq ?_;refine cb 1 2 k3 ?_
 refine run ?_;exact Ab
theorem IA (i : It.Item) (h : Iz i) : AC prog 81 [Bc i] [] (.st (It.bytes i)) [] := by
 cases hr : It.right i with
 | true =>
  rcases right_kind hr with e | e | e | e
  ·exact ZeS i h e hr
  ·exact ZeR i h e hr
  ·exact ZeQ i h e hr
  ·exact ZeP i h e hr
 | false =>
  refine As [47, 142, 143] [] func81 ?_;have kr := H8 i h;rw [hr] at kr;rw [It.bytes_wrong hr];refine run ?_;refine cp kr ?_;refine run ?_;exact Ab
theorem NF {a : Ac.Act} (h : Sm a) : Sz a := ⟨by have := h.author; omega, by have := h.target; omega, by have := h.group; omega, by have := h.text; omega, fun s hs => by have := h.to.2 s hs; omega, by have := h.to.1; omega, by have := h.wraps.1; omega⟩
theorem Ee : Sz BU := ⟨by decide, by decide, by decide, by decide, by decide, by decide, by decide⟩
theorem Fh : Dz CI := ⟨by decide, by decide, by decide⟩
theorem Dx (s t : By) (h : s ≠ t) : (s == t) = false := by simpa using h
theorem FH {i : It.Item} (h : It.right i = true) : Iz i := by
 have p := Mc h;have c := (Up p.2.1).1.1;have b := (Uq p.2.2.1).1.1;have d := MM p.2.2.2;refine ⟨?_, by omega, by omega, ⟨by have := d.1.1; omega, by have := d.2.1.1; omega, fun s hs => by have := d.2.1.2 s hs; omega⟩⟩
 rcases p.1 with e | e
 ·exact NF (Et e)
 ·rw [e]; exact Ee
theorem M2 (i : It.Item) : (It.bytes i).length ≤ 70000000 := by
 cases hr : It.right i with
 | false => rw [It.bytes_wrong hr]; decide
 | true =>
  have hk := right_kind hr;have n0 := Ak i.kind (by omega)
  rw [bytes_right hr];unfold D9;rw [List.length_append];by_cases h0 : i.kind = 0
  ·rw [if_pos h0]
   have := M1 (a := i.act);omega
  ·rw [if_neg h0]
   have hs := GD hr h0;simp only [AT, Bool.and_eq_true, AZ] at hs;have n1 := Ak (BW i).e (by omega)
   have n2 := Ak (BW i).s (by omega)
   have hc := Zeo (JY hr);simp only [List.length_append];omega
theorem NY (x : R) (hx : x.rest.length ≤ 1000000) : ∃ (c : Sig) (y : R), FB x = (c, y) ∧ y.rest.length ≤ 1000000 ∧ (0 ≤ c.e ∧ c.e < 9223372036854775808) ∧ AC prog 197 [.ptr 0 0] [rd x] (H5 c) [rd y] := by
 obtain ⟨e, x1, e1, b1, d1, k1⟩ := BI x hx;obtain ⟨s, x2, e2, b2, d2, k2⟩ := BI x1 b1;refine ⟨⟨e, s⟩, x2, by unfold FB; simp only [e1, e2], b2, d1, ?_⟩
 refine Ai [] [] func197 ?_;refine run ?_;refine c1 0 k1 ?_;refine run ?_;refine c1 0 k2 ?_;refine run ?_;exact Bj
theorem Zbb (x : R) (hx : x.rest.length ≤ 1000000) : ∃ (c : It.Claim) (y : R), GK x = (c, y) ∧ y.rest.length ≤ 1000000 ∧ c.actor.length ≤ 1000000 ∧ AC prog 136 [.ptr 0 0] [rd x] (KP c) [rd y] := by
 obtain ⟨actor, x1, e1, b1, d1, k1⟩ := Du x hx;obtain ⟨base, x2, e2, b2, d2, k2⟩ := BI x1 b1;obtain ⟨prev, x3, e3, b3, d3, k3⟩ := Du x2 b2;obtain ⟨gen, x4, e4, b4, d4, k4⟩ := BI x3 b3;obtain ⟨home, x5, e5, b5, d5, k5⟩ := BI x4 b4;obtain ⟨pub, x6, e6, b6, d6, k6⟩ := BI x5 b5;obtain ⟨time, x7, e7, b7, d7, k7⟩ := BI x6 b6;obtain ⟨sg, x8, e8, b8, d8, k8⟩ := NY x7 b7;refine ⟨⟨actor, base, prev, gen, home, pub, time, sg⟩, x8, by unfold GK; simp only [e1, e2, e3, e4, e5, e6, e7, e8], b8, d1, ?_⟩
 refine Ai [] [] func136 ?_;refine run ?_;refine c1 0 k1 ?_;refine run ?_;refine c1 0 k2 ?_;refine run ?_;refine c1 0 k3 ?_;refine run ?_;refine c1 0 k4 ?_;refine run ?_;refine c1 0 k5 ?_;refine run ?_;refine c1 0 k6 ?_;refine run ?_;refine c1 0 k7 ?_;refine run ?_;refine c1 0 k8 ?_;refine run ?_;exact Bj
theorem Zbd (x : R) (hx : x.rest.length ≤ 1000000) : ∃ (c : It.Ballot) (y : R), GL x = (c, y) ∧ y.rest.length ≤ 1000000 ∧ c.actor.length ≤ 1000000 ∧ AC prog 137 [.ptr 0 0] [rd x] (KW c) [rd y] := by
 obtain ⟨server, x1, e1, b1, d1, k1⟩ := BI x hx;obtain ⟨actor, x2, e2, b2, d2, k2⟩ := Du x1 b1;obtain ⟨gen, x3, e3, b3, d3, k3⟩ := BI x2 b2;obtain ⟨claim, x4, e4, b4, d4, k4⟩ := Du x3 b3;obtain ⟨time, x5, e5, b5, d5, k5⟩ := BI x4 b4;obtain ⟨sg, x6, e6, b6, d6, k6⟩ := NY x5 b5;refine ⟨⟨server, actor, gen, claim, time, sg⟩, x6, by unfold GL; simp only [e1, e2, e3, e4, e5, e6], b6, d2, ?_⟩
 refine Ai [] [] func137 ?_;refine run ?_;refine c1 0 k1 ?_;refine run ?_;refine c1 0 k2 ?_;refine run ?_;refine c1 0 k3 ?_;refine run ?_;refine c1 0 k4 ?_;refine run ?_;refine c1 0 k5 ?_;refine run ?_;refine c1 0 k6 ?_;refine run ?_;exact Bj
theorem Za2 (x : R) (hx : x.rest.length ≤ 1000000) : ∃ (c : It.Decision) (y : R), GJ x = (c, y) ∧ y.rest.length ≤ 1000000 ∧ Dz c ∧ AC prog 138 [.ptr 0 0] [rd x] (FP c) [rd y] := by
 obtain ⟨server, x1, e1, b1, d1, k1⟩ := BI x hx;obtain ⟨number, x2, e2, b2, d2, k2⟩ := BI x1 b1;obtain ⟨kind, x3, e3, b3, d3, k3⟩ := BI x2 b2;obtain ⟨actor, x4, e4, b4, d4, k4⟩ := Du x3 b3;obtain ⟨object, x5, e5, b5, d5, k5⟩ := Du x4 b4;obtain ⟨txt, x6, e6, b6, d6, k6⟩ := Du x5 b5;obtain ⟨to, x7, e7, b7, d7, d7q, k7⟩ := RE x6 b6;obtain ⟨n, x8, e8, b8, d8, k8⟩ := BI x7 b7;obtain ⟨frm, x9, e9, b9, d9, k9⟩ := BI x8 b8;obtain ⟨til, x10, e10, b10, d10, k10⟩ := BI x9 b9;obtain ⟨sg, x11, e11, b11, d11, k11⟩ := NY x10 b10;refine ⟨⟨server, number, kind, actor, object, txt, to, n, frm, til, sg⟩, x11, by unfold GJ; simp only [e1, e2, e3, e4, e5, e6, e7, e8, e9, e10, e11], b11, ⟨Nat.le_trans d4 (by decide), Nat.le_trans d7q (by decide), fun s hs => Nat.le_trans (d7 s hs) (by decide)⟩, ?_⟩
 refine Ai [] [] func138 ?_;refine run ?_;refine c1 0 k1 ?_;refine run ?_;refine c1 0 k2 ?_;refine run ?_;refine c1 0 k3 ?_;refine run ?_;refine c1 0 k4 ?_;refine run ?_;refine c1 0 k5 ?_;refine run ?_;refine c1 0 k6 ?_;refine run ?_;refine c1 0 k7 ?_;refine run ?_;refine c1 0 k8 ?_;refine run ?_;refine c1 0 k9 ?_;refine run ?_;refine c1 0 k10 ?_;refine run ?_;refine c1 0 k11 ?_;refine run ?_;exact Bj
theorem ZaX (s : By) (hs : s.length ≤ 1000000) : AC prog 77 [.st s] [] (.tup [Bc (It.read s).1, .bo (It.read s).2]) [] := by
 refine Ai [135, 81] [] func77 ?_;refine run ?_;refine Au (AC.newAt (Mm s) _) ?_;obtain ⟨k, x0, e0, b0, d0, k0⟩ := BI ⟨s, false⟩ hs;refine run ?_;refine c1 1 k0 ?_;by_cases h0 : k = 0
 ·subst h0
  obtain ⟨tt, x1, e1⟩ : ∃ tt x1, x0.take x0.rest.length = (tt, x1) := ⟨_, _, rfl⟩
  have htl := JQ x0 x0.rest.length;have hta := JR x0 x0.rest.length (by omega) (by omega)
  rw [e1] at hta htl;simp only at hta htl
  have hra := ZaT tt (by omega)
  have hsz : Sz (Ac.read tt).1 := by
   cases hq : (Ac.read tt).2 with
   | true => exact NF (Et (Ac.read_right hq).1)
   | false => rw [Ac.read_wrong hq]; exact Ee
  have hread : It.read s = if (Ac.read tt).2 = true ∧ x1.done = true ∧ s ≠ [] ∧ It.bytes { AI with act := (Ac.read tt).1 } = s then ({ AI with act := (Ac.read tt).1 }, true) else (AI, false) := by
   unfold It.read Eu;simp only [e0, e1, if_true]
  generalize Ac.read tt = q at *;obtain ⟨a, ok⟩ := q;simp only at hsz hread hra
  have hb := IA { AI with act := a } ⟨hsz, Nat.zero_le _, Nat.zero_le _, Fh⟩
  refine run ?_;refine c1 1 (Ku x0) ?_;refine run ?_;refine c1 1 hta ?_;refine run ?_;refine cp hra ?_;cases ok with
  | false =>
   rw [if_neg (fun h => by cases h.1)] at hread
   rw [hread];refine run ?_;exact AH
  | true =>
   simp only [true_and] at hread;refine run ?_;refine c1 1 (Jv x1) ?_;rw [show (!x1.bad && x1.rest == []) = x1.done from rfl]
   by_cases hd : x1.done = true
   rotate_left
   ·rw [if_neg (fun h => hd h.1)] at hread
    have hd' : x1.done = false := by simpa using hd
    rw [hread];refine Aa hd' ?_;exact AH
   by_cases hse : s = []
   ·rw [if_neg (fun h => h.2.1 hse)] at hread
    have hsn : (s == []) = true := by rw [hse]; rfl
    rw [hread];refine Aa (an hd hsn) ?_;exact AH
   have hsn : (s == []) = false := Dx s [] hse;refine Aa (an hd hsn) ?_;refine cp hb ?_;generalize It.bytes _ = bs at *;by_cases hbs : bs = s
   ·rw [if_pos ⟨hd, hse, hbs⟩] at hread
    rw [hread];have hne : (bs == s) = true := by rw [hbs]; exact beq_self_eq_true _
    refine Aa hne ?_;exact AH
   ·rw [if_neg (fun h => hbs h.2.2)] at hread
    have hne := Dx bs s hbs;rw [hread];refine Aa hne ?_;exact AH
 by_cases h1 : k = 1
 ·subst h1
  obtain ⟨c, x1, e1, b1, d1, k1⟩ := Zbb x0 b0;have hb := IA { AI with kind := 1, claim := c } ⟨Ee, Nat.le_trans d1 (by decide), Nat.zero_le _, Fh⟩
  have hread : It.read s = if x1.done = true ∧ s ≠ [] ∧ It.bytes { AI with kind := 1, claim := c } = s then ({ AI with kind := 1, claim := c }, true) else (AI, false) := by
   unfold It.read Eu;simp only [e0, e1];simp
  refine run ?_;refine c1 1 k1 ?_;refine run ?_;refine c1 1 (Jv x1) ?_;rw [show (!x1.bad && x1.rest == []) = x1.done from rfl]
  by_cases hd : x1.done = true
  rotate_left
  ·rw [if_neg (fun h => hd h.1)] at hread
   have hd' : x1.done = false := by simpa using hd
   rw [hread];refine Aa hd' ?_;exact AH
  by_cases hse : s = []
  ·rw [if_neg (fun h => h.2.1 hse)] at hread
   have hsn : (s == []) = true := by rw [hse]; rfl
   rw [hread];refine Aa (an hd hsn) ?_;exact AH
  have hsn : (s == []) = false := Dx s [] hse;refine Aa (an hd hsn) ?_;refine cp hb ?_;generalize It.bytes _ = bs at *;by_cases hbs : bs = s
  ·rw [if_pos ⟨hd, hse, hbs⟩] at hread
   rw [hread];have hne : (bs == s) = true := by rw [hbs]; exact beq_self_eq_true _
   refine Aa hne ?_;exact AH
  ·rw [if_neg (fun h => hbs h.2.2)] at hread
   have hne := Dx bs s hbs;rw [hread];refine Aa hne ?_;exact AH
 by_cases h2 : k = 2
 ·subst h2
  obtain ⟨c, x1, e1, b1, d1, k1⟩ := Zbd x0 b0;have hb := IA { AI with kind := 2, ballot := c } ⟨Ee, Nat.zero_le _, Nat.le_trans d1 (by decide), Fh⟩
  have hread : It.read s = if x1.done = true ∧ s ≠ [] ∧ It.bytes { AI with kind := 2, ballot := c } = s then ({ AI with kind := 2, ballot := c }, true) else (AI, false) := by
   unfold It.read Eu;simp only [e0, e1];simp
  refine run ?_;refine c1 1 k1 ?_;refine run ?_;refine c1 1 (Jv x1) ?_;rw [show (!x1.bad && x1.rest == []) = x1.done from rfl]
  by_cases hd : x1.done = true
  rotate_left
  ·rw [if_neg (fun h => hd h.1)] at hread
   have hd' : x1.done = false := by simpa using hd
   rw [hread];refine Aa hd' ?_;exact AH
  by_cases hse : s = []
  ·rw [if_neg (fun h => h.2.1 hse)] at hread
   have hsn : (s == []) = true := by rw [hse]; rfl
   rw [hread];refine Aa (an hd hsn) ?_;exact AH
  have hsn : (s == []) = false := Dx s [] hse;refine Aa (an hd hsn) ?_;refine cp hb ?_;generalize It.bytes _ = bs at *;by_cases hbs : bs = s
  ·rw [if_pos ⟨hd, hse, hbs⟩] at hread
   rw [hread];have hne : (bs == s) = true := by rw [hbs]; exact beq_self_eq_true _
   refine Aa hne ?_;exact AH
  ·rw [if_neg (fun h => hbs h.2.2)] at hread
   have hne := Dx bs s hbs;rw [hread];refine Aa hne ?_;exact AH
 by_cases h3 : k = 3
 ·subst h3
  obtain ⟨c, x1, e1, b1, d1, k1⟩ := Za2 x0 b0;have hb := IA { AI with kind := 3, decision := c } ⟨Ee, Nat.zero_le _, Nat.zero_le _, d1⟩
  have hread : It.read s = if x1.done = true ∧ s ≠ [] ∧ It.bytes { AI with kind := 3, decision := c } = s then ({ AI with kind := 3, decision := c }, true) else (AI, false) := by
   unfold It.read Eu;simp only [e0, e1];simp
  refine run ?_;refine c1 1 k1 ?_;refine run ?_;refine c1 1 (Jv x1) ?_;rw [show (!x1.bad && x1.rest == []) = x1.done from rfl]
  by_cases hd : x1.done = true
  rotate_left
  ·rw [if_neg (fun h => hd h.1)] at hread
   have hd' : x1.done = false := by simpa using hd
   rw [hread];refine Aa hd' ?_;exact AH
  by_cases hse : s = []
  ·rw [if_neg (fun h => h.2.1 hse)] at hread
   have hsn : (s == []) = true := by rw [hse]; rfl
   rw [hread];refine Aa (an hd hsn) ?_;exact AH
  have hsn : (s == []) = false := Dx s [] hse;refine Aa (an hd hsn) ?_;refine cp hb ?_;generalize It.bytes _ = bs at *;by_cases hbs : bs = s
  ·rw [if_pos ⟨hd, hse, hbs⟩] at hread
   rw [hread];have hne : (bs == s) = true := by rw [hbs]; exact beq_self_eq_true _
   refine Aa hne ?_;exact AH
  ·rw [if_neg (fun h => hbs h.2.2)] at hread
   have hne := Dx bs s hbs;rw [hread];refine Aa hne ?_;exact AH
 have hb := IA { AI with kind := k } ⟨Ee, Nat.zero_le _, Nat.zero_le _, Fh⟩
 have hread : It.read s = if x0.done = true ∧ s ≠ [] ∧ It.bytes { AI with kind := k } = s then ({ AI with kind := k }, true) else (AI, false) := by
  unfold It.read Eu;simp only [e0, if_neg h0, if_neg h1, if_neg h2, if_neg h3, true_and]
 have q0 : (k == 0) = false := Ea h0;have q1 : (k == 1) = false := Ea h1;have q2 : (k == 2) = false := Ea h2;have q3 : (k == 3) = false := Ea h3;refine Aa (A4 q0 q1 q2 q3) ?_;refine c1 1 (Jv x0) ?_;rw [show (!x0.bad && x0.rest == []) = x0.done from rfl]
 by_cases hd : x0.done = true
 rotate_left
 ·rw [if_neg (fun h => hd h.1)] at hread
  have hd' : x0.done = false := by simpa using hd
  rw [hread];refine Aa hd' ?_;exact AH
 by_cases hse : s = []
 ·rw [if_neg (fun h => h.2.1 hse)] at hread
  have hsn : (s == []) = true := by rw [hse]; rfl
  rw [hread];refine Aa (an hd hsn) ?_;exact AH
 have hsn : (s == []) = false := Dx s [] hse;refine Aa (an hd hsn) ?_;refine cp hb ?_;generalize It.bytes _ = bs at *;by_cases hbs : bs = s
 ·rw [if_pos ⟨hd, hse, hbs⟩] at hread
  rw [hread];have hne : (bs == s) = true := by rw [hbs]; exact beq_self_eq_true _
  refine Aa hne ?_;exact AH
 ·rw [if_neg (fun h => hbs h.2.2)] at hread
  have hne := Dx bs s hbs;rw [hread];refine Aa hne ?_;exact AH
theorem U0 (i : It.Item) (h : Iz i) : AC prog 38 [Bc i] [] (.st (It.digest i)) [] := by
 refine Ai [81, 66] [] func38 ?_;unfold It.digest;have hb := IA i h;have hl := M2 i;generalize It.bytes i = bs at *;by_cases he : bs = []
 ·rw [if_pos he]
  have hq : (bs == []) = true := by rw [he]; rfl
  refine run ?_;refine cp hb ?_;refine Aa hq ?_;exact Ab
 ·rw [if_neg he]
  have hq := Dx bs [] he;refine run ?_;refine cp hb ?_;refine Aa hq ?_;refine cp (JX bs (by omega)) ?_
  refine run ?_;exact Ab
theorem SF (a : Ac.Act) (h : a.to.length ≤ 1000000) (hw : a.wraps.length ≤ 1000000) : AC prog 61 [Bl a] [] (Bc (SH a)) [] := by
 refine Ai [74, 98] [] func61 ?_;refine run ?_;refine cp (Pv a.to h) ?_;refine run ?_;refine cp (Vp a.wraps hw) ?_;refine run ?_;exact AH
abbrev Az (e : It.Entry) : AV := .agg (.it .i64 e.time :: Zcu e.item)
theorem Uz (e : It.Entry) (h : Iz e.item) : AC prog 50 [Az e] [] (.st (AB e)) [] := by
 refine Ai [80, 47, 68, 81] [] func50 ?_;unfold AB;have kt := Jk e.time;have kr := H8 e.item h;have kb := IA e.item h;have hbl := M2 e.item;cases ht : It.isTime e.time with
 | false =>
  rw [ht] at kt;refine run ?_;refine cp kt ?_;refine run ?_;exact Ab
 | true =>
  rw [ht] at kt;have hti : 0 ≤ e.time ∧ e.time ≤ 1099511627776 := AZ.1 ht;have kn := Cf e.time (by omega) (by omega)
  have hnl := Ak e.time (by omega)
  generalize It.bytes e.item = bs at *;generalize Ah e.time = nt at *;cases hr : It.right e.item with
  | false =>
   rw [hr] at kr;refine run ?_;refine cp kt ?_;refine run ?_;refine cp kr ?_;refine run ?_;exact Ab
  | true =>
   rw [hr] at kr;refine run ?_;refine cp kt ?_;refine run ?_;refine cp kr ?_;refine run ?_;refine cp kn ?_;refine run ?_;refine cp kb ?_;refine run ?_;exact Ab
theorem Za0 (s : By) (hs : s.length ≤ 1000000) : AC prog 37 [.st s] [] (.tup [Az (Dv s).1, .bo (Dv s).2]) [] := by
 refine Ai [77, 80] [] func37 ?_;refine run ?_;refine Au (AC.newAt (Mm s) _) ?_;obtain ⟨k, x0, e0, b0, d0, k0⟩ := BI ⟨s, false⟩ hs;obtain ⟨tt, x1, e1⟩ : ∃ tt x1, x0.take x0.rest.length = (tt, x1) := ⟨_, _, rfl⟩
 have htl := JQ x0 x0.rest.length;have hta := JR x0 x0.rest.length (by omega) (by omega)
 rw [e1] at hta htl;simp only at hta htl
 have hra := ZaX tt (by omega)
 have hread : Dv s = if (It.read tt).2 = true ∧ It.isTime k = true then (⟨k, (It.read tt).1⟩, true) else (MN, false) := by
  unfold Dv;simp only [e0, e1]
 generalize It.read tt = q at *;obtain ⟨i, ok⟩ := q;simp only at hread hra
 have kt := Jk k;generalize It.isTime k = tm at *;refine run ?_;refine c1 1 k0 ?_;refine run ?_;refine c1 1 (Ku x0) ?_;refine run ?_;refine c1 1 hta ?_;refine run ?_;refine cp hra ?_;cases ok with
 | false =>
  rw [if_neg (fun h => by cases h.1)] at hread
  rw [hread];refine run ?_;exact AH
 | true =>
  refine run ?_;refine cp kt ?_;cases tm with
  | false =>
   rw [if_neg (fun h => by cases h.2)] at hread
   rw [hread];refine run ?_;exact AH
  | true =>
   rw [if_pos ⟨rfl, rfl⟩] at hread;rw [hread];refine run ?_;exact AH
end Pe
end
end Go.Proofs.YtldohjjoicmfpaaGreatDoor
