/- Package item in plain terms: claims, ballots, decisions, items, entries: which are right, their bytes, reading back. Nothing of the program. -/
import Derived.Test.YtaphpbiaoofmkaaGreatDoorActR
set_option linter.unusedSectionVars false
set_option linter.unusedVariables false
set_option linter.unusedSimpArgs false
namespace Go.Proofs.YtaphpbiaoofmkaaGreatDoor.It
open Go Co Sg Ac
structure Claim where
 actor : By
 base : Int
 prev : By
 gen : Int
 home : Int
 pub : Int
 time : Int
 sig : Sig
 deriving DecidableEq
structure Ballot where
 server : Int
 actor : By
 gen : Int
 claim : By
 time : Int
 sig : Sig
 deriving DecidableEq
structure Decision where
 server : Int
 number : Int
 kind : Int
 actor : By
 object : By
 text : By
 to : List By
 n : Int
 frm : Int
 til : Int
 sig : Sig
 deriving DecidableEq
structure Item where
 kind : Int
 act : Ac.Act
 claim : Claim
 ballot : Ballot
 decision : Decision
 deriving DecidableEq
structure Entry where
 time : Int
 item : Item
 deriving DecidableEq
def claim0 : Claim := ⟨[], 0, [], 0, 0, 0, 0, sig0⟩
def ballot0 : Ballot := ⟨0, [], 0, [], 0, sig0⟩
def decision0 : Decision := ⟨0, 0, 0, [], [], [], [], 0, 0, 0, sig0⟩
def item0 : Item := ⟨0, act0, claim0, ballot0, decision0⟩
def entry0 : Entry := ⟨0, item0⟩
def isServer (n : Int) : Bool := wi n 0 19
def isTime (n : Int) : Bool := wi n 0 1099511627776
def rightClaim (c : Claim) : Bool := idR c.actor && wi c.base 1 1073741824 && dig c.prev && wi c.gen 0 1073741824 && isServer c.home && wi c.pub 1 2305843009213693950 && isTime c.time && sigR c.sig
def rightBallot (b : Ballot) : Bool := isServer b.server && idR b.actor && wi b.gen 0 1073741824 && dig b.claim && isTime b.time && sigR b.sig
def plainD (d : Decision) : Bool := decide (d.to = []) && decide (d.n = 0)
def rightTerms (d : Decision) : Bool :=
 if d.kind = 0 ∨ d.kind = 1 ∨ d.kind = 4 ∨ d.kind = 6 ∨ d.kind = 7 then idR d.actor && decide (d.object = []) && short d.text && plainD d
 else if d.kind = 2 ∨ d.kind = 3 ∨ d.kind = 5 then decide (d.actor = []) && dig d.object && short d.text && plainD d
 else if d.kind = 8 then decide (d.actor = []) && decide (d.object = []) && short d.text && idsR d.to && wi d.n 1 d.to.length
 else if d.kind = 9 then decide (d.actor = []) && decide (d.object = []) && decide (d.text.length ≤ 4096) && plainD d
 else false
def rightDecision (d : Decision) : Bool := isServer d.server && wi d.number 0 1073741824 && isTime d.frm && isTime d.til && decide (d.frm < d.til) && rightTerms d && sigR d.sig
def rest (it : Item) : Item :=
 if it.kind = 0 then { it with kind := 0, act := act0 } else if it.kind = 1 then { it with kind := 0, claim := claim0 } else if it.kind = 2 then { it with kind := 0, ballot := ballot0 } else if it.kind = 3 then { it with kind := 0, decision := decision0 } else { it with kind := 0 }
def rightField (it : Item) : Bool := if it.kind = 0 then Ac.right it.act else if it.kind = 1 then rightClaim it.claim else if it.kind = 2 then rightBallot it.ballot else if it.kind = 3 then rightDecision it.decision else false
def right (it : Item) : Bool := rightField it && decide (rest it = item0)
def claimB (c : Claim) : By := text c.actor ++ numI c.base ++ text c.prev ++ numI c.gen ++ numI c.home ++ numI c.pub ++ numI c.time
def ballotB (b : Ballot) : By := numI b.server ++ text b.actor ++ numI b.gen ++ text b.claim ++ numI b.time
def decisionB (d : Decision) : By := numI d.server ++ numI d.number ++ numI d.kind ++ text d.actor ++ text d.object ++ text d.text ++ list d.to ++ numI d.n ++ numI d.frm ++ numI d.til
abbrev wClaim : By := [99, 108, 97, 105, 109]
abbrev wBallot : By := [98, 97, 108, 108, 111, 116]
abbrev wDecision : By := [100, 101, 99, 105, 115, 105, 111, 110]
def sigOf (it : Item) : Sig := if it.kind = 1 then it.claim.sig else if it.kind = 2 then it.ballot.sig else it.decision.sig
def coreOf (it : Item) : By := if it.kind = 1 then claimB it.claim else if it.kind = 2 then ballotB it.ballot else decisionB it.decision
def nameOf (it : Item) : By := if it.kind = 1 then wClaim else if it.kind = 2 then wBallot else wDecision
def message (it : Item) : By := text (nameOf it) ++ coreOf it
def signedBy (p : Int) (it : Item) : Bool := verify p (message it) (sigOf it)
def bodyB (it : Item) : By := if it.kind = 0 then Ac.bytes it.act else coreOf it ++ (numI (sigOf it).e ++ numI (sigOf it).s)
def bytes (it : Item) : By := if right it then numI it.kind ++ bodyB it else []
def rSig (x : R) : Sig × R := (⟨(rNum x).1, (rNum (rNum x).2).1⟩, (rNum (rNum x).2).2)
def rClaim (x : R) : Claim × R :=
 let actor := x.text
 let base := rNum actor.2
 let prev := base.2.text
 let gen := rNum prev.2
 let home := rNum gen.2
 let pub := rNum home.2
 let time := rNum pub.2
 let s := rSig time.2
 (⟨actor.1, base.1, prev.1, gen.1, home.1, pub.1, time.1, s.1⟩, s.2)
def rBallot (x : R) : Ballot × R :=
 let server := rNum x
 let actor := server.2.text
 let gen := rNum actor.2
 let claim := gen.2.text
 let time := rNum claim.2
 let s := rSig time.2
 (⟨server.1, actor.1, gen.1, claim.1, time.1, s.1⟩, s.2)
def rDecision (x : R) : Decision × R :=
 let server := rNum x
 let number := rNum server.2
 let kind := rNum number.2
 let actor := kind.2.text
 let object := actor.2.text
 let text := object.2.text
 let to := text.2.list
 let n := rNum to.2
 let frm := rNum n.2
 let til := rNum frm.2
 let s := rSig til.2
 (⟨server.1, number.1, kind.1, actor.1, object.1, text.1, to.1, n.1, frm.1, til.1, s.1⟩, s.2)
def rItem (x : R) : Item × Bool × R :=
 let k := rNum x
 if k.1 = 0 then
  let t := k.2.take k.2.rest.length
  let a := Ac.read t.1
  ({ item0 with act := a.1 }, a.2, t.2)
 else if k.1 = 1 then ({ item0 with kind := 1, claim := (rClaim k.2).1 }, true, (rClaim k.2).2)
 else if k.1 = 2 then ({ item0 with kind := 2, ballot := (rBallot k.2).1 }, true, (rBallot k.2).2)
 else if k.1 = 3 then ({ item0 with kind := 3, decision := (rDecision k.2).1 }, true, (rDecision k.2).2)
 else ({ item0 with kind := k.1 }, true, k.2)
def read (s : By) : Item × Bool :=
 let x := rItem ⟨s, false⟩
 if x.2.1 = true ∧ x.2.2.done = true ∧ s ≠ [] ∧ bytes x.1 = s then (x.1, true) else (item0, false)
def digest (it : Item) : By := if bytes it = [] then [] else Sm.sha (bytes it)
def ofAct (a : Ac.Act) : Item := { item0 with act := a }
def ofClaim (c : Claim) : Item := { item0 with kind := 1, claim := c }
def ofBallot (b : Ballot) : Item := { item0 with kind := 2, ballot := b }
def ofDecision (d : Decision) : Item := { item0 with kind := 3, decision := d }
def signClaim (k : Key) (c : Claim) : Claim := { c with sig := sign k (message (ofClaim c)) }
def signBallot (k : Key) (b : Ballot) : Ballot := { b with sig := sign k (message (ofBallot b)) }
def signDecision (k : Key) (d : Decision) : Decision := { d with sig := sign k (message (ofDecision d)) }
def claimed (p : Int) (c : Claim) : Bool := signedBy p (ofClaim c)
def serverOf (it : Item) : Int := if it.kind = 2 then it.ballot.server else it.decision.server
def signed (ps : List Int) (it : Item) : Bool :=
 if right it then (if it.kind = 2 ∨ it.kind = 3 then decide (serverOf it < ps.length) && signedBy (ps.getD (serverOf it).toNat 0) it else true) else false
def entryB (e : Entry) : By := if isTime e.time && right e.item then numI e.time ++ bytes e.item else []
def readEntry (s : By) : Entry × Bool :=
 let t := rNum ⟨s, false⟩
 let r := read (t.2.take t.2.rest.length).1
 if r.2 = true ∧ isTime t.1 = true then (⟨t.1, r.1⟩, true) else (entry0, false)
theorem right_act {it : Item} (h0 : it.kind = 0) : right it = true ↔ Ac.right it.act = true ∧ it.claim = claim0 ∧ it.ballot = ballot0 ∧ it.decision = decision0 := by
 obtain ⟨k, a, c, b, d⟩ := it
 simp only at h0
 subst h0
 simp [right, rightField, rest, item0]
theorem right_claim {it : Item} (h0 : it.kind = 1) : right it = true ↔ rightClaim it.claim = true ∧ it.act = act0 ∧ it.ballot = ballot0 ∧ it.decision = decision0 := by
 obtain ⟨k, a, c, b, d⟩ := it
 simp only at h0
 subst h0
 simp [right, rightField, rest, item0]
theorem right_ballot {it : Item} (h0 : it.kind = 2) : right it = true ↔ rightBallot it.ballot = true ∧ it.act = act0 ∧ it.claim = claim0 ∧ it.decision = decision0 := by
 obtain ⟨k, a, c, b, d⟩ := it
 simp only at h0
 subst h0
 simp [right, rightField, rest, item0]
theorem right_decision {it : Item} (h0 : it.kind = 3) : right it = true ↔ rightDecision it.decision = true ∧ it.act = act0 ∧ it.claim = claim0 ∧ it.ballot = ballot0 := by
 obtain ⟨k, a, c, b, d⟩ := it
 simp only at h0
 subst h0
 simp [right, rightField, rest, item0]
theorem right_kind {it : Item} (h : right it = true) : it.kind = 0 ∨ it.kind = 1 ∨ it.kind = 2 ∨ it.kind = 3 := by
 unfold right rightField at h
 rw [Bool.and_eq_true] at h
 have h := h.1
 split at h
 ·omega
 split at h
 ·omega
 split at h
 ·omega
 split at h
 ·omega
 ·cases h
structure SmC (c : Claim) : Prop where
 actor : c.actor.length = 16
 base : 1 ≤ c.base ∧ c.base ≤ 1073741824
 prev : c.prev.length = 32
 gen : 0 ≤ c.gen ∧ c.gen ≤ 1073741824
 home : 0 ≤ c.home ∧ c.home ≤ 19
 pub : 1 ≤ c.pub ∧ c.pub ≤ 2305843009213693950
 time : 0 ≤ c.time ∧ c.time ≤ 1099511627776
 sig : sigR c.sig = true
theorem claim_sm {c : Claim} (h : rightClaim c = true) : SmC c := by
 simp only [rightClaim, isServer, isTime, Bool.and_eq_true, wi_iff] at h
 obtain ⟨⟨⟨⟨⟨⟨⟨h1, h2⟩, h3⟩, h4⟩, h5⟩, h6⟩, h7⟩, h8⟩ := h
 exact ⟨idR_len h1, h2, of_decide_eq_true h3, h4, h5, h6, h7, h8⟩
structure SmB (b : Ballot) : Prop where
 server : 0 ≤ b.server ∧ b.server ≤ 19
 actor : b.actor.length = 16
 gen : 0 ≤ b.gen ∧ b.gen ≤ 1073741824
 claim : b.claim.length = 32
 time : 0 ≤ b.time ∧ b.time ≤ 1099511627776
 sig : sigR b.sig = true
theorem ballot_sm {b : Ballot} (h : rightBallot b = true) : SmB b := by
 simp only [rightBallot, isServer, isTime, Bool.and_eq_true, wi_iff] at h
 obtain ⟨⟨⟨⟨⟨h1, h2⟩, h3⟩, h4⟩, h5⟩, h6⟩ := h
 exact ⟨h1, idR_len h2, h3, of_decide_eq_true h4, h5, h6⟩
structure SmD (d : Decision) : Prop where
 server : 0 ≤ d.server ∧ d.server ≤ 19
 number : 0 ≤ d.number ∧ d.number ≤ 1073741824
 kind : 0 ≤ d.kind ∧ d.kind ≤ 9
 actor : d.actor.length ≤ 16
 object : d.object.length ≤ 32
 text : d.text.length ≤ 4096
 to : d.to.length ≤ 64 ∧ ∀ s ∈ d.to, s.length = 16
 n : 0 ≤ d.n ∧ d.n ≤ 64
 frm : 0 ≤ d.frm ∧ d.frm ≤ 1099511627776
 til : 0 ≤ d.til ∧ d.til ≤ 1099511627776
 sig : sigR d.sig = true
theorem plainD_iff {d : Decision} : plainD d = true ↔ d.to = [] ∧ d.n = 0 := by simp [plainD]
theorem decision_sm {d : Decision} (h : rightDecision d = true) : SmD d := by
 simp only [rightDecision, isServer, isTime, Bool.and_eq_true, wi_iff] at h
 obtain ⟨⟨⟨⟨⟨⟨h1, h2⟩, h3⟩, h4⟩, h5⟩, h6⟩, h7⟩ := h
 have key : (0 ≤ d.kind ∧ d.kind ≤ 9) ∧ d.actor.length ≤ 16 ∧ d.object.length ≤ 32 ∧ d.text.length ≤ 4096 ∧ (d.to.length ≤ 64 ∧ ∀ s ∈ d.to, s.length = 16) ∧ (0 ≤ d.n ∧ d.n ≤ 64) := by
  unfold rightTerms at h6
  split at h6
  ·simp only [Bool.and_eq_true, decide_eq_true_eq, plainD_iff] at h6
   obtain ⟨⟨⟨a1, a2⟩, a3⟩, a4, a5⟩ := h6
   have := idR_len a1
   have := short_len a3
   exact ⟨by omega, by omega, by simp [a2], by omega, by simp [a4], by omega⟩
  split at h6
  ·simp only [Bool.and_eq_true, decide_eq_true_eq, plainD_iff] at h6
   obtain ⟨⟨⟨a1, a2⟩, a3⟩, a4, a5⟩ := h6
   have := short_len a3
   exact ⟨by omega, by simp [a1], dig_len a2, by omega, by simp [a4], by omega⟩
  split at h6
  ·simp only [Bool.and_eq_true, decide_eq_true_eq, wi_iff] at h6
   obtain ⟨⟨⟨⟨a1, a2⟩, a3⟩, a4⟩, a5⟩ := h6
   have := short_len a3
   have := idsR_len a4
   exact ⟨by omega, by simp [a1], by simp [a2], by omega, this, by omega⟩
  split at h6
  ·simp only [Bool.and_eq_true, decide_eq_true_eq, plainD_iff] at h6
   obtain ⟨⟨⟨a1, a2⟩, a3⟩, a4, a5⟩ := h6
   exact ⟨by omega, by simp [a1], by simp [a2], a3, by simp [a4], by omega⟩
  ·cases h6
 obtain ⟨k1, k2, k3, k4, k5, k6⟩ := key
 exact ⟨h1, h2, k1, k2, k3, k4, k5, k6, h3, h4, h7⟩
theorem sig_range {s : Sig} (h : sigR s = true) : (0 ≤ s.e ∧ s.e < 9223372036854775808) ∧ (0 ≤ s.s ∧ s.s < 9223372036854775808) := by
 simp only [sigR, Bool.and_eq_true, wi_iff] at h
 omega
theorem rSig_back (s : Sig) (r : By) (h : sigR s = true) : rSig ⟨numI s.e ++ (numI s.s ++ r), false⟩ = (s, ⟨r, false⟩) := by
 have := sig_range h
 unfold rSig
 rw [rNum_back _ _ (by omega) (by omega)]; simp only
 rw [rNum_back _ _ (by omega) (by omega)]
theorem rClaim_back {c : Claim} (h : SmC c) (r : By) : rClaim ⟨claimB c ++ (numI c.sig.e ++ (numI c.sig.s ++ r)), false⟩ = (c, ⟨r, false⟩) := by
 have h1 := h.actor; have h2 := h.base; have h3 := h.prev; have h4 := h.gen; have h5 := h.home; have h6 := h.pub; have h7 := h.time
 unfold rClaim claimB
 simp only [List.append_assoc]
 rw [text_back _ _ (by omega)]; simp only
 rw [rNum_back _ _ (by omega) (by omega)]; simp only
 rw [text_back _ _ (by omega)]; simp only
 rw [rNum_back _ _ (by omega) (by omega)]; simp only
 rw [rNum_back _ _ (by omega) (by omega)]; simp only
 rw [rNum_back _ _ (by omega) (by omega)]; simp only
 rw [rNum_back _ _ (by omega) (by omega)]; simp only
 rw [rSig_back _ _ h.sig]
theorem rBallot_back {b : Ballot} (h : SmB b) (r : By) : rBallot ⟨ballotB b ++ (numI b.sig.e ++ (numI b.sig.s ++ r)), false⟩ = (b, ⟨r, false⟩) := by
 have h1 := h.actor; have h2 := h.server; have h3 := h.claim; have h4 := h.gen; have h5 := h.time
 unfold rBallot ballotB
 simp only [List.append_assoc]
 rw [rNum_back _ _ (by omega) (by omega)]; simp only
 rw [text_back _ _ (by omega)]; simp only
 rw [rNum_back _ _ (by omega) (by omega)]; simp only
 rw [text_back _ _ (by omega)]; simp only
 rw [rNum_back _ _ (by omega) (by omega)]; simp only
 rw [rSig_back _ _ h.sig]
theorem rDecision_back {d : Decision} (h : SmD d) (r : By) : rDecision ⟨decisionB d ++ (numI d.sig.e ++ (numI d.sig.s ++ r)), false⟩ = (d, ⟨r, false⟩) := by
 have h1 := h.actor; have h2 := h.server; have h3 := h.number; have h4 := h.kind; have h5 := h.object; have h6 := h.text; have h7 := h.to; have h8 := h.n; have h9 := h.frm; have h10 := h.til
 unfold rDecision decisionB
 simp only [List.append_assoc]
 rw [rNum_back _ _ (by omega) (by omega)]; simp only
 rw [rNum_back _ _ (by omega) (by omega)]; simp only
 rw [rNum_back _ _ (by omega) (by omega)]; simp only
 rw [text_back _ _ (by omega)]; simp only
 rw [text_back _ _ (by omega)]; simp only
 rw [text_back _ _ (by omega)]; simp only
 rw [list_back _ _ (by omega) (fun s hs => by have := h7.2 s hs; omega)]; simp only
 rw [rNum_back _ _ (by omega) (by omega)]; simp only
 rw [rNum_back _ _ (by omega) (by omega)]; simp only
 rw [rNum_back _ _ (by omega) (by omega)]; simp only
 rw [rSig_back _ _ h.sig]
theorem bytes_right {it : Item} (h : right it = true) : bytes it = numI it.kind ++ bodyB it := by unfold bytes; rw [if_pos h]
theorem bytes_wrong {it : Item} (h : right it = false) : bytes it = [] := by unfold bytes; simp [h]
theorem bytes_ne {it : Item} (h : right it = true) : bytes it ≠ [] := by
 rw [bytes_right h]
 have hk := right_kind h
 intro e
 exact numI_ne (by omega) (List.append_eq_nil_iff.1 e).1
theorem take_all (x : R) (h : x.bad = false) : x.take x.rest.length = (x.rest, ⟨[], false⟩) := by
 unfold R.take
 rw [if_neg (by simp [h]), h]
 simp
theorem rItem_back {it : Item} (h : right it = true) (r : By) (hr : it.kind = 0 → r = []) : rItem ⟨bytes it ++ r, false⟩ = (it, true, ⟨r, false⟩) := by
 rw [bytes_right h]
 obtain ⟨k, a, c, b, d⟩ := it
 rcases right_kind h with e | e | e | e <;> simp only at e <;> subst e
 ·obtain ⟨q1, q2, q3, q4⟩ := (right_act rfl).1 h
  simp only at q1 q2 q3 q4
  subst q2 q3 q4
  obtain rfl := hr rfl
  unfold rItem
  rw [List.append_nil, rNum_back 0 _ (by omega) (by omega)]
  simp only [if_true]
  rw [take_all _ rfl]
  simp only [bodyB, if_true]
  rw [read_bytes q1]
  rfl
 ·obtain ⟨q1, q2, q3, q4⟩ := (right_claim rfl).1 h
  simp only at q1 q2 q3 q4
  subst q2 q3 q4
  have hb : bodyB ⟨1, act0, c, ballot0, decision0⟩ = claimB c ++ (numI c.sig.e ++ numI c.sig.s) := rfl
  unfold rItem
  rw [hb, List.append_assoc, rNum_back 1 _ (by omega) (by omega)]
  simp only [List.append_assoc]
  rw [rClaim_back (claim_sm q1)]
  rfl
 ·obtain ⟨q1, q2, q3, q4⟩ := (right_ballot rfl).1 h
  simp only at q1 q2 q3 q4
  subst q2 q3 q4
  have hb : bodyB ⟨2, act0, claim0, b, decision0⟩ = ballotB b ++ (numI b.sig.e ++ numI b.sig.s) := rfl
  unfold rItem
  rw [hb, List.append_assoc, rNum_back 2 _ (by omega) (by omega)]
  simp only [List.append_assoc]
  rw [rBallot_back (ballot_sm q1)]
  rfl
 ·obtain ⟨q1, q2, q3, q4⟩ := (right_decision rfl).1 h
  simp only at q1 q2 q3 q4
  subst q2 q3 q4
  have hb : bodyB ⟨3, act0, claim0, ballot0, d⟩ = decisionB d ++ (numI d.sig.e ++ numI d.sig.s) := rfl
  unfold rItem
  rw [hb, List.append_assoc, rNum_back 3 _ (by omega) (by omega)]
  simp only [List.append_assoc]
  rw [rDecision_back (decision_sm q1)]
  rfl
theorem read_bytes {it : Item} (h : right it = true) : read (bytes it) = (it, true) := by
 have := rItem_back h [] (fun _ => rfl)
 rw [List.append_nil] at this
 unfold read
 simp only [this]
 exact if_pos ⟨by trivial, rfl, bytes_ne h, by trivial⟩
theorem read_right {s : By} (h : (read s).2 = true) : right (read s).1 = true ∧ bytes (read s).1 = s := by
 unfold read at h ⊢
 simp only at h ⊢
 split at h
 ·rename_i hc
  rw [if_pos hc]
  obtain ⟨_, _, h3, h4⟩ := hc
  refine ⟨?_, h4⟩
  refine Classical.byContradiction fun hn => ?_
  rw [bytes_wrong (by simpa using hn)] at h4
  exact h3 h4.symm
 ·cases h
theorem read_wrong {s : By} (h : (read s).2 = false) : (read s).1 = item0 := by
 unfold read at h ⊢
 simp only at h ⊢
 split at h
 ·cases h
 ·rename_i hc
  rw [if_neg hc]
theorem bytes_inj {a b : Item} (ha : right a = true) (hb : right b = true) (h : bytes a = bytes b) : a = b := by
 have h1 := read_bytes ha
 rw [h, read_bytes hb] at h1
 exact (Prod.ext_iff.1 h1).1.symm
theorem bytes_prefix {a b : Item} {r : By} (ha : right a = true) (hb : right b = true) (h : bytes a = bytes b ++ r) : r = [] ∧ a = b := by
 have ka := right_kind ha
 have kb := right_kind hb
 have hk : a.kind = b.kind := by
  rw [bytes_right ha, bytes_right hb, List.append_assoc] at h
  have h1 := rNum_back a.kind (bodyB a) (by omega) (by omega)
  rw [h, rNum_back b.kind _ (by omega) (by omega)] at h1
  exact (Prod.ext_iff.1 h1).1.symm
 by_cases h0 : b.kind = 0
 ·have a0 : a.kind = 0 := by omega
  obtain ⟨q1, q2, q3, q4⟩ := (right_act a0).1 ha
  obtain ⟨p1, p2, p3, p4⟩ := (right_act h0).1 hb
  rw [bytes_right ha, bytes_right hb, List.append_assoc, hk] at h
  have h := List.append_cancel_left h
  unfold bodyB at h
  rw [if_pos a0, if_pos h0] at h
  obtain ⟨e1, e2⟩ := Ac.bytes_prefix q1 p1 h
  refine ⟨e1, ?_⟩
  obtain ⟨k, a, c, d, e⟩ := a
  obtain ⟨k', a', c', d', e'⟩ := b
  simp only at *
  subst hk e2 q2 q3 q4 p2 p3 p4
  rfl
 ·have h1 := rItem_back ha [] (fun _ => rfl)
  have h2 := rItem_back hb r (fun e => absurd e h0)
  rw [List.append_nil, h, h2] at h1
  obtain ⟨e1, e2⟩ := Prod.ext_iff.1 h1
  have e3 := (Prod.ext_iff.1 e2).2
  injection e3 with e4
  exact ⟨e4, e1.symm⟩
theorem read_more {a : Item} {r : By} (ha : right a = true) (hr : r ≠ []) : (read (bytes a ++ r)).2 = false := by
 cases h : (read (bytes a ++ r)).2 with
 | false => rfl
 | true =>
  obtain ⟨h1, h2⟩ := read_right h
  exact absurd (bytes_prefix h1 ha h2).1 hr
theorem read_less {a : Item} {s r : By} (ha : right a = true) (hr : r ≠ []) (e : bytes a = s ++ r) : (read s).2 = false := by
 cases h : (read s).2 with
 | false => rfl
 | true =>
  obtain ⟨h1, h2⟩ := read_right h
  rw [← h2] at e
  exact absurd (bytes_prefix ha h1 e).1 hr
theorem read_nil : (read []).2 = false := by
 cases h : (read []).2 with
 | false => rfl
 | true =>
  obtain ⟨h1, h2⟩ := read_right h
  exact absurd h2 (bytes_ne h1)
theorem entryB_ne {e : Entry} : (entryB e ≠ []) ↔ (isTime e.time = true ∧ right e.item = true) := by
 unfold entryB
 constructor
 ·intro h
  split at h
  ·rename_i hc; simpa using hc
  ·exact absurd rfl h
 ·rintro ⟨h1, h2⟩
  rw [if_pos (by rw [h1, h2]; rfl)]
  intro e
  exact bytes_ne h2 (List.append_eq_nil_iff.1 e).2
theorem readEntry_back {e : Entry} (h1 : isTime e.time = true) (h2 : right e.item = true) : readEntry (entryB e) = (e, true) := by
 have ht : 0 ≤ e.time ∧ e.time ≤ 1099511627776 := wi_iff.1 h1
 have hb : entryB e = numI e.time ++ bytes e.item := by unfold entryB; rw [h1, h2]; rfl
 rw [hb]
 unfold readEntry
 rw [rNum_back _ _ (by omega) (by omega)]
 simp only
 rw [take_all _ rfl, read_bytes h2]
 exact if_pos ⟨rfl, h1⟩
end Go.Proofs.YtaphpbiaoofmkaaGreatDoor.It
