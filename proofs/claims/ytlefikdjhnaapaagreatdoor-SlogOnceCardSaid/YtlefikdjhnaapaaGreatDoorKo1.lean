/- Several texts in one, without what this claim does not use (tools/shake.py). -/
import Derived.Test.YtlefikdjhnaapaaGreatDoorKc1
import Derived.Test.YtlefikdjhnaapaaGreatDoorKc2
import Derived.Test.YtlefikdjhnaapaaGreatDoorKc3
import Derived.Test.YtlefikdjhnaapaaGreatDoorKc4
import Derived.Test.YtlefikdjhnaapaaGreatDoorKc5
import Derived.Test.YtlefikdjhnaapaaGreatDoorKc6
import Derived.Test.YtlefikdjhnaapaaGreatDoorKc7
import Derived.MapKept
import Derived.Laws.MakeOwn
import Derived.Still
import Derived.Deep.LoopGhost
import Derived.Lib.AppendStr
import Derived.RangeFuncNested
import Derived.RangeFuncRecord
import Derived.OrdersIn
import Derived.TacticsIn
import Derived.WalkKit
import Derived.ProofKit
import Derived.WalkSpells
import Derived.WalkLawsBesides
import Derived.Laws.OwnMore
import Derived.Laws.IdiomStrings
import Derived.Deep.Draws
import Derived.Deep.OwnRows
import Derived.StillTailTactics
import Derived.Laws.StructEq
import Derived.Laws.Strings
import Derived.Laws.PanicsMore
import Derived.Laws.Tables
import Derived.Laws.Entries
import Derived.Below
import Derived.ChangeSame
import Derived.OpenShut
import Derived.ShutString
import Derived.Deep.Strs
import Derived.SizedLaws
import Derived.Deep.Slices
import Derived.ChangeArms
import Derived.Test.YtlefikdjhnaapaaGreatDoorProg
import Derived.KernelRfl
import Derived.Test.YtlefikdjhnaapaaGreatDoorChecked
import Derived.Lib.Hide
import Derived.BigRegion
import Derived.RegionTactic
import Derived.BigQuiet
import Derived.Deep.RegionLaw
import Derived.Deep.RegionHeld3
import Derived.Shelf.Strings.Builder1
import Derived.Shelf.Strings.Builder2
import Derived.Shelf.Strings.OnBuilder
import Derived.Shelf.Small.Bits
import Derived.Shelf.Strconv.Itoa0
import Derived.Shelf.Bits.Mul64
import Derived.Ground.Names2Prog
import Derived.Shelf.Slices.Clone
import Derived.Ground.SlgnProg
import Derived.Shelf.SlicesE.Clone
import Derived.Lib.DecodeN
set_option linter.unusedSectionVars false
set_option linter.unusedVariables false
set_option linter.unusedSimpArgs false
section
namespace Go.Proofs.YtlefikdjhnaapaaGreatDoor.Pe
open Go Go.RowKit
variable [Tab]
section
variable {P : Program} {N N0 : Nat} {w0 : World} {g0 : Gh} {pf rf : List FuncId}
end
section
variable {P : Program}
end
end Go.Proofs.YtlefikdjhnaapaaGreatDoor.Pe
namespace Go.Proofs.YtlefikdjhnaapaaGreatDoor.Pe
open Go Go.RowKit
variable [Tab]
section
variable (P : Program) (pf rf : List FuncId) (N0 : Nat) (Q : AX → Env → Store → Prop) (next : Env → Store → Prop) (e : Env) (S : Store) (K : AV → Store → Prop)
end
section
variable {P : Program}
end
theorem round_mk' {N0 : Nat} {I : Nat → Env → Store → Prop} {n : Nat} {e : Env} {S : Store} (n' : Nat) (e' : Env) (S' : Store) (hw : Weak N0 e S e' S') (hn : n' < n) (h : I n' e' S') : roundP N0 I n e S := ⟨n', e', S', hn, hw, h⟩
end Go.Proofs.YtlefikdjhnaapaaGreatDoor.Pe
namespace Go.Proofs.YtlefikdjhnaapaaGreatDoor.Pe
open Go Go.RowKit
variable [Tab]
end Go.Proofs.YtlefikdjhnaapaaGreatDoor.Pe
namespace Go.Proofs.YtlefikdjhnaapaaGreatDoor.Pe
open Go
set_option maxRecDepth 100000
end Go.Proofs.YtlefikdjhnaapaaGreatDoor.Pe
end
section
namespace Go.Proofs.YtlefikdjhnaapaaGreatDoor.Co
open Go
theorem texts_rest : ∀ (n : Nat) (x : R), (x.texts n).2.rest.length ≤ x.rest.length ∧ (∀ s ∈ (x.texts n).1, s.length ≤ x.rest.length) ∧ (x.texts n).1.length ≤ n
 | 0, x => ⟨Nat.le_refl _, by simp [R.texts], Nat.le_refl _⟩
 | n + 1, x => by
  unfold R.texts
  split
  ·exact ⟨Nat.le_refl _, by simp, Nat.zero_le _⟩
  ·have h1 := texts_rest n x.text.2
   have h2 := text_rest x
   refine ⟨by show (R.texts n x.text.2).2.rest.length ≤ _; omega, fun s hs => ?_, by simp only [List.length_cons]; omega⟩
   rcases List.mem_cons.1 hs with rfl | hs
   ·exact h2.2
   ·have := h1.2.1 s hs; omega
end Go.Proofs.YtlefikdjhnaapaaGreatDoor.Co
namespace Go.Proofs.YtlefikdjhnaapaaGreatDoor.Co
open Go
theorem texts_back : ∀ (l : List By) (rest : By), (∀ s ∈ l, s.length < 2 ^ 63) → R.texts l.length ⟨(l.map text).flatten ++ rest, false⟩ = (l, ⟨rest, false⟩)
 | [], rest, _ => rfl
 | s :: l, rest, h => by
  rw [List.length_cons, List.map_cons, List.flatten_cons, List.append_assoc]
  unfold R.texts
  rw [text_back _ _ (h s (by simp))]
  simp only [Bool.false_eq_true, if_false]
  rw [texts_back l rest fun x hx => h x (by simp [hx])]
theorem flat_ge : ∀ (l : List By), l.length ≤ (l.map text).flatten.length
 | [] => Nat.le_refl _
 | s :: l => by
  have := flat_ge l
  have h2 := num_len s.length
  have h3 : (text s).length = (num s.length).length + s.length := by unfold text; rw [List.length_append]
  rw [List.map_cons, List.flatten_cons, List.length_append, List.length_cons]
  omega
theorem list_back (l : List By) (rest : By) (hl : l.length < 2 ^ 63) (h : ∀ s ∈ l, s.length < 2 ^ 63) : R.list ⟨list l ++ rest, false⟩ = (l, ⟨rest, false⟩) := by
 unfold R.list list
 rw [List.append_assoc, num_back _ _ _ hl]
 have hc : ¬ ((l.map text).flatten ++ rest).length < l.length := by have := flat_ge l; rw [List.length_append]; omega
 simp only [if_neg hc, texts_back l rest h]
 simp
end Go.Proofs.YtlefikdjhnaapaaGreatDoor.Co
end
section
namespace Go.Proofs.YtlefikdjhnaapaaGreatDoor.Sg
open Go Co
abbrev wKey : By := [107, 101, 121]
def keySeed (seed : By) : Key := keyOf (reduce (hash (text wKey ++ text seed)))
theorem keySeed_right (seed : By) : (keySeed seed).right = true := by
 have := reduce_lt (hash (text wKey ++ text seed))
 exact keyOf_right (by omega) (by omega)
end Go.Proofs.YtlefikdjhnaapaaGreatDoor.Sg
end
section
namespace Go.Proofs.YtlefikdjhnaapaaGreatDoor.Ac
open Go Co Sg
end Go.Proofs.YtlefikdjhnaapaaGreatDoor.Ac
namespace Go.Proofs.YtlefikdjhnaapaaGreatDoor.Ac
open Go Co Sg
theorem rBox_back (b : Box) (rest : By) (h : b.nonce.length < 2 ^ 63 ∧ b.data.length < 2 ^ 63 ∧ b.tag.length < 2 ^ 63) : rBox ⟨boxB b ++ rest, false⟩ = (b, ⟨rest, false⟩) := by
 unfold rBox boxB
 simp only [List.append_assoc]
 rw [text_back _ _ h.1]
 simp only
 rw [text_back _ _ h.2.1]
 simp only
 rw [text_back _ _ h.2.2]
theorem rWrap_back (w : Wrap) (rest : By) (h : wrapR w = true) : rWrap ⟨wrapB w ++ rest, false⟩ = (w, ⟨rest, false⟩) := by
 simp only [wrapR, pub, Bool.and_eq_true, wi_iff] at h
 have hb := sealedB_len h.2
 unfold rWrap wrapB
 simp only [List.append_assoc]
 rw [rNum_back _ _ (by omega) (by omega)]
 simp only
 rw [rNum_back _ _ (by omega) (by omega)]
 simp only
 rw [rBox_back _ _ (by omega)]
theorem rWrapsN_back : ∀ (l : List Wrap) (rest : By), rest ≠ [] → (∀ w ∈ l, wrapR w = true) → rWrapsN l.length ⟨(l.map wrapB).flatten ++ rest, false⟩ = (some l, ⟨rest, false⟩)
 | [], rest, _, _ => rfl
 | w :: l, rest, hr, h => by
  rw [List.length_cons, List.map_cons, List.flatten_cons, List.append_assoc]
  unfold rWrapsN
  rw [rWrap_back w _ (h w (by simp))]
  simp only
  rw [if_neg (by simp [hr]), rWrapsN_back l rest hr fun x hx => h x (by simp [hx])]
  rfl
theorem rWraps_back (l : List Wrap) (rest : By) (hl : l.length < 2 ^ 63) (hr : rest ≠ []) (h : ∀ w ∈ l, wrapR w = true) : rWraps ⟨num l.length ++ ((l.map wrapB).flatten ++ rest), false⟩ = (l, ⟨rest, false⟩) := by
 unfold rWraps
 rw [num_back _ _ _ hl]
 simp only
 rw [rWrapsN_back l rest hr h]
 rfl
theorem rAct_back {a : Act} (h : Sm a) (rest : By) : rAct ⟨tailB a rest, false⟩ = (a, ⟨rest, false⟩) := by
 have hs := h.sig
 simp only [sigR, Bool.and_eq_true, wi_iff] at hs
 have h1 := h.author; have h2 := h.seq; have h3 := h.prev; have h4 := h.kind; have h5 := h.time; have h6 := h.object; have h7 := h.target; have h8 := h.scope; have h9 := h.group
 have h10 := h.to; have h11 := h.text; have h12 := h.body; have h13 := h.epoch; have h14 := h.wraps; have h15 := h.n; have h16 := h.m
 unfold rAct tailB
 simp only
 rw [text_back _ _ (by omega)]; simp only
 rw [rNum_back _ _ (by omega) (by omega)]; simp only
 rw [text_back _ _ (by omega)]; simp only
 rw [rNum_back _ _ (by omega) (by omega)]; simp only
 rw [rNum_back _ _ (by omega) (by omega)]; simp only
 rw [text_back _ _ (by omega)]; simp only
 rw [text_back _ _ (by omega)]; simp only
 rw [rNum_back _ _ (by omega) (by omega)]; simp only
 rw [text_back _ _ (by omega)]; simp only
 rw [list_back _ _ (by omega) (fun s hs => by have := h10.2 s hs; omega)]; simp only
 rw [text_back _ _ (by omega)]; simp only
 rw [rBox_back _ _ (by omega)]; simp only
 rw [rNum_back _ _ (by omega) (by omega)]; simp only
 rw [rWraps_back _ _ (by omega) (fun e => absurd (List.append_eq_nil_iff.1 e).1 (numI_ne h15.1)) h14.2]; simp only
 rw [rNum_back _ _ (by omega) (by omega)]; simp only
 rw [rNum_back _ _ (by omega) (by omega)]; simp only
 rw [rNum_back _ _ (by omega) (by omega)]; simp only
 rw [rNum_back _ _ (by omega) (by omega)]
theorem text_wAct (rest : By) : R.text ⟨text wAct ++ rest, false⟩ = (wAct, ⟨rest, false⟩) := text_back _ _ (by simp)
theorem read_bytes {a : Act} (h : right a = true) : read (bytes a) = (a, true) := by
 unfold read
 have hb := bytes_right h
 simp only
 rw [hb, text_wAct]
 simp only
 rw [rAct_back (right_sm h)]
 exact if_pos ⟨by trivial, rfl, hb⟩
theorem read_right {s : By} (h : (read s).2 = true) : right (read s).1 = true ∧ bytes (read s).1 = s := by
 unfold read at h ⊢
 simp only at h ⊢
 split at h
 ·rename_i hc
  rw [if_pos hc]
  refine ⟨?_, hc.2.2⟩
  refine Classical.byContradiction fun hn => ?_
  have hn : right (rAct (R.text ⟨s, false⟩).2).1 = false := by simpa using hn
  have h1 := hc.2.2
  rw [(bytes_wrong hn).1] at h1
  subst h1
  exact absurd hc.1 (by decide)
 ·cases h
theorem read_wrong {s : By} (h : (read s).2 = false) : (read s).1 = act0 := by
 unfold read at h ⊢
 simp only at h ⊢
 split at h
 ·cases h
 ·rename_i hc
  rw [if_neg hc]
end Go.Proofs.YtlefikdjhnaapaaGreatDoor.Ac
end
section
namespace Go.Proofs.YtlefikdjhnaapaaGreatDoor.It
open Go Co Sg Ac
def entry0 : Entry := ⟨0, item0⟩
def readEntry (s : By) : Entry × Bool :=
 let t := rNum ⟨s, false⟩
 let r := read (t.2.take t.2.rest.length).1
 if r.2 = true ∧ isTime t.1 = true then (⟨t.1, r.1⟩, true) else (entry0, false)
theorem rClaim_back {c : Claim} (h : SmC c) (r : By) : rClaim ⟨claimB c ++ (numI c.sig.e ++ (numI c.sig.s ++ r)), false⟩ = (c, ⟨r, false⟩) := by
 have h1 := h.actor; have h2 := h.base; have h3 := h.prev; have h4 := h.gen; have h5 := h.home; have h6 := h.pub; have h7 := h.time
 unfold rClaim claimB
 simp only [List.append_assoc]
 rw [text_back _ _ (by omega)]; simp only
 rw [rNum_back _ _ (by omega) (by omega)]; simp only
 rw [text_back _ _ (by omega)]; simp only
 rw [rNum_back _ _ (by omega) (by omega)]; simp only
 rw [rNum_back _ _ (by omega) (by omega)]; simp only
 rw [rNum_back _ _ (by omega) (by omega)]; simp only
 rw [rNum_back _ _ (by omega) (by omega)]; simp only
 rw [rSig_back _ _ h.sig]
theorem rBallot_back {b : Ballot} (h : SmB b) (r : By) : rBallot ⟨ballotB b ++ (numI b.sig.e ++ (numI b.sig.s ++ r)), false⟩ = (b, ⟨r, false⟩) := by
 have h1 := h.actor; have h2 := h.server; have h3 := h.claim; have h4 := h.gen; have h5 := h.time
 unfold rBallot ballotB
 simp only [List.append_assoc]
 rw [rNum_back _ _ (by omega) (by omega)]; simp only
 rw [text_back _ _ (by omega)]; simp only
 rw [rNum_back _ _ (by omega) (by omega)]; simp only
 rw [text_back _ _ (by omega)]; simp only
 rw [rNum_back _ _ (by omega) (by omega)]; simp only
 rw [rSig_back _ _ h.sig]
theorem rDecision_back {d : Decision} (h : SmD d) (r : By) : rDecision ⟨decisionB d ++ (numI d.sig.e ++ (numI d.sig.s ++ r)), false⟩ = (d, ⟨r, false⟩) := by
 have h1 := h.actor; have h2 := h.server; have h3 := h.number; have h4 := h.kind; have h5 := h.object; have h6 := h.text; have h7 := h.to; have h8 := h.n; have h9 := h.frm; have h10 := h.til
 unfold rDecision decisionB
 simp only [List.append_assoc]
 rw [rNum_back _ _ (by omega) (by omega)]; simp only
 rw [rNum_back _ _ (by omega) (by omega)]; simp only
 rw [rNum_back _ _ (by omega) (by omega)]; simp only
 rw [text_back _ _ (by omega)]; simp only
 rw [text_back _ _ (by omega)]; simp only
 rw [text_back _ _ (by omega)]; simp only
 rw [list_back _ _ (by omega) (fun s hs => by have := h7.2 s hs; omega)]; simp only
 rw [rNum_back _ _ (by omega) (by omega)]; simp only
 rw [rNum_back _ _ (by omega) (by omega)]; simp only
 rw [rNum_back _ _ (by omega) (by omega)]; simp only
 rw [rSig_back _ _ h.sig]
theorem rItem_back {it : Item} (h : right it = true) (r : By) (hr : it.kind = 0 → r = []) : rItem ⟨bytes it ++ r, false⟩ = (it, true, ⟨r, false⟩) := by
 rw [bytes_right h]
 obtain ⟨k, a, c, b, d⟩ := it
 rcases right_kind h with e | e | e | e <;> simp only at e <;> subst e
 ·obtain ⟨q1, q2, q3, q4⟩ := (right_act rfl).1 h
  simp only at q1 q2 q3 q4
  subst q2 q3 q4
  obtain rfl := hr rfl
  unfold rItem
  rw [List.append_nil, rNum_back 0 _ (by omega) (by omega)]
  simp only [if_true]
  rw [take_all _ rfl]
  simp only [bodyB, if_true]
  rw [read_bytes q1]
  rfl
 ·obtain ⟨q1, q2, q3, q4⟩ := (right_claim rfl).1 h
  simp only at q1 q2 q3 q4
  subst q2 q3 q4
  have hb : bodyB ⟨1, act0, c, ballot0, decision0⟩ = claimB c ++ (numI c.sig.e ++ numI c.sig.s) := rfl
  unfold rItem
  rw [hb, List.append_assoc, rNum_back 1 _ (by omega) (by omega)]
  simp only [List.append_assoc]
  rw [rClaim_back (claim_sm q1)]
  rfl
 ·obtain ⟨q1, q2, q3, q4⟩ := (right_ballot rfl).1 h
  simp only at q1 q2 q3 q4
  subst q2 q3 q4
  have hb : bodyB ⟨2, act0, claim0, b, decision0⟩ = ballotB b ++ (numI b.sig.e ++ numI b.sig.s) := rfl
  unfold rItem
  rw [hb, List.append_assoc, rNum_back 2 _ (by omega) (by omega)]
  simp only [List.append_assoc]
  rw [rBallot_back (ballot_sm q1)]
  rfl
 ·obtain ⟨q1, q2, q3, q4⟩ := (right_decision rfl).1 h
  simp only at q1 q2 q3 q4
  subst q2 q3 q4
  have hb : bodyB ⟨3, act0, claim0, ballot0, d⟩ = decisionB d ++ (numI d.sig.e ++ numI d.sig.s) := rfl
  unfold rItem
  rw [hb, List.append_assoc, rNum_back 3 _ (by omega) (by omega)]
  simp only [List.append_assoc]
  rw [rDecision_back (decision_sm q1)]
  rfl
theorem read_bytes {it : Item} (h : right it = true) : read (bytes it) = (it, true) := by
 have := rItem_back h [] (fun _ => rfl)
 rw [List.append_nil] at this
 unfold read
 simp only [this]
 exact if_pos ⟨by trivial, rfl, bytes_ne h, by trivial⟩
theorem read_right {s : By} (h : (read s).2 = true) : right (read s).1 = true ∧ bytes (read s).1 = s := by
 unfold read at h ⊢
 simp only at h ⊢
 split at h
 ·rename_i hc
  rw [if_pos hc]
  obtain ⟨_, _, h3, h4⟩ := hc
  refine ⟨?_, h4⟩
  refine Classical.byContradiction fun hn => ?_
  rw [bytes_wrong (by simpa using hn)] at h4
  exact h3 h4.symm
 ·cases h
theorem read_wrong {s : By} (h : (read s).2 = false) : (read s).1 = item0 := by
 unfold read at h ⊢
 simp only at h ⊢
 split at h
 ·cases h
 ·rename_i hc
  rw [if_neg hc]
theorem readEntry_back {e : Entry} (h1 : isTime e.time = true) (h2 : right e.item = true) : readEntry (entryB e) = (e, true) := by
 have ht : 0 ≤ e.time ∧ e.time ≤ 1099511627776 := wi_iff.1 h1
 have hb : entryB e = numI e.time ++ bytes e.item := by unfold entryB; rw [h1, h2]; rfl
 rw [hb]
 unfold readEntry
 rw [rNum_back _ _ (by omega) (by omega)]
 simp only
 rw [take_all _ rfl, read_bytes h2]
 exact if_pos ⟨rfl, h1⟩
end Go.Proofs.YtlefikdjhnaapaaGreatDoor.It
end
section
namespace Go.Proofs.YtlefikdjhnaapaaGreatDoor.Mk
open Go Sm
theorem Dig.snoc {l : List By} {x : By} (h : Dig l) (hx : x.length = 32) : Dig (l ++ [x]) := by
 intro y hy
 rcases List.mem_append.1 hy with hy | hy
 ·exact h y hy
 ·rw [List.mem_singleton.1 hy]; exact hx
end Go.Proofs.YtlefikdjhnaapaaGreatDoor.Mk
namespace Go.Proofs.YtlefikdjhnaapaaGreatDoor.Mk
open Go Sm
end Go.Proofs.YtlefikdjhnaapaaGreatDoor.Mk
namespace Go.Proofs.YtlefikdjhnaapaaGreatDoor.Mk
open Go Sm
end Go.Proofs.YtlefikdjhnaapaaGreatDoor.Mk
end
section
namespace Go.Proofs.YtlefikdjhnaapaaGreatDoor.Pe
open Go
variable [Tab]
set_option maxRecDepth 100000
section
variable {P : Program} {pf rf : List FuncId} {e : Env} {f : FuncId} {d : Option Nat} {rest : List AO} {K : Env → Store → Prop}
end
theorem er1w {P : Program} {rs : List ResultVar} {v : AV} {e : Env} {S : Store} {o : SObj} {vs : List AV} (h : aRes P rs e S = some vs := by rfl) (ho : o.ok 1 = true := by rfl) (hS : S[0]? = some (o.ren (idx [0])) := by rfl) (hk : v.ok 1 = true := by rfl) (hv : (resV vs).wk = v.ren (idx [0]) := by rfl) : finQ P rs 1 v [o] .ret e S :=
 ⟨e, S, vs, [0], Weak.refl 1 e S, h, subOk_one 0 ho hS, rfl, hk, .inr hv⟩
end Go.Proofs.YtlefikdjhnaapaaGreatDoor.Pe
end
section
namespace Go.Proofs.YtlefikdjhnaapaaGreatDoor.Pe
open Go Co
variable [Tab]
set_option maxRecDepth 100000
end Go.Proofs.YtlefikdjhnaapaaGreatDoor.Pe
namespace Go.Proofs.YtlefikdjhnaapaaGreatDoor.Pe
open Go Co
variable [Tab]
set_option maxRecDepth 100000
theorem texts_bad (n : Nat) (r : By) : R.texts n ⟨r, true⟩ = ([], ⟨r, true⟩) := by cases n <;> rfl
theorem texts_go (n : Nat) (r : By) : R.texts (n + 1) ⟨r, false⟩ = ((R.text ⟨r, false⟩).1 :: (R.texts n (R.text ⟨r, false⟩).2).1, (R.texts n (R.text ⟨r, false⟩).2).2) := rfl
set_option maxHeartbeats 1600000 in
theorem readList_c (x : R) (hx : x.rest.length ≤ 1000000) : AC Tryz.prog 292 [.ptr 0 0, .fn (.func 97) [.ptr 0 0] []] [rd x] (sls x.list.1) [rd x.list.2] := by
 refine AC.enter [] [] Tryz.func292 rfl (by decide) (by decide) (Nat.le_of_ble_eq_true rfl) (by kernel_rfl) ?_; refine zev ?_
 have h1 := num_lt x
 have h2 := num_rest x
 refine run ?_
 refine c1 0 (rnum_c x (by omega)) ?_
 unfold R.list
 simp only
 generalize x.num = q at *
 obtain ⟨n, z⟩ := q
 simp only at h1 h2 ⊢
 by_cases hlt : z.rest.length < n
 focus
  rw [if_pos hlt]
  refine run ?_
  refine c1 0 (fail_c z) ?_
  refine run ?_
  have hy : Co.fail.rest.length ≤ 1000000 ∧ (n ≤ 1000000 ∨ Co.fail.bad = true) := ⟨Nat.zero_le _, .inr rfl⟩
  generalize Co.fail = y at *
 rotate_left
 focus
  rw [if_neg hlt]
  refine run ?_
  have hy : z.rest.length ≤ 1000000 ∧ (n ≤ 1000000 ∨ z.bad = true) := ⟨by omega, .inl (by omega)⟩
  generalize z = y at *
 all_goals
  refine loop_mk' (fun m e S => e 0 = .ptr 0 0 ∧ e 1 = .fn (.func 97) [.ptr 0 0] [] ∧ e 5 = .it .i64 (n : Int) ∧ ∃ (k : Nat) (acc : List By) (r : By) (b : Bool), e 6 = .sl (.own 1) (acc.map .st) ∧ e 7 = .it .i64 (k : Int) ∧ S = [rd ⟨r, b⟩, .buf acc.length 9 1] ∧
   acc.length = k ∧ k ≤ n ∧ r.length ≤ 1000000 ∧ (n ≤ 1000000 ∨ b = true) ∧ R.texts n y = (acc ++ (R.texts (n - k) ⟨r, b⟩).1, (R.texts (n - k) ⟨r, b⟩).2) ∧ m = n - k) n _ _ (Weak.reserve 1 6 (es := []) (by rfl) 9 1)
   ⟨zsl, zsl, zsl, 0, [], y.rest, y.bad, zsl, zsl, rfl, rfl, by omega, hy.1, hy.2, rfl, rfl⟩ ?_
  rintro m e S ⟨s0, s1, s5, k, acc, r, b, s6, s7, rfl, hal, hk, hr, hnb, htx, rfl⟩
  cases b
  rotate_left
  ·rw [texts_bad, List.append_nil] at htx
   rw [htx, if_pos rfl]
   by_cases hkn : k < n
   ·refine runf (an @s0 (an @s1 (an @s5 (an @s6 @s7)))) ?_
    exact er1w
   ·refine runf (an @s0 (an @s1 (an @s5 (an @s6 @s7)))) ?_
    exact er1w
  ·by_cases hkn : k < n
   ·have hn : n ≤ 1000000 := hnb.resolve_right (by simp)
    obtain ⟨j, hj⟩ : ∃ j, n - k = j + 1 := ⟨n - k - 1, by omega⟩
    rw [hj, texts_go] at htx
    have htr := text_rest ⟨r, false⟩
    have hc := rtext_c ⟨r, false⟩ (by show r.length < _; omega)
    generalize R.text ⟨r, false⟩ = t at *
    obtain ⟨ts, tr, tb⟩ := t
    simp only at htr hc htx
    refine runf (an @s0 (an @s1 (an @s5 (an @s6 @s7)))) ?_
    refine c1 0 hc ?_
    refine runf (an @s0 (an @s1 (an @s5 (an @s6 @s7)))) ?_
    refine round_mk (n - (k + 1)) (by omega) ⟨zsl, zsl, zsl, k + 1, acc ++ [ts], tr, tb, by rw [List.map_append]; exact zsl, zsl, by rw [List.length_append]; rfl, by rw [List.length_append, hal]; rfl, by omega, by omega, .inl hn, ?_, rfl⟩
    rw [htx, show n - (k + 1) = j from by omega, List.append_assoc]; rfl
   ·have hkn' : n - k = 0 := by omega
    rw [hkn'] at htx
    have htx : R.texts n y = (acc, ⟨r, false⟩) := by rw [htx]; simp [R.texts]
    rw [htx, if_neg (by simp)]
    refine runf (an @s0 (an @s1 (an @s5 (an @s6 @s7)))) ?_
    exact er1w
theorem rlist_c (x : R) (hx : x.rest.length ≤ 1000000) : AC Tryz.prog 261 [.ptr 0 0] [rd x] (sls x.list.1) [rd x.list.2] := by
 refine AC.enter [] [] Tryz.func261 rfl (by decide) (by decide) (Nat.le_of_ble_eq_true rfl) (by kernel_rfl) ?_; refine zev ?_
 refine run ?_
 refine call_mk (readList_c x hx) ?_
 refine run ?_
 exact er1
end Go.Proofs.YtlefikdjhnaapaaGreatDoor.Pe
end
section
namespace Go.Proofs.YtlefikdjhnaapaaGreatDoor.Pe
open Go
variable [Tab]
set_option maxRecDepth 100000
end Go.Proofs.YtlefikdjhnaapaaGreatDoor.Pe
namespace Go.Proofs.YtlefikdjhnaapaaGreatDoor.Pe
open Go
variable [Tab]
set_option maxRecDepth 100000
end Go.Proofs.YtlefikdjhnaapaaGreatDoor.Pe
namespace Go.Proofs.YtlefikdjhnaapaaGreatDoor.Pe
open Go Sg
variable [Tab]
set_option maxRecDepth 100000
end Go.Proofs.YtlefikdjhnaapaaGreatDoor.Pe
namespace Go.Proofs.YtlefikdjhnaapaaGreatDoor.Pe
open Go Go.RowKit Co Sg
set_option maxRecDepth 100000
theorem hash2 (a b : By) : [a, b].flatten = a ++ b := by simp
theorem keySeed_c (seed : By) (hm : seed.length ≤ 100000000) : AC Tryz.prog 11 [.st seed] [] (keyV (keySeed seed)) [] := by
 refine AC.enter [56, 67, 66, 64] [] Tryz.func11 rfl (by decide) (by decide) (Nat.le_of_ble_eq_true rfl) (by kernel_rfl) ?_; refine zev ?_
 have tm := text_le seed hm
 have tw : (text wKey).length = 4 := by rfl
 have hlt := hash_lt (text wKey ++ text seed)
 have hr := reduce_lt (Sg.hash (text wKey ++ text seed))
 have hh := hash_c [text wKey, text seed] (by rw [hash2]; simp only [List.length_append]; omega) (by simp) (by simp)
 rw [hash2] at hh
 unfold keySeed
 generalize Sg.hash (text wKey ++ text seed) = h at *
 refine run ?_
 refine cp (text_c wKey (by simp)) ?_
 refine run ?_
 refine cp (text_c seed (by omega)) ?_
 refine run ?_
 refine cp hh ?_
 refine run ?_
 refine cp (reduce_c h hlt) ?_
 refine run ?_
 refine cp (of_c (reduce h) (by omega)) ?_
 refine run ?_
 exact er0
end Go.Proofs.YtlefikdjhnaapaaGreatDoor.Pe
end
section
namespace Go.Proofs.YtlefikdjhnaapaaGreatDoor.Pe
open Go Go.RowKit Co Sg Ac
variable [Tab]
set_option maxRecDepth 100000
set_option maxHeartbeats 4000000
end Go.Proofs.YtlefikdjhnaapaaGreatDoor.Pe
namespace Go.Proofs.YtlefikdjhnaapaaGreatDoor.Pe
open Go Go.RowKit Co Sg Ac
variable [Tab]
set_option maxRecDepth 100000
set_option maxHeartbeats 4000000
end Go.Proofs.YtlefikdjhnaapaaGreatDoor.Pe
namespace Go.Proofs.YtlefikdjhnaapaaGreatDoor.Pe
open Go Go.RowKit Co Sg Ac
set_option maxRecDepth 100000
set_option maxHeartbeats 4000000
end Go.Proofs.YtlefikdjhnaapaaGreatDoor.Pe
namespace Go.Proofs.YtlefikdjhnaapaaGreatDoor.Pe
open Go Go.RowKit Co Sg Ac
set_option maxRecDepth 100000
set_option maxHeartbeats 4000000
end Go.Proofs.YtlefikdjhnaapaaGreatDoor.Pe
namespace Go.Proofs.YtlefikdjhnaapaaGreatDoor.Pe
open Go Go.RowKit Co Sg Ac
set_option maxRecDepth 100000
set_option maxHeartbeats 4000000
theorem num_rest_lt (x : R) : x.num.2.rest = [] ∨ x.num.2.rest.length < x.rest.length := by
 unfold R.num
 split
 ·rename_i n r h
  exact .inr (rdN_lt _ 0 0 _ _ (by omega) (by simp) h).2
 ·exact .inl rfl
theorem list_rest (x : R) : x.list.2.rest.length ≤ x.rest.length ∧ (∀ s ∈ x.list.1, s.length ≤ x.rest.length) ∧ x.list.1.length ≤ x.rest.length := by
 have h1 := num_rest x
 unfold R.list
 simp only
 have key : ∀ y : R, y.rest.length ≤ x.rest.length → (x.num.1 ≤ x.rest.length ∨ y.bad = true) → (if (y.texts x.num.1).2.bad = true then (([] : List By), (y.texts x.num.1).2) else y.texts x.num.1).2.rest.length ≤ x.rest.length ∧
   (∀ s ∈ (if (y.texts x.num.1).2.bad = true then (([] : List By), (y.texts x.num.1).2) else y.texts x.num.1).1, s.length ≤ x.rest.length) ∧ (if (y.texts x.num.1).2.bad = true then (([] : List By), (y.texts x.num.1).2) else y.texts x.num.1).1.length ≤ x.rest.length := fun y hy hb => by
  have h2 := texts_rest x.num.1 y
  have h3 := h2.2.2
  have h4 := h2.1
  have h5 := h2.2.1
  clear h2
  by_cases hnb : (y.texts x.num.1).2.bad = true
  ·simp only [if_pos hnb]
   exact ⟨by omega, by simp, by simp⟩
  ·simp only [if_neg hnb]
   refine ⟨by omega, fun s hs => by have := h5 s hs; omega, ?_⟩
   rcases hb with hb | hb
   ·omega
   ·obtain ⟨r, b⟩ := y
    simp only at hb
    subst hb
    rw [texts_bad] at hnb
    simp at hnb
 split
 ·exact key fail (Nat.zero_le _) (.inr rfl)
 ·exact key x.num.2 h1 (.inl (by omega))
theorem rBox_rest (x : R) : (rBox x).2.rest.length ≤ x.rest.length ∧ (rBox x).1.nonce.length ≤ x.rest.length ∧ (rBox x).1.data.length ≤ x.rest.length ∧ (rBox x).1.tag.length ≤ x.rest.length := by
 have h1 := text_rest x
 have h2 := text_rest x.text.2
 have h3 := text_rest x.text.2.text.2
 unfold rBox
 simp only
 omega
theorem rWrap_rest (x : R) : (rWrap x).2.rest = [] ∨ (rWrap x).2.rest.length < x.rest.length := by
 have h1 := num_rest_lt x
 have h2 := num_rest x.num.2
 have h3 := rBox_rest x.num.2.num.2
 unfold rWrap rNum
 simp only
 rcases h1 with h1 | h1
 ·rw [h1] at h2
  left
  apply List.eq_nil_of_length_eq_zero
  simp only [List.length_nil] at h2
  omega
 ·right; omega
theorem rWrapsN_rest : ∀ (n : Nat) (x : R), (rWrapsN n x).2.rest.length ≤ x.rest.length ∧ ∀ l, (rWrapsN n x).1 = some l → l.length ≤ x.rest.length
 | 0, x => ⟨Nat.le_refl _, fun l h => by cases h; simp⟩
 | n + 1, x => by
  have h1 := rWrap_rest x
  have h2 := rWrapsN_rest n (rWrap x).2
  unfold rWrapsN
  split
  ·rename_i he
   exact ⟨by show (rWrap x).2.rest.length ≤ _; rw [he]; simp, fun l h => by cases h⟩
  ·rename_i he
   have h1 := h1.resolve_left he
   refine ⟨by show (rWrapsN n (rWrap x).2).2.rest.length ≤ _; omega, fun l h => ?_⟩
   obtain ⟨l', hl', rfl⟩ := Option.map_eq_some_iff.1 h
   have := h2.2 l' hl'
   simp only [List.length_cons]
   omega
theorem rWraps_rest (x : R) : (rWraps x).2.rest.length ≤ x.rest.length ∧ (rWraps x).1.length ≤ x.rest.length := by
 have h1 := num_rest x
 have h2 := rWrapsN_rest x.num.1 x.num.2
 unfold rWraps
 refine ⟨by show (rWrapsN x.num.1 x.num.2).2.rest.length ≤ _; omega, ?_⟩
 cases h : (rWrapsN x.num.1 x.num.2).1 with
 | none => simp
 | some l => have := h2.2 l h; simp only [Option.getD_some]; omega
theorem rlist_s (x : R) (hx : x.rest.length ≤ 1000000) : ∃ l y, x.list = (l, y) ∧ y.rest.length ≤ 1000000 ∧ (∀ s ∈ l, s.length ≤ 1000000) ∧ l.length ≤ 1000000 ∧ AC Tryz.prog 261 [.ptr 0 0] [rd x] (sls l) [rd y] := by
 have h := list_rest x
 exact ⟨x.list.1, x.list.2, rfl, by omega, fun s hs => by have := h.2.1 s hs; omega, by omega, rlist_c x hx⟩
theorem readBox_c (x : R) (hx : x.rest.length ≤ 1000000) : AC Tryz.prog 262 [.ptr 0 0] [rd x] (boxV (rBox x).1) [rd (rBox x).2] := by
 refine AC.enter [] [] Tryz.func262 rfl (by decide) (by decide) (Nat.le_of_ble_eq_true rfl) (by kernel_rfl) ?_; refine zev ?_
 obtain ⟨s1, x1, e1, b1, c1', k1⟩ := rtext_s x hx
 obtain ⟨s2, x2, e2, b2, c2', k2⟩ := rtext_s x1 b1
 obtain ⟨s3, x3, e3, b3, c3', k3⟩ := rtext_s x2 b2
 have hb : rBox x = (⟨s1, s2, s3⟩, x3) := by unfold rBox; simp only [e1, e2, e3]
 rw [hb]
 refine run ?_
 refine c1 0 k1 ?_
 refine run ?_
 refine c1 0 k2 ?_
 refine run ?_
 refine c1 0 k3 ?_
 refine run ?_
 exact er1
theorem rbox_s (x : R) (hx : x.rest.length ≤ 1000000) : ∃ (b : Box) (y : R), rBox x = (b, y) ∧ y.rest.length ≤ 1000000 ∧ AC Tryz.prog 262 [.ptr 0 0] [rd x] (boxV b) [rd y] := by
 have h := rBox_rest x
 exact ⟨(rBox x).1, (rBox x).2, rfl, by omega, readBox_c x hx⟩
theorem readWraps_c (x : R) (hx : x.rest.length ≤ 1000000) : AC Tryz.prog 263 [.ptr 0 0] [rd x] (.sl .ro ((rWraps x).1.map wrapV)) [rd (rWraps x).2] := by
 refine AC.enter [] [] Tryz.func263 rfl (by decide) (by decide) (Nat.le_of_ble_eq_true rfl) (by kernel_rfl) ?_; refine zev ?_
 have h1 := num_lt x
 have h2 := num_rest x
 unfold rWraps
 simp only
 refine run ?_
 refine c1 0 (rnum_c x (by omega)) ?_
 generalize x.num = q at *
 obtain ⟨n, y⟩ := q
 simp only at h1 h2 ⊢
 refine run ?_
 refine loop_mk' (fun m e S => e 0 = .ptr 0 0 ∧ ∃ (c : Nat) (acc : List Wrap) (z : R) (T : Store), e 4 = .it .i64 (c : Int) ∧ e 3 = .sl (.own 1) (acc.map wrapV) ∧ S = rd z :: .buf acc.length 187 5 :: T ∧ c ≤ n ∧ acc.length + z.rest.length ≤ 1000000 ∧
  rWrapsN n y = ((rWrapsN c z).1.map (acc ++ ·), (rWrapsN c z).2) ∧ m = c) n _ _ (Weak.reserve 1 3 (es := []) (by rfl) 187 5)
  ⟨zsl, n, [], y, [], zsl, zsl, rfl, by omega, by simp; omega, by simp, rfl⟩ ?_
 rintro c e S ⟨s0, c, acc, z, T, s4, s3, rfl, hc, hz, hrw, rfl⟩
 cases c with
 | zero =>
  have hrw : rWrapsN n y = (some acc, z) := by rw [hrw]; simp [rWrapsN]
  rw [hrw]
  refine runf (an @s0 (an @s4 @s3)) ?_
  exact er1w
 | succ c =>
  have hT1 : ∀ o : SObj, (T ++ [o])[T.length]? = some o := fun o => by simp
  have hT2 : ∀ o o' : SObj, (T ++ [o]).set T.length o' = T ++ [o'] := fun o o' => by simp
  obtain ⟨n1, x1, e1, b1, c1', k1⟩ := rnum_s z (by omega)
  obtain ⟨n2, x2, e2, b2, c2', k2⟩ := rnum_s x1 b1
  obtain ⟨bx, x3, e3, b3, k3⟩ := rbox_s x2 b2
  have hw : rWrap z = (⟨n1, n2, bx⟩, x3) := by unfold rWrap; simp only [e1, e2, e3]
  have hwr := rWrap_rest z
  have hcI : ((c + 1 : Nat) : Int) - 1 = (c : Int) := by omega
  have hpos : (0 : Int) < ((c + 1 : Nat) : Int) := by omega
  have hst : rWrapsN (c + 1) z = if (rWrap z).2.rest = [] then (none, (rWrap z).2) else ((rWrapsN c (rWrap z).2).1.map ((rWrap z).1 :: ·), (rWrapsN c (rWrap z).2).2) := rfl
  rw [hst] at hrw
  rw [hw] at hrw hwr
  simp only at hrw hwr
  have hsz : allSz 5 (acc.map wrapV) = true := allSz_map 5 wrapV (fun _ => rfl) _
  refine runf (an @s0 (an @s4 (an @s3 (an @hpos (an @hT1 @hT2))))) ?_
  refine c1 0 k1 ?_
  refine runf (an @s0 (an @s4 (an @s3 (an @hpos (an @hT1 @hT2))))) ?_
  refine c1 0 k2 ?_
  refine runf (an @s0 (an @s4 (an @s3 (an @hpos (an @hT1 @hT2))))) ?_
  refine c1 0 k3 ?_
  refine runf (an @s0 (an @s4 (an @s3 (an @hpos (an @hT1 @hT2))))) ?_
  refine c1 0 (left_c x3) ?_
  by_cases hem : x3.rest = []
  ·rw [if_pos hem] at hrw
   rw [hrw]
   have hl0 : x3.rest.length = 0 := by rw [hem]; rfl
   refine runf (an @s0 (an @s4 (an @s3 (an @hl0 (an @hT1 @hT2))))) ?_
   exact er1w
  ·rw [if_neg hem] at hrw
   have hlt := hwr.resolve_left hem
   have hl0 : ((x3.rest.length : Int) == 0) = false := beqF (by have := List.length_pos_iff.2 hem; omega)
   refine runf (an @s0 (an @s4 (an @s3 (an @hl0 (an @hT1 (an @hT2 (an @hsz @hcI))))))) ?_
   refine round_mk c (by omega) ⟨zsl, c, acc ++ [⟨n1, n2, bx⟩], x3, _, zsl, by rw [List.map_append]; exact zsl, by rw [List.length_append]; rfl, by omega, by rw [List.length_append, List.length_singleton]; omega, ?_, rfl⟩
   rw [hrw, Option.map_map]
   congr 2
   funext l
   simp
theorem rwraps_s (x : R) (hx : x.rest.length ≤ 1000000) : ∃ (l : List Wrap) (y : R), rWraps x = (l, y) ∧ y.rest.length ≤ 1000000 ∧ l.length ≤ 1000000 ∧ AC Tryz.prog 263 [.ptr 0 0] [rd x] (.sl .ro (l.map wrapV)) [rd y] := by
 have h := rWraps_rest x
 exact ⟨(rWraps x).1, (rWraps x).2, rfl, by omega, by omega, readWraps_c x hx⟩
theorem nilB (s t : By) (h : s ≠ t) : (s == t) = false := by simpa using h
theorem read_c (s : By) (hs : s.length ≤ 1000000) : AC Tryz.prog 204 [.st s] [] (.tup [actV (Ac.read s).1, .bo (Ac.read s).2]) [] := by
 refine AC.enter [169] [] Tryz.func204 rfl (by decide) (by decide) (Nat.le_of_ble_eq_true rfl) (by kernel_rfl) ?_; refine zev ?_
 refine run ?_
 refine call_mk (AC.newAt (open_c s) _) ?_
 obtain ⟨nm, x0, e0, b0, d0, k0⟩ := rtext_s ⟨s, false⟩ hs
 refine run ?_
 refine c1 1 k0 ?_
 by_cases hn : nm = wAct
 rotate_left
 ·have hr : Ac.read s = (act0, false) := by
   unfold Ac.read
   simp only [e0]
   exact if_neg (fun h => hn h.1)
  have hne := nilB nm wAct hn
  rw [hr]
  refine runf @hne ?_
  exact er0w
 subst hn
 obtain ⟨author, x1, e1, b1, d1, k1⟩ := rtext_s x0 b0
 obtain ⟨seq, x2, e2, b2, d2, k2⟩ := rnum_s x1 b1
 obtain ⟨prev, x3, e3, b3, d3, k3⟩ := rtext_s x2 b2
 obtain ⟨kind, x4, e4, b4, d4, k4⟩ := rnum_s x3 b3
 obtain ⟨time, x5, e5, b5, d5, k5⟩ := rnum_s x4 b4
 obtain ⟨object, x6, e6, b6, d6, k6⟩ := rtext_s x5 b5
 obtain ⟨target, x7, e7, b7, d7, k7⟩ := rtext_s x6 b6
 obtain ⟨scope, x8, e8, b8, d8, k8⟩ := rnum_s x7 b7
 obtain ⟨group, x9, e9, b9, d9, k9⟩ := rtext_s x8 b8
 obtain ⟨to, x10, e10, b10, d10, d10', k10⟩ := rlist_s x9 b9
 obtain ⟨text, x11, e11, b11, d11, k11⟩ := rtext_s x10 b10
 obtain ⟨body, x12, e12, b12, k12⟩ := rbox_s x11 b11
 obtain ⟨epoch, x13, e13, b13, d13, k13⟩ := rnum_s x12 b12
 obtain ⟨wraps, x14, e14, b14, d14, k14⟩ := rwraps_s x13 b13
 obtain ⟨n, x15, e15, b15, d15, k15⟩ := rnum_s x14 b14
 obtain ⟨m, x16, e16, b16, d16, k16⟩ := rnum_s x15 b15
 obtain ⟨se, x17, e17, b17, d17, k17⟩ := rnum_s x16 b16
 obtain ⟨ss, x18, e18, b18, d18, k18⟩ := rnum_s x17 b17
 have hra : rAct x0 = (⟨author, seq, prev, kind, time, object, target, scope, group, to, text, body, epoch, wraps, n, m, ⟨se, ss⟩⟩, x18) := by
  unfold rAct
  simp only [e1, e2, e3, e4, e5, e6, e7, e8, e9, e10, e11, e12, e13, e14, e15, e16, e17, e18]
 have hsz : Sz ⟨author, seq, prev, kind, time, object, target, scope, group, to, text, body, epoch, wraps, n, m, ⟨se, ss⟩⟩ :=
  ⟨by show author.length ≤ _; omega, by show target.length ≤ _; omega, by show group.length ≤ _; omega, by show text.length ≤ _; omega, fun s hs => by have := d10 s hs; omega, by show to.length ≤ _; omega, by show wraps.length ≤ _; omega⟩
 have hb := bytes_c _ hsz
 have hread : Ac.read s = if x18.done = true ∧ Ac.bytes ⟨author, seq, prev, kind, time, object, target, scope, group, to, text, body, epoch, wraps, n, m, ⟨se, ss⟩⟩ = s then (⟨author, seq, prev, kind, time, object, target, scope, group, to, text, body, epoch, wraps, n, m, ⟨se, ss⟩⟩, true) else (act0, false) := by
  unfold Ac.read
  simp only [e0, hra]
  simp
 clear hra e0 e1 e2 e3 e4 e5 e6 e7 e8 e9 e10 e11 e12 e13 e14 e15 e16 e17 e18 b0 b1 b2 b3 b4 b5 b6 b7 b8 b9 b10 b11 b12 b13 b14 b15 b16 b17 b18 d0 d1 d2 d3 d4 d5 d6 d7 d8 d9 d10 d10' d11 d13 d14 d15 d16 d17 d18 hsz
 refine run ?_
 refine c1 1 k1 ?_
 refine run ?_
 refine c1 1 k2 ?_
 refine run ?_
 refine c1 1 k3 ?_
 refine run ?_
 refine c1 1 k4 ?_
 refine run ?_
 refine c1 1 k5 ?_
 refine run ?_
 refine c1 1 k6 ?_
 refine run ?_
 refine c1 1 k7 ?_
 refine run ?_
 refine c1 1 k8 ?_
 refine run ?_
 refine c1 1 k9 ?_
 refine run ?_
 refine c1 1 k10 ?_
 refine run ?_
 refine c1 1 k11 ?_
 refine run ?_
 refine c1 1 k12 ?_
 refine run ?_
 refine c1 1 k13 ?_
 refine run ?_
 refine c1 1 k14 ?_
 refine run ?_
 refine c1 1 k15 ?_
 refine run ?_
 refine c1 1 k16 ?_
 refine run ?_
 refine c1 1 k17 ?_
 refine run ?_
 refine c1 1 k18 ?_
 clear k0 k1 k2 k3 k4 k5 k6 k7 k8 k9 k10 k11 k12 k13 k14 k15 k16 k17 k18
 refine run ?_
 refine c1 1 (done_c x18) ?_
 have hdn : (!x18.bad && x18.rest == []) = x18.done := rfl
 rw [hdn]
 by_cases hd : x18.done = true
 ·refine runf @hd ?_
  refine cp hb ?_
  generalize Ac.bytes _ = bs at *
  by_cases hbs : bs = s
  ·rw [if_pos ⟨hd, hbs⟩] at hread
   rw [hread]
   subst hbs
   refine run ?_
   exact er0w
  ·rw [if_neg (fun h => hbs h.2)] at hread
   have hne := nilB bs s hbs
   rw [hread]
   refine runf @hne ?_
   exact er0w
 ·rw [if_neg (fun h => hd h.1)] at hread
  have hd' : x18.done = false := by simpa using hd
  rw [hread]
  refine runf @hd' ?_
  exact er0w
end Go.Proofs.YtlefikdjhnaapaaGreatDoor.Pe
end
section
namespace Go.Proofs.YtlefikdjhnaapaaGreatDoor.Pe
open Go Go.RowKit Co Sg Ac It
set_option maxRecDepth 100000
set_option maxHeartbeats 4000000
end Go.Proofs.YtlefikdjhnaapaaGreatDoor.Pe
namespace Go.Proofs.YtlefikdjhnaapaaGreatDoor.Pe
open Go Go.RowKit Co Sg Ac It
set_option maxRecDepth 100000
set_option maxHeartbeats 4000000
section
variable [Tab] {P : Program} {pf rf : List FuncId} {e : Env} {f : FuncId} {d : Option Nat} {rest : List AO} {K : Env → Store → Prop}
end
end Go.Proofs.YtlefikdjhnaapaaGreatDoor.Pe
namespace Go.Proofs.YtlefikdjhnaapaaGreatDoor.Pe
open Go Go.RowKit Co Sg Ac It
set_option maxRecDepth 100000
set_option maxHeartbeats 4000000
end Go.Proofs.YtlefikdjhnaapaaGreatDoor.Pe
namespace Go.Proofs.YtlefikdjhnaapaaGreatDoor.Pe
open Go Go.RowKit Co Sg Ac It
set_option maxRecDepth 100000
set_option maxHeartbeats 4000000
theorem rsig_s (x : R) (hx : x.rest.length ≤ 1000000) : ∃ (c : Sig) (y : R), rSig x = (c, y) ∧ y.rest.length ≤ 1000000 ∧ (0 ≤ c.e ∧ c.e < 9223372036854775808) ∧ AC Tryz.prog 264 [.ptr 0 0] [rd x] (sigV c) [rd y] := by
 obtain ⟨e, x1, e1, b1, d1, k1⟩ := rnum_s x hx
 obtain ⟨s, x2, e2, b2, d2, k2⟩ := rnum_s x1 b1
 refine ⟨⟨e, s⟩, x2, by unfold rSig; simp only [e1, e2], b2, d1, ?_⟩
 refine AC.enter [] [] Tryz.func264 rfl (by decide) (by decide) (Nat.le_of_ble_eq_true rfl) (by kernel_rfl) ?_; refine zev ?_
 refine run ?_
 refine c1 0 k1 ?_
 refine run ?_
 refine c1 0 k2 ?_
 refine run ?_
 exact er1
theorem rclaim_s (x : R) (hx : x.rest.length ≤ 1000000) : ∃ (c : It.Claim) (y : R), rClaim x = (c, y) ∧ y.rest.length ≤ 1000000 ∧ c.actor.length ≤ 1000000 ∧ AC Tryz.prog 205 [.ptr 0 0] [rd x] (claimV c) [rd y] := by
 obtain ⟨actor, x1, e1, b1, d1, k1⟩ := rtext_s x hx
 obtain ⟨base, x2, e2, b2, d2, k2⟩ := rnum_s x1 b1
 obtain ⟨prev, x3, e3, b3, d3, k3⟩ := rtext_s x2 b2
 obtain ⟨gen, x4, e4, b4, d4, k4⟩ := rnum_s x3 b3
 obtain ⟨home, x5, e5, b5, d5, k5⟩ := rnum_s x4 b4
 obtain ⟨pub, x6, e6, b6, d6, k6⟩ := rnum_s x5 b5
 obtain ⟨time, x7, e7, b7, d7, k7⟩ := rnum_s x6 b6
 obtain ⟨sg, x8, e8, b8, d8, k8⟩ := rsig_s x7 b7
 refine ⟨⟨actor, base, prev, gen, home, pub, time, sg⟩, x8, by unfold rClaim; simp only [e1, e2, e3, e4, e5, e6, e7, e8], b8, d1, ?_⟩
 refine AC.enter [] [] Tryz.func205 rfl (by decide) (by decide) (Nat.le_of_ble_eq_true rfl) (by kernel_rfl) ?_; refine zev ?_
 refine run ?_
 refine c1 0 k1 ?_
 refine run ?_
 refine c1 0 k2 ?_
 refine run ?_
 refine c1 0 k3 ?_
 refine run ?_
 refine c1 0 k4 ?_
 refine run ?_
 refine c1 0 k5 ?_
 refine run ?_
 refine c1 0 k6 ?_
 refine run ?_
 refine c1 0 k7 ?_
 refine run ?_
 refine c1 0 k8 ?_
 refine run ?_
 exact er1
theorem rballot_s (x : R) (hx : x.rest.length ≤ 1000000) : ∃ (c : It.Ballot) (y : R), rBallot x = (c, y) ∧ y.rest.length ≤ 1000000 ∧ c.actor.length ≤ 1000000 ∧ AC Tryz.prog 206 [.ptr 0 0] [rd x] (ballotV c) [rd y] := by
 obtain ⟨server, x1, e1, b1, d1, k1⟩ := rnum_s x hx
 obtain ⟨actor, x2, e2, b2, d2, k2⟩ := rtext_s x1 b1
 obtain ⟨gen, x3, e3, b3, d3, k3⟩ := rnum_s x2 b2
 obtain ⟨claim, x4, e4, b4, d4, k4⟩ := rtext_s x3 b3
 obtain ⟨time, x5, e5, b5, d5, k5⟩ := rnum_s x4 b4
 obtain ⟨sg, x6, e6, b6, d6, k6⟩ := rsig_s x5 b5
 refine ⟨⟨server, actor, gen, claim, time, sg⟩, x6, by unfold rBallot; simp only [e1, e2, e3, e4, e5, e6], b6, d2, ?_⟩
 refine AC.enter [] [] Tryz.func206 rfl (by decide) (by decide) (Nat.le_of_ble_eq_true rfl) (by kernel_rfl) ?_; refine zev ?_
 refine run ?_
 refine c1 0 k1 ?_
 refine run ?_
 refine c1 0 k2 ?_
 refine run ?_
 refine c1 0 k3 ?_
 refine run ?_
 refine c1 0 k4 ?_
 refine run ?_
 refine c1 0 k5 ?_
 refine run ?_
 refine c1 0 k6 ?_
 refine run ?_
 exact er1
theorem rdecision_s (x : R) (hx : x.rest.length ≤ 1000000) : ∃ (c : It.Decision) (y : R), rDecision x = (c, y) ∧ y.rest.length ≤ 1000000 ∧ Dz c ∧ AC Tryz.prog 207 [.ptr 0 0] [rd x] (decisionV c) [rd y] := by
 obtain ⟨server, x1, e1, b1, d1, k1⟩ := rnum_s x hx
 obtain ⟨number, x2, e2, b2, d2, k2⟩ := rnum_s x1 b1
 obtain ⟨kind, x3, e3, b3, d3, k3⟩ := rnum_s x2 b2
 obtain ⟨actor, x4, e4, b4, d4, k4⟩ := rtext_s x3 b3
 obtain ⟨object, x5, e5, b5, d5, k5⟩ := rtext_s x4 b4
 obtain ⟨txt, x6, e6, b6, d6, k6⟩ := rtext_s x5 b5
 obtain ⟨to, x7, e7, b7, d7, d7q, k7⟩ := rlist_s x6 b6
 obtain ⟨n, x8, e8, b8, d8, k8⟩ := rnum_s x7 b7
 obtain ⟨frm, x9, e9, b9, d9, k9⟩ := rnum_s x8 b8
 obtain ⟨til, x10, e10, b10, d10, k10⟩ := rnum_s x9 b9
 obtain ⟨sg, x11, e11, b11, d11, k11⟩ := rsig_s x10 b10
 refine ⟨⟨server, number, kind, actor, object, txt, to, n, frm, til, sg⟩, x11, by unfold rDecision; simp only [e1, e2, e3, e4, e5, e6, e7, e8, e9, e10, e11], b11, ⟨Nat.le_trans d4 (by decide), Nat.le_trans d7q (by decide), fun s hs => Nat.le_trans (d7 s hs) (by decide)⟩, ?_⟩
 refine AC.enter [] [] Tryz.func207 rfl (by decide) (by decide) (Nat.le_of_ble_eq_true rfl) (by kernel_rfl) ?_; refine zev ?_
 refine run ?_
 refine c1 0 k1 ?_
 refine run ?_
 refine c1 0 k2 ?_
 refine run ?_
 refine c1 0 k3 ?_
 refine run ?_
 refine c1 0 k4 ?_
 refine run ?_
 refine c1 0 k5 ?_
 refine run ?_
 refine c1 0 k6 ?_
 refine run ?_
 refine c1 0 k7 ?_
 refine run ?_
 refine c1 0 k8 ?_
 refine run ?_
 refine c1 0 k9 ?_
 refine run ?_
 refine c1 0 k10 ?_
 refine run ?_
 refine c1 0 k11 ?_
 refine run ?_
 exact er1
theorem readI_c (s : By) (hs : s.length ≤ 1000000) : AC Tryz.prog 133 [.st s] [] (.tup [itemV (It.read s).1, .bo (It.read s).2]) [] := by
 refine AC.enter [204, 90] [] Tryz.func133 rfl (by decide) (by decide) (Nat.le_of_ble_eq_true rfl) (by kernel_rfl) ?_; refine zev ?_
 refine run ?_
 refine call_mk (AC.newAt (open_c s) _) ?_
 obtain ⟨k, x0, e0, b0, d0, k0⟩ := rnum_s ⟨s, false⟩ hs
 refine run ?_
 refine c1 1 k0 ?_
 by_cases h0 : k = 0
 ·subst h0
  obtain ⟨tt, x1, e1⟩ : ∃ tt x1, x0.take x0.rest.length = (tt, x1) := ⟨_, _, rfl⟩
  have htl := take_rest x0 x0.rest.length
  have hta := take_c x0 x0.rest.length (by omega) (by omega)
  rw [e1] at hta htl
  simp only at hta htl
  have hra := read_c tt (by omega)
  have hsz : Sz (Ac.read tt).1 := by
   cases hq : (Ac.read tt).2 with
   | true => exact szI_of (right_sm (Ac.read_right hq).1)
   | false => rw [Ac.read_wrong hq]; exact szI0
  have hread : It.read s = if (Ac.read tt).2 = true ∧ x1.done = true ∧ s ≠ [] ∧ It.bytes { item0 with act := (Ac.read tt).1 } = s then ({ item0 with act := (Ac.read tt).1 }, true) else (item0, false) := by
   unfold It.read rItem
   simp only [e0, e1, if_true]
  generalize Ac.read tt = q at *
  obtain ⟨a, ok⟩ := q
  simp only at hsz hread hra
  have hb := bytesI_c { item0 with act := a } ⟨hsz, Nat.zero_le _, Nat.zero_le _, dz0⟩
  refine run ?_
  refine c1 1 (left_c x0) ?_
  refine run ?_
  refine c1 1 hta ?_
  refine run ?_
  refine cp hra ?_
  cases ok with
  | false =>
   rw [if_neg (fun h => by cases h.1)] at hread
   rw [hread]
   refine run ?_
   exact er0w
  | true =>
   simp only [true_and] at hread
   refine run ?_
   refine c1 1 (done_c x1) ?_
   rw [show (!x1.bad && x1.rest == []) = x1.done from rfl]
   by_cases hd : x1.done = true
   rotate_left
   ·rw [if_neg (fun h => hd h.1)] at hread
    have hd' : x1.done = false := by simpa using hd
    rw [hread]
    refine runf @hd' ?_
    exact er0w
   by_cases hse : s = []
   ·rw [if_neg (fun h => h.2.1 hse)] at hread
    have hsn : (s == []) = true := by rw [hse]; rfl
    rw [hread]
    refine runf (an @hd @hsn) ?_
    exact er0w
   have hsn : (s == []) = false := nilI s [] hse
   refine runf (an @hd @hsn) ?_
   refine cp hb ?_
   generalize It.bytes _ = bs at *
   by_cases hbs : bs = s
   ·rw [if_pos ⟨hd, hse, hbs⟩] at hread
    rw [hread]
    have hne : (bs == s) = true := by rw [hbs]; exact beq_self_eq_true _
    refine runf @hne ?_
    exact er0w
   ·rw [if_neg (fun h => hbs h.2.2)] at hread
    have hne := nilI bs s hbs
    rw [hread]
    refine runf @hne ?_
    exact er0w
 by_cases h1 : k = 1
 ·subst h1
  obtain ⟨c, x1, e1, b1, d1, k1⟩ := rclaim_s x0 b0
  have hb := bytesI_c { item0 with kind := 1, claim := c } ⟨szI0, Nat.le_trans d1 (by decide), Nat.zero_le _, dz0⟩
  have hread : It.read s = if x1.done = true ∧ s ≠ [] ∧ It.bytes { item0 with kind := 1, claim := c } = s then ({ item0 with kind := 1, claim := c }, true) else (item0, false) := by
   unfold It.read rItem
   simp only [e0, e1]
   simp
  refine run ?_
  refine c1 1 k1 ?_
  refine run ?_
  refine c1 1 (done_c x1) ?_
  rw [show (!x1.bad && x1.rest == []) = x1.done from rfl]
  by_cases hd : x1.done = true
  rotate_left
  ·rw [if_neg (fun h => hd h.1)] at hread
   have hd' : x1.done = false := by simpa using hd
   rw [hread]
   refine runf @hd' ?_
   exact er0w
  by_cases hse : s = []
  ·rw [if_neg (fun h => h.2.1 hse)] at hread
   have hsn : (s == []) = true := by rw [hse]; rfl
   rw [hread]
   refine runf (an @hd @hsn) ?_
   exact er0w
  have hsn : (s == []) = false := nilI s [] hse
  refine runf (an @hd @hsn) ?_
  refine cp hb ?_
  generalize It.bytes _ = bs at *
  by_cases hbs : bs = s
  ·rw [if_pos ⟨hd, hse, hbs⟩] at hread
   rw [hread]
   have hne : (bs == s) = true := by rw [hbs]; exact beq_self_eq_true _
   refine runf @hne ?_
   exact er0w
  ·rw [if_neg (fun h => hbs h.2.2)] at hread
   have hne := nilI bs s hbs
   rw [hread]
   refine runf @hne ?_
   exact er0w
 by_cases h2 : k = 2
 ·subst h2
  obtain ⟨c, x1, e1, b1, d1, k1⟩ := rballot_s x0 b0
  have hb := bytesI_c { item0 with kind := 2, ballot := c } ⟨szI0, Nat.zero_le _, Nat.le_trans d1 (by decide), dz0⟩
  have hread : It.read s = if x1.done = true ∧ s ≠ [] ∧ It.bytes { item0 with kind := 2, ballot := c } = s then ({ item0 with kind := 2, ballot := c }, true) else (item0, false) := by
   unfold It.read rItem
   simp only [e0, e1]
   simp
  refine run ?_
  refine c1 1 k1 ?_
  refine run ?_
  refine c1 1 (done_c x1) ?_
  rw [show (!x1.bad && x1.rest == []) = x1.done from rfl]
  by_cases hd : x1.done = true
  rotate_left
  ·rw [if_neg (fun h => hd h.1)] at hread
   have hd' : x1.done = false := by simpa using hd
   rw [hread]
   refine runf @hd' ?_
   exact er0w
  by_cases hse : s = []
  ·rw [if_neg (fun h => h.2.1 hse)] at hread
   have hsn : (s == []) = true := by rw [hse]; rfl
   rw [hread]
   refine runf (an @hd @hsn) ?_
   exact er0w
  have hsn : (s == []) = false := nilI s [] hse
  refine runf (an @hd @hsn) ?_
  refine cp hb ?_
  generalize It.bytes _ = bs at *
  by_cases hbs : bs = s
  ·rw [if_pos ⟨hd, hse, hbs⟩] at hread
   rw [hread]
   have hne : (bs == s) = true := by rw [hbs]; exact beq_self_eq_true _
   refine runf @hne ?_
   exact er0w
  ·rw [if_neg (fun h => hbs h.2.2)] at hread
   have hne := nilI bs s hbs
   rw [hread]
   refine runf @hne ?_
   exact er0w
 by_cases h3 : k = 3
 ·subst h3
  obtain ⟨c, x1, e1, b1, d1, k1⟩ := rdecision_s x0 b0
  have hb := bytesI_c { item0 with kind := 3, decision := c } ⟨szI0, Nat.zero_le _, Nat.zero_le _, d1⟩
  have hread : It.read s = if x1.done = true ∧ s ≠ [] ∧ It.bytes { item0 with kind := 3, decision := c } = s then ({ item0 with kind := 3, decision := c }, true) else (item0, false) := by
   unfold It.read rItem
   simp only [e0, e1]
   simp
  refine run ?_
  refine c1 1 k1 ?_
  refine run ?_
  refine c1 1 (done_c x1) ?_
  rw [show (!x1.bad && x1.rest == []) = x1.done from rfl]
  by_cases hd : x1.done = true
  rotate_left
  ·rw [if_neg (fun h => hd h.1)] at hread
   have hd' : x1.done = false := by simpa using hd
   rw [hread]
   refine runf @hd' ?_
   exact er0w
  by_cases hse : s = []
  ·rw [if_neg (fun h => h.2.1 hse)] at hread
   have hsn : (s == []) = true := by rw [hse]; rfl
   rw [hread]
   refine runf (an @hd @hsn) ?_
   exact er0w
  have hsn : (s == []) = false := nilI s [] hse
  refine runf (an @hd @hsn) ?_
  refine cp hb ?_
  generalize It.bytes _ = bs at *
  by_cases hbs : bs = s
  ·rw [if_pos ⟨hd, hse, hbs⟩] at hread
   rw [hread]
   have hne : (bs == s) = true := by rw [hbs]; exact beq_self_eq_true _
   refine runf @hne ?_
   exact er0w
  ·rw [if_neg (fun h => hbs h.2.2)] at hread
   have hne := nilI bs s hbs
   rw [hread]
   refine runf @hne ?_
   exact er0w
 have hb := bytesI_c { item0 with kind := k } ⟨szI0, Nat.zero_le _, Nat.zero_le _, dz0⟩
 have hread : It.read s = if x0.done = true ∧ s ≠ [] ∧ It.bytes { item0 with kind := k } = s then ({ item0 with kind := k }, true) else (item0, false) := by
  unfold It.read rItem
  simp only [e0, if_neg h0, if_neg h1, if_neg h2, if_neg h3, true_and]
 have q0 : (k == 0) = false := beqF h0
 have q1 : (k == 1) = false := beqF h1
 have q2 : (k == 2) = false := beqF h2
 have q3 : (k == 3) = false := beqF h3
 refine runf (an @q0 (an @q1 (an @q2 @q3))) ?_
 refine c1 1 (done_c x0) ?_
 rw [show (!x0.bad && x0.rest == []) = x0.done from rfl]
 by_cases hd : x0.done = true
 rotate_left
 ·rw [if_neg (fun h => hd h.1)] at hread
  have hd' : x0.done = false := by simpa using hd
  rw [hread]
  refine runf @hd' ?_
  exact er0w
 by_cases hse : s = []
 ·rw [if_neg (fun h => h.2.1 hse)] at hread
  have hsn : (s == []) = true := by rw [hse]; rfl
  rw [hread]
  refine runf (an @hd @hsn) ?_
  exact er0w
 have hsn : (s == []) = false := nilI s [] hse
 refine runf (an @hd @hsn) ?_
 refine cp hb ?_
 generalize It.bytes _ = bs at *
 by_cases hbs : bs = s
 ·rw [if_pos ⟨hd, hse, hbs⟩] at hread
  rw [hread]
  have hne : (bs == s) = true := by rw [hbs]; exact beq_self_eq_true _
  refine runf @hne ?_
  exact er0w
 ·rw [if_neg (fun h => hbs h.2.2)] at hread
  have hne := nilI bs s hbs
  rw [hread]
  refine runf @hne ?_
  exact er0w
theorem readEntry_c (s : By) (hs : s.length ≤ 1000000) : AC Tryz.prog 70 [.st s] [] (.tup [entryV (readEntry s).1, .bo (readEntry s).2]) [] := by
 refine AC.enter [133, 89] [] Tryz.func70 rfl (by decide) (by decide) (Nat.le_of_ble_eq_true rfl) (by kernel_rfl) ?_; refine zev ?_
 refine run ?_
 refine call_mk (AC.newAt (open_c s) _) ?_
 obtain ⟨k, x0, e0, b0, d0, k0⟩ := rnum_s ⟨s, false⟩ hs
 obtain ⟨tt, x1, e1⟩ : ∃ tt x1, x0.take x0.rest.length = (tt, x1) := ⟨_, _, rfl⟩
 have htl := take_rest x0 x0.rest.length
 have hta := take_c x0 x0.rest.length (by omega) (by omega)
 rw [e1] at hta htl
 simp only at hta htl
 have hra := readI_c tt (by omega)
 have hread : readEntry s = if (It.read tt).2 = true ∧ It.isTime k = true then (⟨k, (It.read tt).1⟩, true) else (entry0, false) := by
  unfold readEntry
  simp only [e0, e1]
 generalize It.read tt = q at *
 obtain ⟨i, ok⟩ := q
 simp only at hread hra
 have kt := isTime_c k
 generalize It.isTime k = tm at *
 refine run ?_
 refine c1 1 k0 ?_
 refine run ?_
 refine c1 1 (left_c x0) ?_
 refine run ?_
 refine c1 1 hta ?_
 refine run ?_
 refine cp hra ?_
 cases ok with
 | false =>
  rw [if_neg (fun h => by cases h.1)] at hread
  rw [hread]
  refine run ?_
  exact er0w
 | true =>
  refine run ?_
  refine cp kt ?_
  cases tm with
  | false =>
   rw [if_neg (fun h => by cases h.2)] at hread
   rw [hread]
   refine run ?_
   exact er0w
  | true =>
   rw [if_pos ⟨rfl, rfl⟩] at hread
   rw [hread]
   refine run ?_
   exact er0w
end Go.Proofs.YtlefikdjhnaapaaGreatDoor.Pe
end
section
namespace Go.Proofs.YtlefikdjhnaapaaGreatDoor.Pe
open Go Go.RowKit Co Sg Ac It
set_option maxRecDepth 100000
set_option maxHeartbeats 4000000
end Go.Proofs.YtlefikdjhnaapaaGreatDoor.Pe
namespace Go.Proofs.YtlefikdjhnaapaaGreatDoor.Pe
open Go Go.RowKit Co Sg Ac It
set_option maxRecDepth 100000
set_option maxHeartbeats 4000000
def zItem : Value := .agg #[.int .i64 0, .string ⟨#[]⟩, .int .i64 0, .string ⟨#[]⟩, .int .i64 0, .int .i64 0, .string ⟨#[]⟩, .string ⟨#[]⟩, .int .i64 0, .string ⟨#[]⟩, .slice none 0 0, .string ⟨#[]⟩, .string ⟨#[]⟩, .string ⟨#[]⟩, .string ⟨#[]⟩, .int .i64 0, .slice none 0 0, .int .i64 0, .int .i64 0, .int .i64 0, .int .i64 0, .string ⟨#[]⟩, .int .i64 0, .string ⟨#[]⟩, .int .i64 0, .int .i64 0, .int .i64 0, .int .i64 0, .int .i64 0, .int .i64 0, .int .i64 0, .string ⟨#[]⟩, .int .i64 0, .string ⟨#[]⟩, .int .i64 0, .int .i64 0, .int .i64 0, .int .i64 0, .int .i64 0, .int .i64 0, .string ⟨#[]⟩, .string ⟨#[]⟩, .string ⟨#[]⟩, .slice none 0 0, .int .i64 0, .int .i64 0, .int .i64 0, .int .i64 0, .int .i64 0]
end Go.Proofs.YtlefikdjhnaapaaGreatDoor.Pe
end
section
namespace Go.Proofs.YtlefikdjhnaapaaGreatDoor.Wl
open Go Co
theorem recs_append (l m : List By) : recs (l ++ m) = recs l ++ recs m := by simp [recs]
theorem rows_append {l : List By} (hl : okL l) (b : By) : rowsOf (recs l ++ b) = l ++ rowsOf b ∧ tailOf (recs l ++ b) = tailOf b := by
 obtain ⟨h1, h2, h3⟩ := rows_spec b
 have := rows_back (okL_append hl h2) h3
 rw [recs_append, List.append_assoc, ← h1] at this
 exact this
theorem stuck_part {s p q : By} (h : rec1 s = p ++ q) (hs : s.length ≤ 1048576) (hq : q ≠ []) : stuck p := by
 unfold stuck
 cases hst : step ⟨p, false⟩ with
 | none => rfl
 | some r =>
  obtain ⟨s', x⟩ := r
  obtain ⟨h1, h2, h3⟩ := step_inv hst
  have e1 := step_back s [] hs
  rw [List.append_nil, h, h1, List.append_assoc, step_back s' _ h2] at e1
  simp only [Option.some.injEq, Prod.mk.injEq, R.mk.injEq, and_true] at e1
  exact absurd (List.append_eq_nil_iff.1 e1.2).2 hq
theorem cut_recs : ∀ (l : List By) (n : Nat), okL l → n ≤ (recs l).length → ∃ k p, k ≤ l.length ∧ (recs l).take n = recs (l.take k) ++ p ∧ stuck p ∧ (recs (l.take k)).length ≤ n
 | [], n, _, h => ⟨0, [], Nat.le_refl _, by simp [recs], stuck_nil, Nat.zero_le _⟩
 | s :: l, n, hl, h => by
  by_cases hn : n < (rec1 s).length
  ·refine ⟨0, (rec1 s).take n, Nat.zero_le _, ?_, ?_, by simp [recs]⟩
   ·rw [recs_cons, List.take_append_of_le_length (by omega)]; rfl
   ·refine stuck_part (s := s) (q := (rec1 s).drop n) (List.take_append_drop n _).symm (hl s (by simp)) fun e => ?_
    have := congrArg List.length e
    simp only [List.length_drop, List.length_nil] at this
    omega
  ·obtain ⟨k, p, h1, h2, h3, h4⟩ := cut_recs l (n - (rec1 s).length) (fun x hx => hl x (by simp [hx])) (by rw [recs_cons, List.length_append] at h; omega)
   refine ⟨k + 1, p, by simpa using h1, ?_, h3, ?_⟩
   ·rw [recs_cons, List.take_append, List.take_of_length_le (by omega), h2, List.take_succ_cons, recs_cons, List.append_assoc]
   ·rw [List.take_succ_cons, recs_cons, List.length_append]; omega
end Go.Proofs.YtlefikdjhnaapaaGreatDoor.Wl
end
section
namespace Go.Proofs.YtlefikdjhnaapaaGreatDoor.Dm
open Go
def lose (d : Dk) (n : Int) : Dk := { d with lost := n.toNat }
def bring (d : Dk) : Dk := { d with down := false }
theorem lose_ok {d : Dk} (h : Ok d) (n : Int) (hn : n ≤ 9223372036854775807) : Ok (lose d n) := ⟨h.fs, by show n.toNat < _; omega, h.armed⟩
theorem bring_ok {d : Dk} (h : Ok d) : Ok (bring d) := ⟨h.fs, h.lost, h.armed⟩
end Go.Proofs.YtlefikdjhnaapaaGreatDoor.Dm
end
section
namespace Go.Proofs.YtlefikdjhnaapaaGreatDoor.Wl
open Go Co
theorem torn_some {l : List By} (hl : okL l) (n : Nat) (hn : n ≤ (recs l).length) : (∃ r, l = rowsOf ((recs l).take n) ++ r) ∧ (recs (rowsOf ((recs l).take n))).length ≤ n := by
 obtain ⟨k, p, h1, h2, h3, h4⟩ := cut_recs l n hl hn
 have hk : okL (l.take k) := fun s hs => hl s (List.mem_of_mem_take hs)
 rw [h2, (rows_back hk h3).1]
 exact ⟨⟨l.drop k, (List.take_append_drop k l).symm⟩, h4⟩
end Go.Proofs.YtlefikdjhnaapaaGreatDoor.Wl
end
section
namespace Go.Proofs.YtlefikdjhnaapaaGreatDoor.Wl
open Go Co Dm
section
variable {d : Dk} {n : Nat}
theorem clearD_ok {f : Int} (h : Ok d) : Ok (clearD d f).2 := by
 unfold clearD; split
 ·exact h
 ·exact cut_ok h _ _
theorem trimD_ok {f : Int} (h : Ok d) : Ok (trimD d f).2 := by
 unfold trimD; split
 ·exact cut_ok h _ _
 ·exact h
theorem openD_ok {f : Int} (h : Ok d) : Ok (openD d f).2 := by
 have h1 := trimD_ok (f := f) h
 have h2 := clearD_ok (f := f) h1
 unfold openD; split
 ·exact h
 split
 ·exact h1
 split
 ·exact h2
 ·exact flush_ok h2 _
end
end Go.Proofs.YtlefikdjhnaapaaGreatDoor.Wl
end
section
namespace Go.Proofs.YtlefikdjhnaapaaGreatDoor.Ql
open Go Co Sg Ac It Sl Wl
def rd1 (acc : List It.Entry) (row : By) : Option (List It.Entry) :=
 if (readEntry row).2 = true ∧ dg (readEntry row).1 ∉ acc.map dg then some (acc ++ [(readEntry row).1]) else none
def rdAll : List It.Entry → List By → Option (List It.Entry)
 | acc, [] => some acc
 | acc, r :: l => (rd1 acc r).bind fun a => rdAll a l
def sopenD (d : Dm.Dk) (f server : Int) (k : Key) : Int × Dm.Dk × List It.Entry :=
 if (0 ≤ server ∧ server ≤ 19) ∧ k.right = true then
  if (openD d f).1 ≠ 0 then ((openD d f).1, (openD d f).2, [])
  else match rdAll [] (rowsOf (Dm.peek d f).1) with
   | none => (2, (openD d f).2, [])
   | some E => if times E then (0, (openD d f).2, E) else (2, (openD d f).2, [])
 else (1, d, [])
theorem entryB_len' (e : It.Entry) : (entryB e).length ≤ 200009 := by
 unfold entryB
 split
 ·rename_i h
  rw [Bool.and_eq_true] at h
  have h1 := wi_iff.1 h.1
  have := numI_le e.time (by omega)
  have := Pe.bytesIt_len6 e.item
  rw [List.length_append]
  omega
 ·exact Nat.zero_le _
end Go.Proofs.YtlefikdjhnaapaaGreatDoor.Ql
end
section
namespace Go.Proofs.YtlefikdjhnaapaaGreatDoor.Pe
open Go Go.RowKit Co Sg Ac It Sl
set_option maxRecDepth 100000
set_option maxHeartbeats 4000000
abbrev headsV (l : List Head) : AV := .sl .ro (l.map headV)
theorem heads_sz (l : List Head) : allSz 6 (l.map headV) = true := allSz_map 6 headV (fun _ => rfl) _
end Go.Proofs.YtlefikdjhnaapaaGreatDoor.Pe
end
section
namespace Go.Proofs.YtlefikdjhnaapaaGreatDoor
open Go.RowKit Dm
section
variable {S : Nat → Prop} {w : World} {g : Nat} {d : Dk}
theorem start_any (h : DRep w S g d) : Calls Tryz.prog 23 #[.pointer (some ⟨g, 0, none⟩)] w fun e w' => e = .returned (.tuple #[]) ∧ DRep w' S g (bring d) ∧ Fr (fun b => b = g) w w' := by
  have c16 := h.cDown
  have f16 := h.free 16
  have H := Veil.mk (And.intro (h.setDown false) (Fr.setCell (S := fun b => b = g) (w := w) (p := ⟨g, 16, none⟩) rfl (.bool false)))
  clear h
  go_enter Tryz.func23, Tryz.ntmps23
  go_wp2
  go_end0
  exact ⟨rfl, H.out⟩
theorem lose_any (h : DRep w S g d) (n : Int) (_hn : n ≤ 9223372036854775807) : Calls Tryz.prog 25 #[.pointer (some ⟨g, 0, none⟩), .int .i64 n] w fun e w' => e = .returned (.tuple #[]) ∧ DRep w' S g (lose d n) ∧ Fr (fun b => b = g) w w' := by
  have c17 := h.cLost
  have f17 := h.free 17
  have H := Veil.mk (And.intro (h.setLost n.toNat) (Fr.setCell (S := fun b => b = g) (w := w) (p := ⟨g, 17, none⟩) rfl (.int .i64 (n.toNat : Int))))
  clear h
  by_cases h0 : 0 ≤ n
  · have e : (n.toNat : Int) = n := by omega
    rw [e] at H
    clear e
    go_enter Tryz.func25, Tryz.ntmps25
    go_wp2
    go_end0
    first | exact ⟨rfl, H.out⟩ | (rw [show max n 0 = n from by omega]; exact ⟨rfl, H.out⟩)
  · have e : (n.toNat : Int) = 0 := by omega
    rw [e] at H
    clear e
    go_enter Tryz.func25, Tryz.ntmps25
    go_wp2
    go_end0
    first | exact ⟨rfl, H.out⟩ | (rw [show max n 0 = 0 from by omega]; exact ⟨rfl, H.out⟩)
end
end Go.Proofs.YtlefikdjhnaapaaGreatDoor
end
section
namespace Go.Proofs.YtlefikdjhnaapaaGreatDoor.Pe
open Go Go.RowKit Dm
variable [Tab]
section
variable {P : Program} {w w' : World} {g : Gh}
end
theorem rel_tup0 (w : World) (g : Gh) : Rel w g (.tup []) (.tuple #[]) := .tup _ _ _ rfl fun j u v hu => by simp at hu
theorem flat_ints (ks : List Int) : flat (ks.map (AV.it .i64)) = ks.map (AV.it .i64) := by
  induction ks with
  | nil => rfl
  | cons k ks ih => rw [List.map_cons, flat, List.flatMap_cons]; exact congrArg _ ih
theorem rel_ints {w : World} {g : Gh} {m : Mode} {ks : List Int} {cv : Value} (h : Rel w g (ints m ks) cv) : Kp w cv ks ∧ (0 < ks.length → ∀ b, bl cv = some b → 0 < g.G b) := by
  cases h
  rename_i A c sz cu hcm hc hsz h1 hA hr hm
  rw [flat_ints] at hA hr
  rw [List.length_map] at hc hA
  have key : ∀ j, j < ks.length → cu j = .int .i64 (ks.getD j 0) := fun j hj => by
    have := hr j (.it .i64 ks[j]) (by rw [List.getElem?_map, List.getElem?_eq_getElem hj]; rfl)
    rw [rel_it this, List.getD_eq_getElem?_getD, List.getElem?_eq_getElem hj]; rfl
  refine ⟨⟨A, c, by rw [List.length_map], hc, fun h0 => ?_⟩, fun h0 b hb => ?_⟩
  · obtain ⟨b, o, rfl, h⟩ := hA h0
    exact ⟨b, o, rfl, fun j hj => by rw [(h j (by simpa using hj)).2, key j hj]⟩
  · obtain ⟨b', o, rfl, h⟩ := hA h0
    obtain ⟨c, rfl⟩ := Nat.exists_eq_succ_of_ne_zero (show c ≠ 0 by omega)
    cases hb
    exact Nat.lt_of_le_of_lt (Nat.zero_le _) (h 0 h0).1
section
variable {d : Dk}
theorem d_crash (d : Dk) (m : Mode) (ks : List Int) : AC Tryz.prog 21 [.ptr 0 0, ints m ks] [XD d] (.tup []) [XD (crash d ks)] := by
  refine AC.ofFr (by kernel_rfl) (xd_mono d) (xd_keep _) fun w g S cargs hargs hbuf hn hG hSp hS hX => ?_
  obtain ⟨v0, c0, rfl, h0, hargs⟩ := lrel_cons hargs
  obtain ⟨v1, c1, rfl, h1, hargs⟩ := lrelc hargs
  obtain rfl : c1 = [] := by simpa using lrel_nil hargs
  obtain rfl := rel_ptr h0
  obtain ⟨hk, hb⟩ := rel_ints h1
  exact (crash_any hX.1 hX.2 v1 ks hk (fun h b e hbe => by have := hb h b e; rw [hbe, hG] at this; omega)).mono fun r w' ⟨e, hD, hF⟩ => ⟨_, e, fun g' => rel_tup0 _ _, ⟨hD, crash_ok hX.2 _⟩, hF.more fun b e => by rw [e]; exact hSp⟩
theorem d_lose (d : Dk) (n : Int) (hn : n ≤ 9223372036854775807) : AC Tryz.prog 25 [.ptr 0 0, .it .i64 n] [XD d] (.tup []) [XD (lose d n)] := by
  refine AC.ofFr (by kernel_rfl) (xd_mono d) (xd_keep _) fun w g S cargs hargs hbuf _ hG hSp hS hX => ?_
  obtain ⟨v0, c0, rfl, h0, hargs⟩ := lrel_cons hargs
  obtain ⟨v1, c1, rfl, h1, hargs⟩ := lrelc hargs
  obtain rfl : c1 = [] := by simpa using lrel_nil hargs
  obtain rfl := rel_ptr h0; obtain rfl := rel_it h1
  exact (lose_any hX.1 n hn).mono fun r w' ⟨e, hD, hF⟩ => ⟨_, e, fun g' => rel_tup0 _ _, ⟨hD, lose_ok hX.2 n hn⟩, hF.more fun b e => by rw [e]; exact hSp⟩
theorem d_start (d : Dk) : AC Tryz.prog 23 [.ptr 0 0] [XD d] (.tup []) [XD (bring d)] := by
  refine AC.ofFr (by kernel_rfl) (xd_mono d) (xd_keep _) fun w g S cargs hargs hbuf _ hG hSp hS hX => ?_
  obtain ⟨v0, c0, rfl, h0, hargs⟩ := lrel_cons hargs
  obtain rfl : c0 = [] := by simpa using lrel_nil hargs
  obtain rfl := rel_ptr h0
  exact (start_any hX.1).mono fun r w' ⟨e, hD, hF⟩ => ⟨_, e, fun g' => rel_tup0 _ _, ⟨hD, bring_ok hX.2⟩, hF.more fun b e => by rw [e]; exact hSp⟩
end
end Go.Proofs.YtlefikdjhnaapaaGreatDoor.Pe
end
section
namespace Go.Proofs.YtlefikdjhnaapaaGreatDoor.Pe
open Go Go.RowKit
variable [Tab]
section
variable {P : Program} {N N0 : Nat} {w0 : World} {g0 : Gh} {pf rf : List FuncId}
end
section
variable {P : Program} {N N0 : Nat} {w0 : World} {g0 : Gh} {pf rf : List FuncId} {ord : List (Nat × List Nat)}
end
section
variable {P : Program}
end
end Go.Proofs.YtlefikdjhnaapaaGreatDoor.Pe
namespace Go.Proofs.YtlefikdjhnaapaaGreatDoor.Pe
open Go Go.RowKit
variable [Tab]
section
variable {P : Program} {N N0 : Nat} {w0 : World} {g0 : Gh} {pf rf : List FuncId} {Kp lp wp : List Nat}
end
section
variable {P : Program} {N N0 : Nat} {w0 : World} {g0 : Gh} {pf rf : List FuncId} {sp : List (Nat × (List Nat × List Nat × List Nat))} {ord : List (Nat × List Nat)}
end
section
variable {P : Program}
end
section
variable (P : Program) (pf rf : List FuncId) (N0 : Nat) (Q : AX → Env → Store → Prop) (e : Env) (S : Store) (K : Env → Store → Prop)
end
section
variable {P : Program} {pf rf : List FuncId} {e e' : Env} {S S' : Store} {K : Env → Store → Prop} {Kp lp wp : List Nat} {rest : List AO}
end
set_option maxRecDepth 100000
end Go.Proofs.YtlefikdjhnaapaaGreatDoor.Pe
namespace Go.Proofs.YtlefikdjhnaapaaGreatDoor.Pe
open Go Go.RowKit
variable [Tab]
end Go.Proofs.YtlefikdjhnaapaaGreatDoor.Pe
end
section
namespace Go.Proofs.YtlefikdjhnaapaaGreatDoor.Pe
open Go Go.RowKit Co Sg Ac It
set_option maxRecDepth 100000
set_option maxHeartbeats 4000000
abbrev intsV (l : List Int) : AV := .sl .ro (l.map (AV.it .i64))
theorem shp_intsI {n us} (h : shp Tryz.prog 140737488351232 (n + 2) 42 us) : ∃ l : List Int, us = [intsV l] ∧ InL l := by
 obtain ⟨l, h1, h2, h3⟩ := shp_slice (AV.it .i64) (fun i : Int => -9223372036854775808 ≤ i ∧ i ≤ 9223372036854775807) Tryz.underlying42 h (fun x hx => by
  obtain ⟨i, rfl, hi⟩ := shp_i64 Tryz.underlying3 hx
  exact ⟨i, by rw [show aggT Tryz.prog 3 = false from by kernel_rfl]; rfl, hi⟩)
 exact ⟨l, h1, h2, h3⟩
end Go.Proofs.YtlefikdjhnaapaaGreatDoor.Pe
end
section
namespace Go.Proofs.YtlefikdjhnaapaaGreatDoor.Wl
open Go Co Dm
structure WS (d : Dk) (R safe : List By) : Prop where
 up : d.down = false
 ok : Dm.Ok d
 data : (d.fs 2).data = recs R
 okR : okL R
 pre : ∃ t, R = safe ++ t
 dur : (recs safe).length ≤ (d.fs 2).dur
structure Hp (d : Dk) (all safe : List By) : Prop where
 down : d.down = true
 ok : Dm.Ok d
 all : ∃ t, all = rowsOf (d.fs 2).data ++ t
 safe : ∃ t, rowsOf (d.fs 2).data = safe ++ t
section
variable {d : Dk} {R safe : List By}
theorem hp_take {n : Nat} (ho : okL R) (hp : ∃ t, R = safe ++ t) (hn : n ≤ (recs R).length) (hs : (recs safe).length ≤ n) : (∃ t, R = rowsOf ((recs R).take n) ++ t) ∧ ∃ t, rowsOf ((recs R).take n) = safe ++ t := by
 refine ⟨(torn_some ho n hn).1, ?_⟩
 obtain ⟨t, rfl⟩ := hp
 have e : (recs (safe ++ t)).take n = recs safe ++ (recs t).take (n - (recs safe).length) := by
  rw [recs_append, List.take_append, List.take_of_length_le hs]
 rw [e]
 exact ⟨_, (rows_append (fun s hs => ho s (List.mem_append.2 (.inl hs))) _).1⟩
theorem WS.crash (h : WS d R safe) (ks : List Int) : Hp (Dm.crash d ks) R safe := by
 have e : Dm.crash d ks = ⟨fun i => (d.fs i).crash (ks.getD i 0), true, d.lost, 0, []⟩ := by unfold Dm.crash; rw [h.up]; rfl
 have ho := crash_ok h.ok ks
 have hd := (h.ok.fs 2)
 have h1 := Fl.stay_le hd (ks.getD 2 0)
 have h2 : (d.fs 2).dur ≤ (d.fs 2).stay (ks.getD 2 0) := by unfold Fl.stay; omega
 have hf : ((Dm.crash d ks).fs 2).data = (recs R).take ((d.fs 2).stay (ks.getD 2 0)) := by rw [e, ← h.data]; rfl
 have := hp_take (n := (d.fs 2).stay (ks.getD 2 0)) h.okR h.pre (by rw [← h.data]; exact h1) (by have := h.dur; omega)
 exact ⟨by rw [e], ho, by rw [hf]; exact this.1, by rw [hf]; exact this.2⟩
theorem WS.same {d' : Dk} (h : WS d R safe) (hu : d'.down = false) (ho : Dm.Ok d') (hf : d'.fs 2 = d.fs 2) : WS d' R safe := ⟨hu, ho, by rw [hf]; exact h.data, h.okR, h.pre, by rw [hf]; exact h.dur⟩
theorem Hp.more {all : List By} (h : Hp d all safe) (t : List By) : Hp d (all ++ t) safe := ⟨h.down, h.ok, by obtain ⟨u, hu⟩ := h.all; exact ⟨u ++ t, by rw [hu, List.append_assoc]⟩, h.safe⟩
theorem strikes_fs (d : Dk) : (strikes d).2.fs = d.fs ∧ (strikes d).2.down = d.down ∧ (strikes d).2.lost = d.lost := by unfold strikes; split <;> exact ⟨rfl, rfl, rfl⟩
theorem WS.strikes (h : WS d R safe) : WS (strikes d).2 R safe := by
 obtain ⟨h1, h2, _⟩ := strikes_fs d
 exact h.same (h2.trans h.up) (strikes_ok h.ok) (by rw [h1])
theorem WS.struck (h : WS d R safe) (e : Int) : ((Dm.struck d e).1 = 8 ∧ Hp (Dm.struck d e).2 R safe) ∨ ((Dm.struck d e).1 = e ∧ WS (Dm.struck d e).2 R safe ∧ (Dm.struck d e).2.fs = d.fs) := by
 unfold Dm.struck
 split
 ·exact .inl ⟨rfl, h.strikes.crash _⟩
 ·exact .inr ⟨rfl, h.strikes, (strikes_fs d).1⟩
theorem WS.begins (h : WS d R safe) (l : List Int) (hl : l.all kn = true) : ((beginD d l).1 = 8 ∧ Hp (beginD d l).2 R safe) ∨ ((beginD d l).1 = 0 ∧ WS (beginD d l).2 R safe ∧ (beginD d l).2.fs = d.fs) := by
 have : beginD d l = Dm.struck d 0 := by unfold beginD; rw [if_neg (by rw [h.up]; decide), if_pos hl]
 rw [this]
 exact h.struck 0
theorem flushD_eq (d : Dk) (f : Int) : flushD d f = (if (beginD d [f]).1 ≠ 0 then beginD d [f] else if 0 < (beginD d [f]).2.lost then (18, { (beginD d [f]).2 with lost := (beginD d [f]).2.lost - 1 }) else
  (0, { (beginD d [f]).2 with fs := upd (beginD d [f]).2.fs f.toNat ⟨((beginD d [f]).2.fs f.toNat).data, ((beginD d [f]).2.fs f.toNat).data.length⟩ })) := rfl
theorem cutD_eq (d : Dk) (f n : Int) : cutD d f n = (if (beginD d [f]).1 ≠ 0 then beginD d [f] else if n < 0 ∨ (size (beginD d [f]).2 f : Int) < n then (1, (beginD d [f]).2) else
  (0, { (beginD d [f]).2 with fs := upd (beginD d [f]).2.fs f.toNat (((beginD d [f]).2.fs f.toNat).trunc n.toNat) })) := rfl
theorem WS.flush2 (h : WS d R safe) : ((flushD d 2).1 = 8 ∧ Hp (flushD d 2).2 R safe) ∨ ((flushD d 2).1 = 0 ∧ WS (flushD d 2).2 R R) ∨ ((flushD d 2).1 = 18 ∧ WS (flushD d 2).2 R safe) := by
 have ho := flush_ok h.ok 2
 rw [flushD_eq] at ho ⊢
 have hb := h.begins [2] rfl
 generalize beginD d [2] = b at *
 obtain ⟨be, b⟩ := b
 simp only at hb ho ⊢
 rcases hb with ⟨rfl, h2⟩ | ⟨rfl, h2, h3⟩
 ·exact .inl ⟨rfl, h2⟩
 ·rw [if_neg (by decide)] at ho ⊢
  by_cases hl : 0 < b.lost
  ·rw [if_pos hl] at ho ⊢
   exact .inr (.inr ⟨rfl, h2.same h2.up ho rfl⟩)
  ·rw [if_neg hl] at ho ⊢
   refine .inr (.inl ⟨rfl, ⟨h2.up, ho, ?_, h2.okR, ⟨[], by simp⟩, ?_⟩⟩)
   ·show (upd _ _ _ _).data = _
    rw [show ((2 : Int).toNat) = 2 from rfl, upd_same]
    exact h2.data
   ·show _ ≤ (upd _ _ _ _).dur
    rw [show ((2 : Int).toNat) = 2 from rfl, upd_same]
    show _ ≤ (_ : List UInt8).length
    rw [h2.data]
    exact Nat.le_refl _
def Side (r : Int × Dk) (R safe : List By) : Prop := (r.1 = 8 ∧ Hp r.2 R safe) ∨ (r.1 ≠ 8 ∧ WS r.2 R safe)
theorem WS.clear (h : WS d R safe) : Side (clearD d 2) R safe ∧ ((clearD d 2).1 = 0 → ((clearD d 2).2.fs 3).data = []) := by
 unfold clearD
 split
 ·rename_i h0
  refine ⟨.inr ⟨by simp, h⟩, fun _ => ?_⟩
  have : size d (2 + 1) = (d.fs 3).data.length := rfl
  rw [this] at h0
  exact List.eq_nil_of_length_eq_zero h0
 ·have ho := cut_ok h.ok (2 + 1) 0
  rw [cutD_eq] at ho ⊢
  have hb := h.begins [2 + 1] rfl
  generalize beginD d [2 + 1] = b at *
  obtain ⟨be, b⟩ := b
  simp only at hb ho ⊢
  rcases hb with ⟨rfl, h2⟩ | ⟨rfl, h2, h3⟩
  ·exact ⟨.inl ⟨rfl, h2⟩, fun e => by simp at e⟩
  ·rw [if_neg (by decide)] at ho ⊢
   rw [if_neg (by omega)] at ho ⊢
   refine ⟨.inr ⟨by simp, h2.same h2.up ho ?_⟩, fun _ => ?_⟩
   ·dsimp only
    rw [show ((2 + 1 : Int).toNat) = 3 from rfl, upd_ne _ (by decide)]
   ·show (upd _ _ _ _).data = _
    rw [show ((2 + 1 : Int).toNat) = 3 from rfl, upd_same]
    simp [Fl.trunc]
theorem WS.add (h : WS d R safe) (s : By) : ((addD d 2 s).1 = 8 ∧ Hp (addD d 2 s).2 (R ++ [s]) safe) ∨ ((addD d 2 s).1 = 0 ∧ WS (addD d 2 s).2 (R ++ [s]) safe) ∨ ((addD d 2 s).1 ≠ 8 ∧ (addD d 2 s).1 ≠ 0 ∧ WS (addD d 2 s).2 R safe) := by
 unfold addD
 split
 ·exact .inr (.inr ⟨by simp, by simp, h⟩)
 rename_i hs
 unfold appendD
 rw [if_neg (by rw [h.up]; decide), if_neg (show ¬ ((!kn 2) = true) by decide), show ((2 : Int).toNat) = 2 from rfl]
 split
 ·rcases h.struck 7 with ⟨h1, h2⟩ | ⟨h1, h2, _⟩
  ·exact .inl ⟨h1, h2.more _⟩
  ·exact .inr (.inr ⟨by rw [h1]; decide, by rw [h1]; decide, h2⟩)
 ·rename_i hn
  have h' : WS { d with fs := upd d.fs 2 ⟨(d.fs 2).data ++ rec1 s, (d.fs 2).dur⟩ } (R ++ [s]) safe := by
   refine ⟨h.up, ⟨upd_ok h.ok.fs _ ⟨?_, ?_⟩, h.ok.lost, h.ok.armed⟩, ?_, okL_append h.okR fun x hx => (by rw [List.mem_singleton.1 hx]; omega), ?_, ?_⟩
   ·have := (h.ok.fs 2).dur; simp only [List.length_append]; omega
   ·simp only [List.length_append]; omega
   ·show (upd _ _ _ _).data = _
    rw [upd_same, recs_snoc, h.data]
   ·obtain ⟨t, ht⟩ := h.pre
    exact ⟨t ++ [s], by rw [ht, List.append_assoc]⟩
   ·show _ ≤ (upd _ _ _ _).dur
    rw [upd_same]
    exact h.dur
  rcases h'.struck 0 with ⟨h1, h2⟩ | ⟨h1, h2, h3⟩
  ·exact .inl ⟨h1, h2⟩
  ·exact .inr (.inl ⟨h1, h2⟩)
theorem WS.lose (h : WS d R safe) (n : Int) (hn : n ≤ 9223372036854775807) : WS (Dm.lose d n) R safe := h.same h.up (lose_ok h.ok n hn) rfl
end
end Go.Proofs.YtlefikdjhnaapaaGreatDoor.Wl
end
section
namespace Go.Proofs.YtlefikdjhnaapaaGreatDoor.Ql
open Go Co Sg Ac It Sl Wl
structure Good (E : List It.Entry) : Prop where
 right : ∀ e ∈ E, isTime e.time = true ∧ It.right e.item = true
 nodup : (E.map dg).Nodup
 times : times E = true
theorem Good.nil : Good [] := ⟨fun e he => absurd he (by simp), List.nodup_nil, rfl⟩
theorem Good.take {E : List It.Entry} (h : Good E) (n : Nat) : Good (E.take n) :=
 ⟨fun e he => h.right e (List.mem_of_mem_take he), by rw [List.map_take]; exact h.nodup.sublist (List.take_sublist _ _), times_take h.times n⟩
theorem times_snoc {E : List It.Entry} {e : It.Entry} (h : times E = true) (hl : ∀ x, E.getLast? = some x → x.time ≤ e.time) : times (E ++ [e]) = true := by
 rw [times_iff]
 intro j hj
 rw [List.length_append, List.length_singleton] at hj
 by_cases hje : j + 1 < E.length
 ·rw [List.getElem_append_left (by omega), List.getElem_append_left hje]
  exact times_iff.1 h j hje
 ·have hj2 : j + 1 = E.length := by omega
  rw [List.getElem_append_left (by omega), List.getElem_append_right (by omega)]
  simp only [hj2, Nat.sub_self, List.getElem_cons_zero]
  refine hl _ ?_
  rw [List.getLast?_eq_getElem?]
  rw [show E.length - 1 = j by omega]
  exact List.getElem?_eq_getElem (by omega)
theorem nextT_ge (E : List It.Entry) (now : Int) : ∀ x, E.getLast? = some x → x.time ≤ nextT E now := fun x hx => by
 unfold nextT; rw [hx]; exact Int.le_max_right _ _
theorem nextT_time {E : List It.Entry} {now : Int} (hr : ∀ e ∈ E, isTime e.time = true ∧ It.right e.item = true) (h : 0 ≤ now ∧ now ≤ 1099511627776) : isTime (nextT E now) = true := by
 unfold nextT
 split
 ·exact wi_iff.2 h
 ·rename_i e he
  have := wi_iff.1 (hr e (List.mem_of_getLast? he)).1
  refine wi_iff.2 ?_
  omega
theorem Good.snoc {E : List It.Entry} (h : Good E) {it : It.Item} {now : Int} (hi : It.right it = true) (hn : 0 ≤ now ∧ now ≤ 1099511627776) (hd : It.digest it ∉ E.map dg) : Good (E ++ [⟨nextT E now, it⟩]) := by
 refine ⟨fun e he => ?_, ?_, times_snoc h.times (nextT_ge E now)⟩
 ·rcases List.mem_append.1 he with he | he
  ·exact h.right e he
  ·rw [List.mem_singleton.1 he]; exact ⟨nextT_time h.right hn, hi⟩
 ·rw [List.map_append, List.nodup_append]
  refine ⟨h.nodup, by simp, fun a ha b hb => ?_⟩
  simp only [List.map_cons, List.map_nil, List.mem_singleton] at hb
  rintro rfl
  rw [hb] at ha
  exact hd ha
theorem rdAll_back : ∀ (F acc : List It.Entry), Good (acc ++ F) → rdAll acc (rowsB F) = some (acc ++ F)
 | [], acc, _ => by rw [List.append_nil]; rfl
 | e :: F, acc, h => by
  have he := h.right e (by simp)
  have hb := readEntry_back he.1 he.2
  have hd : dg e ∉ acc.map dg := fun hm => by
   have := h.nodup
   rw [List.map_append, List.nodup_append] at this
   exact this.2.2 _ hm (dg e) (by simp) rfl
  have hr : rd1 acc (entryB e) = some (acc ++ [e]) := by
   unfold rd1
   rw [hb, if_pos ⟨rfl, hd⟩]
  have := rdAll_back F (acc ++ [e]) (by rw [List.append_assoc]; exact h)
  show (rd1 acc (entryB e)).bind _ = _
  rw [hr, Option.bind_some, this, List.append_assoc]; rfl
theorem rowsB_ok {E : List It.Entry} : okL (rowsB E) := fun s hs => by
 obtain ⟨e, _, rfl⟩ := List.mem_map.1 hs
 have := entryB_len' e
 omega
structure QS (d : Dm.Dk) (E : List It.Entry) (fl : Nat) : Prop where
 ws : WS d (rowsB E) (rowsB (E.take fl))
 armed : d.armed = 0
 good : Good E
 le : fl ≤ E.length
section
variable {d : Dm.Dk} {E : List It.Entry} {fl : Nat}
theorem un_strikes (h : d.armed = 0) : Dm.strikes d = (false, d) := by unfold Dm.strikes; rw [if_pos h]
theorem un_struck (h : d.armed = 0) (e : Int) : Dm.struck d e = (e, d) := by unfold Dm.struck; rw [un_strikes h]; rfl
theorem add_armed (h : d.armed = 0) (hu : d.down = false) (s : By) : (addD d 2 s).2.armed = 0 ∧ (addD d 2 s).1 ≠ 8 := by
 unfold addD
 split
 ·exact ⟨h, by simp⟩
 unfold Dm.appendD
 rw [if_neg (by rw [hu]; decide), if_neg (show ¬ ((!Dm.kn 2) = true) by decide)]
 split
 ·rw [un_struck h]; exact ⟨h, by simp⟩
 ·rw [un_struck (by exact h)]; exact ⟨h, by simp⟩
theorem QS.add (h : QS d E fl) {it : It.Item} {now : Int} (hi : It.right it = true) (hn : 0 ≤ now ∧ now ≤ 1099511627776) (hd : It.digest it ∉ E.map dg) :
  ((addD d 2 (entryB ⟨nextT E now, it⟩)).1 = 0 ∧ QS (addD d 2 (entryB ⟨nextT E now, it⟩)).2 (E ++ [⟨nextT E now, it⟩]) fl) ∨ ((addD d 2 (entryB ⟨nextT E now, it⟩)).1 ≠ 0 ∧ QS (addD d 2 (entryB ⟨nextT E now, it⟩)).2 E fl) := by
 obtain ⟨h1, h2⟩ := add_armed h.armed h.ws.up (entryB ⟨nextT E now, it⟩)
 rcases h.ws.add (entryB ⟨nextT E now, it⟩) with h3 | ⟨h3, h4⟩ | ⟨_, h3, h4⟩
 ·exact absurd h3.1 h2
 ·refine .inl ⟨h3, ?_, h1, h.good.snoc hi hn hd, by rw [List.length_append]; have := h.le; omega⟩
  rw [List.take_append_of_le_length h.le]
  have e : rowsB (E ++ [⟨nextT E now, it⟩]) = rowsB E ++ [entryB ⟨nextT E now, it⟩] := List.map_append ..
  rw [e]
  exact h4
 ·exact .inr ⟨h3, h4, h1, h.good, h.le⟩
theorem flush_armed (h : d.armed = 0) (hu : d.down = false) : (Dm.flushD d 2).2.armed = 0 ∧ (Dm.flushD d 2).1 ≠ 8 := by
 have hb : Dm.beginD d [2] = (0, d) := by unfold Dm.beginD; rw [if_neg (by rw [hu]; decide), un_struck h]; rfl
 rw [flushD_eq, hb]
 simp only [ne_eq, not_true_eq_false, if_false]
 split
 ·exact ⟨h, by simp⟩
 ·exact ⟨h, by simp⟩
theorem QS.flush (h : QS d E fl) : ((Dm.flushD d 2).1 = 0 ∧ QS (Dm.flushD d 2).2 E E.length) ∨ ((Dm.flushD d 2).1 ≠ 0 ∧ QS (Dm.flushD d 2).2 E fl) := by
 obtain ⟨h1, h2⟩ := flush_armed h.armed h.ws.up
 rcases h.ws.flush2 with h3 | ⟨h3, h4⟩ | ⟨h3, h4⟩
 ·exact absurd h3.1 h2
 ·exact .inl ⟨h3, by rw [List.take_length]; exact h4, h1, h.good, Nat.le_refl _⟩
 ·exact .inr ⟨by rw [h3]; decide, h4, h1, h.good, h.le⟩
theorem QS.lose (h : QS d E fl) (n : Int) (hn : n ≤ 9223372036854775807) : QS (Dm.lose d n) E fl := ⟨h.ws.lose n hn, h.armed, h.good, h.le⟩
theorem open_calm (hc : Wl.Calm d) (ho : Dm.Ok d) {F : List It.Entry} (hF : Good F) (hr : rowsOf (d.fs 2).data = rowsB F) {server : Int} {k : Key} (hs : 0 ≤ server ∧ server ≤ 19) (hk : k.right = true) :
  ∃ d', sopenD d 2 server k = (0, d', F) ∧ openD d 2 = (0, d') ∧ QS d' F F.length ∧ Wl.Calm d' := by
 obtain ⟨d', e, c, f, _, _⟩ := calm_open hc (n := 2) (by omega)
 rw [show ((2 : Nat) : Int) = 2 from rfl] at e
 have o := openD_ok (f := 2) ho
 rw [e] at o
 rw [hr] at f
 refine ⟨d', ?_, e, ⟨⟨c.down, o, by rw [f], rowsB_ok, ⟨[], by simp⟩, by rw [f, List.take_length]; exact Nat.le_refl _⟩, c.armed, hF, Nat.le_refl _⟩, c⟩
 unfold sopenD
 have hp : Dm.peek d 2 = ((d.fs 2).data, 0) := calm_peek (n := 2) hc (by omega)
 rw [if_pos ⟨hs, hk⟩, e, if_neg (by simp), hp, hr, rdAll_back F [] hF]
 simp only [List.nil_append]
 rw [hF.times]; rfl
theorem crash_rows (h : QS d E fl) (ks : List Int) : ∃ j, fl ≤ j ∧ j ≤ E.length ∧ rowsOf ((Dm.crash d ks).fs 2).data = rowsB (E.take j) := by
 have hp := h.ws.crash ks
 obtain ⟨t, ht⟩ := hp.all
 obtain ⟨u, hu⟩ := hp.safe
 generalize rowsOf ((Dm.crash d ks).fs 2).data = W at *
 refine ⟨W.length, ?_, ?_, ?_⟩
 ·have := congrArg List.length hu
  rw [List.length_append, List.length_map, List.length_take, Nat.min_eq_left h.le] at this
  omega
 ·have := congrArg List.length ht
  rw [List.length_append, List.length_map] at this
  omega
 ·rw [rowsB, List.map_take]
  rw [show E.map entryB = W ++ t from ht, List.take_left']
  rfl
theorem QS.reopen (h : QS d E fl) (ks : List Int) {server : Int} {k : Key} (hs : 0 ≤ server ∧ server ≤ 19) (hk : k.right = true) :
  ∃ d' j, fl ≤ j ∧ j ≤ E.length ∧ sopenD (Dm.lose (Dm.bring (Dm.crash d ks)) 0) 2 server k = (0, d', E.take j) ∧ QS d' (E.take j) j ∧ openD (Dm.lose (Dm.bring (Dm.crash d ks)) 0) 2 = (0, d') ∧ rowsOf (Dm.peek (Dm.lose (Dm.bring (Dm.crash d ks)) 0) 2).1 = rowsB (E.take j) ∧ (Dm.peek (Dm.lose (Dm.bring (Dm.crash d ks)) 0) 2).1.length ≤ 16777216 := by
 obtain ⟨j, h1, h2, h3⟩ := crash_rows h ks
 have hu : d.down = false := h.ws.up
 have hc : Wl.Calm (Dm.lose (Dm.bring (Dm.crash d ks)) 0) := ⟨rfl, (by show (Dm.crash d ks).armed = 0; unfold Dm.crash; rw [if_neg (by rw [hu]; decide)]), rfl⟩
 have ho : Dm.Ok (Dm.lose (Dm.bring (Dm.crash d ks)) 0) := Dm.lose_ok (Dm.bring_ok (Dm.crash_ok h.ws.ok ks)) 0 (by decide)
 obtain ⟨d', e, e2, q, _⟩ := open_calm hc ho (h.good.take j) h3 hs hk
 have hp : Dm.peek (Dm.lose (Dm.bring (Dm.crash d ks)) 0) 2 = (((Dm.crash d ks).fs 2).data, 0) := calm_peek (n := 2) hc (by omega)
 rw [List.length_take, Nat.min_eq_left h2] at q
 refine ⟨d', j, h1, h2, e, q, e2, ?_, ?_⟩
 ·rw [hp]; exact h3
 ·rw [hp]; exact (ho.fs 2).len
theorem dk0_open {server : Int} {k : Key} (hs : 0 ≤ server ∧ server ≤ 19) (hk : k.right = true) : ∃ d', sopenD Dm.dk0 2 server k = (0, d', []) ∧ QS d' [] 0 ∧ openD Dm.dk0 2 = (0, d') := by
 obtain ⟨d', e, e2, q, _⟩ := open_calm dk0_calm Dm.dk0_ok Good.nil rfl hs hk
 exact ⟨d', e, q, e2⟩
end
end Go.Proofs.YtlefikdjhnaapaaGreatDoor.Ql
end
section
namespace Go.Proofs.YtlefikdjhnaapaaGreatDoor.Ql
open Go Co Sg Ac It Sl Wl
abbrev headF (k : Key) (server : Int) (F : List It.Entry) : Head := mkHead k server F (lastT F)
theorem lastT_in {F : List It.Entry} (h : Good F) : 0 ≤ lastT F ∧ lastT F ≤ 1099511627776 := by
 unfold lastT
 split
 ·decide
 ·rename_i e he
  exact wi_iff.1 (h.right e (List.mem_of_getLast? he)).1
def Grow (Fs : List (List It.Entry)) (cur : List It.Entry) : Prop := (Fs ++ [cur]).Pairwise (· <+: ·)
theorem Grow.nil (cur : List It.Entry) : Grow [] cur := List.pairwise_singleton _ _
theorem Grow.pre {Fs : List (List It.Entry)} {cur : List It.Entry} (h : Grow Fs cur) : ∀ F ∈ Fs, F <+: cur := fun F hF => (List.pairwise_append.1 h).2.2 F hF cur (by simp)
theorem Grow.next {Fs : List (List It.Entry)} {cur cur' : List It.Entry} (h : Grow Fs cur) (hc : cur <+: cur') : Grow (Fs ++ [cur']) cur' := by
 have h1 := (List.pairwise_append.1 h).1
 refine List.pairwise_append.2 ⟨List.pairwise_append.2 ⟨h1, List.pairwise_singleton _ _, fun F hF G hG => ?_⟩, List.pairwise_singleton _ _, fun F hF G hG => ?_⟩
 ·rw [List.mem_singleton.1 hG]; exact (h.pre F hF).trans hc
 ·rw [List.mem_singleton.1 hG]
  rcases List.mem_append.1 hF with hF | hF
  ·exact (h.pre F hF).trans hc
  ·rw [List.mem_singleton.1 hF]; exact List.prefix_refl _
theorem Good.pre {E F : List It.Entry} (h : Good E) (hp : F <+: E) : Good F := by
 rw [List.prefix_iff_eq_take.1 hp]; exact h.take _
theorem take_pre (E : List It.Entry) {a b : Nat} (h : a ≤ b) : E.take a <+: E.take b := by
 rw [show a = min a b by omega, ← List.take_take]
 exact List.take_prefix _ _
theorem take_self_pre (E : List It.Entry) (a : Nat) {e : It.Entry} (h : a ≤ E.length) : (E ++ [e]).take a = E.take a := List.take_append_of_le_length h
end Go.Proofs.YtlefikdjhnaapaaGreatDoor.Ql
end
section
namespace Go.Proofs.YtlefikdjhnaapaaGreatDoor.Ql
open Go Co Sg Ac It Sl Wl
structure Stp where
 Do : Int
 Item : Int
 Now : Int
 Keep : List Int
structure Scr where
 seed : By
 server : Int
 items : List It.Item
 steps : List Stp
def pickN (n m : Int) : Int := if n.tmod m < 0 then n.tmod m + m else n.tmod m
theorem pickN_in {n m : Int} (hm : 0 < m) : 0 ≤ pickN n m ∧ pickN n m < m := by
 have h1 : -m < n.tmod m ∧ n.tmod m < m := by
  rcases Int.le_total 0 n with h | h
  ·rw [Int.tmod_eq_emod_of_nonneg h]
   have := Int.emod_nonneg n (show m ≠ 0 by omega)
   have := Int.emod_lt_of_pos n hm
   omega
  ·have e : n = -(-n) := by omega
   rw [e, Int.neg_tmod, Int.tmod_eq_emod_of_nonneg (by omega)]
   have := Int.emod_nonneg (-n) (show m ≠ 0 by omega)
   have := Int.emod_lt_of_pos (-n) hm
   omega
 unfold pickN
 split <;> omega
def pickI (l : List It.Item) (n : Int) : It.Item := l.getD (pickN n l.length).toNat item0
structure St where
 d : Dm.Dk
 E : List It.Entry
 fl : Nat
 Fs : List (List It.Entry)
def goS (server : Int) (k : Key) (items : List It.Item) (s : St) (x : Stp) : Dm.Dk × List It.Entry × Nat :=
 if pickN x.Do 8 ≤ 2 then ((saddD s.d 2 s.E (pickI items x.Item) x.Now).2.1, (saddD s.d 2 s.E (pickI items x.Item) x.Now).2.2, s.fl)
 else if pickN x.Do 8 ≤ 4 then ((Dm.flushD s.d 2).2, s.E, if (Dm.flushD s.d 2).1 = 0 then s.E.length else s.fl)
 else if pickN x.Do 8 = 5 then ((sopenD (Dm.lose (Dm.bring (Dm.crash s.d x.Keep)) 0) 2 server k).2.1, (sopenD (Dm.lose (Dm.bring (Dm.crash s.d x.Keep)) 0) 2 server k).2.2, (sopenD (Dm.lose (Dm.bring (Dm.crash s.d x.Keep)) 0) 2 server k).2.2.length)
 else if pickN x.Do 8 = 6 then (Dm.lose s.d 1, s.E, s.fl)
 else (s.d, s.E, s.fl)
def stepS (server : Int) (k : Key) (items : List It.Item) (s : St) (x : Stp) : St :=
 ⟨(goS server k items s x).1, (goS server k items s x).2.1, (goS server k items s x).2.2, s.Fs ++ [(goS server k items s x).2.1.take (goS server k items s x).2.2]⟩
def runS (server : Int) (k : Key) (items : List It.Item) (s : St) (l : List Stp) : St := l.foldl (stepS server k items) s
structure InvS (s : St) : Prop where
 q : QS s.d s.E s.fl
 g : Grow s.Fs (s.E.take s.fl)
section
variable {server : Int} {k : Key} {items : List It.Item} {s : St} {x : Stp}
theorem goS_spec (hs : 0 ≤ server ∧ server ≤ 19) (hk : k.right = true) (h : QS s.d s.E s.fl) :
  QS (goS server k items s x).1 (goS server k items s x).2.1 (goS server k items s x).2.2 ∧ s.E.take s.fl <+: (goS server k items s x).2.1.take (goS server k items s x).2.2 ∧ (goS server k items s x).2.1.length ≤ s.E.length + 1 := by
 unfold goS
 split
 ·unfold saddD
  split
  ·rename_i hc
   split
   ·exact ⟨h, List.prefix_refl _, Nat.le_succ _⟩
   ·rename_i hd
    rcases h.add hc.1 hc.2 hd with ⟨h1, h2⟩ | ⟨h1, h2⟩
    ·rw [if_pos h1]
     refine ⟨h2, ?_, by simp⟩
     show _ <+: List.take s.fl (s.E ++ _)
     rw [take_self_pre _ _ h.le]
     exact List.prefix_refl _
    ·rw [if_neg h1]
     exact ⟨h2, List.prefix_refl _, Nat.le_succ _⟩
  ·exact ⟨h, List.prefix_refl _, Nat.le_succ _⟩
 split
 ·rcases h.flush with ⟨h1, h2⟩ | ⟨h1, h2⟩
  ·rw [if_pos h1]
   exact ⟨h2, take_pre _ h.le, Nat.le_succ _⟩
  ·rw [if_neg h1]
   exact ⟨h2, List.prefix_refl _, Nat.le_succ _⟩
 split
 ·obtain ⟨d', j, h1, h2, h3, h4, _⟩ := h.reopen x.Keep hs hk
  rw [h3]
  have hl : (s.E.take j).length = j := by rw [List.length_take]; omega
  simp only [hl]
  refine ⟨h4, ?_, by omega⟩
  rw [List.take_take, Nat.min_self]
  exact take_pre _ h1
 split
 ·exact ⟨h.lose 1 (by decide), List.prefix_refl _, Nat.le_succ _⟩
 ·exact ⟨h, List.prefix_refl _, Nat.le_succ _⟩
theorem stepS_inv (hs : 0 ≤ server ∧ server ≤ 19) (hk : k.right = true) (h : InvS s) : InvS (stepS server k items s x) ∧ (stepS server k items s x).E.length ≤ s.E.length + 1 ∧ (stepS server k items s x).Fs.length = s.Fs.length + 1 := by
 obtain ⟨h1, h2, h3⟩ := goS_spec (items := items) (x := x) hs hk h.q
 exact ⟨⟨h1, h.g.next h2⟩, h3, by simp [stepS]⟩
theorem runS_inv (hs : 0 ≤ server ∧ server ≤ 19) (hk : k.right = true) : ∀ (l : List Stp) (s : St), InvS s → InvS (runS server k items s l) ∧ (runS server k items s l).E.length ≤ s.E.length + l.length ∧ (runS server k items s l).Fs.length = s.Fs.length + l.length
 | [], s, h => ⟨h, Nat.le_refl _, rfl⟩
 | x :: l, s, h => by
  obtain ⟨h1, h2, h3⟩ := stepS_inv (items := items) (x := x) hs hk h
  obtain ⟨h4, h5, h6⟩ := runS_inv hs hk l _ h1
  refine ⟨h4, ?_, ?_⟩
  ·show (runS server k items (stepS server k items s x) l).E.length ≤ _
   rw [List.length_cons]; omega
  ·show (runS server k items (stepS server k items s x) l).Fs.length = _
   rw [List.length_cons]; omega
theorem runS_snoc (l : List Stp) (x : Stp) : runS server k items s (l ++ [x]) = stepS server k items (runS server k items s l) x := by
 unfold runS; rw [List.foldl_append]; rfl
theorem begin_inv {d : Dm.Dk} (h : QS d [] 0) : InvS ⟨d, [], 0, []⟩ := ⟨h, Grow.nil _⟩
end
end Go.Proofs.YtlefikdjhnaapaaGreatDoor.Ql
end
section
namespace Go.Proofs.YtlefikdjhnaapaaGreatDoor.Pe
open Go Go.RowKit Co Sg Ac It Sl Wl Ql
set_option maxRecDepth 100000
set_option maxHeartbeats 4000000
theorem sopen_c (d d' : Dm.Dk) (f server : Int) (k : Key) (E : List It.Entry) (hk : k.right = true) (hr : -9223372036854775808 ≤ k.secret ∧ k.secret ≤ 9223372036854775807) (hs : 0 ≤ server ∧ server ≤ 19) (hf : 0 ≤ f ∧ f ≤ 6) (he : openD d f = (0, d')) (hp : rowsOf (Dm.peek d f).1 = rowsB E) (hb : (Dm.peek d f).1.length ≤ 16777216) (hg : Ql.Good E) (hl : E.length ≤ 1000000) :
  AC Tryz.prog 14 [.ptr 0 0, .it .i64 f, .it .i64 server, keyV k] [XD d] (.tup [.ptr 3 0, .it .i64 0]) (SG d' f server k E E.length) := by
 refine AC.enter2 [54, 70, 36, 46] [] Tryz.func14 rfl (by decide) (by decide) (Nat.le_of_ble_eq_true rfl) (by kernel_rfl) ?_; refine zev ?_
 have k1 := keyright_c k hr
 rw [hk] at k1
 have k2 := wopen_ok d f hf hb (by rw [he])
 rw [he, hp] at k2
 change AC _ _ _ _ _ (LG d' f (rowsB E)) at k2
 have k3 := wall_c d' f (rowsB E) (by rw [List.length_map]; omega)
 have k4 := stimes_c E (by omega)
 rw [hg.times] at k4
 have e1 : ¬ server < 0 := by omega
 have e2 : ¬ server ≥ 20 := by omega
 refine runf (an @e1 @e2) ?_
 refine cp k1 ?_
 refine runf (an @e1 @e2) ?_
 refine clo 0 k2 ?_
 refine run ?_
 refine clg 0 2 3 k3 ?_ (hl := ⟨by decide, by decide, by decide, rfl, rfl, by rw [List.length_map]; rfl⟩)
 refine run ?_
 have hsr : allSz 1 ((rowsB E).map AV.st) = true := allSz_map 1 AV.st (fun _ => rfl) _
 refine loop_mk' (fun m e S => e 12 = .ptr 5 0 ∧ e 48 = .sl .ro ((rowsB E).map .st) ∧ e 49 = .it .i64 (E.length : Int) ∧ ∃ (j : Nat) (T : Store), e 50 = .it .i64 (j : Int) ∧ S = (XD d' :: .cells [.it .i64 k.secret, .it .i64 k.pub] :: .cells [.ptr 0 0, .it .i64 f, .sl (.own 3) ((rowsB E).map .st)] :: .buf E.length 9 1 :: mapE ((E.take j).map dg) :: .cells [.ptr 2 0, .it .i64 server, .it .i64 k.secret, .it .i64 k.pub, .sl (.own 6) ((E.take j).map entryV), .mp 4, .it .i64 ((0 : Nat) : Int)] :: .buf j 84 50 :: T) ∧ j ≤ E.length ∧ m = E.length - j) E.length _ _ (Weak.reserveN 1 5 4 (es := []) (by rfl) (by rfl) 84 50) ⟨zsl, zsl, zsl, 0, [], zsl, rfl, Nat.zero_le _, rfl⟩ ?_
 rintro m e S ⟨s12, s48, s49, j, T, s50, rfl, hj, rfl⟩
 have hT1 : ∀ y : SObj, (T ++ [y])[T.length]? = some y := fun y => by simp
 have hT2 : ∀ y z : SObj, (T ++ [y]).set T.length z = T ++ [z] := fun y z => by simp
 by_cases hlt : j < E.length
 rotate_left
 ·obtain rfl : j = E.length := by omega
  rw [List.take_length]
  refine runf (an @s12 (an @s48 (an @s49 @s50))) ?_
  refine cp k4 ?_
  refine runf @s12 ?_
  refine ends_ret [0, 2, 3, 5, 6, 4] (by rfl) ?_ (by rfl) (by rfl) (by rfl)
  exact so_sub d' f server k E E.length _ T
 have hgx : (rowsB E)[j]? = some (entryB E[j]) := by rw [List.getElem?_map, List.getElem?_eq_getElem hlt]; rfl
 have hx := hg.right E[j] (List.getElem_mem hlt)
 have hbk := readEntry_back hx.1 hx.2
 have hel := entryB_len E[j]
 have kr := readEntry_c (entryB E[j]) (by omega)
 rw [hbk] at kr
 have kd := digest_c E[j].item (iz_right hx.2)
 have hnd : dg E[j] ∉ (E.take j).map dg := fun hm => by
  have h1 := hg.nodup
  have h2 : E.map dg = (E.take j).map dg ++ dg E[j] :: (E.drop (j + 1)).map dg := by
   rw [← List.map_cons, ← List.drop_eq_getElem_cons hlt, ← List.map_append, List.take_append_drop]
  rw [h2, List.nodup_append] at h1
  exact h1.2.2 _ hm _ (by simp) rfl
 have hkf := kfind_noS _ _ 0 hnd
 have f1 : mapE ((E.take (j + 1)).map dg) = .map (((E.take j).map dg).map (fun s => (AV.st s, AV.bo true)) ++ [(.st (dg E[j]), .bo true)]) := by
  rw [List.take_succ_eq_append_getElem hlt, List.map_append]
  simp
 have f2 : (E.take (j + 1)).map entryV = (E.take j).map entryV ++ [entryV E[j]] := by rw [List.take_succ_eq_append_getElem hlt, List.map_append]; rfl
 have hal : (E.take j).length = j := by rw [List.length_take]; omega
 have hsz := entries_sz (E.take j)
 have hft : fits (j + 1) 800 = true := by apply fits_ok <;> omega
 generalize E[j] = x at *
 refine runf (an @s12 (an @s48 (an @s49 (an @s50 (an @hgx (an @hsr (an @hT1 @hT2))))))) ?_
 refine cp kr ?_
 refine runf (an @hT1 @hT2) ?_
 refine cp kd ?_
 refine runf (an @s12 (an @s50 (an @hT1 (an @hT2 (an @hkf (an @hsz (an @hal @hft))))))) ?_
 exact round_mk (E.length - (j + 1)) (by omega) ⟨zsl, zsl, zsl, j + 1, _, zsl, (by rw [f1, f2]), by omega, rfl⟩
end Go.Proofs.YtlefikdjhnaapaaGreatDoor.Pe
end
section
namespace Go.Proofs.YtlefikdjhnaapaaGreatDoor.Pe
open Go Go.RowKit
variable [Tab]
def KeepR (κ : List Nat) (E e : Env) : Prop := ∀ t, E t = .junk ∨ ((E t).ok κ.length = true ∧ e t = (E t).ren (idx κ))
theorem KeepR.nil (κ : List Nat) (e : Env) : KeepR κ (fun _ => .junk) e := fun _ => .inl rfl
theorem KeepR.cons {κ : List Nat} {E e : Env} (h : KeepR κ E e) (t : Nat) (v u : AV) (hk : v.ok κ.length = true) (hu : v.ren (idx κ) = u) (hv : e t = u) : KeepR κ (upd E t v) e := fun x => by
 unfold upd
 by_cases hx : x = t
 ·rw [if_pos hx, hx]; exact .inr ⟨hk, hv.trans hu.symm⟩
 ·rw [if_neg hx]; exact h x
theorem Weak.sub (N0 : Nat) {E e : Env} {S S' : Store} (κ : List Nat) (hE : KeepR κ E e) (hs : SubOk κ S S') (hκ : κ.take N0 = List.range N0) : Weak N0 e S E S' := by
 rintro N w0 g0 a w hn ⟨h1, h2, g, h3, h4, h5⟩
 refine ⟨h1, h2, g.sub κ, h3.sub hs, fun t => ?_, ⟨h5.toEvo.sub hs.nodup (hs.lt h3) (by rw [hn]; exact hκ), ?_, ?_⟩⟩
 ·rcases hE t with e1 | ⟨e1, e2⟩
  ·rw [e1]; exact .junk _ _
  ·have := h4 t
   rw [e2] at this
   exact Rel.unren (un_sub w g κ) this e1
 ·intro d hd
  obtain ⟨b, k1, k2, k3, k4, k5⟩ := h5.defs d hd
  exact ⟨b, k1, k2, k3, k4, fun l hl ho => k5 (idx κ l) (hs.lt h3 l hl) ho⟩
 ·exact h5.nodup
end Go.Proofs.YtlefikdjhnaapaaGreatDoor.Pe
end
