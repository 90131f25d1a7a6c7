/- Several texts in one, without what this claim does not use (tools/shake.py). -/
import Derived.Below
import Derived.ChangeSame
import Derived.ProofKit
import Derived.OpenShut
import Derived.ShutString
import Derived.Deep.Strs
import Derived.SizedLaws
import Derived.Deep.Slices
import Derived.ChangeArms
import Derived.Shelf.Strings.Builder1
import Derived.Shelf.Strings.Builder2
import Derived.Shelf.Strings.OnBuilder
import Derived.Shelf.Bits.Mul64
import Derived.Ground.SlgmProg
import Derived.Shelf.SortM.Plain
import Derived.Shelf.SortM.SortNone
import Derived.Test.YtaphpbiaoofmkaaGreatDoorProg
import Derived.Laws.Entries
import Derived.WalkKit
import Derived.WalkSpells
import Derived.WalkLawsBesides
import Derived.Laws.OwnMore
import Derived.Laws.IdiomStrings
import Derived.Deep.Draws
import Derived.Deep.OwnRows
import Derived.StillTailTactics
import Derived.Lib.AppendStr
import Derived.Lib.DecodeN
import Derived.Test.YtaphpbiaoofmkaaGreatDoorChecked
import Derived.Lib.Hide
import Derived.BigRegion
import Derived.RegionTactic
import Derived.BigQuiet
import Derived.Deep.RegionLaw
import Derived.MapKept
import Derived.Laws.MakeOwn
import Derived.Still
import Derived.Deep.LoopGhost
import Derived.Laws.StructEq
import Derived.Laws.Strings
import Derived.Laws.PanicsMore
import Derived.Laws.Tables
import Derived.KernelRfl
import Derived.Deep.RegionHeld3
import Derived.Shelf.SlIterI.Nil
import Derived.Ground.GgzProg
import Derived.Shelf.SlGeneric
import Derived.Test.YtaphpbiaoofmkaaGreatDoorKr1
import Derived.Test.YtaphpbiaoofmkaaGreatDoorKr2
import Derived.Test.YtaphpbiaoofmkaaGreatDoorKr3
import Derived.Test.YtaphpbiaoofmkaaGreatDoorKr4
import Derived.Test.YtaphpbiaoofmkaaGreatDoorKr5
import Derived.Test.YtaphpbiaoofmkaaGreatDoorKr6
import Derived.Test.YtaphpbiaoofmkaaGreatDoorKr7
import Derived.Test.YtaphpbiaoofmkaaGreatDoorKr8
import Derived.Test.YtaphpbiaoofmkaaGreatDoorKr9
import Derived.Test.YtaphpbiaoofmkaaGreatDoorKr10
import Derived.Test.YtaphpbiaoofmkaaGreatDoorKr11
import Derived.Test.YtaphpbiaoofmkaaGreatDoorKr12
import Derived.Test.YtaphpbiaoofmkaaGreatDoorKr13
import Derived.Test.YtaphpbiaoofmkaaGreatDoorKr14
import Derived.Test.YtaphpbiaoofmkaaGreatDoorKr15
set_option linter.unusedSectionVars false
set_option linter.unusedVariables false
set_option linter.unusedSimpArgs false
section
namespace Go.Proofs.YtaphpbiaoofmkaaGreatDoor.Pe
open Go Go.RowKit Co Sg Ac
set_option maxRecDepth 100000
set_option maxHeartbeats 4000000
theorem shp_strs {n us} (h : shp Tryz.prog 140737488351232 (n + 2) 22 us) : ∃ l : List By, us = [sls l] ∧ l.length ≤ 140737488351232 ∧ ∀ s ∈ l, s.length ≤ 140737488351232 := by
 obtain ⟨l, h1, h2, h3⟩ := shp_slice AV.st (fun s : By => s.length ≤ 140737488351232) Tryz.underlying22 h (fun x hx => by
  obtain ⟨s, rfl, hs⟩ := shp_str Tryz.underlying9 hx
  exact ⟨s, by rw [show aggT Tryz.prog 9 = false from by kernel_rfl]; rfl, hs⟩)
 exact ⟨l, h1, h2, h3⟩
theorem shp_box {n us} (h : shp Tryz.prog 140737488351232 (n + 2) 24 us) : ∃ b : Box, us = [.st b.nonce, .st b.data, .st b.tag] ∧ b.nonce.length ≤ 140737488351232 ∧ b.data.length ≤ 140737488351232 ∧ b.tag.length ≤ 140737488351232 := by
 have h := shp_struct Tryz.underlying24 h
 obtain ⟨a0, b0, rfl, h0, h⟩ := h
 obtain ⟨a1, b1, rfl, h1, h⟩ := h
 obtain ⟨a2, b2, rfl, h2, rfl⟩ := h
 obtain ⟨s0, rfl, w0⟩ := shp_str Tryz.underlying9 h0
 obtain ⟨s1, rfl, w1⟩ := shp_str Tryz.underlying9 h1
 obtain ⟨s2, rfl, w2⟩ := shp_str Tryz.underlying9 h2
 exact ⟨⟨s0, s1, s2⟩, rfl, w0, w1, w2⟩
theorem shp_sig {n us} (h : shp Tryz.prog 140737488351232 (n + 2) 27 us) : ∃ s : Sig, us = [.it .i64 s.e, .it .i64 s.s] := by
 have h := shp_struct Tryz.underlying27 h
 obtain ⟨a0, b0, rfl, h0, h⟩ := h
 obtain ⟨a1, b1, rfl, h1, rfl⟩ := h
 obtain ⟨i0, rfl, w0⟩ := shp_i64 Tryz.underlying3 h0
 obtain ⟨i1, rfl, w1⟩ := shp_i64 Tryz.underlying3 h1
 exact ⟨⟨i0, i1⟩, rfl⟩
theorem shp_wrap {n us} (h : shp Tryz.prog 140737488351232 (n + 3) 105 us) : ∃ w : Wrap, us = (wrapV w).cells ∧ w.box.nonce.length ≤ 140737488351232 ∧ w.box.data.length ≤ 140737488351232 ∧ w.box.tag.length ≤ 140737488351232 := by
 have h := shp_struct Tryz.underlying105 h
 obtain ⟨a0, b0, rfl, h0, h⟩ := h
 obtain ⟨a1, b1, rfl, h1, h⟩ := h
 obtain ⟨a2, b2, rfl, h2, rfl⟩ := h
 obtain ⟨i0, rfl, w0⟩ := shp_i64 Tryz.underlying3 h0
 obtain ⟨i1, rfl, w1⟩ := shp_i64 Tryz.underlying3 h1
 obtain ⟨b, rfl, w2⟩ := shp_box h2
 exact ⟨⟨i0, i1, b⟩, rfl, w2⟩
theorem shp_wraps {n us} (h : shp Tryz.prog 140737488351232 (n + 4) 25 us) : ∃ l : List Wrap, us = [.sl .ro (l.map wrapV)] ∧ l.length ≤ 140737488351232 ∧ ∀ w ∈ l, w.box.nonce.length ≤ 140737488351232 ∧ w.box.data.length ≤ 140737488351232 ∧ w.box.tag.length ≤ 140737488351232 :=
 shp_slice wrapV (fun w : Wrap => w.box.nonce.length ≤ 140737488351232 ∧ w.box.data.length ≤ 140737488351232 ∧ w.box.tag.length ≤ 140737488351232) Tryz.underlying25 h fun x hx => by
  obtain ⟨w, rfl, hw⟩ := shp_wrap hx
  exact ⟨w, by rw [show aggT Tryz.prog 105 = true from by kernel_rfl]; rfl, hw⟩
theorem shp_actA {n us} (h : shp Tryz.prog 140737488351232 (n + 5) 29 us) : ∃ a : Ac.Act, us = (actV a).cells ∧ In a := by
 have h := shp_struct Tryz.underlying29 h
 obtain ⟨a0, b0, rfl, h0, h⟩ := h
 obtain ⟨a1, b1, rfl, h1, h⟩ := h
 obtain ⟨a2, b2, rfl, h2, h⟩ := h
 obtain ⟨a3, b3, rfl, h3, h⟩ := h
 obtain ⟨a4, b4, rfl, h4, h⟩ := h
 obtain ⟨a5, b5, rfl, h5, h⟩ := h
 obtain ⟨a6, b6, rfl, h6, h⟩ := h
 obtain ⟨a7, b7, rfl, h7, h⟩ := h
 obtain ⟨a8, b8, rfl, h8, h⟩ := h
 obtain ⟨a9, b9, rfl, h9, h⟩ := h
 obtain ⟨a10, b10, rfl, h10, h⟩ := h
 obtain ⟨a11, b11, rfl, h11, h⟩ := h
 obtain ⟨a12, b12, rfl, h12, h⟩ := h
 obtain ⟨a13, b13, rfl, h13, h⟩ := h
 obtain ⟨a14, b14, rfl, h14, h⟩ := h
 obtain ⟨a15, b15, rfl, h15, h⟩ := h
 obtain ⟨a16, b16, rfl, h16, rfl⟩ := h
 obtain ⟨author, rfl, w0⟩ := shp_str Tryz.underlying9 h0
 obtain ⟨seq, rfl, w1⟩ := shp_i64 Tryz.underlying3 h1
 obtain ⟨prev, rfl, w2⟩ := shp_str Tryz.underlying9 h2
 obtain ⟨kind, rfl, w3⟩ := shp_i64 Tryz.underlying3 h3
 obtain ⟨time, rfl, w4⟩ := shp_i64 Tryz.underlying3 h4
 obtain ⟨object, rfl, w5⟩ := shp_str Tryz.underlying9 h5
 obtain ⟨target, rfl, w6⟩ := shp_str Tryz.underlying9 h6
 obtain ⟨scope, rfl, w7⟩ := shp_i64 Tryz.underlying3 h7
 obtain ⟨group, rfl, w8⟩ := shp_str Tryz.underlying9 h8
 obtain ⟨to, rfl, w9, w9'⟩ := shp_strs h9
 obtain ⟨text, rfl, w10⟩ := shp_str Tryz.underlying9 h10
 obtain ⟨body, rfl, w11⟩ := shp_box h11
 obtain ⟨epoch, rfl, w12⟩ := shp_i64 Tryz.underlying3 h12
 obtain ⟨wr, rfl, w13, w13'⟩ := shp_wraps h13
 obtain ⟨n, rfl, w14⟩ := shp_i64 Tryz.underlying3 h14
 obtain ⟨m, rfl, w15⟩ := shp_i64 Tryz.underlying3 h15
 obtain ⟨sig, rfl⟩ := shp_sig h16
 refine ⟨⟨author, seq, prev, kind, time, object, target, scope, group, to, text, body, epoch, wr, n, m, sig⟩, rfl, ⟨?_, ?_, ?_, ?_, fun s hs => ?_, ?_, ?_⟩, ?_, ?_, ?_, fun w hw => ?_, w12, w15⟩
 ·show author.length ≤ _; omega
 ·show target.length ≤ _; omega
 ·show group.length ≤ _; omega
 ·show text.length ≤ _; omega
 ·have := w9' s hs; omega
 ·show to.length ≤ _; omega
 ·show wr.length ≤ _; omega
 ·show prev.length ≤ _; omega
 ·show object.length ≤ _; omega
 ·show body.nonce.length ≤ _ ∧ body.data.length ≤ _ ∧ body.tag.length ≤ _; omega
 ·have := w13' w hw; omega
end Go.Proofs.YtaphpbiaoofmkaaGreatDoor.Pe
end
section
namespace Go.Proofs.YtaphpbiaoofmkaaGreatDoor.Pe
open Go Go.RowKit Co Sg Ac It
set_option maxRecDepth 100000
set_option maxHeartbeats 4000000
theorem shp_claimI {n us} (h : shp Tryz.prog 140737488351232 (n + 3) 43 us) : ∃ c : It.Claim, us = (claimV c).cells ∧ c.actor.length ≤ 140737488355328 ∧ (∀ x ∈ [c.base, c.gen, c.home, c.pub, c.time], -9223372036854775808 ≤ x ∧ x ≤ 9223372036854775807) ∧ (∀ x ∈ [c.sig.e, c.sig.s], -9223372036854775808 ≤ x ∧ x ≤ 9223372036854775807) := by
 have h := shp_struct Tryz.underlying43 h
 obtain ⟨a0, b0, rfl, h0, h⟩ := h
 obtain ⟨a1, b1, rfl, h1, h⟩ := h
 obtain ⟨a2, b2, rfl, h2, h⟩ := h
 obtain ⟨a3, b3, rfl, h3, h⟩ := h
 obtain ⟨a4, b4, rfl, h4, h⟩ := h
 obtain ⟨a5, b5, rfl, h5, h⟩ := h
 obtain ⟨a6, b6, rfl, h6, h⟩ := h
 obtain ⟨a7, b7, rfl, h7, rfl⟩ := h
 obtain ⟨actor, rfl, w0⟩ := shp_str Tryz.underlying9 h0
 obtain ⟨base, rfl, w1⟩ := shp_i64 Tryz.underlying3 h1
 obtain ⟨prev, rfl, w2⟩ := shp_str Tryz.underlying9 h2
 obtain ⟨gen, rfl, w3⟩ := shp_i64 Tryz.underlying3 h3
 obtain ⟨home, rfl, w4⟩ := shp_i64 Tryz.underlying3 h4
 obtain ⟨pub, rfl, w5⟩ := shp_i64 Tryz.underlying3 h5
 obtain ⟨time, rfl, w6⟩ := shp_i64 Tryz.underlying3 h6
 obtain ⟨sg, rfl, w7, w7q⟩ := shp_sigI h7
 refine ⟨⟨actor, base, prev, gen, home, pub, time, sg⟩, rfl, Nat.le_trans w0 (by decide), by simp only [List.forall_mem_cons, List.not_mem_nil, false_implies, implies_true, and_true]; omega, by simp only [List.forall_mem_cons, List.not_mem_nil, false_implies, implies_true, and_true]; omega⟩
theorem shp_ballotI {n us} (h : shp Tryz.prog 140737488351232 (n + 3) 45 us) : ∃ c : It.Ballot, us = (ballotV c).cells ∧ c.actor.length ≤ 140737488355328 ∧ (∀ x ∈ [c.server, c.gen, c.time], -9223372036854775808 ≤ x ∧ x ≤ 9223372036854775807) ∧ (∀ x ∈ [c.sig.e, c.sig.s], -9223372036854775808 ≤ x ∧ x ≤ 9223372036854775807) := by
 have h := shp_struct Tryz.underlying45 h
 obtain ⟨a0, b0, rfl, h0, h⟩ := h
 obtain ⟨a1, b1, rfl, h1, h⟩ := h
 obtain ⟨a2, b2, rfl, h2, h⟩ := h
 obtain ⟨a3, b3, rfl, h3, h⟩ := h
 obtain ⟨a4, b4, rfl, h4, h⟩ := h
 obtain ⟨a5, b5, rfl, h5, rfl⟩ := h
 obtain ⟨server, rfl, w0⟩ := shp_i64 Tryz.underlying3 h0
 obtain ⟨actor, rfl, w1⟩ := shp_str Tryz.underlying9 h1
 obtain ⟨gen, rfl, w2⟩ := shp_i64 Tryz.underlying3 h2
 obtain ⟨claim, rfl, w3⟩ := shp_str Tryz.underlying9 h3
 obtain ⟨time, rfl, w4⟩ := shp_i64 Tryz.underlying3 h4
 obtain ⟨sg, rfl, w5, w5q⟩ := shp_sigI h5
 refine ⟨⟨server, actor, gen, claim, time, sg⟩, rfl, Nat.le_trans w1 (by decide), by simp only [List.forall_mem_cons, List.not_mem_nil, false_implies, implies_true, and_true]; omega, by simp only [List.forall_mem_cons, List.not_mem_nil, false_implies, implies_true, and_true]; omega⟩
theorem shp_decisionI {n us} (h : shp Tryz.prog 140737488351232 (n + 3) 47 us) : ∃ c : It.Decision, us = (decisionV c).cells ∧ Dz c ∧ (∀ x ∈ [c.server, c.number, c.kind, c.n, c.frm, c.til], -9223372036854775808 ≤ x ∧ x ≤ 9223372036854775807) ∧ (∀ x ∈ [c.sig.e, c.sig.s], -9223372036854775808 ≤ x ∧ x ≤ 9223372036854775807) := by
 have h := shp_struct Tryz.underlying47 h
 obtain ⟨a0, b0, rfl, h0, h⟩ := h
 obtain ⟨a1, b1, rfl, h1, h⟩ := h
 obtain ⟨a2, b2, rfl, h2, h⟩ := h
 obtain ⟨a3, b3, rfl, h3, h⟩ := h
 obtain ⟨a4, b4, rfl, h4, h⟩ := h
 obtain ⟨a5, b5, rfl, h5, h⟩ := h
 obtain ⟨a6, b6, rfl, h6, h⟩ := h
 obtain ⟨a7, b7, rfl, h7, h⟩ := h
 obtain ⟨a8, b8, rfl, h8, h⟩ := h
 obtain ⟨a9, b9, rfl, h9, h⟩ := h
 obtain ⟨a10, b10, rfl, h10, rfl⟩ := h
 obtain ⟨server, rfl, w0⟩ := shp_i64 Tryz.underlying3 h0
 obtain ⟨number, rfl, w1⟩ := shp_i64 Tryz.underlying3 h1
 obtain ⟨kind, rfl, w2⟩ := shp_i64 Tryz.underlying3 h2
 obtain ⟨actor, rfl, w3⟩ := shp_str Tryz.underlying9 h3
 obtain ⟨object, rfl, w4⟩ := shp_str Tryz.underlying9 h4
 obtain ⟨txt, rfl, w5⟩ := shp_str Tryz.underlying9 h5
 obtain ⟨to, rfl, w6, w6q⟩ := shp_strs h6
 obtain ⟨n1, rfl, w7⟩ := shp_i64 Tryz.underlying3 h7
 obtain ⟨frm, rfl, w8⟩ := shp_i64 Tryz.underlying3 h8
 obtain ⟨til, rfl, w9⟩ := shp_i64 Tryz.underlying3 h9
 obtain ⟨sg, rfl, w10, w10q⟩ := shp_sigI h10
 refine ⟨⟨server, number, kind, actor, object, txt, to, n1, frm, til, sg⟩, rfl, ⟨Nat.le_trans w3 (by decide), Nat.le_trans w6 (by decide), fun s hs => Nat.le_trans (w6q s hs) (by decide)⟩, by simp only [List.forall_mem_cons, List.not_mem_nil, false_implies, implies_true, and_true]; omega, by simp only [List.forall_mem_cons, List.not_mem_nil, false_implies, implies_true, and_true]; omega⟩
theorem shp_itemI {n us} (h : shp Tryz.prog 140737488351232 (n + 6) 49 us) : ∃ i : It.Item, us = (itemV i).cells ∧ InI i := by
 have h := shp_struct Tryz.underlying49 h
 obtain ⟨a0, b0, rfl, h0, h⟩ := h
 obtain ⟨a1, b1, rfl, h1, h⟩ := h
 obtain ⟨a2, b2, rfl, h2, h⟩ := h
 obtain ⟨a3, b3, rfl, h3, h⟩ := h
 obtain ⟨a4, b4, rfl, h4, rfl⟩ := h
 obtain ⟨kind, rfl, w0⟩ := shp_i64 Tryz.underlying3 h0
 obtain ⟨a, rfl, w1⟩ := shp_actA h1
 obtain ⟨c, rfl, w2, w2c, w2s⟩ := shp_claimI h2
 obtain ⟨b, rfl, w3, w3c, w3s⟩ := shp_ballotI h3
 obtain ⟨d, rfl, w4, w4c, w4s⟩ := shp_decisionI h4
 refine ⟨⟨kind, a, c, b, d⟩, rfl, w1, ⟨w1.sz, w2, w3, w4⟩, w2c, w3c, w4c, ?_⟩
 simp only [List.forall_mem_cons, List.not_mem_nil, false_implies, implies_true, and_true] at w2s w3s w4s ⊢
 exact ⟨w2s.1, w2s.2, w3s.1, w3s.2, w4s.1, w4s.2⟩
end Go.Proofs.YtaphpbiaoofmkaaGreatDoor.Pe
namespace Go.Proofs.YtaphpbiaoofmkaaGreatDoor.Pe
open Go Go.RowKit Co Sg Ac It
set_option maxRecDepth 100000
set_option maxHeartbeats 4000000
end Go.Proofs.YtaphpbiaoofmkaaGreatDoor.Pe
end
section
namespace Go.Proofs.YtaphpbiaoofmkaaGreatDoor.Pe
open Go Go.RowKit Co Sg Ac It
set_option maxRecDepth 100000
set_option maxHeartbeats 4000000
theorem shp_entryI {n us} (h : shp Tryz.prog 140737488351232 (n + 7) 55 us) : ∃ e : It.Entry, us = (entryV e).cells ∧ InE e := by
 have h := shp_struct Tryz.underlying55 h
 obtain ⟨a0, b0, rfl, h0, h⟩ := h
 obtain ⟨a1, b1, rfl, h1, rfl⟩ := h
 obtain ⟨time, rfl, w0⟩ := shp_i64 Tryz.underlying3 h0
 obtain ⟨i, rfl, w1⟩ := shp_itemI h1
 exact ⟨⟨time, i⟩, rfl, w0, w1⟩
theorem shp_entriesI {n us} (h : shp Tryz.prog 140737488351232 (n + 8) 79 us) : ∃ l : List It.Entry, us = [.sl .ro (l.map entryV)] ∧ l.length ≤ 140737488351232 ∧ ∀ e ∈ l, InE e :=
 shp_slice entryV InE Tryz.underlying79 h fun x hx => by
  obtain ⟨w, rfl, hw⟩ := shp_entryI hx
  exact ⟨w, by rw [show aggT Tryz.prog 55 = true from by kernel_rfl]; rfl, hw⟩
end Go.Proofs.YtaphpbiaoofmkaaGreatDoor.Pe
end
section
namespace Go.Proofs.YtaphpbiaoofmkaaGreatDoor.Pe
open Go Go.RowKit Co Sg Ac It Sl
set_option maxRecDepth 100000
set_option maxHeartbeats 4000000
theorem tl0 (T : Store) (o : SObj) : (T ++ [o])[T.length]? = some o := by simp
theorem tl0s (T : Store) (o o' : SObj) : (T ++ [o]).set T.length o' = T ++ [o'] := by simp
def light29 (l : List It.Entry) : Bool := (l.all fun e => decide (e.item.act.to.length ≤ 100) && decide (e.item.act.wraps.length ≤ 100) && decide (e.item.decision.to.length ≤ 100)) && decide (l.length ≤ 20)
theorem light29_c (l : List It.Entry) (hl : l.length ≤ 140737488351232) : AC Tryz.prog 68 [entriesV l] [] (.bo (light29 l)) [] := by
 refine AC.enter [] [] Tryz.func68 rfl (by decide) (by decide) (Nat.le_of_ble_eq_true rfl) (by kernel_rfl) ?_; simp only [eraseC, eraseO, List.map_cons, List.map_nil, List.map_toArray, List.getElem?_toArray, List.getElem?_cons_zero, List.getElem?_cons_succ, Option.bind_some, Option.bind_none, List.append_eq, List.cons_append, List.nil_append]
 unfold light29
 have hsz := entries_sz l
 obtain ⟨sh, hsh⟩ : ∃ sh : It.Entry → Bool, sh = fun e => decide (e.item.act.to.length ≤ 100) && decide (e.item.act.wraps.length ≤ 100) && decide (e.item.decision.to.length ≤ 100) := ⟨_, rfl⟩
 rw [← hsh]
 refine run ?_
 refine loop_mk (fun m e S => e 0 = entriesV l ∧ ∃ (k : Nat) (T : Store), e 3 = .it .i64 (k : Int) ∧ S = T ∧ k ≤ l.length ∧ (l.take k).all sh = true ∧ m = l.length - k) l.length
  ⟨(by first | rfl | (simp only [↓upd_apply, ↓put_some, ↓reduceIte, Nat.reduceEqDiff, ↓argEnv_zero, ↓argEnv_succ, *]; done)), 0, [], (by first | rfl | (simp only [↓upd_apply, ↓put_some, ↓reduceIte, Nat.reduceEqDiff, ↓argEnv_zero, ↓argEnv_succ, *]; done)), rfl, by omega, rfl, rfl⟩ ?_
 rintro m e S ⟨s0, k, T, s3, rfl, hk, hall, rfl⟩
 by_cases hlt : k < l.length
 rotate_left
 ·obtain rfl : k = l.length := by omega
  rw [List.take_length] at hall
  rw [hall]
  have hx : ¬ ((l.length : Nat) : Int) < (l.length : Int) := by omega
  by_cases c1 : l.length ≤ 20
  ·have c1' : (l.length : Int) ≤ 20 := by omega
   rw [decide_eq_true c1]
   refine runf (an @s0 (an @s3 (an @hx @c1'))) ?_
   exact er0
  ·have c1' : ¬ (l.length : Int) ≤ 20 := by omega
   rw [decide_eq_false c1]
   refine runf (an @s0 (an @s3 (an @hx @c1'))) ?_
   exact er0
 have hg : l[k]? = some l[k] := List.getElem?_eq_getElem hlt
 have hstep : l.take (k + 1) = l.take k ++ [l[k]] := List.take_succ_eq_append_getElem hlt
 have hbad : sh l[k] = false → l.all sh = false := fun h => List.all_eq_false.2 ⟨l[k], List.getElem_mem hlt, by simp [h]⟩
 generalize l[k] = x at *
 have hun : sh x = (decide (x.item.act.to.length ≤ 100) && decide (x.item.act.wraps.length ≤ 100) && decide (x.item.decision.to.length ≤ 100)) := by rw [hsh]
 by_cases d1 : x.item.act.to.length ≤ 100
 rotate_left
 ·have d1' : (100 : Int) < (x.item.act.to.length : Int) := by omega
  rw [hbad (by rw [hun, decide_eq_false d1]; simp), Bool.false_and]
  refine runf (an @s0 (an @s3 (an @hg (an @hsz (an @tl0 (an @tl0s @d1')))))) ?_
  exact er0
 have d1' : ¬ (100 : Int) < (x.item.act.to.length : Int) := by omega
 by_cases d2 : x.item.act.wraps.length ≤ 100
 rotate_left
 ·have d2' : (100 : Int) < (x.item.act.wraps.length : Int) := by omega
  rw [hbad (by rw [hun, decide_eq_false d2]; simp), Bool.false_and]
  refine runf (an @s0 (an @s3 (an @hg (an @hsz (an @tl0 (an @tl0s (an @d1' @d2'))))))) ?_
  exact er0
 have d2' : ¬ (100 : Int) < (x.item.act.wraps.length : Int) := by omega
 by_cases d3 : x.item.decision.to.length ≤ 100
 rotate_left
 ·have d3' : (100 : Int) < (x.item.decision.to.length : Int) := by omega
  rw [hbad (by rw [hun, decide_eq_false d3]; simp), Bool.false_and]
  refine runf (an @s0 (an @s3 (an @hg (an @hsz (an @tl0 (an @tl0s (an @d1' (an @d2' @d3')))))))) ?_
  exact er0
 have d3' : ¬ (100 : Int) < (x.item.decision.to.length : Int) := by omega
 have hs : sh x = true := by rw [hun, decide_eq_true d1, decide_eq_true d2, decide_eq_true d3]; rfl
 refine runf (an @s0 (an @s3 (an @hg (an @hsz (an @tl0 (an @tl0s (an @d1' (an @d2' @d3')))))))) ?_
 exact round_mk (l.length - (k + 1)) (by omega) ⟨(by first | rfl | (simp only [↓upd_apply, ↓put_some, ↓reduceIte, Nat.reduceEqDiff, ↓argEnv_zero, ↓argEnv_succ, *]; done)), k + 1, _, (by first | rfl | (simp only [↓upd_apply, ↓put_some, ↓reduceIte, Nat.reduceEqDiff, ↓argEnv_zero, ↓argEnv_succ, *]; done)), rfl, by omega, by rw [hstep, List.all_append, hall]; simp [hs], rfl⟩
end Go.Proofs.YtaphpbiaoofmkaaGreatDoor.Pe
end
section
namespace Go.Proofs.YtaphpbiaoofmkaaGreatDoor.Pe
open Go Go.RowKit Co Sg Ac It Sl
set_option maxRecDepth 100000
set_option maxHeartbeats 4000000
theorem fsameNums_c (a b : List Int) (ha : a.length ≤ 1000000) (hb : b.length ≤ 1000000) : AC Tryz.prog 76 [intsV a, intsV b] [] (.bo (decide (a = b))) [] := by
 refine AC.enter2 [] [] Tryz.func76 rfl (by decide) (by decide) (Nat.le_of_ble_eq_true rfl) (by kernel_rfl) ?_; simp only [eraseC, eraseO, List.map_cons, List.map_nil, List.map_toArray, List.getElem?_toArray, List.getElem?_cons_zero, List.getElem?_cons_succ, Option.bind_some, Option.bind_none, List.append_eq, List.cons_append, List.nil_append]
 have za : allSz 1 (a.map (AV.it .i64)) = true := allSz_map 1 _ (fun _ => rfl) _
 have zb : allSz 1 (b.map (AV.it .i64)) = true := allSz_map 1 _ (fun _ => rfl) _
 by_cases h0 : a.length = b.length
 rotate_left
 ·rw [decide_eq_false (fun h => h0 (by rw [h]))]
  refine run ?_
  exact er0
 refine run ?_
 refine loop_mk (fun m e S => S = [] ∧ e 0 = intsV a ∧ e 1 = intsV b ∧ ∃ k, e 5 = .it .i64 ((k : Nat) : Int) ∧ k ≤ a.length ∧ a.take k = b.take k ∧ m = a.length - k) a.length ⟨rfl, (by first | rfl | (simp only [↓upd_apply, ↓put_some, ↓reduceIte, Nat.reduceEqDiff, ↓argEnv_zero, ↓argEnv_succ, *]; done)), (by first | rfl | (simp only [↓upd_apply, ↓put_some, ↓reduceIte, Nat.reduceEqDiff, ↓argEnv_zero, ↓argEnv_succ, *]; done)), 0, (by first | rfl | (simp only [↓upd_apply, ↓put_some, ↓reduceIte, Nat.reduceEqDiff, ↓argEnv_zero, ↓argEnv_succ, *]; done)), by omega, rfl, rfl⟩ ?_
 rintro m e S ⟨rfl, h1, h2, k, h3, hk, hab, rfl⟩
 by_cases hlt : k < a.length
 ·have ga : a[k]? = some a[k] := List.getElem?_eq_getElem hlt
  have gb : b[k]? = some (b[k]'(by omega)) := List.getElem?_eq_getElem (by omega)
  by_cases he : a[k] = b[k]'(by omega)
  ·have he' : (a[k] == b[k]'(by omega)) = true := by rw [he]; exact beq_self_eq_true _
   refine runf (an @h1 (an @h2 (an @h3 (an @ga (an @gb (an @he' (an @za @zb))))))) ?_
   exact round_mk (a.length - (k + 1)) (by omega) ⟨rfl, (by first | rfl | (simp only [↓upd_apply, ↓put_some, ↓reduceIte, Nat.reduceEqDiff, ↓argEnv_zero, ↓argEnv_succ, *]; done)), (by first | rfl | (simp only [↓upd_apply, ↓put_some, ↓reduceIte, Nat.reduceEqDiff, ↓argEnv_zero, ↓argEnv_succ, *]; done)), k + 1, (by first | rfl | (simp only [↓upd_apply, ↓put_some, ↓reduceIte, Nat.reduceEqDiff, ↓argEnv_zero, ↓argEnv_succ, *]; done)), by omega, by rw [List.take_succ_eq_append_getElem hlt, List.take_succ_eq_append_getElem (by omega : k < b.length), hab, he], rfl⟩
  ·have he' : (a[k] == b[k]'(by omega)) = false := beqF he
   have : decide (a = b) = false := by rw [decide_eq_false_iff_not]; intro h; subst h; exact he rfl
   rw [this]
   refine runf (an @h1 (an @h2 (an @h3 (an @ga (an @gb (an @he' (an @za @zb))))))) ?_
   exact er0
 ·have hk' : k = a.length := by omega
  have : decide (a = b) = true := by
   rw [decide_eq_true_iff, ← List.take_length (l := a), ← List.take_length (l := b), ← h0, ← hk']; exact hab
  rw [this]
  refine runf (an @h1 (an @h2 @h3)) ?_
  exact er0
end Go.Proofs.YtaphpbiaoofmkaaGreatDoor.Pe
end
section
namespace Go.Proofs.YtaphpbiaoofmkaaGreatDoor.Pe
open Go Go.RowKit Co Sg Ac It Sl
set_option maxRecDepth 100000
set_option maxHeartbeats 4000000
theorem shp_rcpts {n us} (h : shp Tryz.prog 140737488351232 (n + 5) 80 us) : ∃ l : List Receipt, us = [.sl .ro (l.map rcptV)] ∧ l.length ≤ 140737488351232 ∧ ∀ e ∈ l, InRc e :=
 shp_slice rcptV InRc Tryz.underlying80 h fun x hx => by
  obtain ⟨w, rfl, hw⟩ := shp_rcpt hx
  exact ⟨w, by rw [show aggT Tryz.prog 75 = true from by kernel_rfl]; rfl, hw⟩
end Go.Proofs.YtaphpbiaoofmkaaGreatDoor.Pe
end
section
namespace Go.Proofs.YtaphpbiaoofmkaaGreatDoor.Sl
open Go Co Sg Ac It
theorem answered_mem {ps : List Int} {id : By} {l : List It.Entry} {log : Int} {rs : List Receipt} {s : Int} : s ∈ answeredT ps id l log rs ↔ ∃ r ∈ rs, r.frm = s ∧ holdsT ps id l log r = true := by
 unfold answeredT
 rw [List.mem_map]
 constructor
 ·rintro ⟨n, hn, rfl⟩
  obtain ⟨_, hn⟩ := List.mem_filter.1 hn
  obtain ⟨r, hr, h⟩ := List.any_eq_true.1 hn
  rw [Bool.and_eq_true, decide_eq_true_eq] at h
  exact ⟨r, hr, h.1, h.2⟩
 ·rintro ⟨r, hr, rfl, h⟩
  have hv : verifyT ps r = true := by
   unfold holdsT at h
   simp only [Bool.and_eq_true] at h
   exact h.1.2
  have hb := verify_frm hv
  refine ⟨r.frm.toNat, List.mem_filter.2 ⟨List.mem_range.2 (by omega), List.any_eq_true.2 ⟨r, hr, ?_⟩⟩, by omega⟩
  rw [h, Bool.and_true]
  exact decide_eq_true (by omega)
theorem answered_lt (ps : List Int) (id : By) (l : List It.Entry) (log : Int) (rs : List Receipt) : (answeredT ps id l log rs).Pairwise (· < ·) := by
 unfold answeredT
 rw [List.pairwise_map]
 exact (List.Pairwise.filter _ List.pairwise_lt_range).imp fun h => by omega
theorem answered_swap (ps : List Int) (id : By) (l : List It.Entry) (log : Int) (a b : List Receipt) : answeredT ps id l log (b ++ a) = answeredT ps id l log (a ++ b) := by
 unfold answeredT
 congr 1
 congr 1
 funext s
 rw [List.any_append, List.any_append, Bool.or_comm]
theorem holds_take {ps : List Int} {id : By} {l : List It.Entry} {n : Nat} {log : Int} {r : Receipt} (h : holdsT ps id (l.take n) log r = true) : holdsT ps id l log r = true := by
 unfold holdsT at h ⊢
 rw [Bool.and_eq_true] at h ⊢
 refine ⟨h.1, ?_⟩
 obtain ⟨i, hi, hb⟩ := List.any_eq_true.1 h.2
 rw [Bool.and_eq_true, proveT_ok] at hb
 obtain ⟨⟨h1, h2, h3, h4⟩, h5⟩ := hb
 have hlt := List.mem_range.1 hi
 have hle : (l.take n).length ≤ l.length := by rw [List.length_take]; omega
 have hn : (l.take n).length ≤ n := by rw [List.length_take]; omega
 refine List.any_eq_true.2 ⟨i, List.mem_range.2 (by omega), ?_⟩
 rw [Bool.and_eq_true, proveT_ok]
 refine ⟨⟨h1, h2, by omega, ?_⟩, ?_⟩
 ·rw [List.take_take, Nat.min_eq_left (by omega)] at h4
  exact h4
 ·rw [List.getD_eq_getElem?_getD, List.getElem?_take_of_lt (by omega)] at h5
  rw [List.getD_eq_getElem?_getD]
  exact h5
end Go.Proofs.YtaphpbiaoofmkaaGreatDoor.Sl
namespace Go.Proofs.YtaphpbiaoofmkaaGreatDoor.Pe
open Go Go.RowKit Co Sg Ac It Sl
set_option maxRecDepth 100000
set_option maxHeartbeats 4000000
theorem contains29_c (l m : List Int) (hl : l.length ≤ 1000000) (hm : m.length ≤ 1000000) : AC Tryz.prog 85 [intsV l, intsV m] [] (.bo (l.all fun x => m.any fun y => y == x)) [] := by
 refine AC.enter2 [] [] Tryz.func85 rfl (by decide) (by decide) (Nat.le_of_ble_eq_true rfl) (by kernel_rfl) ?_; simp only [eraseC, eraseO, List.map_cons, List.map_nil, List.map_toArray, List.getElem?_toArray, List.getElem?_cons_zero, List.getElem?_cons_succ, Option.bind_some, Option.bind_none, List.append_eq, List.cons_append, List.nil_append]
 have zl : allSz 1 (l.map (AV.it .i64)) = true := allSz_map 1 _ (fun _ => rfl) _
 have zm : allSz 1 (m.map (AV.it .i64)) = true := allSz_map 1 _ (fun _ => rfl) _
 obtain ⟨q, hq⟩ : ∃ q, (l.all fun x => m.any fun y => y == x) = q := ⟨_, rfl⟩
 rw [hq]
 refine run ?_
 refine loop_mk (fun n e S => e 0 = intsV l ∧ e 1 = intsV m ∧ S = [] ∧ ∃ k : Nat, e 5 = .it .i64 (k : Int) ∧ k ≤ l.length ∧ (l.take k).all (fun x => m.any fun y => y == x) = true ∧ n = l.length - k) l.length
  ⟨(by first | rfl | (simp only [↓upd_apply, ↓put_some, ↓reduceIte, Nat.reduceEqDiff, ↓argEnv_zero, ↓argEnv_succ, *]; done)), (by first | rfl | (simp only [↓upd_apply, ↓put_some, ↓reduceIte, Nat.reduceEqDiff, ↓argEnv_zero, ↓argEnv_succ, *]; done)), rfl, 0, (by first | rfl | (simp only [↓upd_apply, ↓put_some, ↓reduceIte, Nat.reduceEqDiff, ↓argEnv_zero, ↓argEnv_succ, *]; done)), by omega, rfl, rfl⟩ ?_
 rintro n e S ⟨s0, s1, rfl, k, s5, hk, hall, rfl⟩
 by_cases hlt : k < l.length
 rotate_left
 ·have hlti : ¬ (k : Int) < (l.length : Int) := by omega
  rw [List.take_of_length_le (by omega), hq] at hall
  subst hall
  refine runf (an @s0 (an @s1 (an @s5 @hlti))) ?_
  exact er0
 have hlti : (k : Int) < (l.length : Int) := by omega
 have hg : l[k]? = some l[k] := List.getElem?_eq_getElem hlt
 have hstep : l.take (k + 1) = l.take k ++ [l[k]] := List.take_succ_eq_append_getElem hlt
 have hno : (m.any fun y => y == l[k]) = false → q = false := fun h => by
  rw [← hq, List.all_eq_false]
  exact ⟨l[k], List.getElem_mem hlt, by rw [h]; decide⟩
 generalize l[k] = x at *
 have hyes : (m.any fun y => y == x) = true → (l.take (k + 1)).all (fun x => m.any fun y => y == x) = true := fun h => by
  rw [hstep, List.all_append, hall]; simp only [List.all_cons, List.all_nil, h]; rfl
 refine runf (an @s0 (an @s1 (an @s5 @hlti))) ?_
 refine loop_mk (fun n e S => e 0 = intsV l ∧ e 1 = intsV m ∧ e 5 = .it .i64 (k : Int) ∧ S = [] ∧ ∃ j : Nat, e 7 = .it .i64 (j : Int) ∧ e 6 = .bo ((m.take j).any fun y => y == x) ∧ j ≤ m.length ∧ n = m.length - j) m.length
  ⟨(by first | rfl | (simp only [↓upd_apply, ↓put_some, ↓reduceIte, Nat.reduceEqDiff, ↓argEnv_zero, ↓argEnv_succ, *]; done)), (by first | rfl | (simp only [↓upd_apply, ↓put_some, ↓reduceIte, Nat.reduceEqDiff, ↓argEnv_zero, ↓argEnv_succ, *]; done)), (by first | rfl | (simp only [↓upd_apply, ↓put_some, ↓reduceIte, Nat.reduceEqDiff, ↓argEnv_zero, ↓argEnv_succ, *]; done)), rfl, 0, (by first | rfl | (simp only [↓upd_apply, ↓put_some, ↓reduceIte, Nat.reduceEqDiff, ↓argEnv_zero, ↓argEnv_succ, *]; done)), (by first | rfl | (simp only [↓upd_apply, ↓put_some, ↓reduceIte, Nat.reduceEqDiff, ↓argEnv_zero, ↓argEnv_succ, *]; done)), by omega, rfl⟩ ?_
 rintro n2 e S ⟨s0, s1, s5, rfl, j, s7, s6, hj, rfl⟩
 by_cases hjt : j < m.length
 ·have hjti : (j : Int) < (m.length : Int) := by omega
  have hgj : m[j]? = some m[j] := List.getElem?_eq_getElem hjt
  have hnx : ((m.take (j + 1)).any fun y => y == x) = (((m.take j).any fun y => y == x) || (m[j] == x)) := by
   rw [List.take_succ_eq_append_getElem hjt, List.any_append]; simp
  generalize m[j] = y at *
  generalize ((m.take j).any fun y => y == x) = b at *
  cases b with
  | true =>
   refine runf (an @s0 (an @s1 (an @s5 (an @s6 (an @s7 @hjti))))) ?_
   exact round_mk (m.length - (j + 1)) (by omega) ⟨(by first | rfl | (simp only [↓upd_apply, ↓put_some, ↓reduceIte, Nat.reduceEqDiff, ↓argEnv_zero, ↓argEnv_succ, *]; done)), (by first | rfl | (simp only [↓upd_apply, ↓put_some, ↓reduceIte, Nat.reduceEqDiff, ↓argEnv_zero, ↓argEnv_succ, *]; done)), (by first | rfl | (simp only [↓upd_apply, ↓put_some, ↓reduceIte, Nat.reduceEqDiff, ↓argEnv_zero, ↓argEnv_succ, *]; done)), rfl, j + 1, (by first | rfl | (simp only [↓upd_apply, ↓put_some, ↓reduceIte, Nat.reduceEqDiff, ↓argEnv_zero, ↓argEnv_succ, *]; done)), by rw [hnx]; exact (by first | rfl | (simp only [↓upd_apply, ↓put_some, ↓reduceIte, Nat.reduceEqDiff, ↓argEnv_zero, ↓argEnv_succ, *]; done)), by omega, rfl⟩
  | false =>
   rw [Bool.false_or] at hnx
   refine runf (an @s0 (an @s1 (an @s5 (an @s6 (an @s7 (an @hjti (an @hlti (an @hg (an @hgj (an @zl @zm)))))))))) ?_
   exact round_mk (m.length - (j + 1)) (by omega) ⟨(by first | rfl | (simp only [↓upd_apply, ↓put_some, ↓reduceIte, Nat.reduceEqDiff, ↓argEnv_zero, ↓argEnv_succ, *]; done)), (by first | rfl | (simp only [↓upd_apply, ↓put_some, ↓reduceIte, Nat.reduceEqDiff, ↓argEnv_zero, ↓argEnv_succ, *]; done)), (by first | rfl | (simp only [↓upd_apply, ↓put_some, ↓reduceIte, Nat.reduceEqDiff, ↓argEnv_zero, ↓argEnv_succ, *]; done)), rfl, j + 1, (by first | rfl | (simp only [↓upd_apply, ↓put_some, ↓reduceIte, Nat.reduceEqDiff, ↓argEnv_zero, ↓argEnv_succ, *]; done)), by rw [hnx]; exact (by first | rfl | (simp only [↓upd_apply, ↓put_some, ↓reduceIte, Nat.reduceEqDiff, ↓argEnv_zero, ↓argEnv_succ, *]; done)), by omega, rfl⟩
 ·have hjti : ¬ (j : Int) < (m.length : Int) := by omega
  rw [List.take_of_length_le (by omega)] at s6
  cases hb : (m.any fun y => y == x) with
  | true =>
   rw [hb] at s6
   refine runf (an @s0 (an @s1 (an @s5 (an @s6 (an @s7 @hjti))))) ?_
   exact round_mk (l.length - (k + 1)) (by omega) ⟨(by first | rfl | (simp only [↓upd_apply, ↓put_some, ↓reduceIte, Nat.reduceEqDiff, ↓argEnv_zero, ↓argEnv_succ, *]; done)), (by first | rfl | (simp only [↓upd_apply, ↓put_some, ↓reduceIte, Nat.reduceEqDiff, ↓argEnv_zero, ↓argEnv_succ, *]; done)), rfl, k + 1, (by first | rfl | (simp only [↓upd_apply, ↓put_some, ↓reduceIte, Nat.reduceEqDiff, ↓argEnv_zero, ↓argEnv_succ, *]; done)), by omega, hyes hb, rfl⟩
  | false =>
   rw [hb] at s6
   obtain rfl := hno hb
   refine runf (an @s0 (an @s1 (an @s5 (an @s6 (an @s7 @hjti))))) ?_
   exact er0
theorem tombGrows_c (ps : List Int) (id : By) (l : List It.Entry) (n log : Int) (a b : List Receipt) (hp : InL ps) (hid : id.length ≤ 140737488351232) (hl : l.length ≤ 140737488351232) (hz : ∀ e ∈ l, InE e) (hal : a.length ≤ 140737488351232) (ha : ∀ r ∈ a, InRc r) (hbl : b.length ≤ 140737488351232) (hb : ∀ r ∈ b, InRc r) :
  AC Tryz.prog 9 [intsV ps, .st id, entriesV l, .it .i64 n, .it .i64 log, rcptsV a, rcptsV b] [] (.bo true) [] := by
 refine AC.enter2 [63, 68, 74, 66, 85, 76] [] Tryz.func9 rfl (by decide) (by decide) (Nat.le_of_ble_eq_true rfl) (by kernel_rfl) ?_; simp only [eraseC, eraseO, List.map_cons, List.map_nil, List.map_toArray, List.getElem?_toArray, List.getElem?_cons_zero, List.getElem?_cons_succ, Option.bind_some, Option.bind_none, List.append_eq, List.cons_append, List.nil_append]
 have kl := light29_c l hl
 refine run ?_
 refine cp small29_c ?_
 by_cases c1 : (30 : Int) < (ps.length : Int)
 ·refine runf @c1 ?_
  exact er0
 by_cases c2 : (1000 : Int) < (id.length : Int)
 ·refine runf (an @c1 @c2) ?_
  exact er0
 cases h2 : light29 l with
 | false =>
  rw [h2] at kl
  refine runf (an @c1 @c2) ?_
  refine cp kl ?_
  refine run ?_
  exact er0
 | true =>
 rw [h2] at kl
 by_cases c3 : n < 0
 ·refine runf (an @c1 @c2) ?_
  refine cp kl ?_
  refine runf @c3 ?_
  exact er0
 by_cases c4 : (l.length : Int) < n
 ·refine runf (an @c1 @c2) ?_
  refine cp kl ?_
  refine runf (an @c3 @c4) ?_
  exact er0
 by_cases c5 : (10 : Int) < (a.length : Int)
 ·refine runf (an @c1 @c2) ?_
  refine cp kl ?_
  refine runf (an @c3 (an @c4 @c5)) ?_
  exact er0
 by_cases c6 : (10 : Int) < (b.length : Int)
 ·refine runf (an @c1 @c2) ?_
  refine cp kl ?_
  refine runf (an @c3 (an @c4 (an @c5 @c6))) ?_
  exact er0
 have hll : l.length ≤ 20 := by
  unfold light29 at h2
  simp only [Bool.and_eq_true, decide_eq_true_eq] at h2
  exact h2.2
 have hzz : ∀ e ∈ l, Iz e.item := fun e he => (hz e he).item.iz
 have hsz := entries_sz l
 obtain ⟨M, rfl⟩ := Int.eq_ofNat_of_zero_le (show 0 ≤ n by omega)
 have hMi : (M : Int) ≤ (l.length : Int) := by omega
 have hM0 : (0 : Int) ≤ (M : Int) := by omega
 have za : allSz 9 (a.map rcptV) = true := allSz_map 9 _ (fun _ => rfl) _
 have zb : allSz 9 (b.map rcptV) = true := allSz_map 9 _ (fun _ => rfl) _
 have fa : ∀ w, w ≤ 1000000 → fits a.length w = true := fun w hw => by
  have : a.length * w ≤ 10 * 1000000 := Nat.mul_le_mul (by omega) hw
  simp [fits]; omega
 have fb : ∀ w, w ≤ 1000000 → fits b.length w = true := fun w hw => by
  have : b.length * w ≤ 10 * 1000000 := Nat.mul_le_mul (by omega) hw
  simp [fits]; omega
 have fab : ∀ w, w ≤ 1000000 → fits (a.length + b.length) w = true := fun w hw => by
  have : (a.length + b.length) * w ≤ 20 * 1000000 := Nat.mul_le_mul (by omega) hw
  simp [fits]; omega
 have fba : ∀ w, w ≤ 1000000 → fits (b.length + a.length) w = true := fun w hw => by rw [Nat.add_comm]; exact fab w hw
 have hrr : ∀ r ∈ a ++ b, InR r := fun r hr => by
  rcases List.mem_append.1 hr with h | h
  ·exact (ha r h).inr
  ·exact (hb r h).inr
 have kx := tanswered_c ps id (l.take M) log a hp (by omega) (by rw [List.length_take]; omega) (fun e he => hzz e (List.mem_of_mem_take he)) (by omega) (fun r hr => (ha r hr).inr)
 have ky := tanswered_c ps id l log (a ++ b) hp (by omega) (by omega) hzz (by rw [List.length_append]; omega) hrr
 have kz := tanswered_c ps id l log (b ++ a) hp (by omega) (by omega) hzz (by rw [List.length_append]; omega) (fun r hr => hrr r (by rw [List.mem_append] at hr ⊢; exact hr.symm))
 rw [answered_swap] at kz
 unfold rcptsV at ky kz
 rw [List.map_append] at ky kz
 have hxl := answered_le ps id (l.take M) log a
 have hyl := answered_le ps id l log (a ++ b)
 have kc := contains29_c (answeredT ps id (l.take M) log a) (answeredT ps id l log (a ++ b)) (by omega) (by omega)
 have kn := fsameNums_c (answeredT ps id l log (a ++ b)) (answeredT ps id l log (a ++ b)) (by omega) (by omega)
 rw [decide_eq_true rfl] at kn
 have hc : ((answeredT ps id (l.take M) log a).all fun x => (answeredT ps id l log (a ++ b)).any fun y => y == x) = true := by
  rw [List.all_eq_true]
  intro s hs
  obtain ⟨r, hr, h1, h2⟩ := answered_mem.1 hs
  exact List.any_eq_true.2 ⟨s, answered_mem.2 ⟨r, List.mem_append_left _ hr, h1, holds_take h2⟩, beq_self_eq_true s⟩
 rw [hc] at kc
 have hym : ∀ s ∈ answeredT ps id l log (a ++ b), ∃ r ∈ a ++ b, r.frm = s ∧ r.head.server = log ∧ verifyT ps r = true := fun s hs => by
  obtain ⟨r, hr, h1, h2⟩ := answered_mem.1 hs
  unfold holdsT at h2
  simp only [Bool.and_eq_true, decide_eq_true_eq] at h2
  exact ⟨r, hr, h1, h2.1.1, h2.1.2⟩
 have hya := answered_lt ps id l log (a ++ b)
 generalize answeredT ps id (l.take M) log a = x at *
 generalize answeredT ps id l log (a ++ b) = y at *
 have zy : allSz 1 (y.map (AV.it .i64)) = true := allSz_map 1 _ (fun _ => rfl) _
 clear hc hxl
 refine runf (an @c1 @c2) ?_
 refine cp kl ?_
 refine runf (an @c3 (an @c4 (an @c5 (an @c6 (an @hM0 (an @hMi @hsz)))))) ?_
 refine cp kx ?_
 refine runf (an @za (an @zb (an @fa @fab))) ?_
 refine cp ky ?_
 refine runf (an @za (an @zb (an @fb @fba))) ?_
 refine cp kz ?_
 refine run ?_
 refine loop_mk (fun n e S => e 0 = intsV ps ∧ e 4 = .it .i64 log ∧ e 5 = rcptsV a ∧ e 6 = rcptsV b ∧ e 15 = .bo true ∧ e 16 = intsV x ∧ e 17 = intsV y ∧ e 18 = intsV y ∧ ∃ (i : Nat) (T : Store), e 19 = .it .i64 (i : Int) ∧ S = T ∧ i ≤ y.length ∧ n = y.length - i) y.length
  ⟨(by first | rfl | (simp only [↓upd_apply, ↓put_some, ↓reduceIte, Nat.reduceEqDiff, ↓argEnv_zero, ↓argEnv_succ, *]; done)), (by first | rfl | (simp only [↓upd_apply, ↓put_some, ↓reduceIte, Nat.reduceEqDiff, ↓argEnv_zero, ↓argEnv_succ, *]; done)), (by first | rfl | (simp only [↓upd_apply, ↓put_some, ↓reduceIte, Nat.reduceEqDiff, ↓argEnv_zero, ↓argEnv_succ, *]; done)), (by first | rfl | (simp only [↓upd_apply, ↓put_some, ↓reduceIte, Nat.reduceEqDiff, ↓argEnv_zero, ↓argEnv_succ, *]; done)), (by first | rfl | (simp only [↓upd_apply, ↓put_some, ↓reduceIte, Nat.reduceEqDiff, ↓argEnv_zero, ↓argEnv_succ, *]; done)), (by first | rfl | (simp only [↓upd_apply, ↓put_some, ↓reduceIte, Nat.reduceEqDiff, ↓argEnv_zero, ↓argEnv_succ, *]; done)), (by first | rfl | (simp only [↓upd_apply, ↓put_some, ↓reduceIte, Nat.reduceEqDiff, ↓argEnv_zero, ↓argEnv_succ, *]; done)), (by first | rfl | (simp only [↓upd_apply, ↓put_some, ↓reduceIte, Nat.reduceEqDiff, ↓argEnv_zero, ↓argEnv_succ, *]; done)), 0, _, (by first | rfl | (simp only [↓upd_apply, ↓put_some, ↓reduceIte, Nat.reduceEqDiff, ↓argEnv_zero, ↓argEnv_succ, *]; done)), rfl, by omega, rfl⟩ ?_
 rintro n e S ⟨s0, s4, s5, s6, s15, s16, s17, s18, i, T, s19, rfl, hi, rfl⟩
 by_cases hlt : i < y.length
 rotate_left
 ·have hlti : ¬ (i : Int) < (y.length : Int) := by omega
  refine runf (an @s15 (an @s16 (an @s17 (an @s18 (an @s19 @hlti))))) ?_
  refine cp kc ?_
  refine runf (an @s15 (an @s16 (an @s17 (an @s18 @s19)))) ?_
  refine cp kn ?_
  refine runf (an @s15 (an @s16 (an @s17 (an @s18 @s19)))) ?_
  exact er0
 have hlti : (i : Int) < (y.length : Int) := by omega
 have hgi : y[i]? = some y[i] := List.getElem?_eq_getElem hlt
 obtain ⟨r0, hr0, hr1, hr2, hr3⟩ := hym y[i] (List.getElem_mem hlt)
 have hprev : 0 < i → ∃ yp, y[i - 1]? = some yp ∧ ¬ y[i] ≤ yp := fun h0 => by
  refine ⟨y[i - 1], List.getElem?_eq_getElem (by omega), ?_⟩
  have := List.pairwise_iff_getElem.1 hya (i - 1) i (by omega) hlt (by omega)
  omega
 generalize y[i] = v at *
 obtain ⟨F, hF⟩ : ∃ F : Receipt → Bool, F = fun r => decide (r.frm = v) && (decide (r.head.server = log) && verifyT ps r) := ⟨_, rfl⟩
 have hall : (a ++ b).any F = true := List.any_eq_true.2 ⟨r0, hr0, by rw [hF]; simp only [hr1, hr2, hr3]; simp⟩
 have hlab : (a ++ b).length = a.length + b.length := List.length_append
 refine runf (an @s0 (an @s4 (an @s5 (an @s6 (an @s15 (an @s16 (an @s17 (an @s18 (an @s19 @hlti))))))))) ?_
 refine loop_mk (fun n e S => e 0 = intsV ps ∧ e 4 = .it .i64 log ∧ e 5 = rcptsV a ∧ e 6 = rcptsV b ∧ e 15 = .bo true ∧ e 16 = intsV x ∧ e 17 = intsV y ∧ e 18 = intsV y ∧ e 19 = .it .i64 (i : Int) ∧ ∃ (k : Nat) (T : Store), e 20 = .bo (((a ++ b).take k).any F) ∧ e 21 = .it .i64 (k : Int) ∧ S = T ∧ k ≤ (a ++ b).length ∧ n = (a ++ b).length - k) (a ++ b).length
  ⟨(by first | rfl | (simp only [↓upd_apply, ↓put_some, ↓reduceIte, Nat.reduceEqDiff, ↓argEnv_zero, ↓argEnv_succ, *]; done)), (by first | rfl | (simp only [↓upd_apply, ↓put_some, ↓reduceIte, Nat.reduceEqDiff, ↓argEnv_zero, ↓argEnv_succ, *]; done)), (by first | rfl | (simp only [↓upd_apply, ↓put_some, ↓reduceIte, Nat.reduceEqDiff, ↓argEnv_zero, ↓argEnv_succ, *]; done)), (by first | rfl | (simp only [↓upd_apply, ↓put_some, ↓reduceIte, Nat.reduceEqDiff, ↓argEnv_zero, ↓argEnv_succ, *]; done)), (by first | rfl | (simp only [↓upd_apply, ↓put_some, ↓reduceIte, Nat.reduceEqDiff, ↓argEnv_zero, ↓argEnv_succ, *]; done)), (by first | rfl | (simp only [↓upd_apply, ↓put_some, ↓reduceIte, Nat.reduceEqDiff, ↓argEnv_zero, ↓argEnv_succ, *]; done)), (by first | rfl | (simp only [↓upd_apply, ↓put_some, ↓reduceIte, Nat.reduceEqDiff, ↓argEnv_zero, ↓argEnv_succ, *]; done)), (by first | rfl | (simp only [↓upd_apply, ↓put_some, ↓reduceIte, Nat.reduceEqDiff, ↓argEnv_zero, ↓argEnv_succ, *]; done)), (by first | rfl | (simp only [↓upd_apply, ↓put_some, ↓reduceIte, Nat.reduceEqDiff, ↓argEnv_zero, ↓argEnv_succ, *]; done)), 0, _, (by first | rfl | (simp only [↓upd_apply, ↓put_some, ↓reduceIte, Nat.reduceEqDiff, ↓argEnv_zero, ↓argEnv_succ, *]; done)), (by first | rfl | (simp only [↓upd_apply, ↓put_some, ↓reduceIte, Nat.reduceEqDiff, ↓argEnv_zero, ↓argEnv_succ, *]; done)), rfl, by omega, rfl⟩ ?_
 rintro n2 e S ⟨s0, s4, s5, s6, s15, s16, s17, s18, s19, k, T2, s20, s21, rfl, hk, rfl⟩
 by_cases hkt : k < (a ++ b).length
 ·have hkti : (k : Int) < (a.length : Int) + (b.length : Int) := by omega
  have hgm : (a.map rcptV ++ b.map rcptV)[k]? = some (rcptV (a ++ b)[k]) := by
   rw [← List.map_append, List.getElem?_map, List.getElem?_eq_getElem hkt]; rfl
  have hr := hrr (a ++ b)[k] (List.getElem_mem hkt)
  have hnx : ((a ++ b).take (k + 1)).any F = (((a ++ b).take k).any F || F (a ++ b)[k]) := by
   rw [List.take_succ_eq_append_getElem hkt, List.any_append]; simp
  generalize (a ++ b)[k] = r at *
  have kv := tverify_c ps r hp hr
  have hFr : F r = (decide (r.frm = v) && (decide (r.head.server = log) && verifyT ps r)) := by rw [hF]
  generalize verifyT ps r = vr at *
  have hT1 : ∀ o : SObj, (S ++ [o])[S.length]? = some o := fun o => by simp
  have hT2 : ∀ o o' : SObj, (S ++ [o]).set S.length o' = S ++ [o'] := fun o o' => by simp
  have hT3 : ∀ o o' : SObj, (S ++ [o] ++ [o'])[S.length + 1]? = some o' := fun o o' => by simp
  have hT4 : ∀ o o' o'' : SObj, (S ++ [o] ++ [o']).set (S.length + 1) o'' = S ++ [o] ++ [o''] := fun o o' o'' => by simp
  generalize ((a ++ b).take k).any F = fb at *
  cases fb with
  | true =>
   refine runf (an @s0 (an @s4 (an @s5 (an @s6 (an @s15 (an @s16 (an @s17 (an @s18 (an @s19 (an @s20 (an @s21 (an @hkti (an @za (an @zb (an @fa (an @fab (an @hgm (an @hT1 (an @hT2 (an @hT3 @hT4)))))))))))))))))))) ?_
   exact round_mk ((a ++ b).length - (k + 1)) (by omega) ⟨(by first | rfl | (simp only [↓upd_apply, ↓put_some, ↓reduceIte, Nat.reduceEqDiff, ↓argEnv_zero, ↓argEnv_succ, *]; done)), (by first | rfl | (simp only [↓upd_apply, ↓put_some, ↓reduceIte, Nat.reduceEqDiff, ↓argEnv_zero, ↓argEnv_succ, *]; done)), (by first | rfl | (simp only [↓upd_apply, ↓put_some, ↓reduceIte, Nat.reduceEqDiff, ↓argEnv_zero, ↓argEnv_succ, *]; done)), (by first | rfl | (simp only [↓upd_apply, ↓put_some, ↓reduceIte, Nat.reduceEqDiff, ↓argEnv_zero, ↓argEnv_succ, *]; done)), (by first | rfl | (simp only [↓upd_apply, ↓put_some, ↓reduceIte, Nat.reduceEqDiff, ↓argEnv_zero, ↓argEnv_succ, *]; done)), (by first | rfl | (simp only [↓upd_apply, ↓put_some, ↓reduceIte, Nat.reduceEqDiff, ↓argEnv_zero, ↓argEnv_succ, *]; done)), (by first | rfl | (simp only [↓upd_apply, ↓put_some, ↓reduceIte, Nat.reduceEqDiff, ↓argEnv_zero, ↓argEnv_succ, *]; done)), (by first | rfl | (simp only [↓upd_apply, ↓put_some, ↓reduceIte, Nat.reduceEqDiff, ↓argEnv_zero, ↓argEnv_succ, *]; done)), (by first | rfl | (simp only [↓upd_apply, ↓put_some, ↓reduceIte, Nat.reduceEqDiff, ↓argEnv_zero, ↓argEnv_succ, *]; done)), k + 1, _, by rw [hnx]; exact (by first | rfl | (simp only [↓upd_apply, ↓put_some, ↓reduceIte, Nat.reduceEqDiff, ↓argEnv_zero, ↓argEnv_succ, *]; done)), (by first | rfl | (simp only [↓upd_apply, ↓put_some, ↓reduceIte, Nat.reduceEqDiff, ↓argEnv_zero, ↓argEnv_succ, *]; done)), rfl, by omega, by first | rfl | rw [hlab]⟩
  | false =>
   rw [Bool.false_or, hFr] at hnx
   by_cases d1 : r.frm = v
   rotate_left
   ·have q1 : (r.frm == v) = false := beqF d1
    rw [decide_eq_false d1, Bool.false_and] at hnx
    refine runf (an @s0 (an @s4 (an @s5 (an @s6 (an @s15 (an @s16 (an @s17 (an @s18 (an @s19 (an @s20 (an @s21 (an @hkti (an @za (an @zb (an @fa (an @fab (an @hgm (an @hT1 (an @hT2 (an @hT3 (an @hT4 (an @hlti (an @hgi (an @zy @q1)))))))))))))))))))))))) ?_
    exact round_mk ((a ++ b).length - (k + 1)) (by omega) ⟨(by first | rfl | (simp only [↓upd_apply, ↓put_some, ↓reduceIte, Nat.reduceEqDiff, ↓argEnv_zero, ↓argEnv_succ, *]; done)), (by first | rfl | (simp only [↓upd_apply, ↓put_some, ↓reduceIte, Nat.reduceEqDiff, ↓argEnv_zero, ↓argEnv_succ, *]; done)), (by first | rfl | (simp only [↓upd_apply, ↓put_some, ↓reduceIte, Nat.reduceEqDiff, ↓argEnv_zero, ↓argEnv_succ, *]; done)), (by first | rfl | (simp only [↓upd_apply, ↓put_some, ↓reduceIte, Nat.reduceEqDiff, ↓argEnv_zero, ↓argEnv_succ, *]; done)), (by first | rfl | (simp only [↓upd_apply, ↓put_some, ↓reduceIte, Nat.reduceEqDiff, ↓argEnv_zero, ↓argEnv_succ, *]; done)), (by first | rfl | (simp only [↓upd_apply, ↓put_some, ↓reduceIte, Nat.reduceEqDiff, ↓argEnv_zero, ↓argEnv_succ, *]; done)), (by first | rfl | (simp only [↓upd_apply, ↓put_some, ↓reduceIte, Nat.reduceEqDiff, ↓argEnv_zero, ↓argEnv_succ, *]; done)), (by first | rfl | (simp only [↓upd_apply, ↓put_some, ↓reduceIte, Nat.reduceEqDiff, ↓argEnv_zero, ↓argEnv_succ, *]; done)), (by first | rfl | (simp only [↓upd_apply, ↓put_some, ↓reduceIte, Nat.reduceEqDiff, ↓argEnv_zero, ↓argEnv_succ, *]; done)), k + 1, _, by rw [hnx]; exact (by first | rfl | (simp only [↓upd_apply, ↓put_some, ↓reduceIte, Nat.reduceEqDiff, ↓argEnv_zero, ↓argEnv_succ, *]; done)), (by first | rfl | (simp only [↓upd_apply, ↓put_some, ↓reduceIte, Nat.reduceEqDiff, ↓argEnv_zero, ↓argEnv_succ, *]; done)), rfl, by omega, by first | rfl | rw [hlab]⟩
   have q1 : (r.frm == v) = true := by rw [d1]; exact beq_self_eq_true _
   rw [decide_eq_true d1, Bool.true_and] at hnx
   by_cases d2 : r.head.server = log
   rotate_left
   ·have q2 : (r.head.server == log) = false := beqF d2
    rw [decide_eq_false d2, Bool.false_and] at hnx
    refine runf (an @s0 (an @s4 (an @s5 (an @s6 (an @s15 (an @s16 (an @s17 (an @s18 (an @s19 (an @s20 (an @s21 (an @hkti (an @za (an @zb (an @fa (an @fab (an @hgm (an @hT1 (an @hT2 (an @hT3 (an @hT4 (an @hlti (an @hgi (an @zy (an @q1 @q2))))))))))))))))))))))))) ?_
    exact round_mk ((a ++ b).length - (k + 1)) (by omega) ⟨(by first | rfl | (simp only [↓upd_apply, ↓put_some, ↓reduceIte, Nat.reduceEqDiff, ↓argEnv_zero, ↓argEnv_succ, *]; done)), (by first | rfl | (simp only [↓upd_apply, ↓put_some, ↓reduceIte, Nat.reduceEqDiff, ↓argEnv_zero, ↓argEnv_succ, *]; done)), (by first | rfl | (simp only [↓upd_apply, ↓put_some, ↓reduceIte, Nat.reduceEqDiff, ↓argEnv_zero, ↓argEnv_succ, *]; done)), (by first | rfl | (simp only [↓upd_apply, ↓put_some, ↓reduceIte, Nat.reduceEqDiff, ↓argEnv_zero, ↓argEnv_succ, *]; done)), (by first | rfl | (simp only [↓upd_apply, ↓put_some, ↓reduceIte, Nat.reduceEqDiff, ↓argEnv_zero, ↓argEnv_succ, *]; done)), (by first | rfl | (simp only [↓upd_apply, ↓put_some, ↓reduceIte, Nat.reduceEqDiff, ↓argEnv_zero, ↓argEnv_succ, *]; done)), (by first | rfl | (simp only [↓upd_apply, ↓put_some, ↓reduceIte, Nat.reduceEqDiff, ↓argEnv_zero, ↓argEnv_succ, *]; done)), (by first | rfl | (simp only [↓upd_apply, ↓put_some, ↓reduceIte, Nat.reduceEqDiff, ↓argEnv_zero, ↓argEnv_succ, *]; done)), (by first | rfl | (simp only [↓upd_apply, ↓put_some, ↓reduceIte, Nat.reduceEqDiff, ↓argEnv_zero, ↓argEnv_succ, *]; done)), k + 1, _, by rw [hnx]; exact (by first | rfl | (simp only [↓upd_apply, ↓put_some, ↓reduceIte, Nat.reduceEqDiff, ↓argEnv_zero, ↓argEnv_succ, *]; done)), (by first | rfl | (simp only [↓upd_apply, ↓put_some, ↓reduceIte, Nat.reduceEqDiff, ↓argEnv_zero, ↓argEnv_succ, *]; done)), rfl, by omega, by first | rfl | rw [hlab]⟩
   have q2 : (r.head.server == log) = true := by rw [d2]; exact beq_self_eq_true _
   rw [decide_eq_true d2, Bool.true_and] at hnx
   refine runf (an @s0 (an @s4 (an @s5 (an @s6 (an @s15 (an @s16 (an @s17 (an @s18 (an @s19 (an @s20 (an @s21 (an @hkti (an @za (an @zb (an @fa (an @fab (an @hgm (an @hT1 (an @hT2 (an @hT3 (an @hT4 (an @hlti (an @hgi (an @zy (an @q1 @q2))))))))))))))))))))))))) ?_
   refine cp kv ?_
   refine runf (an @s0 (an @s4 (an @s5 (an @s6 (an @s15 (an @s16 (an @s17 (an @s18 (an @s19 (an @s20 @s21)))))))))) ?_
   exact round_mk ((a ++ b).length - (k + 1)) (by omega) ⟨(by first | rfl | (simp only [↓upd_apply, ↓put_some, ↓reduceIte, Nat.reduceEqDiff, ↓argEnv_zero, ↓argEnv_succ, *]; done)), (by first | rfl | (simp only [↓upd_apply, ↓put_some, ↓reduceIte, Nat.reduceEqDiff, ↓argEnv_zero, ↓argEnv_succ, *]; done)), (by first | rfl | (simp only [↓upd_apply, ↓put_some, ↓reduceIte, Nat.reduceEqDiff, ↓argEnv_zero, ↓argEnv_succ, *]; done)), (by first | rfl | (simp only [↓upd_apply, ↓put_some, ↓reduceIte, Nat.reduceEqDiff, ↓argEnv_zero, ↓argEnv_succ, *]; done)), (by first | rfl | (simp only [↓upd_apply, ↓put_some, ↓reduceIte, Nat.reduceEqDiff, ↓argEnv_zero, ↓argEnv_succ, *]; done)), (by first | rfl | (simp only [↓upd_apply, ↓put_some, ↓reduceIte, Nat.reduceEqDiff, ↓argEnv_zero, ↓argEnv_succ, *]; done)), (by first | rfl | (simp only [↓upd_apply, ↓put_some, ↓reduceIte, Nat.reduceEqDiff, ↓argEnv_zero, ↓argEnv_succ, *]; done)), (by first | rfl | (simp only [↓upd_apply, ↓put_some, ↓reduceIte, Nat.reduceEqDiff, ↓argEnv_zero, ↓argEnv_succ, *]; done)), (by first | rfl | (simp only [↓upd_apply, ↓put_some, ↓reduceIte, Nat.reduceEqDiff, ↓argEnv_zero, ↓argEnv_succ, *]; done)), k + 1, _, by rw [hnx]; exact (by first | rfl | (simp only [↓upd_apply, ↓put_some, ↓reduceIte, Nat.reduceEqDiff, ↓argEnv_zero, ↓argEnv_succ, *]; done)), (by first | rfl | (simp only [↓upd_apply, ↓put_some, ↓reduceIte, Nat.reduceEqDiff, ↓argEnv_zero, ↓argEnv_succ, *]; done)), rfl, by omega, by first | rfl | rw [hlab]⟩
 ·have hkti : ¬ (k : Int) < (a.length : Int) + (b.length : Int) := by omega
  rw [List.take_of_length_le (by omega), hall] at s20
  rcases Nat.eq_zero_or_pos i with h0 | h0
  ·have h0i : ¬ (0 : Int) < (i : Int) := by omega
   refine runf (an @s0 (an @s4 (an @s5 (an @s6 (an @s15 (an @s16 (an @s17 (an @s18 (an @s19 (an @s20 (an @s21 (an @hkti @h0i)))))))))))) ?_
   exact round_mk (y.length - (i + 1)) (by omega) ⟨(by first | rfl | (simp only [↓upd_apply, ↓put_some, ↓reduceIte, Nat.reduceEqDiff, ↓argEnv_zero, ↓argEnv_succ, *]; done)), (by first | rfl | (simp only [↓upd_apply, ↓put_some, ↓reduceIte, Nat.reduceEqDiff, ↓argEnv_zero, ↓argEnv_succ, *]; done)), (by first | rfl | (simp only [↓upd_apply, ↓put_some, ↓reduceIte, Nat.reduceEqDiff, ↓argEnv_zero, ↓argEnv_succ, *]; done)), (by first | rfl | (simp only [↓upd_apply, ↓put_some, ↓reduceIte, Nat.reduceEqDiff, ↓argEnv_zero, ↓argEnv_succ, *]; done)), (by first | rfl | (simp only [↓upd_apply, ↓put_some, ↓reduceIte, Nat.reduceEqDiff, ↓argEnv_zero, ↓argEnv_succ, *]; done)), (by first | rfl | (simp only [↓upd_apply, ↓put_some, ↓reduceIte, Nat.reduceEqDiff, ↓argEnv_zero, ↓argEnv_succ, *]; done)), (by first | rfl | (simp only [↓upd_apply, ↓put_some, ↓reduceIte, Nat.reduceEqDiff, ↓argEnv_zero, ↓argEnv_succ, *]; done)), (by first | rfl | (simp only [↓upd_apply, ↓put_some, ↓reduceIte, Nat.reduceEqDiff, ↓argEnv_zero, ↓argEnv_succ, *]; done)), i + 1, _, (by first | rfl | (simp only [↓upd_apply, ↓put_some, ↓reduceIte, Nat.reduceEqDiff, ↓argEnv_zero, ↓argEnv_succ, *]; done)), rfl, by omega, rfl⟩
  ·obtain ⟨yp, hgp, hge⟩ := hprev h0
   have h0i : (0 : Int) < (i : Int) := by omega
   have hsub : (i : Int) - 1 = ((i - 1 : Nat) : Int) := by omega
   have hlp : ((i - 1 : Nat) : Int) < (y.length : Int) := by omega
   refine runf (an @s0 (an @s4 (an @s5 (an @s6 (an @s15 (an @s16 (an @s17 (an @s18 (an @s19 (an @s20 (an @s21 (an @hkti (an @h0i (an @hsub (an @hlti (an @hlp (an @hgi (an @hgp (an @zy @hge))))))))))))))))))) ?_
   exact round_mk (y.length - (i + 1)) (by omega) ⟨(by first | rfl | (simp only [↓upd_apply, ↓put_some, ↓reduceIte, Nat.reduceEqDiff, ↓argEnv_zero, ↓argEnv_succ, *]; done)), (by first | rfl | (simp only [↓upd_apply, ↓put_some, ↓reduceIte, Nat.reduceEqDiff, ↓argEnv_zero, ↓argEnv_succ, *]; done)), (by first | rfl | (simp only [↓upd_apply, ↓put_some, ↓reduceIte, Nat.reduceEqDiff, ↓argEnv_zero, ↓argEnv_succ, *]; done)), (by first | rfl | (simp only [↓upd_apply, ↓put_some, ↓reduceIte, Nat.reduceEqDiff, ↓argEnv_zero, ↓argEnv_succ, *]; done)), (by first | rfl | (simp only [↓upd_apply, ↓put_some, ↓reduceIte, Nat.reduceEqDiff, ↓argEnv_zero, ↓argEnv_succ, *]; done)), (by first | rfl | (simp only [↓upd_apply, ↓put_some, ↓reduceIte, Nat.reduceEqDiff, ↓argEnv_zero, ↓argEnv_succ, *]; done)), (by first | rfl | (simp only [↓upd_apply, ↓put_some, ↓reduceIte, Nat.reduceEqDiff, ↓argEnv_zero, ↓argEnv_succ, *]; done)), (by first | rfl | (simp only [↓upd_apply, ↓put_some, ↓reduceIte, Nat.reduceEqDiff, ↓argEnv_zero, ↓argEnv_succ, *]; done)), i + 1, _, (by first | rfl | (simp only [↓upd_apply, ↓put_some, ↓reduceIte, Nat.reduceEqDiff, ↓argEnv_zero, ↓argEnv_succ, *]; done)), rfl, by omega, rfl⟩
end Go.Proofs.YtaphpbiaoofmkaaGreatDoor.Pe
end
