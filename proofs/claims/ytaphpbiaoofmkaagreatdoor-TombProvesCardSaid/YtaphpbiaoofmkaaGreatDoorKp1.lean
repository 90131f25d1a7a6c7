/- Several texts in one, without what this claim does not use (tools/shake.py). -/
import Derived.Lib.DecodeN
import Derived.Test.YtaphpbiaoofmkaaGreatDoorProg
import Derived.KernelRfl
import Derived.Lib.AppendStr
import Derived.Deep.Draws
import Derived.Laws.StructEq
import Derived.Laws.Strings
import Derived.Laws.PanicsMore
import Derived.Laws.Tables
import Derived.Shelf.Strings.Builder1
import Derived.Shelf.Strings.Builder2
import Derived.Shelf.Strings.OnBuilder
import Derived.Shelf.Bits.Mul64
import Derived.Ground.SlgmProg
import Derived.Shelf.SortM.Plain
import Derived.Shelf.SortM.SortNone
import Derived.Test.YtaphpbiaoofmkaaGreatDoorChecked
import Derived.WalkKit
import Derived.ProofKit
import Derived.WalkSpells
import Derived.Lib.Hide
import Derived.WalkLawsBesides
import Derived.BigRegion
import Derived.RegionTactic
import Derived.BigQuiet
import Derived.Deep.RegionLaw
import Derived.Below
import Derived.ChangeSame
import Derived.OpenShut
import Derived.ShutString
import Derived.Deep.Strs
import Derived.SizedLaws
import Derived.Deep.Slices
import Derived.ChangeArms
import Derived.Laws.Entries
import Derived.Deep.RegionHeld3
import Derived.MapKept
import Derived.Laws.MakeOwn
import Derived.Still
import Derived.Deep.LoopGhost
import Derived.Laws.OwnMore
import Derived.Laws.IdiomStrings
import Derived.Deep.OwnRows
import Derived.StillTailTactics
import Derived.Shelf.SlIterI.Nil
import Derived.Ground.GgzProg
import Derived.Shelf.SlGeneric
import Derived.Test.YtaphpbiaoofmkaaGreatDoorKr1
import Derived.Test.YtaphpbiaoofmkaaGreatDoorKr2
import Derived.Test.YtaphpbiaoofmkaaGreatDoorKr3
import Derived.Test.YtaphpbiaoofmkaaGreatDoorKr4
import Derived.Test.YtaphpbiaoofmkaaGreatDoorKr5
import Derived.Test.YtaphpbiaoofmkaaGreatDoorKr6
import Derived.Test.YtaphpbiaoofmkaaGreatDoorKr7
import Derived.Test.YtaphpbiaoofmkaaGreatDoorKr8
import Derived.Test.YtaphpbiaoofmkaaGreatDoorKr9
import Derived.Test.YtaphpbiaoofmkaaGreatDoorKr10
import Derived.Test.YtaphpbiaoofmkaaGreatDoorKr11
import Derived.Test.YtaphpbiaoofmkaaGreatDoorKr12
import Derived.Test.YtaphpbiaoofmkaaGreatDoorKr13
import Derived.Test.YtaphpbiaoofmkaaGreatDoorKr14
import Derived.Test.YtaphpbiaoofmkaaGreatDoorKr15
set_option linter.unusedSectionVars false
set_option linter.unusedVariables false
set_option linter.unusedSimpArgs false
section
namespace Go.Proofs.YtaphpbiaoofmkaaGreatDoor.Pe
open Go Go.RowKit Co Sg Ac It
set_option maxRecDepth 100000
set_option maxHeartbeats 4000000
end Go.Proofs.YtaphpbiaoofmkaaGreatDoor.Pe
namespace Go.Proofs.YtaphpbiaoofmkaaGreatDoor.Pe
open Go Go.RowKit Co Sg Ac It
set_option maxRecDepth 100000
set_option maxHeartbeats 4000000
section
variable [Tab] {P : Program} {pf rf : List FuncId} {e : Env} {f : FuncId} {d : Option Nat} {rest : List AO} {K : Env → Store → Prop}
end
end Go.Proofs.YtaphpbiaoofmkaaGreatDoor.Pe
namespace Go.Proofs.YtaphpbiaoofmkaaGreatDoor.Pe
open Go Go.RowKit Co Sg Ac It
set_option maxRecDepth 100000
set_option maxHeartbeats 4000000
end Go.Proofs.YtaphpbiaoofmkaaGreatDoor.Pe
namespace Go.Proofs.YtaphpbiaoofmkaaGreatDoor.Pe
open Go Go.RowKit Co Sg Ac It
set_option maxRecDepth 100000
set_option maxHeartbeats 4000000
theorem dz0 : Dz decision0 := ⟨by decide, by decide, by decide⟩
end Go.Proofs.YtaphpbiaoofmkaaGreatDoor.Pe
end
section
namespace Go.Proofs.YtaphpbiaoofmkaaGreatDoor.Pe
open Go Go.RowKit Co Sg Ac
set_option maxRecDepth 100000
set_option maxHeartbeats 4000000
theorem shp_strs {n us} (h : shp Tryz.prog 140737488351232 (n + 2) 22 us) : ∃ l : List By, us = [sls l] ∧ l.length ≤ 140737488351232 ∧ ∀ s ∈ l, s.length ≤ 140737488351232 := by
 obtain ⟨l, h1, h2, h3⟩ := shp_slice AV.st (fun s : By => s.length ≤ 140737488351232) Tryz.underlying22 h (fun x hx => by
  obtain ⟨s, rfl, hs⟩ := shp_str Tryz.underlying9 hx
  exact ⟨s, by rw [show aggT Tryz.prog 9 = false from by kernel_rfl]; rfl, hs⟩)
 exact ⟨l, h1, h2, h3⟩
theorem shp_box {n us} (h : shp Tryz.prog 140737488351232 (n + 2) 24 us) : ∃ b : Box, us = [.st b.nonce, .st b.data, .st b.tag] ∧ b.nonce.length ≤ 140737488351232 ∧ b.data.length ≤ 140737488351232 ∧ b.tag.length ≤ 140737488351232 := by
 have h := shp_struct Tryz.underlying24 h
 obtain ⟨a0, b0, rfl, h0, h⟩ := h
 obtain ⟨a1, b1, rfl, h1, h⟩ := h
 obtain ⟨a2, b2, rfl, h2, rfl⟩ := h
 obtain ⟨s0, rfl, w0⟩ := shp_str Tryz.underlying9 h0
 obtain ⟨s1, rfl, w1⟩ := shp_str Tryz.underlying9 h1
 obtain ⟨s2, rfl, w2⟩ := shp_str Tryz.underlying9 h2
 exact ⟨⟨s0, s1, s2⟩, rfl, w0, w1, w2⟩
theorem shp_sig {n us} (h : shp Tryz.prog 140737488351232 (n + 2) 27 us) : ∃ s : Sig, us = [.it .i64 s.e, .it .i64 s.s] := by
 have h := shp_struct Tryz.underlying27 h
 obtain ⟨a0, b0, rfl, h0, h⟩ := h
 obtain ⟨a1, b1, rfl, h1, rfl⟩ := h
 obtain ⟨i0, rfl, w0⟩ := shp_i64 Tryz.underlying3 h0
 obtain ⟨i1, rfl, w1⟩ := shp_i64 Tryz.underlying3 h1
 exact ⟨⟨i0, i1⟩, rfl⟩
theorem shp_wrap {n us} (h : shp Tryz.prog 140737488351232 (n + 3) 105 us) : ∃ w : Wrap, us = (wrapV w).cells ∧ w.box.nonce.length ≤ 140737488351232 ∧ w.box.data.length ≤ 140737488351232 ∧ w.box.tag.length ≤ 140737488351232 := by
 have h := shp_struct Tryz.underlying105 h
 obtain ⟨a0, b0, rfl, h0, h⟩ := h
 obtain ⟨a1, b1, rfl, h1, h⟩ := h
 obtain ⟨a2, b2, rfl, h2, rfl⟩ := h
 obtain ⟨i0, rfl, w0⟩ := shp_i64 Tryz.underlying3 h0
 obtain ⟨i1, rfl, w1⟩ := shp_i64 Tryz.underlying3 h1
 obtain ⟨b, rfl, w2⟩ := shp_box h2
 exact ⟨⟨i0, i1, b⟩, rfl, w2⟩
theorem shp_wraps {n us} (h : shp Tryz.prog 140737488351232 (n + 4) 25 us) : ∃ l : List Wrap, us = [.sl .ro (l.map wrapV)] ∧ l.length ≤ 140737488351232 ∧ ∀ w ∈ l, w.box.nonce.length ≤ 140737488351232 ∧ w.box.data.length ≤ 140737488351232 ∧ w.box.tag.length ≤ 140737488351232 :=
 shp_slice wrapV (fun w : Wrap => w.box.nonce.length ≤ 140737488351232 ∧ w.box.data.length ≤ 140737488351232 ∧ w.box.tag.length ≤ 140737488351232) Tryz.underlying25 h fun x hx => by
  obtain ⟨w, rfl, hw⟩ := shp_wrap hx
  exact ⟨w, by rw [show aggT Tryz.prog 105 = true from by kernel_rfl]; rfl, hw⟩
theorem shp_actA {n us} (h : shp Tryz.prog 140737488351232 (n + 5) 29 us) : ∃ a : Ac.Act, us = (actV a).cells ∧ In a := by
 have h := shp_struct Tryz.underlying29 h
 obtain ⟨a0, b0, rfl, h0, h⟩ := h
 obtain ⟨a1, b1, rfl, h1, h⟩ := h
 obtain ⟨a2, b2, rfl, h2, h⟩ := h
 obtain ⟨a3, b3, rfl, h3, h⟩ := h
 obtain ⟨a4, b4, rfl, h4, h⟩ := h
 obtain ⟨a5, b5, rfl, h5, h⟩ := h
 obtain ⟨a6, b6, rfl, h6, h⟩ := h
 obtain ⟨a7, b7, rfl, h7, h⟩ := h
 obtain ⟨a8, b8, rfl, h8, h⟩ := h
 obtain ⟨a9, b9, rfl, h9, h⟩ := h
 obtain ⟨a10, b10, rfl, h10, h⟩ := h
 obtain ⟨a11, b11, rfl, h11, h⟩ := h
 obtain ⟨a12, b12, rfl, h12, h⟩ := h
 obtain ⟨a13, b13, rfl, h13, h⟩ := h
 obtain ⟨a14, b14, rfl, h14, h⟩ := h
 obtain ⟨a15, b15, rfl, h15, h⟩ := h
 obtain ⟨a16, b16, rfl, h16, rfl⟩ := h
 obtain ⟨author, rfl, w0⟩ := shp_str Tryz.underlying9 h0
 obtain ⟨seq, rfl, w1⟩ := shp_i64 Tryz.underlying3 h1
 obtain ⟨prev, rfl, w2⟩ := shp_str Tryz.underlying9 h2
 obtain ⟨kind, rfl, w3⟩ := shp_i64 Tryz.underlying3 h3
 obtain ⟨time, rfl, w4⟩ := shp_i64 Tryz.underlying3 h4
 obtain ⟨object, rfl, w5⟩ := shp_str Tryz.underlying9 h5
 obtain ⟨target, rfl, w6⟩ := shp_str Tryz.underlying9 h6
 obtain ⟨scope, rfl, w7⟩ := shp_i64 Tryz.underlying3 h7
 obtain ⟨group, rfl, w8⟩ := shp_str Tryz.underlying9 h8
 obtain ⟨to, rfl, w9, w9'⟩ := shp_strs h9
 obtain ⟨text, rfl, w10⟩ := shp_str Tryz.underlying9 h10
 obtain ⟨body, rfl, w11⟩ := shp_box h11
 obtain ⟨epoch, rfl, w12⟩ := shp_i64 Tryz.underlying3 h12
 obtain ⟨wr, rfl, w13, w13'⟩ := shp_wraps h13
 obtain ⟨n, rfl, w14⟩ := shp_i64 Tryz.underlying3 h14
 obtain ⟨m, rfl, w15⟩ := shp_i64 Tryz.underlying3 h15
 obtain ⟨sig, rfl⟩ := shp_sig h16
 refine ⟨⟨author, seq, prev, kind, time, object, target, scope, group, to, text, body, epoch, wr, n, m, sig⟩, rfl, ⟨?_, ?_, ?_, ?_, fun s hs => ?_, ?_, ?_⟩, ?_, ?_, ?_, fun w hw => ?_, w12, w15⟩
 ·show author.length ≤ _; omega
 ·show target.length ≤ _; omega
 ·show group.length ≤ _; omega
 ·show text.length ≤ _; omega
 ·have := w9' s hs; omega
 ·show to.length ≤ _; omega
 ·show wr.length ≤ _; omega
 ·show prev.length ≤ _; omega
 ·show object.length ≤ _; omega
 ·show body.nonce.length ≤ _ ∧ body.data.length ≤ _ ∧ body.tag.length ≤ _; omega
 ·have := w13' w hw; omega
end Go.Proofs.YtaphpbiaoofmkaaGreatDoor.Pe
end
section
namespace Go.Proofs.YtaphpbiaoofmkaaGreatDoor.Pe
open Go Go.RowKit Co Sg Ac It
set_option maxRecDepth 100000
set_option maxHeartbeats 4000000
theorem shp_claimI {n us} (h : shp Tryz.prog 140737488351232 (n + 3) 43 us) : ∃ c : It.Claim, us = (claimV c).cells ∧ c.actor.length ≤ 140737488355328 ∧ (∀ x ∈ [c.base, c.gen, c.home, c.pub, c.time], -9223372036854775808 ≤ x ∧ x ≤ 9223372036854775807) ∧ (∀ x ∈ [c.sig.e, c.sig.s], -9223372036854775808 ≤ x ∧ x ≤ 9223372036854775807) := by
 have h := shp_struct Tryz.underlying43 h
 obtain ⟨a0, b0, rfl, h0, h⟩ := h
 obtain ⟨a1, b1, rfl, h1, h⟩ := h
 obtain ⟨a2, b2, rfl, h2, h⟩ := h
 obtain ⟨a3, b3, rfl, h3, h⟩ := h
 obtain ⟨a4, b4, rfl, h4, h⟩ := h
 obtain ⟨a5, b5, rfl, h5, h⟩ := h
 obtain ⟨a6, b6, rfl, h6, h⟩ := h
 obtain ⟨a7, b7, rfl, h7, rfl⟩ := h
 obtain ⟨actor, rfl, w0⟩ := shp_str Tryz.underlying9 h0
 obtain ⟨base, rfl, w1⟩ := shp_i64 Tryz.underlying3 h1
 obtain ⟨prev, rfl, w2⟩ := shp_str Tryz.underlying9 h2
 obtain ⟨gen, rfl, w3⟩ := shp_i64 Tryz.underlying3 h3
 obtain ⟨home, rfl, w4⟩ := shp_i64 Tryz.underlying3 h4
 obtain ⟨pub, rfl, w5⟩ := shp_i64 Tryz.underlying3 h5
 obtain ⟨time, rfl, w6⟩ := shp_i64 Tryz.underlying3 h6
 obtain ⟨sg, rfl, w7, w7q⟩ := shp_sigI h7
 refine ⟨⟨actor, base, prev, gen, home, pub, time, sg⟩, rfl, Nat.le_trans w0 (by decide), by simp only [List.forall_mem_cons, List.not_mem_nil, false_implies, implies_true, and_true]; omega, by simp only [List.forall_mem_cons, List.not_mem_nil, false_implies, implies_true, and_true]; omega⟩
theorem shp_ballotI {n us} (h : shp Tryz.prog 140737488351232 (n + 3) 45 us) : ∃ c : It.Ballot, us = (ballotV c).cells ∧ c.actor.length ≤ 140737488355328 ∧ (∀ x ∈ [c.server, c.gen, c.time], -9223372036854775808 ≤ x ∧ x ≤ 9223372036854775807) ∧ (∀ x ∈ [c.sig.e, c.sig.s], -9223372036854775808 ≤ x ∧ x ≤ 9223372036854775807) := by
 have h := shp_struct Tryz.underlying45 h
 obtain ⟨a0, b0, rfl, h0, h⟩ := h
 obtain ⟨a1, b1, rfl, h1, h⟩ := h
 obtain ⟨a2, b2, rfl, h2, h⟩ := h
 obtain ⟨a3, b3, rfl, h3, h⟩ := h
 obtain ⟨a4, b4, rfl, h4, h⟩ := h
 obtain ⟨a5, b5, rfl, h5, rfl⟩ := h
 obtain ⟨server, rfl, w0⟩ := shp_i64 Tryz.underlying3 h0
 obtain ⟨actor, rfl, w1⟩ := shp_str Tryz.underlying9 h1
 obtain ⟨gen, rfl, w2⟩ := shp_i64 Tryz.underlying3 h2
 obtain ⟨claim, rfl, w3⟩ := shp_str Tryz.underlying9 h3
 obtain ⟨time, rfl, w4⟩ := shp_i64 Tryz.underlying3 h4
 obtain ⟨sg, rfl, w5, w5q⟩ := shp_sigI h5
 refine ⟨⟨server, actor, gen, claim, time, sg⟩, rfl, Nat.le_trans w1 (by decide), by simp only [List.forall_mem_cons, List.not_mem_nil, false_implies, implies_true, and_true]; omega, by simp only [List.forall_mem_cons, List.not_mem_nil, false_implies, implies_true, and_true]; omega⟩
theorem shp_decisionI {n us} (h : shp Tryz.prog 140737488351232 (n + 3) 47 us) : ∃ c : It.Decision, us = (decisionV c).cells ∧ Dz c ∧ (∀ x ∈ [c.server, c.number, c.kind, c.n, c.frm, c.til], -9223372036854775808 ≤ x ∧ x ≤ 9223372036854775807) ∧ (∀ x ∈ [c.sig.e, c.sig.s], -9223372036854775808 ≤ x ∧ x ≤ 9223372036854775807) := by
 have h := shp_struct Tryz.underlying47 h
 obtain ⟨a0, b0, rfl, h0, h⟩ := h
 obtain ⟨a1, b1, rfl, h1, h⟩ := h
 obtain ⟨a2, b2, rfl, h2, h⟩ := h
 obtain ⟨a3, b3, rfl, h3, h⟩ := h
 obtain ⟨a4, b4, rfl, h4, h⟩ := h
 obtain ⟨a5, b5, rfl, h5, h⟩ := h
 obtain ⟨a6, b6, rfl, h6, h⟩ := h
 obtain ⟨a7, b7, rfl, h7, h⟩ := h
 obtain ⟨a8, b8, rfl, h8, h⟩ := h
 obtain ⟨a9, b9, rfl, h9, h⟩ := h
 obtain ⟨a10, b10, rfl, h10, rfl⟩ := h
 obtain ⟨server, rfl, w0⟩ := shp_i64 Tryz.underlying3 h0
 obtain ⟨number, rfl, w1⟩ := shp_i64 Tryz.underlying3 h1
 obtain ⟨kind, rfl, w2⟩ := shp_i64 Tryz.underlying3 h2
 obtain ⟨actor, rfl, w3⟩ := shp_str Tryz.underlying9 h3
 obtain ⟨object, rfl, w4⟩ := shp_str Tryz.underlying9 h4
 obtain ⟨txt, rfl, w5⟩ := shp_str Tryz.underlying9 h5
 obtain ⟨to, rfl, w6, w6q⟩ := shp_strs h6
 obtain ⟨n1, rfl, w7⟩ := shp_i64 Tryz.underlying3 h7
 obtain ⟨frm, rfl, w8⟩ := shp_i64 Tryz.underlying3 h8
 obtain ⟨til, rfl, w9⟩ := shp_i64 Tryz.underlying3 h9
 obtain ⟨sg, rfl, w10, w10q⟩ := shp_sigI h10
 refine ⟨⟨server, number, kind, actor, object, txt, to, n1, frm, til, sg⟩, rfl, ⟨Nat.le_trans w3 (by decide), Nat.le_trans w6 (by decide), fun s hs => Nat.le_trans (w6q s hs) (by decide)⟩, by simp only [List.forall_mem_cons, List.not_mem_nil, false_implies, implies_true, and_true]; omega, by simp only [List.forall_mem_cons, List.not_mem_nil, false_implies, implies_true, and_true]; omega⟩
theorem shp_itemI {n us} (h : shp Tryz.prog 140737488351232 (n + 6) 49 us) : ∃ i : It.Item, us = (itemV i).cells ∧ InI i := by
 have h := shp_struct Tryz.underlying49 h
 obtain ⟨a0, b0, rfl, h0, h⟩ := h
 obtain ⟨a1, b1, rfl, h1, h⟩ := h
 obtain ⟨a2, b2, rfl, h2, h⟩ := h
 obtain ⟨a3, b3, rfl, h3, h⟩ := h
 obtain ⟨a4, b4, rfl, h4, rfl⟩ := h
 obtain ⟨kind, rfl, w0⟩ := shp_i64 Tryz.underlying3 h0
 obtain ⟨a, rfl, w1⟩ := shp_actA h1
 obtain ⟨c, rfl, w2, w2c, w2s⟩ := shp_claimI h2
 obtain ⟨b, rfl, w3, w3c, w3s⟩ := shp_ballotI h3
 obtain ⟨d, rfl, w4, w4c, w4s⟩ := shp_decisionI h4
 refine ⟨⟨kind, a, c, b, d⟩, rfl, w1, ⟨w1.sz, w2, w3, w4⟩, w2c, w3c, w4c, ?_⟩
 simp only [List.forall_mem_cons, List.not_mem_nil, false_implies, implies_true, and_true] at w2s w3s w4s ⊢
 exact ⟨w2s.1, w2s.2, w3s.1, w3s.2, w4s.1, w4s.2⟩
end Go.Proofs.YtaphpbiaoofmkaaGreatDoor.Pe
namespace Go.Proofs.YtaphpbiaoofmkaaGreatDoor.Pe
open Go Go.RowKit Co Sg Ac It
set_option maxRecDepth 100000
set_option maxHeartbeats 4000000
end Go.Proofs.YtaphpbiaoofmkaaGreatDoor.Pe
end
section
namespace Go.Proofs.YtaphpbiaoofmkaaGreatDoor.Pe
open Go Go.RowKit Co Sg Ac It
set_option maxRecDepth 100000
set_option maxHeartbeats 4000000
theorem shp_entryI {n us} (h : shp Tryz.prog 140737488351232 (n + 7) 55 us) : ∃ e : It.Entry, us = (entryV e).cells ∧ InE e := by
 have h := shp_struct Tryz.underlying55 h
 obtain ⟨a0, b0, rfl, h0, h⟩ := h
 obtain ⟨a1, b1, rfl, h1, rfl⟩ := h
 obtain ⟨time, rfl, w0⟩ := shp_i64 Tryz.underlying3 h0
 obtain ⟨i, rfl, w1⟩ := shp_itemI h1
 exact ⟨⟨time, i⟩, rfl, w0, w1⟩
theorem shp_entriesI {n us} (h : shp Tryz.prog 140737488351232 (n + 8) 79 us) : ∃ l : List It.Entry, us = [.sl .ro (l.map entryV)] ∧ l.length ≤ 140737488351232 ∧ ∀ e ∈ l, InE e :=
 shp_slice entryV InE Tryz.underlying79 h fun x hx => by
  obtain ⟨w, rfl, hw⟩ := shp_entryI hx
  exact ⟨w, by rw [show aggT Tryz.prog 55 = true from by kernel_rfl]; rfl, hw⟩
end Go.Proofs.YtaphpbiaoofmkaaGreatDoor.Pe
end
section
namespace Go.Proofs.YtaphpbiaoofmkaaGreatDoor.Sl
open Go Co Sg Ac It
theorem check_zero (ps : List Int) (id : By) : checkT ps id grave0 = false := by
 unfold checkT
 have : verifyT ps grave0.rcpt = false := by
  unfold verifyT verifyH
  have : rightH grave0.rcpt.head = false := by decide
  rw [this]
  simp
 rw [this]
 rfl
theorem prove_wrong {l : List It.Entry} {i : Int} {r : Receipt} (h : (proveT l i r).2 = false) : (proveT l i r).1 = grave0 := by
 unfold proveT at h ⊢
 split at h
 ·rename_i hc; rw [if_pos hc]
 ·cases h
end Go.Proofs.YtaphpbiaoofmkaaGreatDoor.Sl
end
section
namespace Go.Proofs.YtaphpbiaoofmkaaGreatDoor.Pe
open Go Go.RowKit Co Sg Ac It Sl
set_option maxRecDepth 100000
set_option maxHeartbeats 4000000
theorem tl0 (T : Store) (o : SObj) : (T ++ [o])[T.length]? = some o := by simp
theorem tl0s (T : Store) (o o' : SObj) : (T ++ [o]).set T.length o' = T ++ [o'] := by simp
def light29 (l : List It.Entry) : Bool := (l.all fun e => decide (e.item.act.to.length ≤ 100) && decide (e.item.act.wraps.length ≤ 100) && decide (e.item.decision.to.length ≤ 100)) && decide (l.length ≤ 20)
theorem light29_c (l : List It.Entry) (hl : l.length ≤ 140737488351232) : AC Tryz.prog 68 [entriesV l] [] (.bo (light29 l)) [] := by
 refine AC.enter [] [] Tryz.func68 rfl (by decide) (by decide) (Nat.le_of_ble_eq_true rfl) (by kernel_rfl) ?_; simp only [eraseC, eraseO, List.map_cons, List.map_nil, List.map_toArray, List.getElem?_toArray, List.getElem?_cons_zero, List.getElem?_cons_succ, Option.bind_some, Option.bind_none, List.append_eq, List.cons_append, List.nil_append]
 unfold light29
 have hsz := entries_sz l
 obtain ⟨sh, hsh⟩ : ∃ sh : It.Entry → Bool, sh = fun e => decide (e.item.act.to.length ≤ 100) && decide (e.item.act.wraps.length ≤ 100) && decide (e.item.decision.to.length ≤ 100) := ⟨_, rfl⟩
 rw [← hsh]
 refine run ?_
 refine loop_mk (fun m e S => e 0 = entriesV l ∧ ∃ (k : Nat) (T : Store), e 3 = .it .i64 (k : Int) ∧ S = T ∧ k ≤ l.length ∧ (l.take k).all sh = true ∧ m = l.length - k) l.length
  ⟨(by first | rfl | (simp only [↓upd_apply, ↓put_some, ↓reduceIte, Nat.reduceEqDiff, ↓argEnv_zero, ↓argEnv_succ, *]; done)), 0, [], (by first | rfl | (simp only [↓upd_apply, ↓put_some, ↓reduceIte, Nat.reduceEqDiff, ↓argEnv_zero, ↓argEnv_succ, *]; done)), rfl, by omega, rfl, rfl⟩ ?_
 rintro m e S ⟨s0, k, T, s3, rfl, hk, hall, rfl⟩
 by_cases hlt : k < l.length
 rotate_left
 ·obtain rfl : k = l.length := by omega
  rw [List.take_length] at hall
  rw [hall]
  have hx : ¬ ((l.length : Nat) : Int) < (l.length : Int) := by omega
  by_cases c1 : l.length ≤ 20
  ·have c1' : (l.length : Int) ≤ 20 := by omega
   rw [decide_eq_true c1]
   refine runf (an @s0 (an @s3 (an @hx @c1'))) ?_
   exact er0
  ·have c1' : ¬ (l.length : Int) ≤ 20 := by omega
   rw [decide_eq_false c1]
   refine runf (an @s0 (an @s3 (an @hx @c1'))) ?_
   exact er0
 have hg : l[k]? = some l[k] := List.getElem?_eq_getElem hlt
 have hstep : l.take (k + 1) = l.take k ++ [l[k]] := List.take_succ_eq_append_getElem hlt
 have hbad : sh l[k] = false → l.all sh = false := fun h => List.all_eq_false.2 ⟨l[k], List.getElem_mem hlt, by simp [h]⟩
 generalize l[k] = x at *
 have hun : sh x = (decide (x.item.act.to.length ≤ 100) && decide (x.item.act.wraps.length ≤ 100) && decide (x.item.decision.to.length ≤ 100)) := by rw [hsh]
 by_cases d1 : x.item.act.to.length ≤ 100
 rotate_left
 ·have d1' : (100 : Int) < (x.item.act.to.length : Int) := by omega
  rw [hbad (by rw [hun, decide_eq_false d1]; simp), Bool.false_and]
  refine runf (an @s0 (an @s3 (an @hg (an @hsz (an @tl0 (an @tl0s @d1')))))) ?_
  exact er0
 have d1' : ¬ (100 : Int) < (x.item.act.to.length : Int) := by omega
 by_cases d2 : x.item.act.wraps.length ≤ 100
 rotate_left
 ·have d2' : (100 : Int) < (x.item.act.wraps.length : Int) := by omega
  rw [hbad (by rw [hun, decide_eq_false d2]; simp), Bool.false_and]
  refine runf (an @s0 (an @s3 (an @hg (an @hsz (an @tl0 (an @tl0s (an @d1' @d2'))))))) ?_
  exact er0
 have d2' : ¬ (100 : Int) < (x.item.act.wraps.length : Int) := by omega
 by_cases d3 : x.item.decision.to.length ≤ 100
 rotate_left
 ·have d3' : (100 : Int) < (x.item.decision.to.length : Int) := by omega
  rw [hbad (by rw [hun, decide_eq_false d3]; simp), Bool.false_and]
  refine runf (an @s0 (an @s3 (an @hg (an @hsz (an @tl0 (an @tl0s (an @d1' (an @d2' @d3')))))))) ?_
  exact er0
 have d3' : ¬ (100 : Int) < (x.item.decision.to.length : Int) := by omega
 have hs : sh x = true := by rw [hun, decide_eq_true d1, decide_eq_true d2, decide_eq_true d3]; rfl
 refine runf (an @s0 (an @s3 (an @hg (an @hsz (an @tl0 (an @tl0s (an @d1' (an @d2' @d3')))))))) ?_
 exact round_mk (l.length - (k + 1)) (by omega) ⟨(by first | rfl | (simp only [↓upd_apply, ↓put_some, ↓reduceIte, Nat.reduceEqDiff, ↓argEnv_zero, ↓argEnv_succ, *]; done)), k + 1, _, (by first | rfl | (simp only [↓upd_apply, ↓put_some, ↓reduceIte, Nat.reduceEqDiff, ↓argEnv_zero, ↓argEnv_succ, *]; done)), rfl, by omega, by rw [hstep, List.all_append, hall]; simp [hs], rfl⟩
abbrev keysV (l : List Key) : AV := .sl .ro (l.map keyV)
def srv (seed : By) (c : UInt8) : Key := keySeed (seed ++ [c])
theorem servers29_c (seed : By) (hs : seed.length ≤ 100) : AC Tryz.prog 77 [.st seed] [] (.tup [keysV [srv seed 48, srv seed 49, srv seed 50], intsV [(srv seed 48).pub, (srv seed 49).pub, (srv seed 50).pub]]) [] := by
 refine AC.enter2 [154] [] Tryz.func77 rfl (by decide) (by decide) (Nat.le_of_ble_eq_true rfl) (by kernel_rfl) ?_; simp only [eraseC, eraseO, List.map_cons, List.map_nil, List.map_toArray, List.getElem?_toArray, List.getElem?_cons_zero, List.getElem?_cons_succ, Option.bind_some, Option.bind_none, List.append_eq, List.cons_append, List.nil_append]
 have hl : ∀ c, (seed ++ [c]).length ≤ 100000000 := fun c => by rw [List.length_append, List.length_singleton]; omega
 have k0 := keySeed_c (seed ++ [48]) (hl 48)
 have k1 := keySeed_c (seed ++ [49]) (hl 49)
 have k2 := keySeed_c (seed ++ [50]) (hl 50)
 unfold srv
 generalize keySeed (seed ++ [48]) = a at *
 generalize keySeed (seed ++ [49]) = b at *
 generalize keySeed (seed ++ [50]) = c at *
 refine run ?_
 refine cp k0 ?_
 refine run ?_
 refine cp k1 ?_
 refine run ?_
 refine cp k2 ?_
 refine run ?_
 exact er0w
theorem del_bytes (e : It.Entry) (id : By) : delT e id = (decide (entryB e ≠ []) && decide (e.item.kind = 0) && decide (e.item.act.kind = 13) && decide (e.item.act.object = id)) := by
 have hn := entryB_ne (e := e)
 unfold isTime at hn
 unfold delT
 by_cases hb : entryB e = []
 ·rw [decide_eq_false (show ¬ entryB e ≠ [] from fun h => h hb)]
  cases h1 : wi e.time 0 1099511627776
  ·simp
  ·cases h2 : It.right e.item
   ·simp
   ·exact absurd hb (hn.2 ⟨h1, h2⟩)
 ·obtain ⟨h1, h2⟩ := hn.1 hb
  rw [decide_eq_true (show entryB e ≠ [] from hb), h1, h2, Bool.and_true]
theorem deleted29_c (l : List It.Entry) (id : By) (hl : l.length ≤ 1000000) (hz : ∀ e ∈ l, Iz e.item) : AC Tryz.prog 79 [entriesV l, .st id] [] (.bo (delL l id)) [] := by
 refine AC.enter2 [45] [] Tryz.func79 rfl (by decide) (by decide) (Nat.le_of_ble_eq_true rfl) (by kernel_rfl) ?_; simp only [eraseC, eraseO, List.map_cons, List.map_nil, List.map_toArray, List.getElem?_toArray, List.getElem?_cons_zero, List.getElem?_cons_succ, Option.bind_some, Option.bind_none, List.append_eq, List.cons_append, List.nil_append]
 have hsz := entries_sz l
 obtain ⟨q, hq⟩ : ∃ q, delL l id = q := ⟨_, rfl⟩
 rw [hq]
 unfold delL at hq
 refine run ?_
 refine loop_mk (fun m e S => e 0 = entriesV l ∧ e 1 = .st id ∧ ∃ (k : Nat) (T : Store), e 5 = .it .i64 (k : Int) ∧ S = T ∧ k ≤ l.length ∧ (l.take k).any (fun e => delT e id) = false ∧ m = l.length - k) l.length
  ⟨(by first | rfl | (simp only [↓upd_apply, ↓put_some, ↓reduceIte, Nat.reduceEqDiff, ↓argEnv_zero, ↓argEnv_succ, *]; done)), (by first | rfl | (simp only [↓upd_apply, ↓put_some, ↓reduceIte, Nat.reduceEqDiff, ↓argEnv_zero, ↓argEnv_succ, *]; done)), 0, [], (by first | rfl | (simp only [↓upd_apply, ↓put_some, ↓reduceIte, Nat.reduceEqDiff, ↓argEnv_zero, ↓argEnv_succ, *]; done)), rfl, by omega, rfl, rfl⟩ ?_
 rintro m e S ⟨s0, s1, k, T, s5, rfl, hk, hall, rfl⟩
 by_cases hlt : k < l.length
 rotate_left
 ·have hlti : ¬ (k : Int) < (l.length : Int) := by omega
  rw [List.take_of_length_le (by omega), hq] at hall
  subst hall
  refine runf (an @s0 (an @s1 (an @s5 @hlti))) ?_
  exact er0
 have hlti : (k : Int) < (l.length : Int) := by omega
 have hg : l[k]? = some l[k] := List.getElem?_eq_getElem hlt
 have hstep : l.take (k + 1) = l.take k ++ [l[k]] := List.take_succ_eq_append_getElem hlt
 have hyes : delT l[k] id = true → q = true := fun h => by rw [← hq, List.any_eq_true]; exact ⟨l[k], List.getElem_mem hlt, h⟩
 have hzk := hz l[k] (List.getElem_mem hlt)
 generalize l[k] = x at *
 have kb := entryBytes_c x hzk
 have hun := del_bytes x id
 have hno : delT x id = false → (l.take (k + 1)).any (fun e => delT e id) = false := fun h => by rw [hstep, List.any_append, hall]; simp [h]
 generalize entryB x = b at *
 by_cases hb : b = []
 ·have hbq : (b == []) = true := by rw [hb]; rfl
  rw [decide_eq_false (show ¬ b ≠ [] from fun h => h hb)] at hun
  refine runf (an @s0 (an @s1 (an @s5 (an @hlti (an @hg (an @hsz (an @tl0 @tl0s))))))) ?_
  refine cp kb ?_
  refine runf (an @s0 (an @s1 (an @s5 @hbq))) ?_
  exact round_mk (l.length - (k + 1)) (by omega) ⟨(by first | rfl | (simp only [↓upd_apply, ↓put_some, ↓reduceIte, Nat.reduceEqDiff, ↓argEnv_zero, ↓argEnv_succ, *]; done)), (by first | rfl | (simp only [↓upd_apply, ↓put_some, ↓reduceIte, Nat.reduceEqDiff, ↓argEnv_zero, ↓argEnv_succ, *]; done)), k + 1, _, (by first | rfl | (simp only [↓upd_apply, ↓put_some, ↓reduceIte, Nat.reduceEqDiff, ↓argEnv_zero, ↓argEnv_succ, *]; done)), rfl, by omega, hno hun, rfl⟩
 have hbq : (b == []) = false := nilI b [] hb
 rw [decide_eq_true (show b ≠ [] from hb), Bool.true_and] at hun
 by_cases c3 : x.item.kind = 0
 rotate_left
 ·have q3 : (x.item.kind == 0) = false := beqF c3
  rw [decide_eq_false c3] at hun
  refine runf (an @s0 (an @s1 (an @s5 (an @hlti (an @hg (an @hsz (an @tl0 @tl0s))))))) ?_
  refine cp kb ?_
  refine runf (an @s0 (an @s1 (an @s5 (an @hbq (an @tl0 (an @tl0s @q3)))))) ?_
  exact round_mk (l.length - (k + 1)) (by omega) ⟨(by first | rfl | (simp only [↓upd_apply, ↓put_some, ↓reduceIte, Nat.reduceEqDiff, ↓argEnv_zero, ↓argEnv_succ, *]; done)), (by first | rfl | (simp only [↓upd_apply, ↓put_some, ↓reduceIte, Nat.reduceEqDiff, ↓argEnv_zero, ↓argEnv_succ, *]; done)), k + 1, _, (by first | rfl | (simp only [↓upd_apply, ↓put_some, ↓reduceIte, Nat.reduceEqDiff, ↓argEnv_zero, ↓argEnv_succ, *]; done)), rfl, by omega, hno hun, rfl⟩
 have q3 : (x.item.kind == 0) = true := by rw [c3]; rfl
 rw [decide_eq_true c3, Bool.true_and] at hun
 by_cases c4 : x.item.act.kind = 13
 rotate_left
 ·have q4 : (x.item.act.kind == 13) = false := beqF c4
  rw [decide_eq_false c4] at hun
  refine runf (an @s0 (an @s1 (an @s5 (an @hlti (an @hg (an @hsz (an @tl0 @tl0s))))))) ?_
  refine cp kb ?_
  refine runf (an @s0 (an @s1 (an @s5 (an @hbq (an @tl0 (an @tl0s (an @q3 @q4))))))) ?_
  exact round_mk (l.length - (k + 1)) (by omega) ⟨(by first | rfl | (simp only [↓upd_apply, ↓put_some, ↓reduceIte, Nat.reduceEqDiff, ↓argEnv_zero, ↓argEnv_succ, *]; done)), (by first | rfl | (simp only [↓upd_apply, ↓put_some, ↓reduceIte, Nat.reduceEqDiff, ↓argEnv_zero, ↓argEnv_succ, *]; done)), k + 1, _, (by first | rfl | (simp only [↓upd_apply, ↓put_some, ↓reduceIte, Nat.reduceEqDiff, ↓argEnv_zero, ↓argEnv_succ, *]; done)), rfl, by omega, hno hun, rfl⟩
 have q4 : (x.item.act.kind == 13) = true := by rw [c4]; rfl
 rw [decide_eq_true c4, Bool.true_and] at hun
 by_cases c5 : x.item.act.object = id
 rotate_left
 ·have q5 : (x.item.act.object == id) = false := nilI _ _ c5
  rw [decide_eq_false c5] at hun
  refine runf (an @s0 (an @s1 (an @s5 (an @hlti (an @hg (an @hsz (an @tl0 @tl0s))))))) ?_
  refine cp kb ?_
  refine runf (an @s0 (an @s1 (an @s5 (an @hbq (an @tl0 (an @tl0s (an @q3 (an @q4 @q5)))))))) ?_
  exact round_mk (l.length - (k + 1)) (by omega) ⟨(by first | rfl | (simp only [↓upd_apply, ↓put_some, ↓reduceIte, Nat.reduceEqDiff, ↓argEnv_zero, ↓argEnv_succ, *]; done)), (by first | rfl | (simp only [↓upd_apply, ↓put_some, ↓reduceIte, Nat.reduceEqDiff, ↓argEnv_zero, ↓argEnv_succ, *]; done)), k + 1, _, (by first | rfl | (simp only [↓upd_apply, ↓put_some, ↓reduceIte, Nat.reduceEqDiff, ↓argEnv_zero, ↓argEnv_succ, *]; done)), rfl, by omega, hno hun, rfl⟩
 have q5 : (x.item.act.object == id) = true := by rw [c5]; exact beq_self_eq_true _
 rw [decide_eq_true c5] at hun
 obtain rfl := hyes hun
 refine runf (an @s0 (an @s1 (an @s5 (an @hlti (an @hg (an @hsz (an @tl0 @tl0s))))))) ?_
 refine cp kb ?_
 refine runf (an @s0 (an @s1 (an @s5 (an @hbq (an @tl0 (an @tl0s (an @q3 (an @q4 @q5)))))))) ?_
 exact er0
end Go.Proofs.YtaphpbiaoofmkaaGreatDoor.Pe
end
section
namespace Go.Proofs.YtaphpbiaoofmkaaGreatDoor.Pe
open Go Go.RowKit Co Sg Ac It Sl
set_option maxRecDepth 100000
set_option maxHeartbeats 4000000
theorem fsameNums_c (a b : List Int) (ha : a.length ≤ 1000000) (hb : b.length ≤ 1000000) : AC Tryz.prog 76 [intsV a, intsV b] [] (.bo (decide (a = b))) [] := by
 refine AC.enter2 [] [] Tryz.func76 rfl (by decide) (by decide) (Nat.le_of_ble_eq_true rfl) (by kernel_rfl) ?_; simp only [eraseC, eraseO, List.map_cons, List.map_nil, List.map_toArray, List.getElem?_toArray, List.getElem?_cons_zero, List.getElem?_cons_succ, Option.bind_some, Option.bind_none, List.append_eq, List.cons_append, List.nil_append]
 have za : allSz 1 (a.map (AV.it .i64)) = true := allSz_map 1 _ (fun _ => rfl) _
 have zb : allSz 1 (b.map (AV.it .i64)) = true := allSz_map 1 _ (fun _ => rfl) _
 by_cases h0 : a.length = b.length
 rotate_left
 ·rw [decide_eq_false (fun h => h0 (by rw [h]))]
  refine run ?_
  exact er0
 refine run ?_
 refine loop_mk (fun m e S => S = [] ∧ e 0 = intsV a ∧ e 1 = intsV b ∧ ∃ k, e 5 = .it .i64 ((k : Nat) : Int) ∧ k ≤ a.length ∧ a.take k = b.take k ∧ m = a.length - k) a.length ⟨rfl, (by first | rfl | (simp only [↓upd_apply, ↓put_some, ↓reduceIte, Nat.reduceEqDiff, ↓argEnv_zero, ↓argEnv_succ, *]; done)), (by first | rfl | (simp only [↓upd_apply, ↓put_some, ↓reduceIte, Nat.reduceEqDiff, ↓argEnv_zero, ↓argEnv_succ, *]; done)), 0, (by first | rfl | (simp only [↓upd_apply, ↓put_some, ↓reduceIte, Nat.reduceEqDiff, ↓argEnv_zero, ↓argEnv_succ, *]; done)), by omega, rfl, rfl⟩ ?_
 rintro m e S ⟨rfl, h1, h2, k, h3, hk, hab, rfl⟩
 by_cases hlt : k < a.length
 ·have ga : a[k]? = some a[k] := List.getElem?_eq_getElem hlt
  have gb : b[k]? = some (b[k]'(by omega)) := List.getElem?_eq_getElem (by omega)
  by_cases he : a[k] = b[k]'(by omega)
  ·have he' : (a[k] == b[k]'(by omega)) = true := by rw [he]; exact beq_self_eq_true _
   refine runf (an @h1 (an @h2 (an @h3 (an @ga (an @gb (an @he' (an @za @zb))))))) ?_
   exact round_mk (a.length - (k + 1)) (by omega) ⟨rfl, (by first | rfl | (simp only [↓upd_apply, ↓put_some, ↓reduceIte, Nat.reduceEqDiff, ↓argEnv_zero, ↓argEnv_succ, *]; done)), (by first | rfl | (simp only [↓upd_apply, ↓put_some, ↓reduceIte, Nat.reduceEqDiff, ↓argEnv_zero, ↓argEnv_succ, *]; done)), k + 1, (by first | rfl | (simp only [↓upd_apply, ↓put_some, ↓reduceIte, Nat.reduceEqDiff, ↓argEnv_zero, ↓argEnv_succ, *]; done)), by omega, by rw [List.take_succ_eq_append_getElem hlt, List.take_succ_eq_append_getElem (by omega : k < b.length), hab, he], rfl⟩
  ·have he' : (a[k] == b[k]'(by omega)) = false := beqF he
   have : decide (a = b) = false := by rw [decide_eq_false_iff_not]; intro h; subst h; exact he rfl
   rw [this]
   refine runf (an @h1 (an @h2 (an @h3 (an @ga (an @gb (an @he' (an @za @zb))))))) ?_
   exact er0
 ·have hk' : k = a.length := by omega
  have : decide (a = b) = true := by
   rw [decide_eq_true_iff, ← List.take_length (l := a), ← List.take_length (l := b), ← h0, ← hk']; exact hab
  rw [this]
  refine runf (an @h1 (an @h2 @h3)) ?_
  exact er0
end Go.Proofs.YtaphpbiaoofmkaaGreatDoor.Pe
end
section
namespace Go.Proofs.YtaphpbiaoofmkaaGreatDoor.Pe
open Go Go.RowKit Co Sg Ac It Sl
set_option maxRecDepth 100000
set_option maxHeartbeats 4000000
theorem izz0 : Iz item0 := ⟨szI0, Nat.zero_le _, Nat.zero_le _, dz0⟩
theorem checkx_c (ps : List Int) (id : By) (l : List It.Entry) (i : Int) (r : Receipt) (hp : InL ps) (hr : InR r) (hz : ∀ e ∈ l, Iz e.item) (hl : l.length ≤ 1000000) : AC Tryz.prog 72 [intsV ps, .st id, graveV (proveT l i r).1] [] (.bo (checkT ps id (proveT l i r).1)) [] := by
 cases h : (proveT l i r).2 with
 | true => exact checkg_c h hp hr hz hl
 | false =>
  rw [prove_wrong h]
  exact tcheck_c ps id grave0 hp ⟨⟨by decide, by decide⟩, ⟨by decide, by decide⟩⟩ izz0 ⟨by decide, by decide⟩ ⟨by decide, by decide⟩ (Nat.zero_le _)
end Go.Proofs.YtaphpbiaoofmkaaGreatDoor.Pe
end
section
namespace Go.Proofs.YtaphpbiaoofmkaaGreatDoor.Pe
open Go Go.RowKit Co Sg Ac It Sl
set_option maxRecDepth 100000
set_option maxHeartbeats 4000000
theorem ans_three {ps : List Int} {id : By} {l : List It.Entry} {log : Int} {one two : Receipt} (hp : ps.length = 3) (h1 : one.frm = 1) (h2 : two.frm = 2) :
  answeredT ps id l log [two, one, two] = (if holdsT ps id l log one then [1] else []) ++ (if holdsT ps id l log two then [2] else []) := by
 unfold answeredT
 rw [hp]
 have e : List.range 3 = [0, 1, 2] := rfl
 rw [e]
 simp only [List.filter_cons, List.any_cons, List.any_nil, Bool.or_false, h1, h2]
 cases holdsT ps id l log one <;> cases holdsT ps id l log two <;> simp
theorem ans_two {ps : List Int} {id : By} {l : List It.Entry} {log : Int} {one two : Receipt} (h1 : holdsT ps id l log one = false) (h2 : holdsT ps id l log two = false) : answeredT ps id l log [one, two] = [] := by
 unfold answeredT
 rw [List.filter_eq_nil_iff.2]
 ·rfl
 ·intro s _ h
  simp only [List.any_cons, List.any_nil, h1, h2, Bool.and_false, Bool.or_false] at h
  cases h
theorem delL_step {l : List It.Entry} {id : By} {k : Nat} {x : It.Entry} (h : l[k]? = some x) : delL (l.take (k + 1)) id = (delL (l.take k) id || delT x id) := by
 obtain ⟨hk, rfl⟩ := List.getElem?_eq_some_iff.1 h
 unfold delL
 rw [List.take_succ_eq_append_getElem hk, List.any_append]
 simp
theorem tombProves_c (seed id : By) (l : List It.Entry) (m n : Int) (hsd : seed.length ≤ 140737488351232) (hid : id.length ≤ 140737488351232) (hl : l.length ≤ 140737488351232) (hz : ∀ e ∈ l, InE e) :
  AC Tryz.prog 7 [.st seed, .st id, entriesV l, .it .i64 m, .it .i64 n] [] (.bo true) [] := by
 refine AC.enter2 [63, 68, 77, 78, 64, 79, 69, 72, 74, 66, 76] [] Tryz.func7 rfl (by decide) (by decide) (Nat.le_of_ble_eq_true rfl) (by kernel_rfl) ?_; simp only [eraseC, eraseO, List.map_cons, List.map_nil, List.map_toArray, List.getElem?_toArray, List.getElem?_cons_zero, List.getElem?_cons_succ, Option.bind_some, Option.bind_none, List.append_eq, List.cons_append, List.nil_append]
 have kl := light29_c l hl
 refine run ?_
 refine cp small29_c ?_
 by_cases c1 : (100 : Int) < (seed.length : Int)
 ·refine runf @c1 ?_
  exact er0
 by_cases c2 : (1000 : Int) < (id.length : Int)
 ·refine runf (an @c1 @c2) ?_
  exact er0
 cases h2 : light29 l with
 | false =>
  rw [h2] at kl
  refine runf (an @c1 @c2) ?_
  refine cp kl ?_
  refine run ?_
  exact er0
 | true =>
 rw [h2] at kl
 by_cases c3 : m < 0
 ·refine runf (an @c1 @c2) ?_
  refine cp kl ?_
  refine runf @c3 ?_
  exact er0
 by_cases c4 : (l.length : Int) < m
 ·refine runf (an @c1 @c2) ?_
  refine cp kl ?_
  refine runf (an @c3 @c4) ?_
  exact er0
 by_cases c5 : n < 0
 ·refine runf (an @c1 @c2) ?_
  refine cp kl ?_
  refine runf (an @c3 (an @c4 @c5)) ?_
  exact er0
 by_cases c6 : (l.length : Int) < n
 ·refine runf (an @c1 @c2) ?_
  refine cp kl ?_
  refine runf (an @c3 (an @c4 (an @c5 @c6))) ?_
  exact er0
 have hll : l.length ≤ 20 := by
  unfold light29 at h2
  simp only [Bool.and_eq_true, decide_eq_true_eq] at h2
  exact h2.2
 have hzz : ∀ e ∈ l, Iz e.item := fun e he => (hz e he).item.iz
 have hsz := entries_sz l
 obtain ⟨M, rfl⟩ := Int.eq_ofNat_of_zero_le (show 0 ≤ m by omega)
 obtain ⟨N, rfl⟩ := Int.eq_ofNat_of_zero_le (show 0 ≤ n by omega)
 have hM : M ≤ l.length := by omega
 have hN : N ≤ l.length := by omega
 have hMi : (M : Int) ≤ (l.length : Int) := by omega
 have hNi : (N : Int) ≤ (l.length : Int) := by omega
 have hM0 : (0 : Int) ≤ (M : Int) := by omega
 have hN0 : (0 : Int) ≤ (N : Int) := by omega
 have tM : (l.take M).length ≤ 1000000 := by rw [List.length_take]; omega
 have tN : (l.take N).length ≤ 1000000 := by rw [List.length_take]; omega
 have zM : ∀ e ∈ l.take M, Iz e.item := fun e he => hzz e (List.mem_of_mem_take he)
 have zN : ∀ e ∈ l.take N, Iz e.item := fun e he => hzz e (List.mem_of_mem_take he)
 have ks := servers29_c seed (by omega)
 have ra := key_range (seed ++ [48])
 have rb := key_range (seed ++ [49])
 have rc := key_range (seed ++ [50])
 have a1 : (srv seed 48).right = true := keySeed_right _
 have a2 : (srv seed 49).right = true := keySeed_right _
 have a3 : (srv seed 50).right = true := keySeed_right _
 change _ ≤ (srv seed 48).secret ∧ (srv seed 48).secret ≤ _ at ra
 change _ ≤ (srv seed 49).secret ∧ (srv seed 49).secret ≤ _ at rb
 change _ ≤ (srv seed 50).secret ∧ (srv seed 50).secret ≤ _ at rc
 generalize srv seed 48 = ka at *
 generalize srv seed 49 = kb at *
 generalize srv seed 50 = kc at *
 have hps : InL [ka.pub, kb.pub, kc.pub] := ⟨by simp, fun i hi => by
  simp only [List.mem_cons, List.not_mem_nil, or_false] at hi
  rcases hi with rfl | rfl | rfl
  ·exact pub_in a1
  ·exact pub_in a2
  ·exact pub_in a3⟩
 have o1 : HonR ka kb 1 (l.take M) (mkRcpt kb 1 (mkHead ka 0 (l.take M) 0)) := honR a1 a2 ⟨by decide, by decide⟩ tM ⟨by decide, by decide⟩
 have o2 : HonR ka kc 2 (l.take N) (mkRcpt kc 2 (mkHead ka 0 (l.take N) 9)) := honR a1 a3 ⟨by decide, by decide⟩ tN ⟨by decide, by decide⟩
 have v1 := o1.ver [ka.pub, kb.pub, kc.pub] (by simp) (by simp) rfl rfl
 have v2 := o2.ver [ka.pub, kb.pub, kc.pub] (by simp) (by simp) rfl rfl
 have i1 := inR_mk kb 1 (mkHead ka 0 (l.take M) 0) ⟨by decide, by decide⟩
 have i2 := inR_mk kc 2 (mkHead ka 0 (l.take N) 9) ⟨by decide, by decide⟩
 have kh1 := shead_c ka 0 (l.take M) 0 ra tM zM
 have kh2 := shead_c ka 0 (l.take N) 9 ra tN zN
 have kr1 := treceipt_c kb 1 (mkHead ka 0 (l.take M) 0) rb
 have kr2 := treceipt_c kc 2 (mkHead ka 0 (l.take N) 9) rc
 have kd1 := deleted29_c (l.take M) id tM zM
 have kd2 := deleted29_c (l.take N) id tN zN
 generalize mkRcpt kb 1 (mkHead ka 0 (l.take M) 0) = one at *
 generalize mkRcpt kc 2 (mkHead ka 0 (l.take N) 9) = two at *
 generalize mkHead ka 0 (l.take M) 0 = hd1 at *
 generalize mkHead ka 0 (l.take N) 9 = hd2 at *
 have hp1 := fun k => prove_honest o1 hM k
 have g1 := holds_honest (id := id) (log := 0) o1 hM v1
 have g2 := holds_honest (id := id) (log := 0) o2 hN v2
 have g3 := holds_honest (id := id) (log := 1) o1 hM v1
 have g4 := holds_honest (id := id) (log := 1) o2 hN v2
 rw [decide_eq_true rfl, Bool.true_and] at g1 g2
 rw [decide_eq_false (by decide), Bool.false_and] at g3 g4
 have kt := tanswered_c [ka.pub, kb.pub, kc.pub] id l 0 [two, one, two] hps (by simp) (by omega) hzz (by simp) (fun r hr => by
  simp only [List.mem_cons, List.not_mem_nil, or_false] at hr
  rcases hr with rfl | rfl | rfl <;> assumption)
 have ku := tanswered_c [ka.pub, kb.pub, kc.pub] id l 1 [one, two] hps (by simp) (by omega) hzz (by simp) (fun r hr => by
  simp only [List.mem_cons, List.not_mem_nil, or_false] at hr
  rcases hr with rfl | rfl <;> assumption)
 rw [ans_three rfl o1.frm o2.frm, g1, g2] at kt
 rw [ans_two g3 g4] at ku
 have kv1 := tverify_c [ka.pub, kb.pub, kc.pub] one hps i1
 have kv2 := tverify_c [ka.pub, kb.pub, kc.pub] two hps i2
 rw [v1] at kv1
 rw [v2] at kv2
 have kP := fun k : Nat => tprove_c l (k : Int) one (by omega) hzz
 have kC := fun k : Nat => checkx_c [ka.pub, kb.pub, kc.pub] id l (k : Int) one hps i1 hzz (by omega)
 have hck : ∀ (k : Nat) (x : It.Entry), l[k]? = some x → k < M → checkT [ka.pub, kb.pub, kc.pub] id (proveT l (k : Int) one).1 = delT x id := fun k x hx hk => by
  rw [check_prove (by rw [hp1]; exact decide_eq_true hk), v1, Int.toNat_natCast, List.getD_eq_getElem?_getD, hx]
  rfl
 have hcw : ∀ k : Nat, ¬ k < M → checkT [ka.pub, kb.pub, kc.pub] id (proveT l (k : Int) one).1 = false := fun k hk => by
  rw [prove_wrong (by rw [hp1]; exact decide_eq_false hk)]
  exact check_zero _ _
 have e4 : ∀ b : Bool, (b == b) = true := fun b => by cases b <;> rfl
 clear g1 g2 g3 g4 o1 o2 v1 v2 i1 i2 a1 a2 a3 ra rb rc hps tM tN zM zN hsd hid hz
 generalize ka.pub = pa at *
 generalize kb.pub = pb at *
 generalize kc.pub = pc at *
 have e3 : ∀ b : Bool, (b != b) = false := fun b => by cases b <;> rfl
 refine runf (an @c1 @c2) ?_
 refine cp kl ?_
 refine runf (an @c3 (an @c4 (an @c5 @c6))) ?_
 refine cp ks ?_
 refine runf (an @hM0 (an @hMi @hsz)) ?_
 refine cp kh1 ?_
 refine run ?_
 refine cp kr1 ?_
 refine runf (an @hN0 (an @hNi @hsz)) ?_
 refine cp kh2 ?_
 refine run ?_
 refine cp kr2 ?_
 refine runf (an @hM0 (an @hMi @hsz)) ?_
 refine cp kd1 ?_
 have hdl : ∀ (k : Nat) (x : It.Entry), l[k]? = some x → delL (l.take (min (k + 1) M)) id = (delL (l.take (min k M)) id || (decide (k < M) && delT x id)) := fun k x hx => by
  by_cases hk : k < M
  ·rw [Nat.min_eq_left (by omega), Nat.min_eq_left (by omega), delL_step hx, decide_eq_true hk, Bool.true_and]
  ·rw [Nat.min_eq_right (by omega), Nat.min_eq_right (by omega), decide_eq_false hk, Bool.false_and, Bool.or_false]
 have hend : delL (l.take (min l.length M)) id = delL (l.take M) id := by rw [Nat.min_eq_right hM]
 have hbeg : delL (l.take (min 0 M)) id = false := by rw [Nat.zero_min]; rfl
 generalize hB1 : delL (l.take M) id = B1 at kd1 kt hend ⊢
 generalize delL (l.take N) id = B2 at kd2 kt
 have prove_honest2 := hp1
 clear hp1 kh1 kh2 kr1 kr2 ks kl h2
 have hP : ∀ k : Nat, k < M → AC Tryz.prog 69 [entriesV l, .it .i64 (k : Int), rcptV one] [] (.tup [graveV (proveT l (k : Int) one).1, .bo true]) [] := fun k hk => by
  have := kP k
  rwa [prove_honest2 k, decide_eq_true hk] at this
 have hQ : ∀ k : Nat, ¬ k < M → AC Tryz.prog 69 [entriesV l, .it .i64 (k : Int), rcptV one] [] (.tup [graveV (proveT l (k : Int) one).1, .bo false]) [] := fun k hk => by
  have := kP k
  rwa [prove_honest2 k, decide_eq_false hk] at this
 clear kP prove_honest2
 cases B1
 all_goals cases B2
 ·have kt' : AC Tryz.prog 74 [intsV [pa, pb, pc], .st id, entriesV l, .it .i64 0, rcptsV [two, one, two]] [] (intsV []) [] := kt
  have kn : AC Tryz.prog 76 [intsV [], intsV []] [] (.bo true) [] := by
   have := fsameNums_c [] [] (by simp) (by simp)
   rwa [decide_eq_true rfl] at this
  clear kt
  refine runf (an @hN0 (an @hNi @hsz)) ?_
  refine cp kd2 ?_
  refine run ?_
  refine loop_mk (fun m e S => e 1 = .st id ∧ e 2 = entriesV l ∧ e 3 = .it .i64 (M : Int) ∧ e 11 = .bo true ∧ e 13 = intsV [pa, pb, pc] ∧ e 14 = .ptr 0 0 ∧ e 15 = .ptr 1 0 ∧ e 16 = .sl .full [] ∧ ∃ (k : Nat) (T : Store), e 17 = .bo (delL (l.take (min k M)) id) ∧ e 18 = .it .i64 (k : Int) ∧ S = .cells (rcptV one).cells :: .cells (rcptV two).cells :: T ∧ k ≤ l.length ∧ m = l.length - k) l.length
   ⟨(by first | rfl | (simp only [↓upd_apply, ↓put_some, ↓reduceIte, Nat.reduceEqDiff, ↓argEnv_zero, ↓argEnv_succ, *]; done)), (by first | rfl | (simp only [↓upd_apply, ↓put_some, ↓reduceIte, Nat.reduceEqDiff, ↓argEnv_zero, ↓argEnv_succ, *]; done)), (by first | rfl | (simp only [↓upd_apply, ↓put_some, ↓reduceIte, Nat.reduceEqDiff, ↓argEnv_zero, ↓argEnv_succ, *]; done)), (by first | rfl | (simp only [↓upd_apply, ↓put_some, ↓reduceIte, Nat.reduceEqDiff, ↓argEnv_zero, ↓argEnv_succ, *]; done)), (by first | rfl | (simp only [↓upd_apply, ↓put_some, ↓reduceIte, Nat.reduceEqDiff, ↓argEnv_zero, ↓argEnv_succ, *]; done)), (by first | rfl | (simp only [↓upd_apply, ↓put_some, ↓reduceIte, Nat.reduceEqDiff, ↓argEnv_zero, ↓argEnv_succ, *]; done)), (by first | rfl | (simp only [↓upd_apply, ↓put_some, ↓reduceIte, Nat.reduceEqDiff, ↓argEnv_zero, ↓argEnv_succ, *]; done)), (by first | rfl | (simp only [↓upd_apply, ↓put_some, ↓reduceIte, Nat.reduceEqDiff, ↓argEnv_zero, ↓argEnv_succ, *]; done)), 0, _, by rw [hbeg]; exact (by first | rfl | (simp only [↓upd_apply, ↓put_some, ↓reduceIte, Nat.reduceEqDiff, ↓argEnv_zero, ↓argEnv_succ, *]; done)), (by first | rfl | (simp only [↓upd_apply, ↓put_some, ↓reduceIte, Nat.reduceEqDiff, ↓argEnv_zero, ↓argEnv_succ, *]; done)), rfl, by omega, rfl⟩ ?_
  rintro m e S ⟨s1, s2, s3, s11, s13, s14, s15, s16, k, T, s17, s18, rfl, hk, rfl⟩
  by_cases hlt : k < l.length
  rotate_left
  ·obtain rfl : k = l.length := by omega
   rw [hend] at s17
   have hlti : ¬ ((l.length : Nat) : Int) < (l.length : Int) := by omega
   refine runf (an @s1 (an @s2 (an @s3 (an @s11 (an @s13 (an @s14 (an @s15 (an @s16 (an @s17 (an @s18 @hlti)))))))))) ?_
   refine cp kt' ?_
   refine runf (an @s1 (an @s2 (an @s3 (an @s11 (an @s13 (an @s14 (an @s15 (an @s16 @s17)))))))) ?_
   refine cp kv1 ?_
   refine runf (an @s1 (an @s2 (an @s3 (an @s11 (an @s13 (an @s14 (an @s15 (an @s16 @s17)))))))) ?_
   refine cp kv2 ?_
   refine runf (an @s1 (an @s2 (an @s3 (an @s11 (an @s13 (an @s14 (an @s15 (an @s16 @s17)))))))) ?_
   refine cp kn ?_
   refine runf (an @s1 (an @s2 (an @s3 (an @s11 (an @s13 (an @s14 (an @s15 (an @s16 (an @s17 (an @hM0 (an @hMi @hsz))))))))))) ?_
   refine cp kd1 ?_
   refine runf (an @s1 (an @s2 (an @s3 (an @s11 (an @s13 (an @s14 (an @s15 (an @s16 (an @s17 @e4))))))))) ?_
   refine cp ku ?_
   refine runf (an @s1 (an @s2 (an @s3 (an @s11 (an @s13 (an @s14 (an @s15 (an @s16 @s17)))))))) ?_
   exact er0
  have hg : l[k]? = some l[k] := List.getElem?_eq_getElem hlt
  have hlti : (k : Int) < (l.length : Int) := by omega
  have hT1 : ∀ o : SObj, (T ++ [o])[T.length]? = some o := fun o => by simp
  have hT2 : ∀ o o' : SObj, (T ++ [o]).set T.length o' = T ++ [o'] := fun o o' => by simp
  have hnext := hdl k _ hg
  by_cases hkM : k < M
  ·have q1 := hP k hkM
   have q2 := kC k
   rw [hck k _ hg hkM] at q2
   rw [decide_eq_true hkM, Bool.true_and] at hnext
   generalize (proveT l (k : Int) one).1 = gr at *
   have hkMi : (k : Int) < (M : Int) := by omega
   generalize delT l[k] id = d at *
   cases hfb : delL (l.take (min k M)) id with
   | true =>
    rw [hfb] at s17 hnext
    refine runf (an @s1 (an @s2 (an @s3 (an @s13 (an @s14 (an @s17 (an @s18 @hlti))))))) ?_
    refine cp q1 ?_
    refine runf (an @s1 (an @s2 (an @s3 (an @s13 (an @s14 (an @s17 (an @s18 (an @hkMi (an @e3 (an @hT1 @hT2)))))))))) ?_
    exact round_mk (l.length - (k + 1)) (by omega) ⟨(by first | rfl | (simp only [↓upd_apply, ↓put_some, ↓reduceIte, Nat.reduceEqDiff, ↓argEnv_zero, ↓argEnv_succ, *]; done)), (by first | rfl | (simp only [↓upd_apply, ↓put_some, ↓reduceIte, Nat.reduceEqDiff, ↓argEnv_zero, ↓argEnv_succ, *]; done)), (by first | rfl | (simp only [↓upd_apply, ↓put_some, ↓reduceIte, Nat.reduceEqDiff, ↓argEnv_zero, ↓argEnv_succ, *]; done)), (by first | rfl | (simp only [↓upd_apply, ↓put_some, ↓reduceIte, Nat.reduceEqDiff, ↓argEnv_zero, ↓argEnv_succ, *]; done)), (by first | rfl | (simp only [↓upd_apply, ↓put_some, ↓reduceIte, Nat.reduceEqDiff, ↓argEnv_zero, ↓argEnv_succ, *]; done)), (by first | rfl | (simp only [↓upd_apply, ↓put_some, ↓reduceIte, Nat.reduceEqDiff, ↓argEnv_zero, ↓argEnv_succ, *]; done)), (by first | rfl | (simp only [↓upd_apply, ↓put_some, ↓reduceIte, Nat.reduceEqDiff, ↓argEnv_zero, ↓argEnv_succ, *]; done)), (by first | rfl | (simp only [↓upd_apply, ↓put_some, ↓reduceIte, Nat.reduceEqDiff, ↓argEnv_zero, ↓argEnv_succ, *]; done)), k + 1, _, by rw [hnext]; exact (by first | rfl | (simp only [↓upd_apply, ↓put_some, ↓reduceIte, Nat.reduceEqDiff, ↓argEnv_zero, ↓argEnv_succ, *]; done)), (by first | rfl | (simp only [↓upd_apply, ↓put_some, ↓reduceIte, Nat.reduceEqDiff, ↓argEnv_zero, ↓argEnv_succ, *]; done)), rfl, by omega, rfl⟩
   | false =>
    rw [hfb, Bool.false_or] at hnext
    rw [hfb] at s17
    refine runf (an @s1 (an @s2 (an @s3 (an @s13 (an @s14 (an @s17 (an @s18 @hlti))))))) ?_
    refine cp q1 ?_
    refine runf (an @s1 (an @s2 (an @s3 (an @s13 (an @s14 (an @s17 (an @s18 (an @hkMi (an @e3 (an @hT1 @hT2)))))))))) ?_
    refine cp q2 ?_
    refine runf (an @s1 (an @s2 (an @s3 (an @s13 (an @s14 (an @s17 @s18)))))) ?_
    exact round_mk (l.length - (k + 1)) (by omega) ⟨(by first | rfl | (simp only [↓upd_apply, ↓put_some, ↓reduceIte, Nat.reduceEqDiff, ↓argEnv_zero, ↓argEnv_succ, *]; done)), (by first | rfl | (simp only [↓upd_apply, ↓put_some, ↓reduceIte, Nat.reduceEqDiff, ↓argEnv_zero, ↓argEnv_succ, *]; done)), (by first | rfl | (simp only [↓upd_apply, ↓put_some, ↓reduceIte, Nat.reduceEqDiff, ↓argEnv_zero, ↓argEnv_succ, *]; done)), (by first | rfl | (simp only [↓upd_apply, ↓put_some, ↓reduceIte, Nat.reduceEqDiff, ↓argEnv_zero, ↓argEnv_succ, *]; done)), (by first | rfl | (simp only [↓upd_apply, ↓put_some, ↓reduceIte, Nat.reduceEqDiff, ↓argEnv_zero, ↓argEnv_succ, *]; done)), (by first | rfl | (simp only [↓upd_apply, ↓put_some, ↓reduceIte, Nat.reduceEqDiff, ↓argEnv_zero, ↓argEnv_succ, *]; done)), (by first | rfl | (simp only [↓upd_apply, ↓put_some, ↓reduceIte, Nat.reduceEqDiff, ↓argEnv_zero, ↓argEnv_succ, *]; done)), (by first | rfl | (simp only [↓upd_apply, ↓put_some, ↓reduceIte, Nat.reduceEqDiff, ↓argEnv_zero, ↓argEnv_succ, *]; done)), k + 1, _, by rw [hnext]; exact (by first | rfl | (simp only [↓upd_apply, ↓put_some, ↓reduceIte, Nat.reduceEqDiff, ↓argEnv_zero, ↓argEnv_succ, *]; done)), (by first | rfl | (simp only [↓upd_apply, ↓put_some, ↓reduceIte, Nat.reduceEqDiff, ↓argEnv_zero, ↓argEnv_succ, *]; done)), rfl, by omega, rfl⟩
  ·have q1 := hQ k hkM
   have q2 := kC k
   rw [hcw k hkM] at q2
   rw [decide_eq_false hkM, Bool.false_and, Bool.or_false] at hnext
   generalize (proveT l (k : Int) one).1 = gr at *
   have hkMi : ¬ (k : Int) < (M : Int) := by omega
   cases hfb : delL (l.take (min k M)) id with
   | true =>
    rw [hfb] at s17 hnext
    refine runf (an @s1 (an @s2 (an @s3 (an @s13 (an @s14 (an @s17 (an @s18 @hlti))))))) ?_
    refine cp q1 ?_
    refine runf (an @s1 (an @s2 (an @s3 (an @s13 (an @s14 (an @s17 (an @s18 (an @hkMi (an @e3 (an @hT1 @hT2)))))))))) ?_
    refine cp q2 ?_
    refine runf (an @s1 (an @s2 (an @s3 (an @s13 (an @s14 (an @s17 @s18)))))) ?_
    exact round_mk (l.length - (k + 1)) (by omega) ⟨(by first | rfl | (simp only [↓upd_apply, ↓put_some, ↓reduceIte, Nat.reduceEqDiff, ↓argEnv_zero, ↓argEnv_succ, *]; done)), (by first | rfl | (simp only [↓upd_apply, ↓put_some, ↓reduceIte, Nat.reduceEqDiff, ↓argEnv_zero, ↓argEnv_succ, *]; done)), (by first | rfl | (simp only [↓upd_apply, ↓put_some, ↓reduceIte, Nat.reduceEqDiff, ↓argEnv_zero, ↓argEnv_succ, *]; done)), (by first | rfl | (simp only [↓upd_apply, ↓put_some, ↓reduceIte, Nat.reduceEqDiff, ↓argEnv_zero, ↓argEnv_succ, *]; done)), (by first | rfl | (simp only [↓upd_apply, ↓put_some, ↓reduceIte, Nat.reduceEqDiff, ↓argEnv_zero, ↓argEnv_succ, *]; done)), (by first | rfl | (simp only [↓upd_apply, ↓put_some, ↓reduceIte, Nat.reduceEqDiff, ↓argEnv_zero, ↓argEnv_succ, *]; done)), (by first | rfl | (simp only [↓upd_apply, ↓put_some, ↓reduceIte, Nat.reduceEqDiff, ↓argEnv_zero, ↓argEnv_succ, *]; done)), (by first | rfl | (simp only [↓upd_apply, ↓put_some, ↓reduceIte, Nat.reduceEqDiff, ↓argEnv_zero, ↓argEnv_succ, *]; done)), k + 1, _, by rw [hnext]; exact (by first | rfl | (simp only [↓upd_apply, ↓put_some, ↓reduceIte, Nat.reduceEqDiff, ↓argEnv_zero, ↓argEnv_succ, *]; done)), (by first | rfl | (simp only [↓upd_apply, ↓put_some, ↓reduceIte, Nat.reduceEqDiff, ↓argEnv_zero, ↓argEnv_succ, *]; done)), rfl, by omega, rfl⟩
   | false =>
    rw [hfb] at s17 hnext
    refine runf (an @s1 (an @s2 (an @s3 (an @s13 (an @s14 (an @s17 (an @s18 @hlti))))))) ?_
    refine cp q1 ?_
    refine runf (an @s1 (an @s2 (an @s3 (an @s13 (an @s14 (an @s17 (an @s18 (an @hkMi (an @e3 (an @hT1 @hT2)))))))))) ?_
    refine cp q2 ?_
    refine runf (an @s1 (an @s2 (an @s3 (an @s13 (an @s14 (an @s17 @s18)))))) ?_
    exact round_mk (l.length - (k + 1)) (by omega) ⟨(by first | rfl | (simp only [↓upd_apply, ↓put_some, ↓reduceIte, Nat.reduceEqDiff, ↓argEnv_zero, ↓argEnv_succ, *]; done)), (by first | rfl | (simp only [↓upd_apply, ↓put_some, ↓reduceIte, Nat.reduceEqDiff, ↓argEnv_zero, ↓argEnv_succ, *]; done)), (by first | rfl | (simp only [↓upd_apply, ↓put_some, ↓reduceIte, Nat.reduceEqDiff, ↓argEnv_zero, ↓argEnv_succ, *]; done)), (by first | rfl | (simp only [↓upd_apply, ↓put_some, ↓reduceIte, Nat.reduceEqDiff, ↓argEnv_zero, ↓argEnv_succ, *]; done)), (by first | rfl | (simp only [↓upd_apply, ↓put_some, ↓reduceIte, Nat.reduceEqDiff, ↓argEnv_zero, ↓argEnv_succ, *]; done)), (by first | rfl | (simp only [↓upd_apply, ↓put_some, ↓reduceIte, Nat.reduceEqDiff, ↓argEnv_zero, ↓argEnv_succ, *]; done)), (by first | rfl | (simp only [↓upd_apply, ↓put_some, ↓reduceIte, Nat.reduceEqDiff, ↓argEnv_zero, ↓argEnv_succ, *]; done)), (by first | rfl | (simp only [↓upd_apply, ↓put_some, ↓reduceIte, Nat.reduceEqDiff, ↓argEnv_zero, ↓argEnv_succ, *]; done)), k + 1, _, by rw [hnext]; exact (by first | rfl | (simp only [↓upd_apply, ↓put_some, ↓reduceIte, Nat.reduceEqDiff, ↓argEnv_zero, ↓argEnv_succ, *]; done)), (by first | rfl | (simp only [↓upd_apply, ↓put_some, ↓reduceIte, Nat.reduceEqDiff, ↓argEnv_zero, ↓argEnv_succ, *]; done)), rfl, by omega, rfl⟩
 ·have kt' : AC Tryz.prog 74 [intsV [pa, pb, pc], .st id, entriesV l, .it .i64 0, rcptsV [two, one, two]] [] (intsV [2]) [] := kt
  have kn : AC Tryz.prog 76 [intsV [2], intsV [2]] [] (.bo true) [] := by
   have := fsameNums_c [2] [2] (by simp) (by simp)
   rwa [decide_eq_true rfl] at this
  clear kt
  refine runf (an @hN0 (an @hNi @hsz)) ?_
  refine cp kd2 ?_
  refine run ?_
  refine loop_mk (fun m e S => e 1 = .st id ∧ e 2 = entriesV l ∧ e 3 = .it .i64 (M : Int) ∧ e 11 = .bo true ∧ e 13 = intsV [pa, pb, pc] ∧ e 14 = .ptr 0 0 ∧ e 15 = .ptr 1 0 ∧ e 16 = .sl (.own 2) [.it .i64 2] ∧ ∃ (k : Nat) (T : Store), e 17 = .bo (delL (l.take (min k M)) id) ∧ e 18 = .it .i64 (k : Int) ∧ S = .cells (rcptV one).cells :: .cells (rcptV two).cells :: T ∧ k ≤ l.length ∧ m = l.length - k) l.length
   ⟨(by first | rfl | (simp only [↓upd_apply, ↓put_some, ↓reduceIte, Nat.reduceEqDiff, ↓argEnv_zero, ↓argEnv_succ, *]; done)), (by first | rfl | (simp only [↓upd_apply, ↓put_some, ↓reduceIte, Nat.reduceEqDiff, ↓argEnv_zero, ↓argEnv_succ, *]; done)), (by first | rfl | (simp only [↓upd_apply, ↓put_some, ↓reduceIte, Nat.reduceEqDiff, ↓argEnv_zero, ↓argEnv_succ, *]; done)), (by first | rfl | (simp only [↓upd_apply, ↓put_some, ↓reduceIte, Nat.reduceEqDiff, ↓argEnv_zero, ↓argEnv_succ, *]; done)), (by first | rfl | (simp only [↓upd_apply, ↓put_some, ↓reduceIte, Nat.reduceEqDiff, ↓argEnv_zero, ↓argEnv_succ, *]; done)), (by first | rfl | (simp only [↓upd_apply, ↓put_some, ↓reduceIte, Nat.reduceEqDiff, ↓argEnv_zero, ↓argEnv_succ, *]; done)), (by first | rfl | (simp only [↓upd_apply, ↓put_some, ↓reduceIte, Nat.reduceEqDiff, ↓argEnv_zero, ↓argEnv_succ, *]; done)), (by first | rfl | (simp only [↓upd_apply, ↓put_some, ↓reduceIte, Nat.reduceEqDiff, ↓argEnv_zero, ↓argEnv_succ, *]; done)), 0, _, by rw [hbeg]; exact (by first | rfl | (simp only [↓upd_apply, ↓put_some, ↓reduceIte, Nat.reduceEqDiff, ↓argEnv_zero, ↓argEnv_succ, *]; done)), (by first | rfl | (simp only [↓upd_apply, ↓put_some, ↓reduceIte, Nat.reduceEqDiff, ↓argEnv_zero, ↓argEnv_succ, *]; done)), rfl, by omega, rfl⟩ ?_
  rintro m e S ⟨s1, s2, s3, s11, s13, s14, s15, s16, k, T, s17, s18, rfl, hk, rfl⟩
  by_cases hlt : k < l.length
  rotate_left
  ·obtain rfl : k = l.length := by omega
   rw [hend] at s17
   have hlti : ¬ ((l.length : Nat) : Int) < (l.length : Int) := by omega
   refine runf (an @s1 (an @s2 (an @s3 (an @s11 (an @s13 (an @s14 (an @s15 (an @s16 (an @s17 (an @s18 @hlti)))))))))) ?_
   refine cp kt' ?_
   refine runf (an @s1 (an @s2 (an @s3 (an @s11 (an @s13 (an @s14 (an @s15 (an @s16 @s17)))))))) ?_
   refine cp kv1 ?_
   refine runf (an @s1 (an @s2 (an @s3 (an @s11 (an @s13 (an @s14 (an @s15 (an @s16 @s17)))))))) ?_
   refine cp kv2 ?_
   refine runf (an @s1 (an @s2 (an @s3 (an @s11 (an @s13 (an @s14 (an @s15 (an @s16 @s17)))))))) ?_
   refine cp kn ?_
   refine runf (an @s1 (an @s2 (an @s3 (an @s11 (an @s13 (an @s14 (an @s15 (an @s16 (an @s17 (an @hM0 (an @hMi @hsz))))))))))) ?_
   refine cp kd1 ?_
   refine runf (an @s1 (an @s2 (an @s3 (an @s11 (an @s13 (an @s14 (an @s15 (an @s16 (an @s17 @e4))))))))) ?_
   refine cp ku ?_
   refine runf (an @s1 (an @s2 (an @s3 (an @s11 (an @s13 (an @s14 (an @s15 (an @s16 @s17)))))))) ?_
   exact er0
  have hg : l[k]? = some l[k] := List.getElem?_eq_getElem hlt
  have hlti : (k : Int) < (l.length : Int) := by omega
  have hT1 : ∀ o : SObj, (T ++ [o])[T.length]? = some o := fun o => by simp
  have hT2 : ∀ o o' : SObj, (T ++ [o]).set T.length o' = T ++ [o'] := fun o o' => by simp
  have hnext := hdl k _ hg
  by_cases hkM : k < M
  ·have q1 := hP k hkM
   have q2 := kC k
   rw [hck k _ hg hkM] at q2
   rw [decide_eq_true hkM, Bool.true_and] at hnext
   generalize (proveT l (k : Int) one).1 = gr at *
   have hkMi : (k : Int) < (M : Int) := by omega
   generalize delT l[k] id = d at *
   cases hfb : delL (l.take (min k M)) id with
   | true =>
    rw [hfb] at s17 hnext
    refine runf (an @s1 (an @s2 (an @s3 (an @s13 (an @s14 (an @s17 (an @s18 @hlti))))))) ?_
    refine cp q1 ?_
    refine runf (an @s1 (an @s2 (an @s3 (an @s13 (an @s14 (an @s17 (an @s18 (an @hkMi (an @e3 (an @hT1 @hT2)))))))))) ?_
    exact round_mk (l.length - (k + 1)) (by omega) ⟨(by first | rfl | (simp only [↓upd_apply, ↓put_some, ↓reduceIte, Nat.reduceEqDiff, ↓argEnv_zero, ↓argEnv_succ, *]; done)), (by first | rfl | (simp only [↓upd_apply, ↓put_some, ↓reduceIte, Nat.reduceEqDiff, ↓argEnv_zero, ↓argEnv_succ, *]; done)), (by first | rfl | (simp only [↓upd_apply, ↓put_some, ↓reduceIte, Nat.reduceEqDiff, ↓argEnv_zero, ↓argEnv_succ, *]; done)), (by first | rfl | (simp only [↓upd_apply, ↓put_some, ↓reduceIte, Nat.reduceEqDiff, ↓argEnv_zero, ↓argEnv_succ, *]; done)), (by first | rfl | (simp only [↓upd_apply, ↓put_some, ↓reduceIte, Nat.reduceEqDiff, ↓argEnv_zero, ↓argEnv_succ, *]; done)), (by first | rfl | (simp only [↓upd_apply, ↓put_some, ↓reduceIte, Nat.reduceEqDiff, ↓argEnv_zero, ↓argEnv_succ, *]; done)), (by first | rfl | (simp only [↓upd_apply, ↓put_some, ↓reduceIte, Nat.reduceEqDiff, ↓argEnv_zero, ↓argEnv_succ, *]; done)), (by first | rfl | (simp only [↓upd_apply, ↓put_some, ↓reduceIte, Nat.reduceEqDiff, ↓argEnv_zero, ↓argEnv_succ, *]; done)), k + 1, _, by rw [hnext]; exact (by first | rfl | (simp only [↓upd_apply, ↓put_some, ↓reduceIte, Nat.reduceEqDiff, ↓argEnv_zero, ↓argEnv_succ, *]; done)), (by first | rfl | (simp only [↓upd_apply, ↓put_some, ↓reduceIte, Nat.reduceEqDiff, ↓argEnv_zero, ↓argEnv_succ, *]; done)), rfl, by omega, rfl⟩
   | false =>
    rw [hfb, Bool.false_or] at hnext
    rw [hfb] at s17
    refine runf (an @s1 (an @s2 (an @s3 (an @s13 (an @s14 (an @s17 (an @s18 @hlti))))))) ?_
    refine cp q1 ?_
    refine runf (an @s1 (an @s2 (an @s3 (an @s13 (an @s14 (an @s17 (an @s18 (an @hkMi (an @e3 (an @hT1 @hT2)))))))))) ?_
    refine cp q2 ?_
    refine runf (an @s1 (an @s2 (an @s3 (an @s13 (an @s14 (an @s17 @s18)))))) ?_
    exact round_mk (l.length - (k + 1)) (by omega) ⟨(by first | rfl | (simp only [↓upd_apply, ↓put_some, ↓reduceIte, Nat.reduceEqDiff, ↓argEnv_zero, ↓argEnv_succ, *]; done)), (by first | rfl | (simp only [↓upd_apply, ↓put_some, ↓reduceIte, Nat.reduceEqDiff, ↓argEnv_zero, ↓argEnv_succ, *]; done)), (by first | rfl | (simp only [↓upd_apply, ↓put_some, ↓reduceIte, Nat.reduceEqDiff, ↓argEnv_zero, ↓argEnv_succ, *]; done)), (by first | rfl | (simp only [↓upd_apply, ↓put_some, ↓reduceIte, Nat.reduceEqDiff, ↓argEnv_zero, ↓argEnv_succ, *]; done)), (by first | rfl | (simp only [↓upd_apply, ↓put_some, ↓reduceIte, Nat.reduceEqDiff, ↓argEnv_zero, ↓argEnv_succ, *]; done)), (by first | rfl | (simp only [↓upd_apply, ↓put_some, ↓reduceIte, Nat.reduceEqDiff, ↓argEnv_zero, ↓argEnv_succ, *]; done)), (by first | rfl | (simp only [↓upd_apply, ↓put_some, ↓reduceIte, Nat.reduceEqDiff, ↓argEnv_zero, ↓argEnv_succ, *]; done)), (by first | rfl | (simp only [↓upd_apply, ↓put_some, ↓reduceIte, Nat.reduceEqDiff, ↓argEnv_zero, ↓argEnv_succ, *]; done)), k + 1, _, by rw [hnext]; exact (by first | rfl | (simp only [↓upd_apply, ↓put_some, ↓reduceIte, Nat.reduceEqDiff, ↓argEnv_zero, ↓argEnv_succ, *]; done)), (by first | rfl | (simp only [↓upd_apply, ↓put_some, ↓reduceIte, Nat.reduceEqDiff, ↓argEnv_zero, ↓argEnv_succ, *]; done)), rfl, by omega, rfl⟩
  ·have q1 := hQ k hkM
   have q2 := kC k
   rw [hcw k hkM] at q2
   rw [decide_eq_false hkM, Bool.false_and, Bool.or_false] at hnext
   generalize (proveT l (k : Int) one).1 = gr at *
   have hkMi : ¬ (k : Int) < (M : Int) := by omega
   cases hfb : delL (l.take (min k M)) id with
   | true =>
    rw [hfb] at s17 hnext
    refine runf (an @s1 (an @s2 (an @s3 (an @s13 (an @s14 (an @s17 (an @s18 @hlti))))))) ?_
    refine cp q1 ?_
    refine runf (an @s1 (an @s2 (an @s3 (an @s13 (an @s14 (an @s17 (an @s18 (an @hkMi (an @e3 (an @hT1 @hT2)))))))))) ?_
    refine cp q2 ?_
    refine runf (an @s1 (an @s2 (an @s3 (an @s13 (an @s14 (an @s17 @s18)))))) ?_
    exact round_mk (l.length - (k + 1)) (by omega) ⟨(by first | rfl | (simp only [↓upd_apply, ↓put_some, ↓reduceIte, Nat.reduceEqDiff, ↓argEnv_zero, ↓argEnv_succ, *]; done)), (by first | rfl | (simp only [↓upd_apply, ↓put_some, ↓reduceIte, Nat.reduceEqDiff, ↓argEnv_zero, ↓argEnv_succ, *]; done)), (by first | rfl | (simp only [↓upd_apply, ↓put_some, ↓reduceIte, Nat.reduceEqDiff, ↓argEnv_zero, ↓argEnv_succ, *]; done)), (by first | rfl | (simp only [↓upd_apply, ↓put_some, ↓reduceIte, Nat.reduceEqDiff, ↓argEnv_zero, ↓argEnv_succ, *]; done)), (by first | rfl | (simp only [↓upd_apply, ↓put_some, ↓reduceIte, Nat.reduceEqDiff, ↓argEnv_zero, ↓argEnv_succ, *]; done)), (by first | rfl | (simp only [↓upd_apply, ↓put_some, ↓reduceIte, Nat.reduceEqDiff, ↓argEnv_zero, ↓argEnv_succ, *]; done)), (by first | rfl | (simp only [↓upd_apply, ↓put_some, ↓reduceIte, Nat.reduceEqDiff, ↓argEnv_zero, ↓argEnv_succ, *]; done)), (by first | rfl | (simp only [↓upd_apply, ↓put_some, ↓reduceIte, Nat.reduceEqDiff, ↓argEnv_zero, ↓argEnv_succ, *]; done)), k + 1, _, by rw [hnext]; exact (by first | rfl | (simp only [↓upd_apply, ↓put_some, ↓reduceIte, Nat.reduceEqDiff, ↓argEnv_zero, ↓argEnv_succ, *]; done)), (by first | rfl | (simp only [↓upd_apply, ↓put_some, ↓reduceIte, Nat.reduceEqDiff, ↓argEnv_zero, ↓argEnv_succ, *]; done)), rfl, by omega, rfl⟩
   | false =>
    rw [hfb] at s17 hnext
    refine runf (an @s1 (an @s2 (an @s3 (an @s13 (an @s14 (an @s17 (an @s18 @hlti))))))) ?_
    refine cp q1 ?_
    refine runf (an @s1 (an @s2 (an @s3 (an @s13 (an @s14 (an @s17 (an @s18 (an @hkMi (an @e3 (an @hT1 @hT2)))))))))) ?_
    refine cp q2 ?_
    refine runf (an @s1 (an @s2 (an @s3 (an @s13 (an @s14 (an @s17 @s18)))))) ?_
    exact round_mk (l.length - (k + 1)) (by omega) ⟨(by first | rfl | (simp only [↓upd_apply, ↓put_some, ↓reduceIte, Nat.reduceEqDiff, ↓argEnv_zero, ↓argEnv_succ, *]; done)), (by first | rfl | (simp only [↓upd_apply, ↓put_some, ↓reduceIte, Nat.reduceEqDiff, ↓argEnv_zero, ↓argEnv_succ, *]; done)), (by first | rfl | (simp only [↓upd_apply, ↓put_some, ↓reduceIte, Nat.reduceEqDiff, ↓argEnv_zero, ↓argEnv_succ, *]; done)), (by first | rfl | (simp only [↓upd_apply, ↓put_some, ↓reduceIte, Nat.reduceEqDiff, ↓argEnv_zero, ↓argEnv_succ, *]; done)), (by first | rfl | (simp only [↓upd_apply, ↓put_some, ↓reduceIte, Nat.reduceEqDiff, ↓argEnv_zero, ↓argEnv_succ, *]; done)), (by first | rfl | (simp only [↓upd_apply, ↓put_some, ↓reduceIte, Nat.reduceEqDiff, ↓argEnv_zero, ↓argEnv_succ, *]; done)), (by first | rfl | (simp only [↓upd_apply, ↓put_some, ↓reduceIte, Nat.reduceEqDiff, ↓argEnv_zero, ↓argEnv_succ, *]; done)), (by first | rfl | (simp only [↓upd_apply, ↓put_some, ↓reduceIte, Nat.reduceEqDiff, ↓argEnv_zero, ↓argEnv_succ, *]; done)), k + 1, _, by rw [hnext]; exact (by first | rfl | (simp only [↓upd_apply, ↓put_some, ↓reduceIte, Nat.reduceEqDiff, ↓argEnv_zero, ↓argEnv_succ, *]; done)), (by first | rfl | (simp only [↓upd_apply, ↓put_some, ↓reduceIte, Nat.reduceEqDiff, ↓argEnv_zero, ↓argEnv_succ, *]; done)), rfl, by omega, rfl⟩
 ·have kt' : AC Tryz.prog 74 [intsV [pa, pb, pc], .st id, entriesV l, .it .i64 0, rcptsV [two, one, two]] [] (intsV [1]) [] := kt
  have kn : AC Tryz.prog 76 [intsV [1], intsV [1]] [] (.bo true) [] := by
   have := fsameNums_c [1] [1] (by simp) (by simp)
   rwa [decide_eq_true rfl] at this
  clear kt
  refine runf (an @hN0 (an @hNi @hsz)) ?_
  refine cp kd2 ?_
  refine run ?_
  refine loop_mk (fun m e S => e 1 = .st id ∧ e 2 = entriesV l ∧ e 3 = .it .i64 (M : Int) ∧ e 11 = .bo true ∧ e 13 = intsV [pa, pb, pc] ∧ e 14 = .ptr 0 0 ∧ e 15 = .ptr 1 0 ∧ e 16 = .sl (.own 2) [.it .i64 1] ∧ ∃ (k : Nat) (T : Store), e 17 = .bo (delL (l.take (min k M)) id) ∧ e 18 = .it .i64 (k : Int) ∧ S = .cells (rcptV one).cells :: .cells (rcptV two).cells :: T ∧ k ≤ l.length ∧ m = l.length - k) l.length
   ⟨(by first | rfl | (simp only [↓upd_apply, ↓put_some, ↓reduceIte, Nat.reduceEqDiff, ↓argEnv_zero, ↓argEnv_succ, *]; done)), (by first | rfl | (simp only [↓upd_apply, ↓put_some, ↓reduceIte, Nat.reduceEqDiff, ↓argEnv_zero, ↓argEnv_succ, *]; done)), (by first | rfl | (simp only [↓upd_apply, ↓put_some, ↓reduceIte, Nat.reduceEqDiff, ↓argEnv_zero, ↓argEnv_succ, *]; done)), (by first | rfl | (simp only [↓upd_apply, ↓put_some, ↓reduceIte, Nat.reduceEqDiff, ↓argEnv_zero, ↓argEnv_succ, *]; done)), (by first | rfl | (simp only [↓upd_apply, ↓put_some, ↓reduceIte, Nat.reduceEqDiff, ↓argEnv_zero, ↓argEnv_succ, *]; done)), (by first | rfl | (simp only [↓upd_apply, ↓put_some, ↓reduceIte, Nat.reduceEqDiff, ↓argEnv_zero, ↓argEnv_succ, *]; done)), (by first | rfl | (simp only [↓upd_apply, ↓put_some, ↓reduceIte, Nat.reduceEqDiff, ↓argEnv_zero, ↓argEnv_succ, *]; done)), (by first | rfl | (simp only [↓upd_apply, ↓put_some, ↓reduceIte, Nat.reduceEqDiff, ↓argEnv_zero, ↓argEnv_succ, *]; done)), 0, _, by rw [hbeg]; exact (by first | rfl | (simp only [↓upd_apply, ↓put_some, ↓reduceIte, Nat.reduceEqDiff, ↓argEnv_zero, ↓argEnv_succ, *]; done)), (by first | rfl | (simp only [↓upd_apply, ↓put_some, ↓reduceIte, Nat.reduceEqDiff, ↓argEnv_zero, ↓argEnv_succ, *]; done)), rfl, by omega, rfl⟩ ?_
  rintro m e S ⟨s1, s2, s3, s11, s13, s14, s15, s16, k, T, s17, s18, rfl, hk, rfl⟩
  by_cases hlt : k < l.length
  rotate_left
  ·obtain rfl : k = l.length := by omega
   rw [hend] at s17
   have hlti : ¬ ((l.length : Nat) : Int) < (l.length : Int) := by omega
   refine runf (an @s1 (an @s2 (an @s3 (an @s11 (an @s13 (an @s14 (an @s15 (an @s16 (an @s17 (an @s18 @hlti)))))))))) ?_
   refine cp kt' ?_
   refine runf (an @s1 (an @s2 (an @s3 (an @s11 (an @s13 (an @s14 (an @s15 (an @s16 @s17)))))))) ?_
   refine cp kv1 ?_
   refine runf (an @s1 (an @s2 (an @s3 (an @s11 (an @s13 (an @s14 (an @s15 (an @s16 @s17)))))))) ?_
   refine cp kv2 ?_
   refine runf (an @s1 (an @s2 (an @s3 (an @s11 (an @s13 (an @s14 (an @s15 (an @s16 @s17)))))))) ?_
   refine cp kn ?_
   refine runf (an @s1 (an @s2 (an @s3 (an @s11 (an @s13 (an @s14 (an @s15 (an @s16 (an @s17 (an @hM0 (an @hMi @hsz))))))))))) ?_
   refine cp kd1 ?_
   refine runf (an @s1 (an @s2 (an @s3 (an @s11 (an @s13 (an @s14 (an @s15 (an @s16 (an @s17 @e4))))))))) ?_
   refine cp ku ?_
   refine runf (an @s1 (an @s2 (an @s3 (an @s11 (an @s13 (an @s14 (an @s15 (an @s16 @s17)))))))) ?_
   exact er0
  have hg : l[k]? = some l[k] := List.getElem?_eq_getElem hlt
  have hlti : (k : Int) < (l.length : Int) := by omega
  have hT1 : ∀ o : SObj, (T ++ [o])[T.length]? = some o := fun o => by simp
  have hT2 : ∀ o o' : SObj, (T ++ [o]).set T.length o' = T ++ [o'] := fun o o' => by simp
  have hnext := hdl k _ hg
  by_cases hkM : k < M
  ·have q1 := hP k hkM
   have q2 := kC k
   rw [hck k _ hg hkM] at q2
   rw [decide_eq_true hkM, Bool.true_and] at hnext
   generalize (proveT l (k : Int) one).1 = gr at *
   have hkMi : (k : Int) < (M : Int) := by omega
   generalize delT l[k] id = d at *
   cases hfb : delL (l.take (min k M)) id with
   | true =>
    rw [hfb] at s17 hnext
    refine runf (an @s1 (an @s2 (an @s3 (an @s13 (an @s14 (an @s17 (an @s18 @hlti))))))) ?_
    refine cp q1 ?_
    refine runf (an @s1 (an @s2 (an @s3 (an @s13 (an @s14 (an @s17 (an @s18 (an @hkMi (an @e3 (an @hT1 @hT2)))))))))) ?_
    exact round_mk (l.length - (k + 1)) (by omega) ⟨(by first | rfl | (simp only [↓upd_apply, ↓put_some, ↓reduceIte, Nat.reduceEqDiff, ↓argEnv_zero, ↓argEnv_succ, *]; done)), (by first | rfl | (simp only [↓upd_apply, ↓put_some, ↓reduceIte, Nat.reduceEqDiff, ↓argEnv_zero, ↓argEnv_succ, *]; done)), (by first | rfl | (simp only [↓upd_apply, ↓put_some, ↓reduceIte, Nat.reduceEqDiff, ↓argEnv_zero, ↓argEnv_succ, *]; done)), (by first | rfl | (simp only [↓upd_apply, ↓put_some, ↓reduceIte, Nat.reduceEqDiff, ↓argEnv_zero, ↓argEnv_succ, *]; done)), (by first | rfl | (simp only [↓upd_apply, ↓put_some, ↓reduceIte, Nat.reduceEqDiff, ↓argEnv_zero, ↓argEnv_succ, *]; done)), (by first | rfl | (simp only [↓upd_apply, ↓put_some, ↓reduceIte, Nat.reduceEqDiff, ↓argEnv_zero, ↓argEnv_succ, *]; done)), (by first | rfl | (simp only [↓upd_apply, ↓put_some, ↓reduceIte, Nat.reduceEqDiff, ↓argEnv_zero, ↓argEnv_succ, *]; done)), (by first | rfl | (simp only [↓upd_apply, ↓put_some, ↓reduceIte, Nat.reduceEqDiff, ↓argEnv_zero, ↓argEnv_succ, *]; done)), k + 1, _, by rw [hnext]; exact (by first | rfl | (simp only [↓upd_apply, ↓put_some, ↓reduceIte, Nat.reduceEqDiff, ↓argEnv_zero, ↓argEnv_succ, *]; done)), (by first | rfl | (simp only [↓upd_apply, ↓put_some, ↓reduceIte, Nat.reduceEqDiff, ↓argEnv_zero, ↓argEnv_succ, *]; done)), rfl, by omega, rfl⟩
   | false =>
    rw [hfb, Bool.false_or] at hnext
    rw [hfb] at s17
    refine runf (an @s1 (an @s2 (an @s3 (an @s13 (an @s14 (an @s17 (an @s18 @hlti))))))) ?_
    refine cp q1 ?_
    refine runf (an @s1 (an @s2 (an @s3 (an @s13 (an @s14 (an @s17 (an @s18 (an @hkMi (an @e3 (an @hT1 @hT2)))))))))) ?_
    refine cp q2 ?_
    refine runf (an @s1 (an @s2 (an @s3 (an @s13 (an @s14 (an @s17 @s18)))))) ?_
    exact round_mk (l.length - (k + 1)) (by omega) ⟨(by first | rfl | (simp only [↓upd_apply, ↓put_some, ↓reduceIte, Nat.reduceEqDiff, ↓argEnv_zero, ↓argEnv_succ, *]; done)), (by first | rfl | (simp only [↓upd_apply, ↓put_some, ↓reduceIte, Nat.reduceEqDiff, ↓argEnv_zero, ↓argEnv_succ, *]; done)), (by first | rfl | (simp only [↓upd_apply, ↓put_some, ↓reduceIte, Nat.reduceEqDiff, ↓argEnv_zero, ↓argEnv_succ, *]; done)), (by first | rfl | (simp only [↓upd_apply, ↓put_some, ↓reduceIte, Nat.reduceEqDiff, ↓argEnv_zero, ↓argEnv_succ, *]; done)), (by first | rfl | (simp only [↓upd_apply, ↓put_some, ↓reduceIte, Nat.reduceEqDiff, ↓argEnv_zero, ↓argEnv_succ, *]; done)), (by first | rfl | (simp only [↓upd_apply, ↓put_some, ↓reduceIte, Nat.reduceEqDiff, ↓argEnv_zero, ↓argEnv_succ, *]; done)), (by first | rfl | (simp only [↓upd_apply, ↓put_some, ↓reduceIte, Nat.reduceEqDiff, ↓argEnv_zero, ↓argEnv_succ, *]; done)), (by first | rfl | (simp only [↓upd_apply, ↓put_some, ↓reduceIte, Nat.reduceEqDiff, ↓argEnv_zero, ↓argEnv_succ, *]; done)), k + 1, _, by rw [hnext]; exact (by first | rfl | (simp only [↓upd_apply, ↓put_some, ↓reduceIte, Nat.reduceEqDiff, ↓argEnv_zero, ↓argEnv_succ, *]; done)), (by first | rfl | (simp only [↓upd_apply, ↓put_some, ↓reduceIte, Nat.reduceEqDiff, ↓argEnv_zero, ↓argEnv_succ, *]; done)), rfl, by omega, rfl⟩
  ·have q1 := hQ k hkM
   have q2 := kC k
   rw [hcw k hkM] at q2
   rw [decide_eq_false hkM, Bool.false_and, Bool.or_false] at hnext
   generalize (proveT l (k : Int) one).1 = gr at *
   have hkMi : ¬ (k : Int) < (M : Int) := by omega
   cases hfb : delL (l.take (min k M)) id with
   | true =>
    rw [hfb] at s17 hnext
    refine runf (an @s1 (an @s2 (an @s3 (an @s13 (an @s14 (an @s17 (an @s18 @hlti))))))) ?_
    refine cp q1 ?_
    refine runf (an @s1 (an @s2 (an @s3 (an @s13 (an @s14 (an @s17 (an @s18 (an @hkMi (an @e3 (an @hT1 @hT2)))))))))) ?_
    refine cp q2 ?_
    refine runf (an @s1 (an @s2 (an @s3 (an @s13 (an @s14 (an @s17 @s18)))))) ?_
    exact round_mk (l.length - (k + 1)) (by omega) ⟨(by first | rfl | (simp only [↓upd_apply, ↓put_some, ↓reduceIte, Nat.reduceEqDiff, ↓argEnv_zero, ↓argEnv_succ, *]; done)), (by first | rfl | (simp only [↓upd_apply, ↓put_some, ↓reduceIte, Nat.reduceEqDiff, ↓argEnv_zero, ↓argEnv_succ, *]; done)), (by first | rfl | (simp only [↓upd_apply, ↓put_some, ↓reduceIte, Nat.reduceEqDiff, ↓argEnv_zero, ↓argEnv_succ, *]; done)), (by first | rfl | (simp only [↓upd_apply, ↓put_some, ↓reduceIte, Nat.reduceEqDiff, ↓argEnv_zero, ↓argEnv_succ, *]; done)), (by first | rfl | (simp only [↓upd_apply, ↓put_some, ↓reduceIte, Nat.reduceEqDiff, ↓argEnv_zero, ↓argEnv_succ, *]; done)), (by first | rfl | (simp only [↓upd_apply, ↓put_some, ↓reduceIte, Nat.reduceEqDiff, ↓argEnv_zero, ↓argEnv_succ, *]; done)), (by first | rfl | (simp only [↓upd_apply, ↓put_some, ↓reduceIte, Nat.reduceEqDiff, ↓argEnv_zero, ↓argEnv_succ, *]; done)), (by first | rfl | (simp only [↓upd_apply, ↓put_some, ↓reduceIte, Nat.reduceEqDiff, ↓argEnv_zero, ↓argEnv_succ, *]; done)), k + 1, _, by rw [hnext]; exact (by first | rfl | (simp only [↓upd_apply, ↓put_some, ↓reduceIte, Nat.reduceEqDiff, ↓argEnv_zero, ↓argEnv_succ, *]; done)), (by first | rfl | (simp only [↓upd_apply, ↓put_some, ↓reduceIte, Nat.reduceEqDiff, ↓argEnv_zero, ↓argEnv_succ, *]; done)), rfl, by omega, rfl⟩
   | false =>
    rw [hfb] at s17 hnext
    refine runf (an @s1 (an @s2 (an @s3 (an @s13 (an @s14 (an @s17 (an @s18 @hlti))))))) ?_
    refine cp q1 ?_
    refine runf (an @s1 (an @s2 (an @s3 (an @s13 (an @s14 (an @s17 (an @s18 (an @hkMi (an @e3 (an @hT1 @hT2)))))))))) ?_
    refine cp q2 ?_
    refine runf (an @s1 (an @s2 (an @s3 (an @s13 (an @s14 (an @s17 @s18)))))) ?_
    exact round_mk (l.length - (k + 1)) (by omega) ⟨(by first | rfl | (simp only [↓upd_apply, ↓put_some, ↓reduceIte, Nat.reduceEqDiff, ↓argEnv_zero, ↓argEnv_succ, *]; done)), (by first | rfl | (simp only [↓upd_apply, ↓put_some, ↓reduceIte, Nat.reduceEqDiff, ↓argEnv_zero, ↓argEnv_succ, *]; done)), (by first | rfl | (simp only [↓upd_apply, ↓put_some, ↓reduceIte, Nat.reduceEqDiff, ↓argEnv_zero, ↓argEnv_succ, *]; done)), (by first | rfl | (simp only [↓upd_apply, ↓put_some, ↓reduceIte, Nat.reduceEqDiff, ↓argEnv_zero, ↓argEnv_succ, *]; done)), (by first | rfl | (simp only [↓upd_apply, ↓put_some, ↓reduceIte, Nat.reduceEqDiff, ↓argEnv_zero, ↓argEnv_succ, *]; done)), (by first | rfl | (simp only [↓upd_apply, ↓put_some, ↓reduceIte, Nat.reduceEqDiff, ↓argEnv_zero, ↓argEnv_succ, *]; done)), (by first | rfl | (simp only [↓upd_apply, ↓put_some, ↓reduceIte, Nat.reduceEqDiff, ↓argEnv_zero, ↓argEnv_succ, *]; done)), (by first | rfl | (simp only [↓upd_apply, ↓put_some, ↓reduceIte, Nat.reduceEqDiff, ↓argEnv_zero, ↓argEnv_succ, *]; done)), k + 1, _, by rw [hnext]; exact (by first | rfl | (simp only [↓upd_apply, ↓put_some, ↓reduceIte, Nat.reduceEqDiff, ↓argEnv_zero, ↓argEnv_succ, *]; done)), (by first | rfl | (simp only [↓upd_apply, ↓put_some, ↓reduceIte, Nat.reduceEqDiff, ↓argEnv_zero, ↓argEnv_succ, *]; done)), rfl, by omega, rfl⟩
 ·have kt' : AC Tryz.prog 74 [intsV [pa, pb, pc], .st id, entriesV l, .it .i64 0, rcptsV [two, one, two]] [] (intsV [1, 2]) [] := kt
  have kn : AC Tryz.prog 76 [intsV [1, 2], intsV [1, 2]] [] (.bo true) [] := by
   have := fsameNums_c [1, 2] [1, 2] (by simp) (by simp)
   rwa [decide_eq_true rfl] at this
  clear kt
  refine runf (an @hN0 (an @hNi @hsz)) ?_
  refine cp kd2 ?_
  refine run ?_
  refine loop_mk (fun m e S => e 1 = .st id ∧ e 2 = entriesV l ∧ e 3 = .it .i64 (M : Int) ∧ e 11 = .bo true ∧ e 13 = intsV [pa, pb, pc] ∧ e 14 = .ptr 0 0 ∧ e 15 = .ptr 1 0 ∧ e 16 = .sl (.own 2) [.it .i64 1, .it .i64 2] ∧ ∃ (k : Nat) (T : Store), e 17 = .bo (delL (l.take (min k M)) id) ∧ e 18 = .it .i64 (k : Int) ∧ S = .cells (rcptV one).cells :: .cells (rcptV two).cells :: T ∧ k ≤ l.length ∧ m = l.length - k) l.length
   ⟨(by first | rfl | (simp only [↓upd_apply, ↓put_some, ↓reduceIte, Nat.reduceEqDiff, ↓argEnv_zero, ↓argEnv_succ, *]; done)), (by first | rfl | (simp only [↓upd_apply, ↓put_some, ↓reduceIte, Nat.reduceEqDiff, ↓argEnv_zero, ↓argEnv_succ, *]; done)), (by first | rfl | (simp only [↓upd_apply, ↓put_some, ↓reduceIte, Nat.reduceEqDiff, ↓argEnv_zero, ↓argEnv_succ, *]; done)), (by first | rfl | (simp only [↓upd_apply, ↓put_some, ↓reduceIte, Nat.reduceEqDiff, ↓argEnv_zero, ↓argEnv_succ, *]; done)), (by first | rfl | (simp only [↓upd_apply, ↓put_some, ↓reduceIte, Nat.reduceEqDiff, ↓argEnv_zero, ↓argEnv_succ, *]; done)), (by first | rfl | (simp only [↓upd_apply, ↓put_some, ↓reduceIte, Nat.reduceEqDiff, ↓argEnv_zero, ↓argEnv_succ, *]; done)), (by first | rfl | (simp only [↓upd_apply, ↓put_some, ↓reduceIte, Nat.reduceEqDiff, ↓argEnv_zero, ↓argEnv_succ, *]; done)), (by first | rfl | (simp only [↓upd_apply, ↓put_some, ↓reduceIte, Nat.reduceEqDiff, ↓argEnv_zero, ↓argEnv_succ, *]; done)), 0, _, by rw [hbeg]; exact (by first | rfl | (simp only [↓upd_apply, ↓put_some, ↓reduceIte, Nat.reduceEqDiff, ↓argEnv_zero, ↓argEnv_succ, *]; done)), (by first | rfl | (simp only [↓upd_apply, ↓put_some, ↓reduceIte, Nat.reduceEqDiff, ↓argEnv_zero, ↓argEnv_succ, *]; done)), rfl, by omega, rfl⟩ ?_
  rintro m e S ⟨s1, s2, s3, s11, s13, s14, s15, s16, k, T, s17, s18, rfl, hk, rfl⟩
  by_cases hlt : k < l.length
  rotate_left
  ·obtain rfl : k = l.length := by omega
   rw [hend] at s17
   have hlti : ¬ ((l.length : Nat) : Int) < (l.length : Int) := by omega
   refine runf (an @s1 (an @s2 (an @s3 (an @s11 (an @s13 (an @s14 (an @s15 (an @s16 (an @s17 (an @s18 @hlti)))))))))) ?_
   refine cp kt' ?_
   refine runf (an @s1 (an @s2 (an @s3 (an @s11 (an @s13 (an @s14 (an @s15 (an @s16 @s17)))))))) ?_
   refine cp kv1 ?_
   refine runf (an @s1 (an @s2 (an @s3 (an @s11 (an @s13 (an @s14 (an @s15 (an @s16 @s17)))))))) ?_
   refine cp kv2 ?_
   refine runf (an @s1 (an @s2 (an @s3 (an @s11 (an @s13 (an @s14 (an @s15 (an @s16 @s17)))))))) ?_
   refine cp kn ?_
   refine runf (an @s1 (an @s2 (an @s3 (an @s11 (an @s13 (an @s14 (an @s15 (an @s16 (an @s17 (an @hM0 (an @hMi @hsz))))))))))) ?_
   refine cp kd1 ?_
   refine runf (an @s1 (an @s2 (an @s3 (an @s11 (an @s13 (an @s14 (an @s15 (an @s16 (an @s17 @e4))))))))) ?_
   refine cp ku ?_
   refine runf (an @s1 (an @s2 (an @s3 (an @s11 (an @s13 (an @s14 (an @s15 (an @s16 @s17)))))))) ?_
   exact er0
  have hg : l[k]? = some l[k] := List.getElem?_eq_getElem hlt
  have hlti : (k : Int) < (l.length : Int) := by omega
  have hT1 : ∀ o : SObj, (T ++ [o])[T.length]? = some o := fun o => by simp
  have hT2 : ∀ o o' : SObj, (T ++ [o]).set T.length o' = T ++ [o'] := fun o o' => by simp
  have hnext := hdl k _ hg
  by_cases hkM : k < M
  ·have q1 := hP k hkM
   have q2 := kC k
   rw [hck k _ hg hkM] at q2
   rw [decide_eq_true hkM, Bool.true_and] at hnext
   generalize (proveT l (k : Int) one).1 = gr at *
   have hkMi : (k : Int) < (M : Int) := by omega
   generalize delT l[k] id = d at *
   cases hfb : delL (l.take (min k M)) id with
   | true =>
    rw [hfb] at s17 hnext
    refine runf (an @s1 (an @s2 (an @s3 (an @s13 (an @s14 (an @s17 (an @s18 @hlti))))))) ?_
    refine cp q1 ?_
    refine runf (an @s1 (an @s2 (an @s3 (an @s13 (an @s14 (an @s17 (an @s18 (an @hkMi (an @e3 (an @hT1 @hT2)))))))))) ?_
    exact round_mk (l.length - (k + 1)) (by omega) ⟨(by first | rfl | (simp only [↓upd_apply, ↓put_some, ↓reduceIte, Nat.reduceEqDiff, ↓argEnv_zero, ↓argEnv_succ, *]; done)), (by first | rfl | (simp only [↓upd_apply, ↓put_some, ↓reduceIte, Nat.reduceEqDiff, ↓argEnv_zero, ↓argEnv_succ, *]; done)), (by first | rfl | (simp only [↓upd_apply, ↓put_some, ↓reduceIte, Nat.reduceEqDiff, ↓argEnv_zero, ↓argEnv_succ, *]; done)), (by first | rfl | (simp only [↓upd_apply, ↓put_some, ↓reduceIte, Nat.reduceEqDiff, ↓argEnv_zero, ↓argEnv_succ, *]; done)), (by first | rfl | (simp only [↓upd_apply, ↓put_some, ↓reduceIte, Nat.reduceEqDiff, ↓argEnv_zero, ↓argEnv_succ, *]; done)), (by first | rfl | (simp only [↓upd_apply, ↓put_some, ↓reduceIte, Nat.reduceEqDiff, ↓argEnv_zero, ↓argEnv_succ, *]; done)), (by first | rfl | (simp only [↓upd_apply, ↓put_some, ↓reduceIte, Nat.reduceEqDiff, ↓argEnv_zero, ↓argEnv_succ, *]; done)), (by first | rfl | (simp only [↓upd_apply, ↓put_some, ↓reduceIte, Nat.reduceEqDiff, ↓argEnv_zero, ↓argEnv_succ, *]; done)), k + 1, _, by rw [hnext]; exact (by first | rfl | (simp only [↓upd_apply, ↓put_some, ↓reduceIte, Nat.reduceEqDiff, ↓argEnv_zero, ↓argEnv_succ, *]; done)), (by first | rfl | (simp only [↓upd_apply, ↓put_some, ↓reduceIte, Nat.reduceEqDiff, ↓argEnv_zero, ↓argEnv_succ, *]; done)), rfl, by omega, rfl⟩
   | false =>
    rw [hfb, Bool.false_or] at hnext
    rw [hfb] at s17
    refine runf (an @s1 (an @s2 (an @s3 (an @s13 (an @s14 (an @s17 (an @s18 @hlti))))))) ?_
    refine cp q1 ?_
    refine runf (an @s1 (an @s2 (an @s3 (an @s13 (an @s14 (an @s17 (an @s18 (an @hkMi (an @e3 (an @hT1 @hT2)))))))))) ?_
    refine cp q2 ?_
    refine runf (an @s1 (an @s2 (an @s3 (an @s13 (an @s14 (an @s17 @s18)))))) ?_
    exact round_mk (l.length - (k + 1)) (by omega) ⟨(by first | rfl | (simp only [↓upd_apply, ↓put_some, ↓reduceIte, Nat.reduceEqDiff, ↓argEnv_zero, ↓argEnv_succ, *]; done)), (by first | rfl | (simp only [↓upd_apply, ↓put_some, ↓reduceIte, Nat.reduceEqDiff, ↓argEnv_zero, ↓argEnv_succ, *]; done)), (by first | rfl | (simp only [↓upd_apply, ↓put_some, ↓reduceIte, Nat.reduceEqDiff, ↓argEnv_zero, ↓argEnv_succ, *]; done)), (by first | rfl | (simp only [↓upd_apply, ↓put_some, ↓reduceIte, Nat.reduceEqDiff, ↓argEnv_zero, ↓argEnv_succ, *]; done)), (by first | rfl | (simp only [↓upd_apply, ↓put_some, ↓reduceIte, Nat.reduceEqDiff, ↓argEnv_zero, ↓argEnv_succ, *]; done)), (by first | rfl | (simp only [↓upd_apply, ↓put_some, ↓reduceIte, Nat.reduceEqDiff, ↓argEnv_zero, ↓argEnv_succ, *]; done)), (by first | rfl | (simp only [↓upd_apply, ↓put_some, ↓reduceIte, Nat.reduceEqDiff, ↓argEnv_zero, ↓argEnv_succ, *]; done)), (by first | rfl | (simp only [↓upd_apply, ↓put_some, ↓reduceIte, Nat.reduceEqDiff, ↓argEnv_zero, ↓argEnv_succ, *]; done)), k + 1, _, by rw [hnext]; exact (by first | rfl | (simp only [↓upd_apply, ↓put_some, ↓reduceIte, Nat.reduceEqDiff, ↓argEnv_zero, ↓argEnv_succ, *]; done)), (by first | rfl | (simp only [↓upd_apply, ↓put_some, ↓reduceIte, Nat.reduceEqDiff, ↓argEnv_zero, ↓argEnv_succ, *]; done)), rfl, by omega, rfl⟩
  ·have q1 := hQ k hkM
   have q2 := kC k
   rw [hcw k hkM] at q2
   rw [decide_eq_false hkM, Bool.false_and, Bool.or_false] at hnext
   generalize (proveT l (k : Int) one).1 = gr at *
   have hkMi : ¬ (k : Int) < (M : Int) := by omega
   cases hfb : delL (l.take (min k M)) id with
   | true =>
    rw [hfb] at s17 hnext
    refine runf (an @s1 (an @s2 (an @s3 (an @s13 (an @s14 (an @s17 (an @s18 @hlti))))))) ?_
    refine cp q1 ?_
    refine runf (an @s1 (an @s2 (an @s3 (an @s13 (an @s14 (an @s17 (an @s18 (an @hkMi (an @e3 (an @hT1 @hT2)))))))))) ?_
    refine cp q2 ?_
    refine runf (an @s1 (an @s2 (an @s3 (an @s13 (an @s14 (an @s17 @s18)))))) ?_
    exact round_mk (l.length - (k + 1)) (by omega) ⟨(by first | rfl | (simp only [↓upd_apply, ↓put_some, ↓reduceIte, Nat.reduceEqDiff, ↓argEnv_zero, ↓argEnv_succ, *]; done)), (by first | rfl | (simp only [↓upd_apply, ↓put_some, ↓reduceIte, Nat.reduceEqDiff, ↓argEnv_zero, ↓argEnv_succ, *]; done)), (by first | rfl | (simp only [↓upd_apply, ↓put_some, ↓reduceIte, Nat.reduceEqDiff, ↓argEnv_zero, ↓argEnv_succ, *]; done)), (by first | rfl | (simp only [↓upd_apply, ↓put_some, ↓reduceIte, Nat.reduceEqDiff, ↓argEnv_zero, ↓argEnv_succ, *]; done)), (by first | rfl | (simp only [↓upd_apply, ↓put_some, ↓reduceIte, Nat.reduceEqDiff, ↓argEnv_zero, ↓argEnv_succ, *]; done)), (by first | rfl | (simp only [↓upd_apply, ↓put_some, ↓reduceIte, Nat.reduceEqDiff, ↓argEnv_zero, ↓argEnv_succ, *]; done)), (by first | rfl | (simp only [↓upd_apply, ↓put_some, ↓reduceIte, Nat.reduceEqDiff, ↓argEnv_zero, ↓argEnv_succ, *]; done)), (by first | rfl | (simp only [↓upd_apply, ↓put_some, ↓reduceIte, Nat.reduceEqDiff, ↓argEnv_zero, ↓argEnv_succ, *]; done)), k + 1, _, by rw [hnext]; exact (by first | rfl | (simp only [↓upd_apply, ↓put_some, ↓reduceIte, Nat.reduceEqDiff, ↓argEnv_zero, ↓argEnv_succ, *]; done)), (by first | rfl | (simp only [↓upd_apply, ↓put_some, ↓reduceIte, Nat.reduceEqDiff, ↓argEnv_zero, ↓argEnv_succ, *]; done)), rfl, by omega, rfl⟩
   | false =>
    rw [hfb] at s17 hnext
    refine runf (an @s1 (an @s2 (an @s3 (an @s13 (an @s14 (an @s17 (an @s18 @hlti))))))) ?_
    refine cp q1 ?_
    refine runf (an @s1 (an @s2 (an @s3 (an @s13 (an @s14 (an @s17 (an @s18 (an @hkMi (an @e3 (an @hT1 @hT2)))))))))) ?_
    refine cp q2 ?_
    refine runf (an @s1 (an @s2 (an @s3 (an @s13 (an @s14 (an @s17 @s18)))))) ?_
    exact round_mk (l.length - (k + 1)) (by omega) ⟨(by first | rfl | (simp only [↓upd_apply, ↓put_some, ↓reduceIte, Nat.reduceEqDiff, ↓argEnv_zero, ↓argEnv_succ, *]; done)), (by first | rfl | (simp only [↓upd_apply, ↓put_some, ↓reduceIte, Nat.reduceEqDiff, ↓argEnv_zero, ↓argEnv_succ, *]; done)), (by first | rfl | (simp only [↓upd_apply, ↓put_some, ↓reduceIte, Nat.reduceEqDiff, ↓argEnv_zero, ↓argEnv_succ, *]; done)), (by first | rfl | (simp only [↓upd_apply, ↓put_some, ↓reduceIte, Nat.reduceEqDiff, ↓argEnv_zero, ↓argEnv_succ, *]; done)), (by first | rfl | (simp only [↓upd_apply, ↓put_some, ↓reduceIte, Nat.reduceEqDiff, ↓argEnv_zero, ↓argEnv_succ, *]; done)), (by first | rfl | (simp only [↓upd_apply, ↓put_some, ↓reduceIte, Nat.reduceEqDiff, ↓argEnv_zero, ↓argEnv_succ, *]; done)), (by first | rfl | (simp only [↓upd_apply, ↓put_some, ↓reduceIte, Nat.reduceEqDiff, ↓argEnv_zero, ↓argEnv_succ, *]; done)), (by first | rfl | (simp only [↓upd_apply, ↓put_some, ↓reduceIte, Nat.reduceEqDiff, ↓argEnv_zero, ↓argEnv_succ, *]; done)), k + 1, _, by rw [hnext]; exact (by first | rfl | (simp only [↓upd_apply, ↓put_some, ↓reduceIte, Nat.reduceEqDiff, ↓argEnv_zero, ↓argEnv_succ, *]; done)), (by first | rfl | (simp only [↓upd_apply, ↓put_some, ↓reduceIte, Nat.reduceEqDiff, ↓argEnv_zero, ↓argEnv_succ, *]; done)), rfl, by omega, rfl⟩
end Go.Proofs.YtaphpbiaoofmkaaGreatDoor.Pe
end
