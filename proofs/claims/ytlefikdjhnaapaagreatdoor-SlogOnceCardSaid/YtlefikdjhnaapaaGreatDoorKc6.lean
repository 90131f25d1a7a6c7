/- Several texts in one, without what this claim does not use (tools/shake.py). -/
import Derived.Test.YtlefikdjhnaapaaGreatDoorKc1
import Derived.Test.YtlefikdjhnaapaaGreatDoorKc2
import Derived.Test.YtlefikdjhnaapaaGreatDoorKc3
import Derived.Test.YtlefikdjhnaapaaGreatDoorKc4
import Derived.Test.YtlefikdjhnaapaaGreatDoorKc5
import Derived.Deep.RegionHeld3
import Derived.Deep.OwnRows
import Derived.Lib.AppendStr
import Derived.Test.YtlefikdjhnaapaaGreatDoorChecked
import Derived.WalkKit
import Derived.ProofKit
import Derived.WalkSpells
import Derived.Lib.Hide
import Derived.WalkLawsBesides
import Derived.BigQuiet
import Derived.StillTailTactics
import Derived.Deep.RegionLaw
set_option linter.unusedSectionVars false
set_option linter.unusedVariables false
set_option linter.unusedSimpArgs false
section
namespace Go.Proofs.YtlefikdjhnaapaaGreatDoor.Pe
open Go Go.RowKit Co Sg Ac
set_option maxRecDepth 100000
set_option maxHeartbeats 4000000
theorem sz0 : Sz act0 := ⟨by decide, by decide, by decide, by decide, by decide, by decide, by decide⟩
structure In (a : Ac.Act) : Prop where
 sz : Sz a
 prev : a.prev.length ≤ 140737488355328
 object : a.object.length ≤ 140737488355328
 body : a.body.nonce.length ≤ 140737488355328 ∧ a.body.data.length ≤ 140737488355328 ∧ a.body.tag.length ≤ 140737488355328
 ws : ∀ w ∈ a.wraps, w.box.nonce.length ≤ 140737488355328 ∧ w.box.data.length ≤ 140737488355328 ∧ w.box.tag.length ≤ 140737488355328
 ints : (-9223372036854775808 ≤ a.epoch ∧ a.epoch ≤ 9223372036854775807) ∧ (-9223372036854775808 ≤ a.m ∧ a.m ≤ 9223372036854775807)
theorem shp_strs {n us} (h : shp Tryz.prog 140737488351232 (n + 2) 45 us) : ∃ l : List By, us = [sls l] ∧ l.length ≤ 140737488351232 ∧ ∀ s ∈ l, s.length ≤ 140737488351232 := by
 obtain ⟨l, h1, h2, h3⟩ := shp_slice AV.st (fun s : By => s.length ≤ 140737488351232) Tryz.underlying45 h (fun x hx => by
  obtain ⟨s, rfl, hs⟩ := shp_str Tryz.underlying9 hx
  exact ⟨s, by rw [show aggT Tryz.prog 9 = false from by kernel_rfl]; rfl, hs⟩)
 exact ⟨l, h1, h2, h3⟩
theorem shp_box {n us} (h : shp Tryz.prog 140737488351232 (n + 2) 47 us) : ∃ b : Box, us = [.st b.nonce, .st b.data, .st b.tag] ∧ b.nonce.length ≤ 140737488351232 ∧ b.data.length ≤ 140737488351232 ∧ b.tag.length ≤ 140737488351232 := by
 have h := shp_struct Tryz.underlying47 h
 obtain ⟨a0, b0, rfl, h0, h⟩ := h
 obtain ⟨a1, b1, rfl, h1, h⟩ := h
 obtain ⟨a2, b2, rfl, h2, rfl⟩ := h
 obtain ⟨s0, rfl, w0⟩ := shp_str Tryz.underlying9 h0
 obtain ⟨s1, rfl, w1⟩ := shp_str Tryz.underlying9 h1
 obtain ⟨s2, rfl, w2⟩ := shp_str Tryz.underlying9 h2
 exact ⟨⟨s0, s1, s2⟩, rfl, w0, w1, w2⟩
theorem shp_sig {n us} (h : shp Tryz.prog 140737488351232 (n + 2) 50 us) : ∃ s : Sig, us = [.it .i64 s.e, .it .i64 s.s] := by
 have h := shp_struct Tryz.underlying50 h
 obtain ⟨a0, b0, rfl, h0, h⟩ := h
 obtain ⟨a1, b1, rfl, h1, rfl⟩ := h
 obtain ⟨i0, rfl, w0⟩ := shp_i64 Tryz.underlying3 h0
 obtain ⟨i1, rfl, w1⟩ := shp_i64 Tryz.underlying3 h1
 exact ⟨⟨i0, i1⟩, rfl⟩
theorem shp_key {n us} (h : shp Tryz.prog 140737488351232 (n + 2) 29 us) : ∃ k : Key, us = (keyV k).cells ∧ (-9223372036854775808 ≤ k.secret ∧ k.secret ≤ 9223372036854775807) ∧ (-9223372036854775808 ≤ k.pub ∧ k.pub ≤ 9223372036854775807) := by
 have h := shp_struct Tryz.underlying29 h
 obtain ⟨a0, b0, rfl, h0, h⟩ := h
 obtain ⟨a1, b1, rfl, h1, rfl⟩ := h
 obtain ⟨i0, rfl, w0⟩ := shp_i64 Tryz.underlying3 h0
 obtain ⟨i1, rfl, w1⟩ := shp_i64 Tryz.underlying3 h1
 exact ⟨⟨i0, i1⟩, rfl, w0, w1⟩
theorem shp_wrap {n us} (h : shp Tryz.prog 140737488351232 (n + 3) 187 us) : ∃ w : Wrap, us = (wrapV w).cells ∧ w.box.nonce.length ≤ 140737488351232 ∧ w.box.data.length ≤ 140737488351232 ∧ w.box.tag.length ≤ 140737488351232 := by
 have h := shp_struct Tryz.underlying187 h
 obtain ⟨a0, b0, rfl, h0, h⟩ := h
 obtain ⟨a1, b1, rfl, h1, h⟩ := h
 obtain ⟨a2, b2, rfl, h2, rfl⟩ := h
 obtain ⟨i0, rfl, w0⟩ := shp_i64 Tryz.underlying3 h0
 obtain ⟨i1, rfl, w1⟩ := shp_i64 Tryz.underlying3 h1
 obtain ⟨b, rfl, w2⟩ := shp_box h2
 exact ⟨⟨i0, i1, b⟩, rfl, w2⟩
theorem shp_wraps {n us} (h : shp Tryz.prog 140737488351232 (n + 4) 48 us) : ∃ l : List Wrap, us = [.sl .ro (l.map wrapV)] ∧ l.length ≤ 140737488351232 ∧ ∀ w ∈ l, w.box.nonce.length ≤ 140737488351232 ∧ w.box.data.length ≤ 140737488351232 ∧ w.box.tag.length ≤ 140737488351232 :=
 shp_slice wrapV (fun w : Wrap => w.box.nonce.length ≤ 140737488351232 ∧ w.box.data.length ≤ 140737488351232 ∧ w.box.tag.length ≤ 140737488351232) Tryz.underlying48 h fun x hx => by
  obtain ⟨w, rfl, hw⟩ := shp_wrap hx
  exact ⟨w, by rw [show aggT Tryz.prog 187 = true from by kernel_rfl]; rfl, hw⟩
theorem shp_actA {n us} (h : shp Tryz.prog 140737488351232 (n + 5) 52 us) : ∃ a : Ac.Act, us = (actV a).cells ∧ In a := by
 have h := shp_struct Tryz.underlying52 h
 obtain ⟨a0, b0, rfl, h0, h⟩ := h
 obtain ⟨a1, b1, rfl, h1, h⟩ := h
 obtain ⟨a2, b2, rfl, h2, h⟩ := h
 obtain ⟨a3, b3, rfl, h3, h⟩ := h
 obtain ⟨a4, b4, rfl, h4, h⟩ := h
 obtain ⟨a5, b5, rfl, h5, h⟩ := h
 obtain ⟨a6, b6, rfl, h6, h⟩ := h
 obtain ⟨a7, b7, rfl, h7, h⟩ := h
 obtain ⟨a8, b8, rfl, h8, h⟩ := h
 obtain ⟨a9, b9, rfl, h9, h⟩ := h
 obtain ⟨a10, b10, rfl, h10, h⟩ := h
 obtain ⟨a11, b11, rfl, h11, h⟩ := h
 obtain ⟨a12, b12, rfl, h12, h⟩ := h
 obtain ⟨a13, b13, rfl, h13, h⟩ := h
 obtain ⟨a14, b14, rfl, h14, h⟩ := h
 obtain ⟨a15, b15, rfl, h15, h⟩ := h
 obtain ⟨a16, b16, rfl, h16, rfl⟩ := h
 obtain ⟨author, rfl, w0⟩ := shp_str Tryz.underlying9 h0
 obtain ⟨seq, rfl, w1⟩ := shp_i64 Tryz.underlying3 h1
 obtain ⟨prev, rfl, w2⟩ := shp_str Tryz.underlying9 h2
 obtain ⟨kind, rfl, w3⟩ := shp_i64 Tryz.underlying3 h3
 obtain ⟨time, rfl, w4⟩ := shp_i64 Tryz.underlying3 h4
 obtain ⟨object, rfl, w5⟩ := shp_str Tryz.underlying9 h5
 obtain ⟨target, rfl, w6⟩ := shp_str Tryz.underlying9 h6
 obtain ⟨scope, rfl, w7⟩ := shp_i64 Tryz.underlying3 h7
 obtain ⟨group, rfl, w8⟩ := shp_str Tryz.underlying9 h8
 obtain ⟨to, rfl, w9, w9'⟩ := shp_strs h9
 obtain ⟨text, rfl, w10⟩ := shp_str Tryz.underlying9 h10
 obtain ⟨body, rfl, w11⟩ := shp_box h11
 obtain ⟨epoch, rfl, w12⟩ := shp_i64 Tryz.underlying3 h12
 obtain ⟨wr, rfl, w13, w13'⟩ := shp_wraps h13
 obtain ⟨n, rfl, w14⟩ := shp_i64 Tryz.underlying3 h14
 obtain ⟨m, rfl, w15⟩ := shp_i64 Tryz.underlying3 h15
 obtain ⟨sig, rfl⟩ := shp_sig h16
 refine ⟨⟨author, seq, prev, kind, time, object, target, scope, group, to, text, body, epoch, wr, n, m, sig⟩, rfl, ⟨?_, ?_, ?_, ?_, fun s hs => ?_, ?_, ?_⟩, ?_, ?_, ?_, fun w hw => ?_, w12, w15⟩
 ·show author.length ≤ _; omega
 ·show target.length ≤ _; omega
 ·show group.length ≤ _; omega
 ·show text.length ≤ _; omega
 ·have := w9' s hs; omega
 ·show to.length ≤ _; omega
 ·show wr.length ≤ _; omega
 ·show prev.length ≤ _; omega
 ·show object.length ≤ _; omega
 ·show body.nonce.length ≤ _ ∧ body.data.length ≤ _ ∧ body.tag.length ≤ _; omega
 ·have := w13' w hw; omega
end Go.Proofs.YtlefikdjhnaapaaGreatDoor.Pe
end
section
namespace Go.Proofs.YtlefikdjhnaapaaGreatDoor.Pe
open Go Go.RowKit Co Sg Ac It
set_option maxRecDepth 100000
set_option maxHeartbeats 4000000
theorem item0_wrong : It.right item0 = false := by decide +kernel
structure InI (i : It.Item) : Prop where
 act : In i.act
 iz : Iz i
 ci : ∀ x ∈ [i.claim.base, i.claim.gen, i.claim.home, i.claim.pub, i.claim.time], -9223372036854775808 ≤ x ∧ x ≤ 9223372036854775807
 bi : ∀ x ∈ [i.ballot.server, i.ballot.gen, i.ballot.time], -9223372036854775808 ≤ x ∧ x ≤ 9223372036854775807
 di : ∀ x ∈ [i.decision.server, i.decision.number, i.decision.kind, i.decision.n, i.decision.frm, i.decision.til], -9223372036854775808 ≤ x ∧ x ≤ 9223372036854775807
 si : ∀ x ∈ [i.claim.sig.e, i.claim.sig.s, i.ballot.sig.e, i.ballot.sig.s, i.decision.sig.e, i.decision.sig.s], -9223372036854775808 ≤ x ∧ x ≤ 9223372036854775807
theorem shp_sigI {n us} (h : shp Tryz.prog 140737488351232 (n + 2) 50 us) : ∃ s : Sig, us = [.it .i64 s.e, .it .i64 s.s] ∧ (-9223372036854775808 ≤ s.e ∧ s.e ≤ 9223372036854775807) ∧ (-9223372036854775808 ≤ s.s ∧ s.s ≤ 9223372036854775807) := by
 have h := shp_struct Tryz.underlying50 h
 obtain ⟨a0, b0, rfl, h0, h⟩ := h
 obtain ⟨a1, b1, rfl, h1, rfl⟩ := h
 obtain ⟨i0, rfl, w0⟩ := shp_i64 Tryz.underlying3 h0
 obtain ⟨i1, rfl, w1⟩ := shp_i64 Tryz.underlying3 h1
 exact ⟨⟨i0, i1⟩, rfl, w0, w1⟩
theorem shp_claimI {n us} (h : shp Tryz.prog 140737488351232 (n + 3) 54 us) : ∃ c : It.Claim, us = (claimV c).cells ∧ c.actor.length ≤ 140737488355328 ∧ (∀ x ∈ [c.base, c.gen, c.home, c.pub, c.time], -9223372036854775808 ≤ x ∧ x ≤ 9223372036854775807) ∧ (∀ x ∈ [c.sig.e, c.sig.s], -9223372036854775808 ≤ x ∧ x ≤ 9223372036854775807) := by
 have h := shp_struct Tryz.underlying54 h
 obtain ⟨a0, b0, rfl, h0, h⟩ := h
 obtain ⟨a1, b1, rfl, h1, h⟩ := h
 obtain ⟨a2, b2, rfl, h2, h⟩ := h
 obtain ⟨a3, b3, rfl, h3, h⟩ := h
 obtain ⟨a4, b4, rfl, h4, h⟩ := h
 obtain ⟨a5, b5, rfl, h5, h⟩ := h
 obtain ⟨a6, b6, rfl, h6, h⟩ := h
 obtain ⟨a7, b7, rfl, h7, rfl⟩ := h
 obtain ⟨actor, rfl, w0⟩ := shp_str Tryz.underlying9 h0
 obtain ⟨base, rfl, w1⟩ := shp_i64 Tryz.underlying3 h1
 obtain ⟨prev, rfl, w2⟩ := shp_str Tryz.underlying9 h2
 obtain ⟨gen, rfl, w3⟩ := shp_i64 Tryz.underlying3 h3
 obtain ⟨home, rfl, w4⟩ := shp_i64 Tryz.underlying3 h4
 obtain ⟨pub, rfl, w5⟩ := shp_i64 Tryz.underlying3 h5
 obtain ⟨time, rfl, w6⟩ := shp_i64 Tryz.underlying3 h6
 obtain ⟨sg, rfl, w7, w7q⟩ := shp_sigI h7
 refine ⟨⟨actor, base, prev, gen, home, pub, time, sg⟩, rfl, Nat.le_trans w0 (by decide), by simp only [List.forall_mem_cons, List.not_mem_nil, false_implies, implies_true, and_true]; omega, by simp only [List.forall_mem_cons, List.not_mem_nil, false_implies, implies_true, and_true]; omega⟩
theorem shp_ballotI {n us} (h : shp Tryz.prog 140737488351232 (n + 3) 56 us) : ∃ c : It.Ballot, us = (ballotV c).cells ∧ c.actor.length ≤ 140737488355328 ∧ (∀ x ∈ [c.server, c.gen, c.time], -9223372036854775808 ≤ x ∧ x ≤ 9223372036854775807) ∧ (∀ x ∈ [c.sig.e, c.sig.s], -9223372036854775808 ≤ x ∧ x ≤ 9223372036854775807) := by
 have h := shp_struct Tryz.underlying56 h
 obtain ⟨a0, b0, rfl, h0, h⟩ := h
 obtain ⟨a1, b1, rfl, h1, h⟩ := h
 obtain ⟨a2, b2, rfl, h2, h⟩ := h
 obtain ⟨a3, b3, rfl, h3, h⟩ := h
 obtain ⟨a4, b4, rfl, h4, h⟩ := h
 obtain ⟨a5, b5, rfl, h5, rfl⟩ := h
 obtain ⟨server, rfl, w0⟩ := shp_i64 Tryz.underlying3 h0
 obtain ⟨actor, rfl, w1⟩ := shp_str Tryz.underlying9 h1
 obtain ⟨gen, rfl, w2⟩ := shp_i64 Tryz.underlying3 h2
 obtain ⟨claim, rfl, w3⟩ := shp_str Tryz.underlying9 h3
 obtain ⟨time, rfl, w4⟩ := shp_i64 Tryz.underlying3 h4
 obtain ⟨sg, rfl, w5, w5q⟩ := shp_sigI h5
 refine ⟨⟨server, actor, gen, claim, time, sg⟩, rfl, Nat.le_trans w1 (by decide), by simp only [List.forall_mem_cons, List.not_mem_nil, false_implies, implies_true, and_true]; omega, by simp only [List.forall_mem_cons, List.not_mem_nil, false_implies, implies_true, and_true]; omega⟩
theorem shp_decisionI {n us} (h : shp Tryz.prog 140737488351232 (n + 3) 58 us) : ∃ c : It.Decision, us = (decisionV c).cells ∧ Dz c ∧ (∀ x ∈ [c.server, c.number, c.kind, c.n, c.frm, c.til], -9223372036854775808 ≤ x ∧ x ≤ 9223372036854775807) ∧ (∀ x ∈ [c.sig.e, c.sig.s], -9223372036854775808 ≤ x ∧ x ≤ 9223372036854775807) := by
 have h := shp_struct Tryz.underlying58 h
 obtain ⟨a0, b0, rfl, h0, h⟩ := h
 obtain ⟨a1, b1, rfl, h1, h⟩ := h
 obtain ⟨a2, b2, rfl, h2, h⟩ := h
 obtain ⟨a3, b3, rfl, h3, h⟩ := h
 obtain ⟨a4, b4, rfl, h4, h⟩ := h
 obtain ⟨a5, b5, rfl, h5, h⟩ := h
 obtain ⟨a6, b6, rfl, h6, h⟩ := h
 obtain ⟨a7, b7, rfl, h7, h⟩ := h
 obtain ⟨a8, b8, rfl, h8, h⟩ := h
 obtain ⟨a9, b9, rfl, h9, h⟩ := h
 obtain ⟨a10, b10, rfl, h10, rfl⟩ := h
 obtain ⟨server, rfl, w0⟩ := shp_i64 Tryz.underlying3 h0
 obtain ⟨number, rfl, w1⟩ := shp_i64 Tryz.underlying3 h1
 obtain ⟨kind, rfl, w2⟩ := shp_i64 Tryz.underlying3 h2
 obtain ⟨actor, rfl, w3⟩ := shp_str Tryz.underlying9 h3
 obtain ⟨object, rfl, w4⟩ := shp_str Tryz.underlying9 h4
 obtain ⟨txt, rfl, w5⟩ := shp_str Tryz.underlying9 h5
 obtain ⟨to, rfl, w6, w6q⟩ := shp_strs h6
 obtain ⟨n1, rfl, w7⟩ := shp_i64 Tryz.underlying3 h7
 obtain ⟨frm, rfl, w8⟩ := shp_i64 Tryz.underlying3 h8
 obtain ⟨til, rfl, w9⟩ := shp_i64 Tryz.underlying3 h9
 obtain ⟨sg, rfl, w10, w10q⟩ := shp_sigI h10
 refine ⟨⟨server, number, kind, actor, object, txt, to, n1, frm, til, sg⟩, rfl, ⟨Nat.le_trans w3 (by decide), Nat.le_trans w6 (by decide), fun s hs => Nat.le_trans (w6q s hs) (by decide)⟩, by simp only [List.forall_mem_cons, List.not_mem_nil, false_implies, implies_true, and_true]; omega, by simp only [List.forall_mem_cons, List.not_mem_nil, false_implies, implies_true, and_true]; omega⟩
theorem shp_itemI {n us} (h : shp Tryz.prog 140737488351232 (n + 6) 60 us) : ∃ i : It.Item, us = (itemV i).cells ∧ InI i := by
 have h := shp_struct Tryz.underlying60 h
 obtain ⟨a0, b0, rfl, h0, h⟩ := h
 obtain ⟨a1, b1, rfl, h1, h⟩ := h
 obtain ⟨a2, b2, rfl, h2, h⟩ := h
 obtain ⟨a3, b3, rfl, h3, h⟩ := h
 obtain ⟨a4, b4, rfl, h4, rfl⟩ := h
 obtain ⟨kind, rfl, w0⟩ := shp_i64 Tryz.underlying3 h0
 obtain ⟨a, rfl, w1⟩ := shp_actA h1
 obtain ⟨c, rfl, w2, w2c, w2s⟩ := shp_claimI h2
 obtain ⟨b, rfl, w3, w3c, w3s⟩ := shp_ballotI h3
 obtain ⟨d, rfl, w4, w4c, w4s⟩ := shp_decisionI h4
 refine ⟨⟨kind, a, c, b, d⟩, rfl, w1, ⟨w1.sz, w2, w3, w4⟩, w2c, w3c, w4c, ?_⟩
 simp only [List.forall_mem_cons, List.not_mem_nil, false_implies, implies_true, and_true] at w2s w3s w4s ⊢
 exact ⟨w2s.1, w2s.2, w3s.1, w3s.2, w4s.1, w4s.2⟩
end Go.Proofs.YtlefikdjhnaapaaGreatDoor.Pe
namespace Go.Proofs.YtlefikdjhnaapaaGreatDoor.Pe
open Go Go.RowKit Co Sg Ac It
set_option maxRecDepth 100000
set_option maxHeartbeats 4000000
theorem textT {s : By} {n : Nat} (h : s.length ≤ n) (hn : n ≤ 1000000) : (text s).length ≤ n + 9 := by
 have := num_len9 (n := s.length) (by omega)
 unfold text
 rw [List.length_append]
 omega
theorem coreR_len {i : It.Item} (h : It.right i = true) (h0 : i.kind ≠ 0) : (coreOf i).length ≤ 20000 := by
 unfold coreOf
 rcases right_kind h with e | e | e | e
 ·exact absurd e h0
 ·rw [if_pos e]
  have s := claim_sm ((right_claim e).1 h).1
  have h1 := s.actor; have h2 := s.base; have h3 := s.prev; have h4 := s.gen; have h5 := s.home; have h6 := s.pub; have h7 := s.time
  have l1 := textT (n := 16) (s := i.claim.actor) (by omega) (by omega)
  have l2 := textT (n := 32) (s := i.claim.prev) (by omega) (by omega)
  have n1 := numI_le i.claim.base (by omega)
  have n2 := numI_le i.claim.gen (by omega)
  have n3 := numI_le i.claim.home (by omega)
  have n4 := numI_le i.claim.pub (by omega)
  have n5 := numI_le i.claim.time (by omega)
  unfold claimB
  simp only [List.length_append]
  omega
 ·rw [if_neg (by omega), if_pos e]
  have s := ballot_sm ((right_ballot e).1 h).1
  have h1 := s.actor; have h2 := s.server; have h3 := s.claim; have h4 := s.gen; have h5 := s.time
  have l1 := textT (n := 16) (s := i.ballot.actor) (by omega) (by omega)
  have l2 := textT (n := 32) (s := i.ballot.claim) (by omega) (by omega)
  have n1 := numI_le i.ballot.server (by omega)
  have n2 := numI_le i.ballot.gen (by omega)
  have n3 := numI_le i.ballot.time (by omega)
  unfold ballotB
  simp only [List.length_append]
  omega
 ·rw [if_neg (by omega), if_neg (by omega)]
  have s := decision_sm ((right_decision e).1 h).1
  have h1 := s.actor; have h2 := s.server; have h3 := s.number; have h4 := s.kind; have h5 := s.object; have h6 := s.text; have h7 := s.to; have h8 := s.n; have h9 := s.frm; have h10 := s.til
  have l1 := textT (n := 16) (s := i.decision.actor) (by omega) (by omega)
  have l2 := textT (n := 32) (s := i.decision.object) (by omega) (by omega)
  have l3 := textT (n := 4096) (s := i.decision.text) (by omega) (by omega)
  have l4 := list_len16 ⟨h7.1, fun s hs => Nat.le_of_eq (h7.2 s hs)⟩
  have n1 := numI_le i.decision.server (by omega)
  have n2 := numI_le i.decision.number (by omega)
  have n3 := numI_le i.decision.kind (by omega)
  have n4 := numI_le i.decision.n (by omega)
  have n5 := numI_le i.decision.frm (by omega)
  have n6 := numI_le i.decision.til (by omega)
  unfold decisionB
  simp only [List.length_append]
  omega
theorem bytesIt_len6 (i : It.Item) : (It.bytes i).length ≤ 200000 := by
 cases hr : It.right i with
 | false => rw [It.bytes_wrong hr]; decide
 | true =>
  have hk := right_kind hr
  have n0 := numI_le i.kind (by omega)
  rw [bytes_right hr]
  unfold bodyB
  rw [List.length_append]
  by_cases h0 : i.kind = 0
  ·rw [if_pos h0]
   have := bytes_len (a := i.act)
   omega
  ·rw [if_neg h0]
   have hs := sig_right hr h0
   simp only [sigR, Bool.and_eq_true, wi_iff] at hs
   have n1 := numI_le (sigOf i).e (by omega)
   have n2 := numI_le (sigOf i).s (by omega)
   have hc := coreR_len hr h0
   simp only [List.length_append]
   omega
end Go.Proofs.YtlefikdjhnaapaaGreatDoor.Pe
end
section
namespace Go.Proofs.YtlefikdjhnaapaaGreatDoor.Wl
open Go Co
theorem rdN_inv3 : ∀ (l : By) (i n m : Nat) (r : By), rdN l i n = some (m, r) → ∃ k, m = n + k * 2 ^ (7 * i) ∧ l = num k ++ r ∧ (0 < i → 0 < k)
 | [], i, n, m, r, h => by simp [rdN] at h
 | d :: l, i, n, m, r, h => by
  rw [rdN_cons] at h
  have hd := d.toNat_lt
  split at h
  ·cases h
  split at h
  ·rename_i h9 h1
   obtain ⟨k, h2, h3, h4⟩ := rdN_inv3 l (i + 1) _ m r h
   have hk := h4 (Nat.succ_pos _)
   refine ⟨(d.toNat - 128) + k * 128, ?_, ?_, fun _ => by omega⟩
   ·rw [h2, Nat.add_mul, Nat.mul_assoc, show (128 : Nat) = 2 ^ 7 from rfl, ← Nat.pow_add, show 7 + 7 * i = 7 * (i + 1) by omega]
    omega
   ·rw [num_big (by omega), show (d.toNat - 128 + k * 128) / 128 = k by omega, show 128 + (d.toNat - 128 + k * 128) % 128 = d.toNat by omega, UInt8.ofNat_toNat, h3, List.cons_append]
  ·rename_i h9 h1
   split at h
   ·cases h
   ·rename_i h2
    simp only [Option.some.injEq, Prod.mk.injEq] at h
    refine ⟨d.toNat, h.1.symm, ?_, fun h0 => by omega⟩
    rw [num_small (by omega), UInt8.ofNat_toNat, h.2]
    rfl
theorem num_inv {b : By} {n : Nat} {x : R} (h : R.num ⟨b, false⟩ = (n, x)) (hx : x.bad = false) : b = num n ++ x.rest := by
 unfold R.num at h
 split at h
 ·rename_i m r hr
  simp only [Prod.mk.injEq] at h
  obtain ⟨k, h1, h2, _⟩ := rdN_inv3 _ _ _ _ _ hr
  obtain ⟨rfl, rfl⟩ := h
  simp only [Nat.mul_zero, Nat.pow_zero, Nat.mul_one, Nat.zero_add] at h1
  subst h1
  exact h2
 ·simp only [Prod.mk.injEq] at h
  rw [← h.2] at hx
  cases hx
def ck (s : By) : By := [UInt8.ofNat ((Sm.crc s).toNat % 256), UInt8.ofNat ((Sm.crc s).toNat / 256 % 256), UInt8.ofNat ((Sm.crc s).toNat / 65536 % 256), UInt8.ofNat ((Sm.crc s).toNat / 16777216 % 256)]
theorem ck_len (s : By) : (ck s).length = 4 := rfl
def rec1 (s : By) : By := num s.length ++ ck s ++ s
def recs (l : List By) : By := (l.map rec1).flatten
theorem recs_cons (s : By) (l : List By) : recs (s :: l) = rec1 s ++ recs l := rfl
theorem recs_nil : recs [] = [] := rfl
theorem recs_snoc (l : List By) (s : By) : recs (l ++ [s]) = recs l ++ rec1 s := by simp [recs]
theorem rec1_pos (s : By) : 0 < (rec1 s).length := by
 have := num_len s.length
 simp only [rec1, List.length_append]
 omega
def step (x : R) : Option (By × R) :=
 if (x.num.2.take 4).1.length ≠ 4 ∨ 1048576 < x.num.1 then none else
 if ((x.num.2.take 4).2.take x.num.1).1.length ≠ x.num.1 ∨ ck ((x.num.2.take 4).2.take x.num.1).1 ≠ (x.num.2.take 4).1 then none else
 some ((x.num.2.take 4).2.take x.num.1)
def okL (l : List By) : Prop := ∀ s ∈ l, s.length ≤ 1048576
theorem step_back (s t : By) (h : s.length ≤ 1048576) : step ⟨rec1 s ++ t, false⟩ = some (s, ⟨t, false⟩) := by
 have h1 : R.num ⟨rec1 s ++ t, false⟩ = (s.length, ⟨ck s ++ (s ++ t), false⟩) := by
  rw [rec1, List.append_assoc, List.append_assoc]
  exact num_back _ _ _ (by omega)
 have h2 : R.take ⟨ck s ++ (s ++ t), false⟩ 4 = (ck s, ⟨s ++ t, false⟩) := take_back (ck s) (s ++ t)
 unfold step
 rw [h1]
 simp only
 rw [h2]
 simp only
 rw [take_back s t]
 have c1 : ¬ ((ck s).length ≠ 4 ∨ 1048576 < s.length) := by rw [ck_len]; omega
 have c2 : ¬ (s.length ≠ s.length ∨ ck s ≠ ck s) := by simp
 rw [if_neg c1, if_neg c2]
theorem take_inv {x y : R} {n : Nat} {s : By} (h : x.take n = (s, y)) (hs : s.length = n) (hn : 0 < n ∨ x.bad = false) : x.bad = false ∧ x.rest = s ++ y.rest ∧ y.bad = false := by
 unfold R.take at h
 split at h
 ·rename_i hc
  simp only [Prod.mk.injEq] at h
  obtain ⟨rfl, rfl⟩ := h
  simp only [List.length_nil] at hs
  rcases hc with hc | hc
  ·rcases hn with hn | hn
   ·omega
   ·rw [hc] at hn; cases hn
  ·omega
 ·rename_i hc
  simp only [Prod.mk.injEq] at h
  obtain ⟨rfl, rfl⟩ := h
  have hb : x.bad = false := by cases hx : x.bad <;> simp_all
  exact ⟨hb, (List.take_append_drop n x.rest).symm, hb⟩
theorem step_inv {b s : By} {x : R} (h : step ⟨b, false⟩ = some (s, x)) : b = rec1 s ++ x.rest ∧ s.length ≤ 1048576 ∧ x.bad = false := by
 unfold step at h
 split at h
 ·cases h
 rename_i h1
 split at h
 ·cases h
 rename_i h2
 simp only [Option.some.injEq] at h
 rw [h] at h2
 simp only [not_or, ne_eq, Decidable.not_not] at h1 h2
 have e1 : R.num ⟨b, false⟩ = ((R.num ⟨b, false⟩).1, (R.num ⟨b, false⟩).2) := rfl
 generalize (R.num ⟨b, false⟩).1 = n at *
 generalize (R.num ⟨b, false⟩).2 = y at *
 have e2 : y.take 4 = ((y.take 4).1, (y.take 4).2) := rfl
 generalize (y.take 4).1 = c at *
 generalize (y.take 4).2 = z at *
 obtain ⟨a1, a2, a3⟩ := take_inv e2 h1.1 (.inl (by omega))
 obtain ⟨b1, b2, b3⟩ := take_inv h h2.1 (.inr a3)
 have := num_inv e1 a1
 refine ⟨?_, by omega, b3⟩
 rw [this, a2, b2, rec1, h2.1, h2.2]
 simp
def scan : Nat → By → List By × By
 | 0, b => ([], b)
 | f + 1, b => match step ⟨b, false⟩ with
  | none => ([], b)
  | some (s, x) => (s :: (scan f x.rest).1, (scan f x.rest).2)
def rowsOf (b : By) : List By := (scan b.length b).1
def tailOf (b : By) : By := (scan b.length b).2
def stuck (b : By) : Prop := step ⟨b, false⟩ = none
theorem stuck_nil : stuck [] := by
 have : R.num ⟨[], false⟩ = (0, fail) := rfl
 unfold stuck step
 rw [this]
 simp only
 rfl
theorem scan_spec : ∀ (f : Nat) (b : By), b.length ≤ f → b = recs (scan f b).1 ++ (scan f b).2 ∧ okL (scan f b).1 ∧ stuck (scan f b).2
 | 0, b, h => by
  have : b = [] := List.eq_nil_of_length_eq_zero (by omega)
  subst this
  exact ⟨rfl, fun s hs => (by cases hs), stuck_nil⟩
 | f + 1, b, h => by
  unfold scan
  split
  ·rename_i hs
   exact ⟨rfl, fun s hs => (by cases hs), hs⟩
  ·rename_i s x hs
   obtain ⟨h1, h2, h3⟩ := step_inv hs
   have hp := rec1_pos s
   have hl : x.rest.length ≤ f := by
    have := congrArg List.length h1
    rw [List.length_append] at this
    omega
   obtain ⟨h4, h5, h6⟩ := scan_spec f x.rest hl
   refine ⟨?_, fun t ht => ?_, h6⟩
   ·simp only [recs_cons, List.append_assoc]
    rw [← h4]
    exact h1
   ·rcases List.mem_cons.1 ht with rfl | ht
    ·exact h2
    ·exact h5 t ht
theorem scan_back : ∀ (l : List By) (t : By) (f : Nat), okL l → stuck t → (recs l ++ t).length ≤ f → scan f (recs l ++ t) = (l, t)
 | [], t, f, _, ht, _ => by
  rw [recs_nil, List.nil_append]
  cases f with
  | zero => rfl
  | succ f => unfold scan; rw [show step ⟨t, false⟩ = none from ht]
 | s :: l, t, f, hl, ht, hf => by
  have hp := rec1_pos s
  cases f with
  | zero => simp only [recs_cons, List.length_append] at hf; omega
  | succ f =>
   unfold scan
   rw [recs_cons, List.append_assoc, step_back s _ (hl s (by simp))]
   simp only
   rw [scan_back l t f (fun x hx => hl x (by simp [hx])) ht (by simp only [recs_cons, List.length_append] at hf ⊢; omega)]
theorem rows_back {l : List By} {t : By} (hl : okL l) (ht : stuck t) : rowsOf (recs l ++ t) = l ∧ tailOf (recs l ++ t) = t := by
 unfold rowsOf tailOf
 rw [scan_back l t _ hl ht (Nat.le_refl _)]
 exact ⟨rfl, rfl⟩
theorem rows_spec (b : By) : b = recs (rowsOf b) ++ tailOf b ∧ okL (rowsOf b) ∧ stuck (tailOf b) := scan_spec b.length b (Nat.le_refl _)
theorem okL_append {l m : List By} (h : okL l) (h' : okL m) : okL (l ++ m) := fun s hs => (List.mem_append.1 hs).elim (h s) (h' s)
end Go.Proofs.YtlefikdjhnaapaaGreatDoor.Wl
end
section
namespace Go.Proofs.YtlefikdjhnaapaaGreatDoor.Dm
open Go
structure Fl where
  data : List UInt8
  dur : Nat
structure Dk where
  fs : Nat → Fl
  down : Bool
  lost : Nat
  armed : Nat
  keep : List Int
def Fl.none : Fl := ⟨[], 0⟩
def dk0 : Dk := ⟨fun _ => Fl.none, false, 0, 0, []⟩
def upd (fs : Nat → Fl) (i : Nat) (f : Fl) : Nat → Fl := fun j => if j = i then f else fs j
theorem upd_same (fs : Nat → Fl) (i : Nat) (f : Fl) : upd fs i f i = f := if_pos rfl
theorem upd_ne (fs : Nat → Fl) {i j : Nat} (h : j ≠ i) (f : Fl) : upd fs i f j = fs j := if_neg h
def kn (f : Int) : Bool := decide (0 ≤ f) && decide (f < 8)
def Fl.stay (f : Fl) (k : Int) : Nat := f.dur + min (f.data.length - f.dur) k.toNat
def Fl.crash (f : Fl) (k : Int) : Fl := ⟨f.data.take (f.stay k), f.stay k⟩
def Fl.trunc (f : Fl) (n : Nat) : Fl := ⟨f.data.take n, min f.dur n⟩
def crash (d : Dk) (keep : List Int) : Dk := if d.down then d else ⟨fun i => (d.fs i).crash (keep.getD i 0), true, d.lost, 0, []⟩
def strikes (d : Dk) : Bool × Dk := if d.armed = 0 then (false, d) else (decide (d.armed = 1), { d with armed := d.armed - 1 })
def struck (d : Dk) (e : Int) : Int × Dk := if (strikes d).1 then (8, crash (strikes d).2 (strikes d).2.keep) else (e, (strikes d).2)
def appendD (d : Dk) (f : Int) (s : List UInt8) : Int × Dk :=
  if d.down then (8, d) else
  if !kn f then struck d 1 else
  if 16777216 < (d.fs f.toNat).data.length + s.length then struck d 7 else
  struck { d with fs := upd d.fs f.toNat ⟨(d.fs f.toNat).data ++ s, (d.fs f.toNat).dur⟩ } 0
def beginD (d : Dk) (l : List Int) : Int × Dk := if d.down then (8, d) else struck d (if l.all kn then 0 else 1)
def flushD (d : Dk) (f : Int) : Int × Dk :=
  let b := beginD d [f]
  if b.1 ≠ 0 then b else
  if 0 < b.2.lost then (18, { b.2 with lost := b.2.lost - 1 }) else
  (0, { b.2 with fs := upd b.2.fs f.toNat ⟨(b.2.fs f.toNat).data, (b.2.fs f.toNat).data.length⟩ })
def size (d : Dk) (f : Int) : Nat := if kn f then (d.fs f.toNat).data.length else 0
def cutD (d : Dk) (f n : Int) : Int × Dk :=
  let b := beginD d [f]
  if b.1 ≠ 0 then b else
  if n < 0 ∨ (size b.2 f : Int) < n then (1, b.2) else
  (0, { b.2 with fs := upd b.2.fs f.toNat ((b.2.fs f.toNat).trunc n.toNat) })
def peek (d : Dk) (f : Int) : List UInt8 × Int := if d.down then ([], 8) else if kn f then ((d.fs f.toNat).data, 0) else ([], 1)
structure Fl.Ok (f : Fl) : Prop where
  dur : f.dur ≤ f.data.length
  len : f.data.length ≤ 16777216
structure Ok (d : Dk) : Prop where
  fs : ∀ i, (d.fs i).Ok
  lost : d.lost < 9223372036854775808
  armed : d.armed < 9223372036854775808
theorem Fl.none_ok : Fl.none.Ok := ⟨Nat.le_refl _, Nat.zero_le _⟩
theorem dk0_ok : Ok dk0 := ⟨fun _ => Fl.none_ok, by decide, by decide⟩
theorem Fl.stay_le {f : Fl} (h : f.Ok) (k : Int) : f.stay k ≤ f.data.length := by have := h.dur; unfold Fl.stay; omega
theorem Fl.crash_ok {f : Fl} (h : f.Ok) (k : Int) : (f.crash k).Ok := by
  have h1 := Fl.stay_le h k
  have h2 := h.len
  exact ⟨by unfold Fl.crash; simp only [List.length_take]; omega, by unfold Fl.crash; simp only [List.length_take]; omega⟩
theorem Fl.trunc_ok {f : Fl} (h : f.Ok) (n : Nat) : (f.trunc n).Ok := by
  have h1 := h.dur
  have h2 := h.len
  exact ⟨by unfold Fl.trunc; simp only [List.length_take]; omega, by unfold Fl.trunc; simp only [List.length_take]; omega⟩
theorem upd_ok {fs : Nat → Fl} (h : ∀ i, (fs i).Ok) (i : Nat) {f : Fl} (hf : f.Ok) : ∀ j, (upd fs i f j).Ok := by
  intro j
  unfold upd
  split
  · exact hf
  · exact h j
theorem crash_ok {d : Dk} (h : Ok d) (keep : List Int) : Ok (crash d keep) := by
  unfold crash
  split
  · exact h
  · exact ⟨fun i => Fl.crash_ok (h.fs i) _, h.lost, by show (0 : Nat) < _; omega⟩
theorem strikes_ok {d : Dk} (h : Ok d) : Ok (strikes d).2 := by
  unfold strikes
  split
  · exact h
  · exact ⟨h.fs, h.lost, by have := h.armed; show d.armed - 1 < _; omega⟩
theorem struck_ok {d : Dk} (h : Ok d) (e : Int) : Ok (struck d e).2 := by
  unfold struck
  split
  · exact crash_ok (strikes_ok h) _
  · exact strikes_ok h
theorem append_ok {d : Dk} (h : Ok d) (f : Int) (s : List UInt8) : Ok (appendD d f s).2 := by
  unfold appendD
  split
  · exact h
  split
  · exact struck_ok h _
  split
  · exact struck_ok h _
  · refine struck_ok (d := { d with fs := upd d.fs f.toNat ⟨(d.fs f.toNat).data ++ s, (d.fs f.toNat).dur⟩ }) ⟨upd_ok h.fs _ ⟨?_, ?_⟩, h.lost, h.armed⟩ _
    · have := (h.fs f.toNat).dur; simp only [List.length_append]; omega
    · simp only [List.length_append]; omega
theorem begin_ok {d : Dk} (h : Ok d) (l : List Int) : Ok (beginD d l).2 := by
  unfold beginD
  split
  · exact h
  · exact struck_ok h _
theorem flush_ok {d : Dk} (h : Ok d) (f : Int) : Ok (flushD d f).2 := by
  have hb := begin_ok h [f]
  unfold flushD
  simp only
  split
  · exact hb
  split
  · exact ⟨hb.fs, by have := hb.lost; show _ - 1 < _; omega, hb.armed⟩
  · exact ⟨upd_ok hb.fs _ ⟨Nat.le_refl _, (hb.fs _).len⟩, hb.lost, hb.armed⟩
theorem cut_ok {d : Dk} (h : Ok d) (f n : Int) : Ok (cutD d f n).2 := by
  have hb := begin_ok h [f]
  unfold cutD
  simp only
  split
  · exact hb
  split
  · exact hb
  · exact ⟨upd_ok hb.fs _ (Fl.trunc_ok (hb.fs _) _), hb.lost, hb.armed⟩
end Go.Proofs.YtlefikdjhnaapaaGreatDoor.Dm
end
section
namespace Go.Proofs.YtlefikdjhnaapaaGreatDoor.Wl
open Go Co Dm
def clearD (d : Dk) (f : Int) : Int × Dk := if size d (f + 1) = 0 then (0, d) else cutD d (f + 1) 0
def trimD (d : Dk) (f : Int) : Int × Dk := if (recs (rowsOf (peek d f).1)).length < (peek d f).1.length then cutD d f ((recs (rowsOf (peek d f).1)).length : Int) else (0, d)
def openD (d : Dk) (f : Int) : Int × Dk :=
 if (peek d f).2 ≠ 0 then ((peek d f).2, d) else
 if (trimD d f).1 ≠ 0 then trimD d f else
 if (clearD (trimD d f).2 f).1 ≠ 0 then clearD (trimD d f).2 f else
 flushD (clearD (trimD d f).2 f).2 f
def addD (d : Dk) (f : Int) (s : By) : Int × Dk := if 1048576 < s.length then (7, d) else appendD d f (rec1 s)
end Go.Proofs.YtlefikdjhnaapaaGreatDoor.Wl
end
section
namespace Go.Proofs.YtlefikdjhnaapaaGreatDoor.Wl
open Go Co Dm
structure Calm (d : Dk) : Prop where
 down : d.down = false
 armed : d.armed = 0
 lost : d.lost = 0
theorem dk0_calm : Calm dk0 := ⟨rfl, rfl, rfl⟩
section
variable {d : Dk} {n : Nat}
theorem kn_nat (hn : n < 8) : kn (n : Int) = true := by simp [kn]; omega
theorem calm_strikes (h : Calm d) : strikes d = (false, d) := by unfold strikes; rw [if_pos h.armed]
theorem calm_struck (h : Calm d) (e : Int) : struck d e = (e, d) := by unfold struck; rw [calm_strikes h]; rfl
theorem calm_begin (h : Calm d) {l : List Int} (hl : l.all kn = true) : beginD d l = (0, d) := by
 unfold beginD; rw [h.down, calm_struck h, hl]; rfl
theorem calm_set (h : Calm d) (fs : Nat → Fl) : Calm { d with fs := fs } := ⟨h.down, h.armed, h.lost⟩
theorem calm_append (h : Calm d) (hn : n < 8) {s : By} (hs : (d.fs n).data.length + s.length ≤ 16777216) : appendD d (n : Int) s = (0, { d with fs := upd d.fs n ⟨(d.fs n).data ++ s, (d.fs n).dur⟩ }) := by
 unfold appendD
 rw [if_neg (by rw [h.down]; decide), if_neg (by rw [kn_nat hn]; decide)]
 simp only [Int.toNat_natCast]
 rw [if_neg (by omega)]
 exact calm_struck (calm_set h _) _
theorem calm_flush (h : Calm d) (hn : n < 8) : flushD d (n : Int) = (0, { d with fs := upd d.fs n ⟨(d.fs n).data, (d.fs n).data.length⟩ }) := by
 unfold flushD
 rw [calm_begin h (by simp [kn_nat hn])]
 simp [h.lost]
theorem calm_cut (h : Calm d) (hn : n < 8) {k : Nat} (hk : k ≤ (d.fs n).data.length) : cutD d (n : Int) (k : Int) = (0, { d with fs := upd d.fs n ((d.fs n).trunc k) }) := by
 unfold cutD
 rw [calm_begin h (by simp [kn_nat hn])]
 have hsz : size d (n : Int) = (d.fs n).data.length := by unfold size; rw [if_pos (kn_nat hn)]; simp
 simp only [ne_eq, not_true_eq_false, if_false, hsz, Int.toNat_natCast]
 rw [if_neg (by omega)]
theorem calm_size (hn : n < 8) : size d (n : Int) = (d.fs n).data.length := by unfold size; rw [if_pos (kn_nat hn)]; simp
theorem calm_peek (h : Calm d) (hn : n < 8) : peek d (n : Int) = ((d.fs n).data, 0) := by
 unfold peek; rw [h.down, kn_nat hn]; simp
theorem calm_clear (h : Calm d) (hn : n + 1 < 8) : ∃ d', clearD d (n : Int) = (0, d') ∧ Calm d' ∧ (d'.fs (n + 1)).data = [] ∧ (Ok d → (d'.fs (n + 1)).dur = 0) ∧ (∀ i, i ≠ n + 1 → d'.fs i = d.fs i) := by
 have e : ((n : Int) + 1) = ((n + 1 : Nat) : Int) := by omega
 unfold clearD
 rw [e, calm_size hn]
 by_cases h0 : (d.fs (n + 1)).data.length = 0
 ·rw [if_pos h0]
  exact ⟨d, rfl, h, List.eq_nil_of_length_eq_zero h0, fun ho => by have := (ho.fs (n + 1)).dur; omega, fun _ _ => rfl⟩
 ·rw [if_neg h0]
  have := calm_cut h hn (k := 0) (Nat.zero_le _)
  refine ⟨_, this, calm_set h _, ?_, fun _ => ?_, fun i hi => upd_ne _ hi _⟩
  ·show (upd _ _ _ _).data = []
   rw [upd_same]; simp [Fl.trunc]
  ·show (upd _ _ _ _).dur = 0
   rw [upd_same]; simp [Fl.trunc]
theorem calm_open (h : Calm d) (hn : n + 1 < 8) : ∃ d', openD d (n : Int) = (0, d') ∧ Calm d' ∧ d'.fs n = ⟨recs (rowsOf (d.fs n).data), (recs (rowsOf (d.fs n).data)).length⟩ ∧ (d'.fs (n + 1)).data = [] ∧ (∀ i, i ≠ n → i ≠ n + 1 → d'.fs i = d.fs i) := by
 unfold openD
 have hsp := (rows_spec (d.fs n).data).1
 have ht : ∃ d1, trimD d (n : Int) = (0, d1) ∧ Calm d1 ∧ (d1.fs n).data = recs (rowsOf (d.fs n).data) ∧ (∀ i, i ≠ n → d1.fs i = d.fs i) := by
  unfold trimD
  rw [calm_peek h (by omega)]
  simp only
  have hl := congrArg List.length hsp
  rw [List.length_append] at hl
  split
  ·rename_i hlt
   refine ⟨_, calm_cut h (by omega) (by omega), calm_set h _, ?_, fun i hi => upd_ne _ hi _⟩
   show (upd _ _ _ _).data = _
   rw [upd_same]
   show (d.fs n).data.take _ = _
   have := List.take_left' (l₁ := recs (rowsOf (d.fs n).data)) (l₂ := tailOf (d.fs n).data) (i := (recs (rowsOf (d.fs n).data)).length) rfl
   rwa [← hsp] at this
  ·rename_i hlt
   refine ⟨d, rfl, h, ?_, fun _ _ => rfl⟩
   have : tailOf (d.fs n).data = [] := List.eq_nil_of_length_eq_zero (by omega)
   rw [this, List.append_nil] at hsp
   exact hsp
 obtain ⟨d1, e1, h1, h2, h3⟩ := ht
 obtain ⟨d2, e2, h4, h5, _, h6⟩ := calm_clear h1 hn
 rw [calm_peek h (by omega), e1]
 simp only [ne_eq, not_true_eq_false, if_false]
 rw [e2]
 simp only [not_true_eq_false, if_false]
 refine ⟨_, calm_flush h4 (by omega), calm_set h4 _, ?_, ?_, fun i hi hi' => ?_⟩
 ·show upd _ _ _ _ = _
  rw [upd_same, h6 n (by omega), h2]
 ·show (upd _ _ _ _).data = _
  rw [upd_ne _ (by omega), h5]
 ·show upd _ _ _ _ = _
  rw [upd_ne _ hi, h6 i hi', h3 i hi]
theorem calm_add (h : Calm d) (hn : n < 8) {s : By} (hs : s.length ≤ 1048576) (hb : (d.fs n).data.length + (rec1 s).length ≤ 16777216) : addD d (n : Int) s = (0, { d with fs := upd d.fs n ⟨(d.fs n).data ++ rec1 s, (d.fs n).dur⟩ }) := by
 unfold addD
 rw [if_neg (by omega), calm_append h hn hb]
theorem calm_add' (h : Calm d) (hn : n < 8) {s : By} (hs : s.length ≤ 1048576) (hb : (d.fs n).data.length + (rec1 s).length ≤ 16777216) : ∃ d', addD d (n : Int) s = (0, d') ∧ Calm d' ∧ d'.fs n = ⟨(d.fs n).data ++ rec1 s, (d.fs n).dur⟩ ∧ ∀ i, i ≠ n → d'.fs i = d.fs i :=
 ⟨_, calm_add h hn hs hb, calm_set h _, upd_same _ _ _, fun _ hi => upd_ne _ hi _⟩
theorem calm_flush' (h : Calm d) (hn : n < 8) : ∃ d', flushD d (n : Int) = (0, d') ∧ Calm d' ∧ d'.fs n = ⟨(d.fs n).data, (d.fs n).data.length⟩ ∧ ∀ i, i ≠ n → d'.fs i = d.fs i :=
 ⟨_, calm_flush h hn, calm_set h _, upd_same _ _ _, fun _ hi => upd_ne _ hi _⟩
end
end Go.Proofs.YtlefikdjhnaapaaGreatDoor.Wl
end
section
namespace Go.Proofs.YtlefikdjhnaapaaGreatDoor.Ql
open Go Co Sg Ac It Sl Wl
abbrev dg (e : It.Entry) : By := It.digest e.item
abbrev rowsB (E : List It.Entry) : List By := E.map entryB
def nextT (E : List It.Entry) (now : Int) : Int := match E.getLast? with
 | none => now
 | some e => max now e.time
def saddD (d : Dm.Dk) (f : Int) (E : List It.Entry) (it : It.Item) (now : Int) : (Int × Int) × Dm.Dk × List It.Entry :=
 if It.right it = true ∧ 0 ≤ now ∧ now ≤ 1099511627776 then
  if It.digest it ∈ E.map dg then ((0, 13), d, E)
  else if (addD d f (entryB ⟨nextT E now, it⟩)).1 = 0 then ((E.length, 0), (addD d f (entryB ⟨nextT E now, it⟩)).2, E ++ [⟨nextT E now, it⟩])
  else ((0, (addD d f (entryB ⟨nextT E now, it⟩)).1), (addD d f (entryB ⟨nextT E now, it⟩)).2, E)
 else ((0, 1), d, E)
def windowE (E : List It.Entry) (fl : Nat) (frm n : Int) : List It.Entry := if n ≤ 0 then [] else ((E.take fl).drop frm.toNat).take n.toNat
def lastT (E : List It.Entry) : Int := match E.getLast? with
 | none => 0
 | some e => e.time
def headE (k : Key) (server : Int) (E : List It.Entry) (fl : Nat) : Head := mkHead k server (E.take fl) (lastT (E.take fl))
end Go.Proofs.YtlefikdjhnaapaaGreatDoor.Ql
end
section
namespace Go.Proofs.YtlefikdjhnaapaaGreatDoor.Pe
open Go Sm Mk
set_option maxRecDepth 100000
abbrev slf (l : List By) : AV := .sl .full (l.map .st)
theorem leaf_c (l : List UInt8) (h : l.length ≤ 1000000) : AC Tryz.prog 55 [.st l] [] (.st (leaf l)) [] := by
 refine AC.enter [91] [] Tryz.func55 rfl (by decide) (by decide) (Nat.le_of_ble_eq_true rfl) (by kernel_rfl) ?_; refine zev ?_
 refine run ?_
 refine call_pure (sha_c (0 :: l) (by simp; omega)) (by rfl) (by rfl) (by rfl) ?_
 refine run ?_
 exact ends_ret0 (by rfl) (by rfl) (by rfl)
theorem node_c (l r : List UInt8) (h : l.length ≤ 1000000) (h' : r.length ≤ 1000000) : AC Tryz.prog 113 [.st l, .st r] [] (.st (node l r)) [] := by
 refine AC.enter [91] [] Tryz.func113 rfl (by decide) (by decide) (Nat.le_of_ble_eq_true rfl) (by kernel_rfl) ?_; refine zev ?_
 refine run ?_
 refine call_pure (sha_c (1 :: (l ++ r)) (by simp; omega)) (by rfl) (by rfl) (by rfl) ?_
 refine run ?_
 exact ends_ret0 (by rfl) (by rfl) (by rfl)
theorem sp_pow {n : Nat} (h : 2 ≤ n) : 2 ^ (blen (n - 1) - 1) = sp n := by
 unfold blen sp
 rw [if_neg (by omega)]
 rfl
theorem split_c (n : Nat) (h : 2 ≤ n) (h' : n < 9223372036854775808) : AC Tryz.prog 192 [.it .i64 n] [] (.it .i64 (sp n)) [] := by
 refine AC.enter [195] [] Tryz.func192 rfl (by decide) (by decide) (Nat.le_of_ble_eq_true rfl) (by kernel_rfl) ?_; refine zev ?_
 have hu : IntKind.u64.wrap ((n : Int) - 1) = ((n - 1 : Nat) : Int) := by
  rw [show (n : Int) - 1 = ((n - 1 : Nat) : Int) from by omega, wrap64n]
  simp; omega
 refine runf @hu ?_
 refine call_pure (len64_c (n - 1) (by omega)) (by rfl) (by rfl) (by rfl) ?_
 have hb := blen_le (n - 1)
 have hs : aShl .i64 1 ((blen (n - 1) : Int) - 1) = some (.it .i64 (sp n : Int)) := by
  have h1 := sp_lt h
  have h2 := sp_pow h
  have h3 : 0 < blen (n - 1) := by unfold blen; rw [if_neg (by omega)]; omega
  have h4 : blen (n - 1) ≤ 63 := by
   unfold blen
   rw [if_neg (by omega)]
   have := (Nat.log2_lt (n := n - 1) (k := 63) (by omega)).2 (by omega)
   omega
  unfold aShl
  rw [if_pos (by omega)]
  congr 2
  rw [show ((blen (n - 1) : Int) - 1).toNat = blen (n - 1) - 1 from by omega, show min (blen (n - 1) - 1) IntKind.i64.bits = blen (n - 1) - 1 from Nat.min_eq_left (by show _ ≤ 64; omega)]
  rw [show (1 : Int) * 2 ^ (blen (n - 1) - 1) = ((2 ^ (blen (n - 1) - 1) : Nat) : Int) from by push_cast; omega, h2]
  exact wrap64 (by omega) (by omega)
 refine runf @hs ?_
 exact ends_ret0 (by rfl) (by rfl) (by rfl)
theorem halves_c (l : List By) (h : 2 ≤ l.length) (h' : l.length ≤ 1000000) : AC Tryz.prog 112 [sls l] [] (.tup [slf (l.take (sp l.length)), slf (l.drop (sp l.length))]) [] := by
 refine AC.enter [192] [] Tryz.func112 rfl (by decide) (by decide) (Nat.le_of_ble_eq_true rfl) (by kernel_rfl) ?_; refine zev ?_
 refine run ?_
 refine call_pure (split_c l.length h (by omega)) (by rfl) (by rfl) (by rfl) ?_
 have h1 := sp_lt h
 have h2 := sp_pos l.length
 refine run ?_
 refine ends_ret0 (by rfl) (by rfl) ?_
 simp only [resV, aRes, ↓upd_apply, ↓put_some, ↓reduceIte, Nat.reduceEqDiff, ↓argEnv_zero, ↓argEnv_succ, Option.map_some, List.take_length, List.drop_zero, AV.wk, AV.wk2, AV.wk1, List.map_cons, List.map_nil]
theorem sha_len (l : List UInt8) : (sha l).length = 32 := by
 simp [sha, S8.list, be4]
def box (f : FuncId) : SObj := .cells [.fn (.func f) [] [.ptr 0 0]]
theorem boxR {P : Program} {f g : FuncId} {l : List By} {s : By} (h : AC P f [sls l, .ptr 0 0] [box g] (.st s) [box g]) (R : Store) : AC P f [sls l, .ptr 0 0] ([box g] ++ R) (.st s) ([box g] ++ R) := AC.at1 (T := [box g] ++ R) h 0 rfl rfl rfl rfl rfl
theorem rt_len {l : List By} (h : ∀ x ∈ l, x.length ≤ 1000000) : (rt l).length ≤ 1000000 := by
 by_cases h2 : 2 ≤ l.length
 ·rw [rt_two h2, node, sha_len]; omega
 ·rw [rt_one (by omega)]
  cases l with
  | nil => simp
  | cons a l => exact h a (by simp)
theorem root1_c (k : Nat) : ∀ (l : List By), l.length ≤ k → 1 ≤ l.length → l.length ≤ 1000000 → (∀ x ∈ l, x.length ≤ 1000000) →
  AC Tryz.prog 111 [sls l, .ptr 0 0] [box 111] (.st (rt l)) [box 111] := by
 induction k with
 | zero => intro l h1 h2; omega
 | succ k ih =>
  intro l hk h1 hl hx
  refine AC.enter [112, 113] [1000017, 1000020] Tryz.func111 rfl (by decide) (by decide) (Nat.le_of_ble_eq_true rfl) (by kernel_rfl) ?_; refine zev ?_
  refine run ?_
  refine iteP_mk (fun hc => ?_) (fun hc => ?_)
  ·have hc : l.length = 1 := by simp at hc; omega
   obtain ⟨a, rfl⟩ := List.length_eq_one_iff.1 hc
   refine run ?_
   exact ends_ret (κ := [0]) (by rfl) (subOk_one 0 (by rfl) (by rfl)) (by rfl) (by rfl) (by rfl)
  ·have hc : l.length ≠ 1 := by simp at hc; omega
   have h2 : 2 ≤ l.length := by omega
   have h3 := sp_lt h2
   have h4 := sp_pos l.length
   refine run ?_
   refine call_pure (halves_c l h2 hl) (by rfl) (by rfl) (by rfl) ?_
   refine runf @box.eq_1 ?_
   refine call_mk ⟨boxR (ih (l.take (sp l.length)) (by simp; omega) (by simp; omega) (by simp; omega) (fun x hx' => hx x (List.mem_of_mem_take hx'))), rfl⟩ ?_
   refine runf @box.eq_1 ?_
   refine call_mk ⟨boxR (ih (l.drop (sp l.length)) (by simp; omega) (by simp; omega) (by simp; omega) (fun x hx' => hx x (List.mem_of_mem_drop hx'))), rfl⟩ ?_
   refine runf @box.eq_1 ?_
   refine call_pure (node_c (rt (l.take (sp l.length))) (rt (l.drop (sp l.length))) (rt_len (fun x hx' => hx x (List.mem_of_mem_take hx'))) (rt_len (fun x hx' => hx x (List.mem_of_mem_drop hx')))) (by rfl) (by rfl) (by rfl) ?_
   refine runf @box.eq_1 ?_
   rw [rt_two h2]
   exact ends_ret (κ := [0]) (by rfl) (subOk_one 0 (by rfl) (by rfl)) (by rfl) (by rfl) (by rfl)
theorem root_c (l : List By) (hl : l.length ≤ 1000000) (hx : ∀ x ∈ l, x.length ≤ 1000000) : AC Tryz.prog 58 [sls l] [] (.st (root l)) [] := by
 refine AC.enter [91] [] Tryz.func58 rfl (by decide) (by decide) (Nat.le_of_ble_eq_true rfl) (by kernel_rfl) ?_; refine zev ?_
 by_cases h0 : l.length = 0
 ·refine run ?_
  refine call_pure (sha_c [] (by simp)) (by rfl) (by rfl) (by rfl) ?_
  refine run ?_
  have : root l = sha [] := if_pos (List.eq_nil_of_length_eq_zero h0)
  rw [this]
  exact ends_ret0 (by rfl) (by rfl) (by rfl)
 ·refine run ?_
  refine call_mk (root1_c l.length l (Nat.le_refl _) (by omega) hl hx) ?_
  refine runf @box.eq_1 ?_
  have : root l = rt l := if_neg (fun e => h0 (by rw [e]; rfl))
  rw [this]
  exact ends_ret0 (by rfl) (by rfl) (by rfl)
end Go.Proofs.YtlefikdjhnaapaaGreatDoor.Pe
namespace Go.Proofs.YtlefikdjhnaapaaGreatDoor.Pe
open Go Sm Mk
set_option maxRecDepth 100000
end Go.Proofs.YtlefikdjhnaapaaGreatDoor.Pe
namespace Go.Proofs.YtlefikdjhnaapaaGreatDoor.Pe
open Go Sm Mk
set_option maxRecDepth 100000
end Go.Proofs.YtlefikdjhnaapaaGreatDoor.Pe
namespace Go.Proofs.YtlefikdjhnaapaaGreatDoor.Pe
open Go Sm Mk
set_option maxRecDepth 100000
end Go.Proofs.YtlefikdjhnaapaaGreatDoor.Pe
namespace Go.Proofs.YtlefikdjhnaapaaGreatDoor.Pe
open Go Sm Mk
set_option maxRecDepth 100000
end Go.Proofs.YtlefikdjhnaapaaGreatDoor.Pe
end
section
namespace Go.Proofs.YtlefikdjhnaapaaGreatDoor.Pe
open Go Go.RowKit Co Sg Ac It Sl
set_option maxRecDepth 100000
set_option maxHeartbeats 4000000
abbrev headV (h : Head) : AV := .agg [.it .i64 h.server, .it .i64 h.size, .st h.root, .it .i64 h.time, .it .i64 h.sig.e, .it .i64 h.sig.s]
abbrev entriesV (l : List It.Entry) : AV := .sl .ro (l.map entryV)
theorem entryB_len (e : It.Entry) : (entryB e).length ≤ 200009 := by
 unfold entryB
 split
 ·rename_i h
  rw [Bool.and_eq_true] at h
  have h1 := wi_iff.1 h.1
  have := numI_le e.time (by omega)
  have := bytesIt_len6 e.item
  rw [List.length_append]
  omega
 ·exact Nat.zero_le _
theorem entries_sz (l : List It.Entry) : allSz 50 (l.map entryV) = true := allSz_map 50 entryV (fun _ => rfl) _
theorem sleaf_c (e : It.Entry) (h : Iz e.item) : AC Tryz.prog 41 [entryV e] [] (.st (leafE e)) [] := by
 refine AC.enter [35, 55] [] Tryz.func41 rfl (by decide) (by decide) (Nat.le_of_ble_eq_true rfl) (by kernel_rfl) ?_; refine zev ?_
 have hl := entryB_len e
 have k1 := entryBytes_c e h
 have k2 := leaf_c (entryB e) (by omega)
 refine run ?_
 refine cp k1 ?_
 refine run ?_
 refine cp k2 ?_
 refine run ?_
 exact er0
theorem sroot_c (l : List It.Entry) (hl : l.length ≤ 1000000) (hz : ∀ e ∈ l, Iz e.item) : AC Tryz.prog 44 [entriesV l] [] (.st (rootE l)) [] := by
 refine AC.enter [41, 58] [] Tryz.func44 rfl (by decide) (by decide) (Nat.le_of_ble_eq_true rfl) (by kernel_rfl) ?_; refine zev ?_
 have hsz := entries_sz l
 refine run ?_
 refine loop_mk (fun m e S => e 9 = entriesV l ∧ e 10 = .it .i64 (l.length : Int) ∧ ∃ (k : Nat) (acc : List By) (T : Store), e 11 = .it .i64 (k : Int) ∧ e 3 = .sl (.own 0) (acc.map .st) ∧ S = .buf acc.length 9 1 :: T ∧ acc = (l.take k).map leafE ∧ k ≤ l.length ∧ m = l.length - k) l.length
  ⟨zsl, zsl, 0, [], [], zsl, zsl, rfl, by simp, by omega, rfl⟩ ?_
 rintro m e S ⟨s9, s10, k, acc, T, s11, s3, rfl, hacc, hk, rfl⟩
 have hT1 : ∀ y : SObj, (T ++ [y])[T.length]? = some y := fun y => by simp
 have hT2 : ∀ y z : SObj, (T ++ [y]).set T.length z = T ++ [z] := fun y z => by simp
 have hal : acc.length = k := by rw [hacc, List.length_map, List.length_take, Nat.min_eq_left hk]
 by_cases hlt : k < l.length
 ·have hg : l[k]? = some l[k] := List.getElem?_eq_getElem hlt
  have hzk := hz l[k] (List.getElem_mem hlt)
  have hst : acc ++ [leafE l[k]] = (l.take (k + 1)).map leafE := by rw [List.take_succ_eq_append_getElem hlt, List.map_append, ← hacc]; rfl
  generalize l[k] = x at *
  have kx := sleaf_c x hzk
  refine runf (an @s9 (an @s10 (an @s11 (an @s3 (an @hg (an @hsz (an @hT1 @hT2))))))) ?_
  refine cp kx ?_
  refine runf (an @s9 (an @s10 (an @s11 @s3))) ?_
  exact round_mk (l.length - (k + 1)) (by omega) ⟨zsl, zsl, k + 1, acc ++ [leafE x], _, zsl, by rw [List.map_append]; exact zsl, by rw [List.length_append]; rfl, hst, by omega, rfl⟩
 ·obtain rfl : k = l.length := by omega
  rw [List.take_length] at hacc
  have kr := root_c acc (by omega) (fun x hx => by rw [hacc] at hx; rw [leaves_dig l x hx]; decide)
  rw [show rootE l = Mk.root acc from by rw [hacc]; rfl]
  refine runf (an @s9 (an @s10 (an @s11 @s3))) ?_
  refine cp kr ?_
  refine runf @s3 ?_
  exact er0
theorem rightH_lin {h : Head} : rightH h = true ↔ (0 ≤ h.server ∧ h.server ≤ 19) ∧ (0 ≤ h.size ∧ h.size ≤ 1073741824) ∧ (0 ≤ h.time ∧ h.time ≤ 1099511627776) ∧ h.root.length = 32 ∧ (0 ≤ h.sig.e ∧ h.sig.e ≤ 2305843009213693949) ∧ (0 ≤ h.sig.s ∧ h.sig.s ≤ 2305843009213693949) := by
 rw [rightH_iff]
 simp only [sigR, Bool.and_eq_true, wi_iff]
theorem sright_c (h : Head) : AC Tryz.prog 48 [headV h] [] (.bo (rightH h)) [] := by
 refine AC.enter [] [] Tryz.func48 rfl (by decide) (by decide) (Nat.le_of_ble_eq_true rfl) (by kernel_rfl) ?_; refine zev ?_
 have hf : ¬ ((0 ≤ h.server ∧ h.server ≤ 19) ∧ (0 ≤ h.size ∧ h.size ≤ 1073741824) ∧ (0 ≤ h.time ∧ h.time ≤ 1099511627776) ∧ h.root.length = 32 ∧ (0 ≤ h.sig.e ∧ h.sig.e ≤ 2305843009213693949) ∧ (0 ≤ h.sig.s ∧ h.sig.s ≤ 2305843009213693949)) → rightH h = false := fun hn => Bool.eq_false_iff.2 fun r => hn (rightH_lin.1 r)
 by_cases h1 : 0 ≤ h.server
 rotate_left
 ·rw [hf (by omega)]
  refine run ?_
  exact er0
 by_cases h2 : h.server < 20
 rotate_left
 ·rw [hf (by omega)]
  refine run ?_
  exact er0
 by_cases h3 : 0 ≤ h.size
 rotate_left
 ·rw [hf (by omega)]
  refine run ?_
  exact er0
 by_cases h4 : h.size ≤ 1073741824
 rotate_left
 ·rw [hf (by omega)]
  refine run ?_
  exact er0
 by_cases h5 : 0 ≤ h.time
 rotate_left
 ·rw [hf (by omega)]
  refine run ?_
  exact er0
 by_cases h6 : h.time ≤ 1099511627776
 rotate_left
 ·rw [hf (by omega)]
  refine run ?_
  exact er0
 by_cases h7 : h.root.length = 32
 rotate_left
 ·have h7' : ¬ (h.root.length : Int) = 32 := by omega
  rw [hf (by omega)]
  refine runf @h7' ?_
  exact er0
 have h7' : (h.root.length : Int) = 32 := by omega
 by_cases h8 : 0 ≤ h.sig.e
 rotate_left
 ·rw [hf (by omega)]
  refine runf @h7' ?_
  exact er0
 by_cases h9 : h.sig.e ≤ 2305843009213693949
 rotate_left
 ·rw [hf (by omega)]
  refine runf @h7' ?_
  exact er0
 by_cases h10 : 0 ≤ h.sig.s
 rotate_left
 ·rw [hf (by omega)]
  refine runf @h7' ?_
  exact er0
 by_cases h11 : h.sig.s ≤ 2305843009213693949
 rotate_left
 ·rw [hf (by omega)]
  refine runf @h7' ?_
  exact er0
 rw [rightH_lin.2 (by omega)]
 refine runf @h7' ?_
 exact er0
theorem coreH_len {h : Head} (h1 : h.server < 9223372036854775808) (h2 : h.size < 9223372036854775808) (h3 : h.time < 9223372036854775808) (h4 : h.root.length ≤ 1000000) : (coreH h).length ≤ 1000100 := by
 have n1 := numI_le h.server h1
 have n2 := numI_le h.size h2
 have n3 := numI_le h.time h3
 have t1 := text_len h4
 have tw : (text wHead).length = 5 := rfl
 unfold coreH
 simp only [List.length_append]
 omega
theorem score_c (h : Head) (hr : rightH h = true) : AC Tryz.prog 95 [headV h] [] (.st (coreH h)) [] := by
 refine AC.enter [56, 57] [] Tryz.func95 rfl (by decide) (by decide) (Nat.le_of_ble_eq_true rfl) (by kernel_rfl) ?_; refine zev ?_
 have hh := rightH_lin.1 hr
 have n1 := numI_le h.server (by omega)
 have n2 := numI_le h.size (by omega)
 have n3 := numI_le h.time (by omega)
 have t1 := text_len (s := h.root) (by omega)
 have tw : (text wHead).length = 5 := rfl
 unfold coreH
 refine run ?_
 refine cp (text_c wHead (by simp)) ?_
 refine run ?_
 refine cp (num_c h.server (by omega) (by omega)) ?_
 refine run ?_
 refine cp (num_c h.size (by omega) (by omega)) ?_
 refine run ?_
 refine cp (text_c h.root (by omega)) ?_
 refine run ?_
 refine cp (num_c h.time (by omega) (by omega)) ?_
 refine run ?_
 exact er0
theorem coreR_lenH {h : Head} (hr : rightH h = true) : (coreH h).length ≤ 1000100 := by
 have hh := rightH_lin.1 hr
 exact coreH_len (by omega) (by omega) (by omega) (by omega)
theorem sverify_c (p : Int) (h : Head) (hp : -9223372036854775808 ≤ p ∧ p ≤ 9223372036854775807) : AC Tryz.prog 50 [.it .i64 p, headV h] [] (.bo (verifyH p h)) [] := by
 refine AC.enter [48, 95, 59] [] Tryz.func50 rfl (by decide) (by decide) (Nat.le_of_ble_eq_true rfl) (by kernel_rfl) ?_; refine zev ?_
 have kr := sright_c h
 unfold verifyH
 cases hr : rightH h with
 | false =>
  rw [hr] at kr
  refine run ?_
  refine cp kr ?_
  refine run ?_
  exact er0
 | true =>
  rw [hr] at kr
  have hh := rightH_lin.1 hr
  have hc := coreR_lenH hr
  have kc := score_c h hr
  have kv := verify_c p (coreH h) h.sig (by omega) hp (by omega)
  refine run ?_
  refine cp kr ?_
  refine run ?_
  refine cp kc ?_
  refine run ?_
  refine cp kv ?_
  refine run ?_
  exact er0
theorem shead_c (k : Key) (server : Int) (l : List It.Entry) (time : Int) (hk : -9223372036854775808 ≤ k.secret ∧ k.secret ≤ 9223372036854775807) (hl : l.length ≤ 1000000) (hz : ∀ e ∈ l, Iz e.item) :
  AC Tryz.prog 38 [keyV k, .it .i64 server, entriesV l, .it .i64 time] [] (headV (mkHead k server l time)) [] := by
 refine AC.enter [54, 44, 48, 95, 94] [] Tryz.func38 rfl (by decide) (by decide) (Nat.le_of_ble_eq_true rfl) (by kernel_rfl) ?_; refine zev ?_
 have k1 := keyright_c k hk
 have k2 := sroot_c l hl hz
 unfold mkHead
 cases hr : k.right with
 | false =>
  rw [if_neg (by simp)]
  rw [hr] at k1
  refine run ?_
  refine cp k1 ?_
  refine run ?_
  exact er0
 | true =>
  rw [if_pos rfl]
  rw [hr] at k1
  have k3 := sright_c ⟨server, l.length, rootE l, time, sig0⟩
  cases hh : rightH ⟨server, l.length, rootE l, time, sig0⟩ with
  | false =>
   rw [hh] at k3
   simp only [hh, Bool.false_eq_true, if_false]
   refine run ?_
   refine cp k1 ?_
   refine run ?_
   refine cp k2 ?_
   refine run ?_
   refine cp k3 ?_
   refine run ?_
   exact er0
  | true =>
   rw [hh] at k3
   simp only [hh, if_true]
   have k4 := score_c ⟨server, l.length, rootE l, time, sig0⟩ hh
   have hc := coreR_lenH hh
   have k5 := sign_c k (coreH ⟨server, l.length, rootE l, time, sig0⟩) (by omega) hk
   generalize coreH ⟨server, l.length, rootE l, time, sig0⟩ = c at *
   generalize sign k c = sg at *
   refine run ?_
   refine cp k1 ?_
   refine run ?_
   refine cp k2 ?_
   refine run ?_
   refine cp k3 ?_
   refine run ?_
   refine cp k4 ?_
   refine run ?_
   refine cp k5 ?_
   refine run ?_
   exact er0
theorem times_bad {l : List It.Entry} {k : Nat} (hk : k + 1 < l.length) (h : l[k + 1].time < l[k].time) : times l = false := by
 rw [Bool.eq_false_iff]
 intro ht
 have := times_iff.1 ht k hk
 omega
theorem stimes_c (l : List It.Entry) (hl : l.length ≤ 140737488355328) : AC Tryz.prog 46 [entriesV l] [] (.bo (times l)) [] := by
 refine AC.enter2 [] [] Tryz.func46 rfl (by decide) (by decide) (Nat.le_of_ble_eq_true rfl) (by kernel_rfl) ?_; refine zev ?_
 have hsz := entries_sz l
 refine run ?_
 refine loop_mk (fun m e S => S = [] ∧ e 0 = entriesV l ∧ ∃ k : Nat, e 3 = .it .i64 ((k + 1 : Nat) : Int) ∧ (∀ j (h : j + 1 < l.length), j < k → l[j].time ≤ l[j + 1].time) ∧ m = l.length - k) l.length
  ⟨rfl, zsl, 0, zsl, fun j _ h => absurd h (Nat.not_lt_zero _), rfl⟩ ?_
 rintro m e S ⟨rfl, s0, k, s3, hall, rfl⟩
 by_cases hlt : k + 1 < l.length
 rotate_left
 ·rw [times_iff.2 fun j h => hall j h (by omega)]
  have hlt' : ¬ ((k + 1 : Nat) : Int) < (l.length : Int) := by omega
  refine runf (an @s0 (an @s3 @hlt')) ?_
  exact er0
 have hlt' : ((k + 1 : Nat) : Int) < (l.length : Int) := by omega
 have hg1 : l[k + 1]? = some l[k + 1] := List.getElem?_eq_getElem hlt
 have hg0 : l[k]? = some l[k] := List.getElem?_eq_getElem (by omega)
 have hc : ((k + 1 : Nat) : Int) - 1 = (k : Int) := by omega
 have hbad := times_bad hlt
 have hgood : l[k].time ≤ l[k + 1].time → ∀ j (h : j + 1 < l.length), j < k + 1 → l[j].time ≤ l[j + 1].time := fun h j hj hjk => by
  by_cases e : j = k
  ·subst e; exact h
  ·exact hall j hj (by omega)
 generalize l[k + 1] = x at *
 generalize l[k] = y at *
 by_cases ht : x.time < y.time
 ·rw [hbad ht]
  refine runf (an @s0 (an @s3 (an @hlt' (an @hg1 (an @hg0 (an @hc @hsz)))))) ?_
  exact er0
 ·refine runf (an @s0 (an @s3 (an @hlt' (an @hg1 (an @hg0 (an @hc @hsz)))))) ?_
  exact round_mk (l.length - (k + 1)) (by omega) ⟨rfl, zsl, k + 1, zsl, hgood (by omega), rfl⟩
theorem sheadBytes_c (h : Head) : AC Tryz.prog 52 [headV h] [] (.st (headB h)) [] := by
 refine AC.enter [48, 95, 57] [] Tryz.func52 rfl (by decide) (by decide) (Nat.le_of_ble_eq_true rfl) (by kernel_rfl) ?_; refine zev ?_
 have kr := sright_c h
 unfold headB
 cases hr : rightH h with
 | false =>
  rw [hr] at kr
  rw [if_neg (by simp)]
  refine run ?_
  refine cp kr ?_
  refine run ?_
  exact er0
 | true =>
  rw [hr] at kr
  rw [if_pos rfl]
  have hh := rightH_lin.1 hr
  have hc := coreR_lenH hr
  have kc := score_c h hr
  have n1 := numI_le h.sig.e (by omega)
  have n2 := numI_le h.sig.s (by omega)
  generalize coreH h = c at *
  refine run ?_
  refine cp kr ?_
  refine run ?_
  refine cp kc ?_
  refine run ?_
  refine cp (num_c h.sig.e (by omega) (by omega)) ?_
  refine run ?_
  refine cp (num_c h.sig.s (by omega) (by omega)) ?_
  refine run ?_
  exact er0
theorem readHead_c (s : By) (hs : s.length ≤ 1000000) : AC Tryz.prog 39 [.st s] [] (.tup [headV (readHead s).1, .bo (readHead s).2]) [] := by
 refine AC.enter [48, 52] [] Tryz.func39 rfl (by decide) (by decide) (Nat.le_of_ble_eq_true rfl) (by kernel_rfl) ?_; refine zev ?_
 obtain ⟨n, x0, e0, b0, d0, k0⟩ := rtext_s ⟨s, false⟩ hs
 obtain ⟨server, x1, e1, b1, d1, k1⟩ := rnum_s x0 b0
 obtain ⟨size, x2, e2, b2, d2, k2⟩ := rnum_s x1 b1
 obtain ⟨root, x3, e3, b3, d3, k3⟩ := rtext_s x2 b2
 obtain ⟨time, x4, e4, b4, d4, k4⟩ := rnum_s x3 b3
 obtain ⟨se, x5, e5, b5, d5, k5⟩ := rnum_s x4 b4
 obtain ⟨ss, x6, e6, b6, d6, k6⟩ := rnum_s x5 b5
 have hread : readHead s = if n = wHead ∧ x6.done = true ∧ rightH ⟨server, size, root, time, ⟨se, ss⟩⟩ = true ∧ headB ⟨server, size, root, time, ⟨se, ss⟩⟩ = s then (⟨server, size, root, time, ⟨se, ss⟩⟩, true) else (head0, false) := by
  unfold readHead rHead rSig
  simp only [e0, e1, e2, e3, e4, e5, e6]
 have kd := done_c x6
 change AC _ _ _ _ (.bo x6.done) _ at kd
 have kr := sright_c ⟨server, size, root, time, ⟨se, ss⟩⟩
 have kb := sheadBytes_c ⟨server, size, root, time, ⟨se, ss⟩⟩
 generalize headB ⟨server, size, root, time, ⟨se, ss⟩⟩ = bs at *
 generalize rightH ⟨server, size, root, time, ⟨se, ss⟩⟩ = rr at *
 generalize x6.done = dn at *
 refine run ?_
 refine call_mk (AC.newAt (open_c s) _) ?_
 refine run ?_
 refine c1 1 k0 ?_
 by_cases hn : n = wHead
 rotate_left
 ·rw [if_neg (fun h => hn h.1)] at hread
  rw [hread]
  have hne := nilI n wHead hn
  refine runf @hne ?_
  exact er0w
 subst hn
 refine run ?_
 refine c1 1 k1 ?_
 refine run ?_
 refine c1 1 k2 ?_
 refine run ?_
 refine c1 1 k3 ?_
 refine run ?_
 refine c1 1 k4 ?_
 refine run ?_
 refine c1 1 k5 ?_
 refine run ?_
 refine c1 1 k6 ?_
 refine run ?_
 refine c1 1 kd ?_
 cases dn with
 | false =>
  rw [if_neg (fun h => by cases h.2.1)] at hread
  rw [hread]
  refine run ?_
  exact er0w
 | true =>
  refine run ?_
  refine cp kr ?_
  cases rr with
  | false =>
   rw [if_neg (fun h => by cases h.2.2.1)] at hread
   rw [hread]
   refine run ?_
   exact er0w
  | true =>
   refine run ?_
   refine cp kb ?_
   by_cases hb : bs = s
   ·subst hb
    rw [if_pos ⟨rfl, rfl, rfl, rfl⟩] at hread
    rw [hread]
    refine run ?_
    exact er0w
   ·rw [if_neg (fun h => hb h.2.2.2)] at hread
    rw [hread]
    have hne := nilI bs s hb
    refine runf @hne ?_
    exact er0w
end Go.Proofs.YtlefikdjhnaapaaGreatDoor.Pe
end
section
namespace Go.Proofs.YtlefikdjhnaapaaGreatDoor
open Go Go.RowKit Dm
def bl : Value → Option Nat
  | .slice (some a) _ (_ + 1) => some a.block
  | _ => none
theorem bl_lit (b n c : Nat) (hc : 0 < c) : bl (.slice (some ⟨b, 0, none⟩) n c) = some b := by
  obtain ⟨c, rfl⟩ := Nat.exists_eq_succ_of_ne_zero (Nat.ne_of_gt hc)
  rfl
theorem bl_none (A : Option Addr) (n : Nat) : bl (.slice A n 0) = none := by cases A <;> rfl
def Fil (w : World) (v : Value) (l : List UInt8) : Prop :=
  (∃ A, v = .slice A 0 0 ∧ l = []) ∨ ∃ b cap, v = .slice (some ⟨b, 0, none⟩) l.length cap ∧ 0 < cap ∧ Own w 0 5 1 v (l.map w8)
section
variable {w w' : World} {v : Value} {l : List UInt8}
theorem Fil.nil (w : World) : Fil w (.slice none 0 0) [] := .inl ⟨none, rfl, rfl⟩
theorem Fil.block (h : Fil w v l) : ∀ b, bl v = some b → b < w.heap.size := by
  rcases h with ⟨A, rfl, _⟩ | ⟨b, cap, rfl, hc, hown⟩
  · intro b h; rw [bl_none] at h; cases h
  · intro b' h
    rw [bl_lit _ _ _ hc] at h
    cases h
    exact (hown.block b rfl).2
theorem Fil.keep (h : Fil w v l) (hk : ∀ b, bl v = some b → w'.heap[b]? = w.heap[b]?) : Fil w' v l := by
  rcases h with h | ⟨b, cap, rfl, hc, hown⟩
  · exact .inl h
  · refine .inr ⟨b, cap, rfl, hc, hown.keep fun g hg => ?_⟩
    have : b = g := by simpa [Value.ownBlock] using hg
    subst this
    exact hk _ (bl_lit _ _ _ hc)
theorem Fil.rd (h : Fil w v l) : Rd w w.heap.size 1 v (l.map w8) := by
  rcases h with ⟨A, rfl, rfl⟩ | ⟨b, cap, rfl, hc, hown⟩
  · exact ⟨A, 0, 0, rfl, Nat.le_refl _, by simp, fun h => absurd h (by omega)⟩
  · exact hown.rd
theorem Fil.form (h : Fil w v l) : ∃ A c, v = .slice A l.length c ∧ l.length ≤ c := by
  obtain ⟨A, c, h1, h2⟩ := h.rd.len
  rw [List.length_map] at h1 h2
  exact ⟨A, c, h1, h2⟩
theorem Fil.take {A : Option Addr} {c : Nat} (h : Fil w (.slice A l.length c) l) (n : Nat) (hn : n ≤ l.length) : Fil w (.slice A n c) (l.take n) := by
  rcases h with ⟨A', h, rfl⟩ | ⟨b, cap, h, hc, hown⟩
  · simp only [Value.slice.injEq] at h
    obtain ⟨rfl, _, rfl⟩ := h
    have : n = 0 := by simpa using hn
    subst this
    exact .inl ⟨A, rfl, by simp⟩
  · simp only [Value.slice.injEq] at h
    obtain ⟨rfl, _, rfl⟩ := h
    refine .inr ⟨b, c, by rw [List.length_take, Nat.min_eq_left hn], hc, ?_⟩
    rcases hown with ⟨h, _⟩ | ⟨g, n', cap, cur, fr, h, hb, hg, hfr, hnc, hcm, hcs, hl, htake⟩
    · cases h
    · simp only [Value.slice.injEq, Option.some.injEq, Addr.mk.injEq] at h
      obtain ⟨⟨rfl, _⟩, rfl, rfl⟩ := h
      refine .inr ⟨b, n, c, cur, fr, rfl, hb, hg, hfr, by omega, hcm, hcs, by simp; omega, ?_⟩
      rw [Nat.mul_one] at htake ⊢
      rw [List.map_take, ← htake, List.take_take, Nat.min_eq_left hn]
theorem Fil.bl_take (A : Option Addr) (n m c : Nat) : bl (.slice A n c) = bl (.slice A m c) := by
  cases A <;> cases c <;> rfl
end
def Kp (w : World) (v : Value) (ks : List Int) : Prop :=
  ∃ A c, v = .slice A ks.length c ∧ ks.length ≤ c ∧ (0 < ks.length → ∃ b o, A = some ⟨b, o, none⟩ ∧ ∀ j, j < ks.length → w.cell? ⟨b, o + j, none⟩ = some (.int .i64 (ks.getD j 0)))
theorem Kp.nil (w : World) : Kp w (.slice none 0 0) [] := ⟨none, 0, rfl, Nat.le_refl _, fun h => absurd h (by simp)⟩
theorem Kp.keep {w w' : World} {v : Value} {ks : List Int} (h : Kp w v ks) (hk : ∀ b, bl v = some b → w'.heap[b]? = w.heap[b]?) : Kp w' v ks := by
  obtain ⟨A, c, rfl, hc, hr⟩ := h
  refine ⟨A, c, rfl, hc, fun h0 => ?_⟩
  obtain ⟨b, o, rfl, h⟩ := hr h0
  refine ⟨b, o, rfl, fun j hj => ?_⟩
  have hb : bl (.slice (some ⟨b, o, none⟩) ks.length c) = some b := by
    obtain ⟨c', rfl⟩ := Nat.exists_eq_succ_of_ne_zero (show c ≠ 0 by omega)
    rfl
  rw [World.cell?_of_block (hk b hb)]
  exact h j hj
theorem Kp.block {w : World} {v : Value} {ks : List Int} (h : Kp w v ks) (h0 : 0 < ks.length) : ∃ b, bl v = some b ∧ b < w.heap.size := by
  obtain ⟨A, c, rfl, hc, hr⟩ := h
  obtain ⟨b, o, rfl, h⟩ := hr h0
  have := World.block_lt_of_cell? w _ (h 0 h0)
  refine ⟨b, ?_, this⟩
  obtain ⟨c', rfl⟩ := Nat.exists_eq_succ_of_ne_zero (show c ≠ 0 by omega)
  rfl
def cellD (vs : Nat → Value) (kv : Value) (d : Dk) (j : Nat) : Value :=
  if j < 16 then (if j % 2 = 0 then vs (j / 2) else .int .i64 ((d.fs (j / 2)).dur : Int)) else
  if j = 16 then .bool d.down else if j = 17 then .int .i64 (d.lost : Int) else if j = 18 then .int .i64 (d.armed : Int) else kv
theorem cellD_data (vs : Nat → Value) (kv : Value) (d : Dk) (i : Nat) (h : i < 8) : cellD vs kv d (i * 2) = vs i := by
  unfold cellD
  rw [if_pos (by omega), if_pos (by omega), show i * 2 / 2 = i from by omega]
theorem cellD_dur (vs : Nat → Value) (kv : Value) (d : Dk) (i : Nat) (h : i < 8) : cellD vs kv d (i * 2 + 1) = .int .i64 ((d.fs i).dur : Int) := by
  unfold cellD
  rw [if_pos (by omega), if_neg (by omega), show (i * 2 + 1) / 2 = i from by omega]
structure Rows3 (w : World) (S : Nat → Prop) (g : Nat) (vs : Nat → Value) (kv : Value) (d : Dk) : Prop where
  head : S g
  fil : ∀ i, i < 8 → Fil w (vs i) (d.fs i).data
  own : ∀ i b, i < 8 → bl (vs i) = some b → S b ∧ b ≠ g
  apart : ∀ i j b, i < 8 → j < 8 → i ≠ j → bl (vs i) = some b → bl (vs j) ≠ some b
  kp : Kp w kv d.keep
  kown : ∀ b, bl kv = some b → S b ∧ b ≠ g
  kapart : ∀ i b, i < 8 → bl (vs i) = some b → bl kv ≠ some b
  klt : ∀ b, bl kv = some b → b < w.heap.size
def DRep (w : World) (S : Nat → Prop) (g : Nat) (d : Dk) : Prop :=
  ∃ vs kv, w.rowIs g 119 20 (cellD vs kv d) ∧ Rows3 w S g vs kv d
end Go.Proofs.YtlefikdjhnaapaaGreatDoor
namespace Go.Proofs.YtlefikdjhnaapaaGreatDoor
open Go Go.RowKit Dm
structure Fr (S : Nat → Prop) (w w' : World) : Prop where
  os : w'.os = w.os
  tape : w'.tape = w.tape
  output : w'.output = w.output
  size : w.heap.size ≤ w'.heap.size
  block : ∀ b, b < w.heap.size → ¬ S b → w'.heap[b]? = w.heap[b]?
section
variable {S : Nat → Prop} {w w' w'' : World} {g : Nat} {d : Dk}
theorem Fr.refl (S : Nat → Prop) (w : World) : Fr S w w := ⟨rfl, rfl, rfl, Nat.le_refl _, fun _ _ _ => rfl⟩
theorem Fr.trans (h : Fr S w w') (h' : Fr S w' w'') : Fr S w w'' :=
  ⟨h'.os.trans h.os, h'.tape.trans h.tape, h'.output.trans h.output, Nat.le_trans h.size h'.size, fun b hb hS => (h'.block b (Nat.lt_of_lt_of_le hb h.size) hS).trans (h.block b hb hS)⟩
theorem Fr.drewN (w : World) (n : Nat) : Fr S w (w.drewN n) := ⟨rfl, rfl, rfl, Nat.le_refl _, fun _ _ _ => rfl⟩
theorem Fr.setCell {p : Addr} (hp : S p.block) (u : Value) : Fr S w (w.setCell p u) :=
  ⟨rfl, rfl, rfl, by simp, fun b _ hS => Below.heap_setCell w p u b (fun e => hS (by rw [e]; exact hp))⟩
theorem Fr.alloc (w : World) (o : Obj) : Fr S w (w.alloc o) := ⟨rfl, rfl, rfl, by simp, fun b hb _ => heap_alloc_old w o hb⟩
theorem Fr.grown {row : Option Nat} (h : w.grownBy w' row) (hr : ∀ b, row = some b → S b) : Fr S w w' :=
  ⟨h.os, h.tape, h.output, h.size, fun b hb hS => h.block b hb (fun e => hS (hr b e.symm))⟩
theorem Fr.below {B : Nat} {a : World} (h : Fr S w w') (hb : Below B a w) (hS : ∀ b, b < B → ¬ S b) (hB : B ≤ w.heap.size) : Below B a w' :=
  ⟨h.os.trans hb.os, h.tape.trans hb.tape, h.output.trans hb.output, Nat.le_trans hb.size h.size, fun b hlt => (h.block b (by omega) (hS b hlt)).trans (hb.block b hlt)⟩
theorem Fr.more {S' : Nat → Prop} (h : Fr S w w') (hS : ∀ b, S b → S' b) : Fr S' w w' := ⟨h.os, h.tape, h.output, h.size, fun b hb hn => h.block b hb (fun hs => hn (hS b hs))⟩
theorem DRep.more {S' : Nat → Prop} (h : DRep w S g d) (hS : ∀ b, S b → S' b) : DRep w S' g d := by
  obtain ⟨vs, kv, hr, h⟩ := h
  exact ⟨vs, kv, hr, hS _ h.head, h.fil, fun i b hi hb => ⟨hS _ (h.own i b hi hb).1, (h.own i b hi hb).2⟩, h.apart, h.kp, fun b hb => ⟨hS _ (h.kown b hb).1, (h.kown b hb).2⟩, h.kapart, h.klt⟩
theorem same_lt {w w' : World} {b : Nat} (h : w'.heap[b]? = w.heap[b]?) (hb : b < w.heap.size) : b < w'.heap.size := by
  rw [Array.getElem?_eq_getElem hb] at h
  exact (Array.getElem?_eq_some_iff.1 h).1
theorem DRep.keep (h : DRep w S g d) (hk : ∀ b, S b → b < w.heap.size → w'.heap[b]? = w.heap[b]?) : DRep w' S g d := by
  obtain ⟨vs, kv, hr, h⟩ := h
  exact ⟨vs, kv, hr.of_block (hk _ h.head hr.lt), h.head, fun i hi => (h.fil i hi).keep fun b hb => hk b (h.own i b hi hb).1 ((h.fil i hi).block b hb), h.own, h.apart, h.kp.keep fun b hb => hk b (h.kown b hb).1 (h.klt b hb), h.kown, h.kapart, fun b hb => same_lt (hk b (h.kown b hb).1 (h.klt b hb)) (h.klt b hb)⟩
theorem DRep.drewN (h : DRep w S g d) (n : Nat) : DRep (w.drewN n) S g d := h.keep fun _ _ _ => rfl
theorem DRep.alloc (h : DRep w S g d) (o : Obj) : DRep (w.alloc o) S g d := h.keep fun _ _ hb => heap_alloc_old w o hb
end
end Go.Proofs.YtlefikdjhnaapaaGreatDoor
namespace Go.Proofs.YtlefikdjhnaapaaGreatDoor
open Go Go.RowKit Dm Go.Lib
theorem strCells_w8 (s : ByteArray) : strCells s = s.data.toList.map w8 := rfl
theorem Fil.append {P : Program} {w : World} {v : Value} {l : List UInt8} (h : Fil w v l) (t u ty : TypeId) (ht : P.underlying t = some (.slice 5)) (hu : P.underlying u = some .string)
    (hE : ElemOk P t 5 1 1) (hz : ∀ i, P.info? 5 = some i → i.zero = some (.int .u8 0)) (s : ByteArray) (hb : l.length + s.size ≤ 140737488355328) :
    ∃ v' w', (Builtin.append_ #[t, u] ty #[v, .string s]).run P w = .ok v' w' ∧ Fil w' v' (l ++ s.data.toList) ∧ w.grownBy w' (bl v) ∧ (bl v' = bl v ∨ bl v' = some w.heap.size) := by
  obtain ⟨_, _, i, z, hi, hz', hs1, hby, hzs⟩ := hE
  have hz := hz i hi
  have hsz : s.data.toList.length = s.size := by simp
  have grow : ∀ (xs : List UInt8) (old : Nat), xs.length = l.length → xs = l → 0 < s.size → Fil (w.drew.alloc (.cells ((xs.map w8).toArray ++ (strCells s).toArray ++ Builtin.zeroCells (Value.int .u8 0).cells (grownCap w (l.length + s.size) old 5 - (l.length + s.size))) 5))
      (.slice (some ⟨w.heap.size, 0, none⟩) (l.length + s.size) (grownCap w (l.length + s.size) old 5)) (l ++ s.data.toList) := by
    intro xs old hxl hx h0
    subst hx
    have hge := grownCap_ge w (xs.length + s.size) old 5
    have hcm : grownCap w (xs.length + s.size) old 5 ≤ maxLen := grownCap_le_maxLen w (xs.length + s.size) old 5 (by simp only [maxLen]; omega)
    have hlen : (xs ++ s.data.toList).length = xs.length + s.size := by rw [List.length_append, hsz]
    refine .inr ⟨w.heap.size, _, by rw [hlen], by omega, .inr ⟨w.heap.size, _, _, _, (0, 0), rfl, Nat.zero_le _, heap_alloc_new w.drew _, .inl (by simp), hge, hcm, ?_, by rw [List.length_map, hlen, Nat.mul_one], ?_⟩⟩
    · have hz1 : (Value.int IntKind.u8 0).cells.size = 1 := rfl
      simp only [Array.size_append, List.size_toArray, size_zeroCells, hz1, List.length_map, strCells_length]
      omega
    · simp only [Array.toList_append, List.append_assoc, strCells_w8]
      rw [← List.append_assoc, ← List.map_append, Nat.mul_one, ← hlen, ← List.length_map (f := w8)]
      exact List.take_left
  have gr : ∀ o, w.grownBy (w.drew.alloc o) (bl v) := fun o => ⟨rfl, rfl, rfl, by simp, fun k hk _ => heap_alloc_old w.drew _ hk⟩
  rcases Nat.eq_zero_or_pos s.size with h0 | h0
  · have hs0 : s.data.toList = [] := List.eq_nil_of_length_eq_zero (by omega)
    have hsc : strCells s = [] := by rw [strCells_w8, hs0]; rfl
    have hf := run_firstCells_string (P := P) w 1 s
    rw [hsc] at hf
    refine ⟨v, w, ?_, by rw [hs0, List.append_nil]; exact h, ⟨rfl, rfl, rfl, Nat.le_refl _, fun _ _ _ => rfl⟩, .inl rfl⟩
    rw [h0] at hf
    obtain ⟨A, c, rfl, hc⟩ := h.form
    cases A <;> simp [Builtin.append_, run_underlying ht, run_underlying hu, sizeOf, typeInfo, hi, hs1, Builtin.lenOf, h0, hc, hf, storeCells]
  · rcases h with ⟨A, rfl, rfl⟩ | ⟨b, cap, rfl, hc, hown⟩
    · rcases A with _ | a
      · have hr := run_append_nil_string (P := P) w t u ty 5 i (.int .u8 0) ht hu hi hz s h0 (by simp at hb; omega) (by rw [hby]; simp at hb; omega)
        have hg := grow [] 0 rfl rfl h0
        simp only [List.length_nil, Nat.zero_add] at hg hr
        refine ⟨_, _, hr, ?_, gr _, .inr (bl_lit _ _ _ ?_)⟩
        · have e : (s.data.map (fun b => Value.int .u8 (b.toNat : Int))) = (([] : List UInt8).map w8).toArray ++ (strCells s).toArray := by
            apply Array.ext'
            simp [strCells]
          rw [e]
          exact hg
        · have := grownCap_ge w s.size 0 5; omega
      · have hr := run_append_grow_string (P := P) w t u ty 5 i (.int .u8 0) ht hu hi hz a 0 0 [] (by simp) (fun j v h => by simp at h) s (by omega) (by simp at hb; omega) (by rw [hby]; exact growslice_fits (by omega) (by simp at hb; omega))
        have hg := grow [] 0 rfl rfl h0
        simp only [List.length_nil, Nat.zero_add] at hg hr
        refine ⟨_, _, hr, hg, gr _, .inr (bl_lit _ _ _ ?_)⟩
        have := grownCap_ge w s.size 0 5; omega
    · have hown0 := hown
      rcases hown with ⟨h, _⟩ | ⟨g, n, cap', cur, fr, h, hbg, hg, hfr, hnc, hcm, hcs, hl, htake⟩
      · cases h
      · simp only [Value.slice.injEq, Option.some.injEq, Addr.mk.injEq] at h
        obtain ⟨⟨rfl, _⟩, rfl, rfl⟩ := h
        simp only [Nat.mul_one] at hcs htake
        have hlen : (l ++ s.data.toList).length = l.length + s.size := by rw [List.length_append, hsz]
        by_cases hroom : l.length + s.size ≤ cap
        · have hf := run_firstCells_string (P := P) w 1 s
          have hst := storeCells_fr (P := P) b l.length 5 fr (strCells s) 0 cur w hg hfr (by rw [strCells_length]; omega) (strCells_oneCell s)
          simp only [Nat.add_zero, strCells_length] at hst
          have hr : (Builtin.append_ #[t, u] ty #[.slice (some ⟨b, 0, none⟩) l.length cap, .string s]).run P w =
              .ok (.slice (some ⟨b, 0, none⟩) (l.length + s.size) cap) (w.setRow b (cur.toList.take l.length ++ strCells s ++ cur.toList.drop (l.length + s.size)).toArray) := by
            simp [Builtin.append_, run_underlying ht, run_underlying hu, sizeOf, typeInfo, hi, hs1, Builtin.lenOf, hroom, hf, Addr.add_lit, hst]
          refine ⟨_, _, hr, .inr ⟨b, cap, by rw [hlen], hc, .inr ⟨b, _, cap, _, fr, rfl, Nat.zero_le _, setRow_heap w b cur _ _ _ hg, ?_, hroom, hcm, ?_, by rw [List.length_map, hlen, Nat.mul_one], ?_⟩⟩, ?_, .inl ?_⟩
          · rcases hfr with h | h
            · exact .inl h
            · refine .inr ?_
              simp only [List.size_toArray, List.length_append, List.length_take, List.length_drop, Array.length_toList, strCells_length]
              omega
          · simp only [List.size_toArray, List.length_append, List.length_take, List.length_drop, Array.length_toList, strCells_length]
            omega
          · rw [htake, strCells_w8, ← List.map_append, Nat.mul_one, ← hlen, ← List.length_map (f := w8)]
            exact List.take_left
          · rw [bl_lit _ _ _ hc]
            exact ⟨rfl, rfl, rfl, by simp, fun k _ hk => setRow_other w b k _ (fun e => hk (by rw [e]))⟩
          · rw [bl_lit _ _ _ hc, bl_lit _ _ _ hc]
        · have holds : ∀ j u, (l.map w8)[j]? = some u → w.cell? ((⟨b, 0, none⟩ : Addr).add j) = some u := by
            intro j u hu
            rw [Addr.add_lit]
            simp only [Nat.zero_add]
            rw [cell_of_row w b j cur 5 fr hg]
            rw [← htake, List.getElem?_take] at hu
            split at hu
            · simpa using hu
            · cases hu
          have hr := run_append_grow_string (P := P) w t u ty 5 i (.int .u8 0) ht hu hi hz ⟨b, 0, none⟩ l.length cap (l.map w8) (by rw [hs1]; simp) holds s (by omega) (by omega) (by rw [hby]; exact growslice_fits (by omega) (by omega))
          have hgw := grow l cap rfl rfl h0
          refine ⟨_, _, hr, hgw, gr _, .inr (bl_lit _ _ _ ?_)⟩
          have := grownCap_ge w (l.length + s.size) cap 5; omega
end Go.Proofs.YtlefikdjhnaapaaGreatDoor
end
section
namespace Go.Proofs.YtlefikdjhnaapaaGreatDoor
open Go Go.RowKit Dm
section
variable {S : Nat → Prop} {w : World} {g : Nat} {d : Dk} {vs : Nat → Value} {kv : Value}
theorem Rows3.head' (h : Rows3 w S g vs kv d) (o : Nat) (u : Value) : Rows3 (w.setCell ⟨g, o, none⟩ u) S g vs kv d :=
  ⟨h.head, fun i hi => (h.fil i hi).keep fun b hb => Below.heap_setCell w _ u b (h.own i b hi hb).2, h.own, h.apart, h.kp.keep fun b hb => Below.heap_setCell w _ u b (h.kown b hb).2, h.kown, h.kapart, fun b hb => by simpa using h.klt b hb⟩
theorem DRep.setDown (h : DRep w S g d) (b : Bool) : DRep (w.setCell ⟨g, 16, none⟩ (.bool b)) S g { d with down := b } := by
  obtain ⟨vs, kv, hr, h⟩ := h
  refine ⟨vs, kv, (hr.set 16 (.bool b)).congr fun j hj => ?_, ?_⟩
  · show (if j = 16 then _ else _) = _
    by_cases h : j = 16
    · subst h; rfl
    · rw [if_neg h]; unfold cellD; simp only [if_neg h]
  · have h := h.head' 16 (.bool b)
    exact ⟨h.head, h.fil, h.own, h.apart, h.kp, h.kown, h.kapart, h.klt⟩
theorem DRep.setLost (h : DRep w S g d) (n : Nat) : DRep (w.setCell ⟨g, 17, none⟩ (.int .i64 (n : Int))) S g { d with lost := n } := by
  obtain ⟨vs, kv, hr, h⟩ := h
  refine ⟨vs, kv, (hr.set 17 (.int .i64 (n : Int))).congr fun j hj => ?_, ?_⟩
  · show (if j = 17 then _ else _) = _
    by_cases h : j = 17
    · subst h; rfl
    · rw [if_neg h]; unfold cellD; simp only [if_neg h]
  · have h := h.head' 17 (.int .i64 (n : Int))
    exact ⟨h.head, h.fil, h.own, h.apart, h.kp, h.kown, h.kapart, h.klt⟩
theorem DRep.setArmed (h : DRep w S g d) (n : Nat) : DRep (w.setCell ⟨g, 18, none⟩ (.int .i64 (n : Int))) S g { d with armed := n } := by
  obtain ⟨vs, kv, hr, h⟩ := h
  refine ⟨vs, kv, (hr.set 18 (.int .i64 (n : Int))).congr fun j hj => ?_, ?_⟩
  · show (if j = 18 then _ else _) = _
    by_cases h : j = 18
    · subst h; rfl
    · rw [if_neg h]; unfold cellD; simp only [if_neg h]
  · have h := h.head' 18 (.int .i64 (n : Int))
    exact ⟨h.head, h.fil, h.own, h.apart, h.kp, h.kown, h.kapart, h.klt⟩
theorem DRep.setKeep (h : DRep w S g d) {kv' : Value} {ks : List Int} (hk : Kp w kv' ks) (hlt : ∀ b, bl kv' = some b → b < w.heap.size) (hb : ∀ b, bl kv' = some b → S b ∧ b ≠ g ∧ ∀ vs kv, Rows3 w S g vs kv d → ∀ i, i < 8 → bl (vs i) ≠ some b) : DRep (w.setCell ⟨g, 19, none⟩ kv') S g { d with keep := ks } := by
  obtain ⟨vs, kv, hr, h⟩ := h
  refine ⟨vs, kv', (hr.set 19 kv').congr fun j hj => ?_, ?_⟩
  · show (if j = 19 then _ else _) = _
    by_cases h : j = 19
    · subst h; rfl
    · rw [if_neg h]
      unfold cellD
      split
      · rfl
      split
      · rfl
      split
      · rfl
      split
      · rfl
      · omega
  · have h' := h.head' 19 kv'
    exact ⟨h'.head, h'.fil, h'.own, h'.apart, hk.keep fun b hbb => Below.heap_setCell w _ kv' b (hb b hbb).2.1, fun b hbb => ⟨(hb b hbb).1, (hb b hbb).2.1⟩, fun i b hi hv hkv => (hb b hkv).2.2 vs kv h i hi hv, fun b hbb => by simpa using hlt b hbb⟩
theorem DRep.setKeepNil (h : DRep w S g d) : DRep (w.setCell ⟨g, 19, none⟩ (.slice none 0 0)) S g { d with keep := [] } :=
  h.setKeep (Kp.nil w) (fun b hb => by cases hb) fun b hb => by cases hb
theorem DRep.setDur (h : DRep w S g d) (i : Nat) (hi : i < 8) (n : Nat) : DRep (w.setCell ⟨g, i * 2 + 1, none⟩ (.int .i64 (n : Int))) S g { d with fs := upd d.fs i ⟨(d.fs i).data, n⟩ } := by
  obtain ⟨vs, kv, hr, h⟩ := h
  refine ⟨vs, kv, (hr.set (i * 2 + 1) (.int .i64 (n : Int))).congr fun j hj => ?_, ?_⟩
  · show (if j = i * 2 + 1 then _ else _) = _
    by_cases h : j = i * 2 + 1
    · subst h
      rw [if_pos rfl, cellD_dur _ _ _ _ hi]
      simp only [upd_same]
    · rw [if_neg h]
      unfold cellD
      split
      · split
        · rfl
        · have : j / 2 ≠ i := by omega
          simp only [upd_ne _ this]
      · rfl
  · have h := h.head' (i * 2 + 1) (.int .i64 (n : Int))
    refine ⟨h.head, fun k hk => ?_, h.own, h.apart, h.kp, h.kown, h.kapart, h.klt⟩
    have := h.fil k hk
    by_cases e : k = i
    · subst e; simp only [upd_same]; exact this
    · simp only [upd_ne _ e]; exact this
theorem DRep.setData2 {w0 : World} (hr : w.rowIs g 119 20 (cellD vs kv d)) (h : Rows3 w0 S g vs kv d) (i : Nat) (hi : i < 8) (hfo : ∀ k, k < 8 → k ≠ i → Fil w (vs k) (d.fs k).data) (hkp : Kp w kv d.keep) (hklt : ∀ b, bl kv = some b → b < w.heap.size) {v : Value} {l : List UInt8} (hf : Fil w v l)
    (hv : ∀ b, bl v = some b → bl (vs i) = some b ∨ (S b ∧ b ≠ g ∧ (∀ j, j < 8 → bl (vs j) ≠ some b) ∧ bl kv ≠ some b)) : DRep (w.setCell ⟨g, i * 2, none⟩ v) S g { d with fs := upd d.fs i ⟨l, (d.fs i).dur⟩ } := by
  refine ⟨fun k => if k = i then v else vs k, kv, (hr.set (i * 2) v).congr fun j hj => ?_, ?_⟩
  · show (if j = i * 2 then _ else _) = _
    by_cases e : j = i * 2
    · subst e
      rw [if_pos rfl, cellD_data _ _ _ _ hi, if_pos rfl]
    · rw [if_neg e]
      unfold cellD
      split
      · split
        · exact (if_neg (show j / 2 ≠ i from by omega)).symm
        · by_cases e2 : j / 2 = i
          · rw [e2]; simp only [upd_same]
          · simp only [upd_ne _ e2]
      · rfl
  · have hvg : ∀ b, bl v = some b → b ≠ g := fun b hb => by
      rcases hv b hb with h1 | h1
      · exact (h.own i b hi h1).2
      · exact h1.2.1
    refine ⟨h.head, fun k hk => ?_, fun k b hk hb => ?_, fun j k b hj hk hjk hb hb' => ?_, hkp.keep fun b hb => Below.heap_setCell w _ v b (h.kown b hb).2, h.kown, fun k b hk hb hkb => ?_, fun b hb => by simpa using hklt b hb⟩
    · by_cases e : k = i
      · subst e
        simp only [if_pos, upd_same]
        exact hf.keep fun b hb => Below.heap_setCell w _ v b (hvg b hb)
      · simp only [if_neg e, upd_ne _ e]
        exact (hfo k hk e).keep fun b hb => Below.heap_setCell w _ v b (h.own k b hk hb).2
    · by_cases e : k = i
      · subst e
        simp only [if_pos] at hb
        rcases hv b hb with h1 | h1
        · exact h.own k b hk h1
        · exact ⟨h1.1, h1.2.1⟩
      · simp only [if_neg e] at hb
        exact h.own k b hk hb
    · by_cases e : j = i
      · subst e
        have e2 : k ≠ j := fun h => hjk h.symm
        simp only [if_pos, if_neg e2] at hb hb'
        rcases hv b hb with h1 | h1
        · exact h.apart j k b hj hk hjk h1 hb'
        · exact h1.2.2.1 k hk hb'
      · by_cases e2 : k = i
        · subst e2
          simp only [if_pos, if_neg e] at hb hb'
          rcases hv b hb' with h1 | h1
          · exact h.apart j k b hj hk hjk hb h1
          · exact h1.2.2.1 j hj hb
        · simp only [if_neg e, if_neg e2] at hb hb'
          exact h.apart j k b hj hk hjk hb hb'
    · by_cases e : k = i
      · subst e
        simp only [if_pos] at hb
        rcases hv b hb with h1 | h1
        · exact h.kapart k b hk h1 hkb
        · exact h1.2.2.2 hkb
      · simp only [if_neg e] at hb
        exact h.kapart k b hk hb hkb
theorem DRep.setData (hr : w.rowIs g 119 20 (cellD vs kv d)) (h : Rows3 w S g vs kv d) (i : Nat) (hi : i < 8) {v : Value} {l : List UInt8} (hf : Fil w v l)
    (hv : ∀ b, bl v = some b → bl (vs i) = some b ∨ (S b ∧ b ≠ g ∧ (∀ j, j < 8 → bl (vs j) ≠ some b) ∧ bl kv ≠ some b)) : DRep (w.setCell ⟨g, i * 2, none⟩ v) S g { d with fs := upd d.fs i ⟨l, (d.fs i).dur⟩ } :=
  DRep.setData2 hr h i hi (fun k hk _ => h.fil k hk) h.kp h.klt hf hv
theorem DRep.setTake (h : DRep w S g d) (i : Nat) (hi : i < 8) (n : Nat) (hn : n ≤ (d.fs i).data.length) :
    ∃ A c, w.cell? ⟨g, i * 2, none⟩ = some (.slice A (d.fs i).data.length c) ∧ (d.fs i).data.length ≤ c ∧ DRep (w.setCell ⟨g, i * 2, none⟩ (.slice A n c)) S g { d with fs := upd d.fs i ⟨(d.fs i).data.take n, (d.fs i).dur⟩ } := by
  obtain ⟨vs, kv, hr, h⟩ := h
  obtain ⟨A, c, hv, hc⟩ := (h.fil i hi).form
  refine ⟨A, c, ?_, hc, DRep.setData hr h i hi ?_ ?_⟩
  · rw [hr.cell (by omega), cellD_data _ _ _ _ hi, hv]
  · have := h.fil i hi
    rw [hv] at this
    exact this.take n hn
  · intro b hb
    left
    rw [hv, Fil.bl_take A _ n c]
    exact hb
theorem DRep.appended {w' : World} (hr : w.rowIs g 119 20 (cellD vs kv d)) (h : Rows3 w S g vs kv d) (i : Nat) (hi : i < 8) {v : Value} {l : List UInt8} (hf : Fil w' v l) (hg : w.grownBy w' (bl (vs i)))
    (hv : bl v = bl (vs i) ∨ bl v = some w.heap.size) (hS : S w.heap.size) :
    w'.cell? ⟨g, i * 2, none⟩ = some (vs i) ∧ w'.frozen? ⟨g, i * 2, none⟩ = false ∧ DRep (w'.setCell ⟨g, i * 2, none⟩ v) S g { d with fs := upd d.fs i ⟨l, (d.fs i).dur⟩ } ∧ Fr S w (w'.setCell ⟨g, i * 2, none⟩ v) := by
  have hgl := hr.lt
  have hkb := h.klt
  have hr' : w'.rowIs g 119 20 (cellD vs kv d) := hr.of_block (hg.block g hgl fun e => (h.own i g hi e.symm).2 rfl)
  refine ⟨by rw [hr'.cell (by omega), cellD_data _ _ _ _ hi], hr'.frozen _, ?_, ?_⟩
  · refine DRep.setData2 hr' h i hi (fun k hk hne => (h.fil k hk).keep fun b hb => hg.block b ((h.fil k hk).block b hb) fun e => h.apart i k b hi hk (fun h => hne h.symm) e.symm hb) (h.kp.keep fun b hb => hg.block b (hkb b hb) fun e => h.kapart i b hi e.symm hb) (fun b hb => Nat.lt_of_lt_of_le (hkb b hb) hg.size) hf fun b hb => ?_
    rcases hv with hv | hv
    · left; rw [← hv]; exact hb
    · right
      have : b = w.heap.size := by rw [hv] at hb; exact (Option.some.inj hb).symm
      subst this
      refine ⟨hS, by omega, fun j hj hb => ?_, fun hb => ?_⟩
      · have := (h.fil j hj).block _ hb; omega
      · have := hkb _ hb; omega
  · exact (Fr.grown hg fun b hb => (h.own i b hi hb).1).trans (Fr.setCell (p := ⟨g, i * 2, none⟩) h.head _)
end
end Go.Proofs.YtlefikdjhnaapaaGreatDoor
end
section
namespace Go.Proofs.YtlefikdjhnaapaaGreatDoor
open Go.RowKit Dm
theorem known_any (f : Int) (w : World) : Calls Tryz.prog 199 #[.int .i64 f] w fun e w' => e = .returned (.bool (kn f)) ∧ w = w' := by
  have e1 : 0 ≤ f → kn f = decide (f < 8) := fun h => by unfold kn; rw [decide_eq_true h]; rfl
  have e2 : f < 0 → kn f = false := fun h => by unfold kn; rw [decide_eq_false (show ¬ 0 ≤ f from by omega)]; rfl
  have E1 := Veil.mk e1
  have E2 := Veil.mk e2
  clear e1 e2
  by_cases h1 : 0 ≤ f
  · go_enter Tryz.func199, Tryz.ntmps199
    go_wp2
    go_ret
    exact ⟨by rw [E1.out h1]; rfl, rfl⟩
  · have h2 : f < 0 := by omega
    go_enter Tryz.func199, Tryz.ntmps199
    go_wp2
    go_ret
    exact ⟨by rw [E2.out h2]; rfl, rfl⟩
section
variable {S : Nat → Prop} {w : World} {g : Nat} {d : Dk}
theorem DRep.cDown (h : DRep w S g d) : w.cell? ⟨g, 16, none⟩ = some (.bool d.down) := by
  obtain ⟨vs, kv, hr, h⟩ := h; exact hr.cell (i := 16) (by omega)
theorem DRep.cLost (h : DRep w S g d) : w.cell? ⟨g, 17, none⟩ = some (.int .i64 (d.lost : Int)) := by
  obtain ⟨vs, kv, hr, h⟩ := h; exact hr.cell (i := 17) (by omega)
theorem DRep.cArmed (h : DRep w S g d) : w.cell? ⟨g, 18, none⟩ = some (.int .i64 (d.armed : Int)) := by
  obtain ⟨vs, kv, hr, h⟩ := h; exact hr.cell (i := 18) (by omega)
theorem DRep.cKeep (h : DRep w S g d) : ∃ kv, w.cell? ⟨g, 19, none⟩ = some kv ∧ Kp w kv d.keep ∧ ∀ b, bl kv = some b → b ≠ g := by
  obtain ⟨vs, kv, hr, h⟩ := h; exact ⟨kv, hr.cell (i := 19) (by omega), h.kp, fun b hb => (h.kown b hb).2⟩
theorem DRep.cDur (h : DRep w S g d) (i : Nat) (hi : i < 8) : w.cell? ⟨g, i * 2 + 1, none⟩ = some (.int .i64 ((d.fs i).dur : Int)) := by
  obtain ⟨vs, kv, hr, h⟩ := h; rw [hr.cell (by omega), cellD_dur _ _ _ _ hi]
theorem DRep.cData (h : DRep w S g d) (i : Nat) (hi : i < 8) : ∃ A c, w.cell? ⟨g, i * 2, none⟩ = some (.slice A (d.fs i).data.length c) ∧ (d.fs i).data.length ≤ c ∧ Fil w (.slice A (d.fs i).data.length c) (d.fs i).data := by
  obtain ⟨vs, kv, hr, h⟩ := h
  obtain ⟨A, c, hv, hc⟩ := (h.fil i hi).form
  refine ⟨A, c, ?_, hc, ?_⟩
  · rw [hr.cell (by omega), cellD_data _ _ _ _ hi, hv]
  · rw [← hv]; exact h.fil i hi
theorem DRep.free (h : DRep w S g d) (j : Nat) : w.frozen? ⟨g, j, none⟩ = false := by
  obtain ⟨vs, kv, hr, h⟩ := h; exact hr.frozen j
theorem DRep.at' (h : DRep w S g d) : S g := by
  obtain ⟨vs, kv, hr, h⟩ := h; exact h.head
theorem DRep.lt (h : DRep w S g d) : g < w.heap.size := by
  obtain ⟨vs, kv, hr, h⟩ := h; exact hr.lt
theorem kn_form {f : Int} (h : kn f = true) : ∃ n : Nat, f = (n : Int) ∧ n < 8 := by
  have hf : 0 ≤ f ∧ f < 8 := by simpa [kn] using h
  exact ⟨f.toNat, by omega, by omega⟩
theorem size_any (h : DRep w S g d) (f : Int) : Calls Tryz.prog 203 #[.pointer (some ⟨g, 0, none⟩), .int .i64 f] w fun e w' => e = .returned (.int .i64 (size d f : Int)) ∧ w = w' := by
  rcases hk : kn f
  · have hs : size d f = 0 := by unfold size; rw [hk]; rfl
    have Hs := Veil.mk hs
    clear h hs
    go_enter Tryz.func203, Tryz.ntmps203
    go_wp2_with (go_at_call 199; refine (known_any _ _).mono ?_; rintro e w1 ⟨rfl, rfl⟩)
    go_ret
    exact ⟨by rw [Hs.out]; rfl, rfl⟩
  · obtain ⟨n, rfl, hn⟩ := kn_form hk
    have hs : size d (n : Int) = (d.fs n).data.length := by unfold size; rw [hk]; rfl
    have Hs := Veil.mk hs
    obtain ⟨A, c, cn, hc, _⟩ := h.cData n hn
    clear hs h
    go_enter Tryz.func203, Tryz.ntmps203
    go_wp2_with (go_at_call 199; refine (known_any _ _).mono ?_; rintro e w1 ⟨rfl, rfl⟩)
    go_ret
    exact ⟨by rw [Hs.out]; rfl, rfl⟩
theorem read_any (h : DRep w S g d) (f : Int) : Calls Tryz.prog 127 #[.pointer (some ⟨g, 0, none⟩), .int .i64 f] w fun e w' => e = .returned (.tuple #[.string ⟨(peek d f).1.toArray⟩, .int .i64 (peek d f).2]) ∧ w = w' := by
  have c16 := h.cDown
  rcases hd : d.down
  · rw [hd] at c16
    rcases hk : kn f
    · have hs : peek d f = ([], 1) := by unfold peek; rw [hk, hd]; rfl
      have Hs := Veil.mk hs
      clear h hs hd
      go_enter Tryz.func127, Tryz.ntmps127
      go_wp2_with (go_at_call 199; refine (known_any _ _).mono ?_; rintro e w1 ⟨rfl, rfl⟩)
      go_ret2
      exact ⟨by rw [Hs.out]; rfl, rfl⟩
    · obtain ⟨n, rfl, hn⟩ := kn_form hk
      have hs : peek d (n : Int) = ((d.fs n).data, 0) := by unfold peek; rw [hk, hd]; rfl
      have Hs := Veil.mk hs
      obtain ⟨A, c, cn, hc, hfil⟩ := h.cData n hn
      have hrun := str_run (P := Tryz.prog) w 114 9 5 Tryz.underlying114 Tryz.underlying5 Tryz.underlying9 hfil.rd
      clear hs h hd hfil
      go_enter Tryz.func127, Tryz.ntmps127
      go_wp2_with (go_at_call 199; refine (known_any _ _).mono ?_; rintro e w1 ⟨rfl, rfl⟩)
      go_ret2
      exact ⟨by rw [Hs.out]; rfl, rfl⟩
  · rw [hd] at c16
    have hs : peek d f = ([], 8) := by unfold peek; rw [hd]; rfl
    have Hs := Veil.mk hs
    clear h hs hd
    go_enter Tryz.func127, Tryz.ntmps127
    go_wp2
    go_ret2
    exact ⟨by rw [Hs.out]; rfl, rfl⟩
theorem strikes_any (h : DRep w S g d) (ho : Ok d) : Calls Tryz.prog 219 #[.pointer (some ⟨g, 0, none⟩)] w fun e w' => e = .returned (.bool (strikes d).1) ∧ DRep w' S g (strikes d).2 ∧ Fr (fun b => b = g) w w' := by
  have c18 := h.cArmed
  have f18 := h.free 18
  have hb := ho.armed
  by_cases h0 : d.armed = 0
  · have e : strikes d = (false, d) := by unfold strikes; rw [if_pos h0]
    have H : Veil (DRep w S g (strikes d).2 ∧ (strikes d).1 = false) := ⟨by rw [e]; exact ⟨h, rfl⟩⟩
    clear h e
    rw [h0] at c18
    clear h0 hb ho
    go_enter Tryz.func219, Tryz.ntmps219
    go_wp2
    go_ret
    exact ⟨by rw [H.out.2]; rfl, H.out.1, Fr.refl _ _⟩
  · obtain ⟨n, hn⟩ : ∃ n, d.armed = n + 1 := ⟨d.armed - 1, by omega⟩
    have e : strikes d = (decide (n = 0), { d with armed := n }) := by
      unfold strikes
      rw [if_neg h0, hn]
      simp
    have H1 := h.setArmed n
    have c2 := H1.cArmed
    have H : Veil (DRep (w.setCell ⟨g, 18, none⟩ (.int .i64 (n : Int))) S g (strikes d).2 ∧ (strikes d).1 = decide (n = 0) ∧ Fr (fun b => b = g) w (w.setCell ⟨g, 18, none⟩ (.int .i64 (n : Int)))) := ⟨by rw [e]; exact ⟨H1, rfl, Fr.setCell (S := fun b => b = g) (p := ⟨g, 18, none⟩) rfl _⟩⟩
    clear h e H1
    rw [hn] at c18 hb
    have hn1 : (((n + 1 : Nat) : Int)) - 1 = (n : Int) := by omega
    clear hn h0 ho
    go_enter Tryz.func219, Tryz.ntmps219
    go_wp2
    go_ret
    refine ⟨?_, H.out.1, H.out.2.2⟩
    rw [H.out.2.1]
    show Ending.returned (.bool ((n : Int) == 0)) = _
    rw [show ((n : Int) == 0) = decide (n = 0) from by by_cases h : n = 0 <;> simp [h]]
end
end Go.Proofs.YtlefikdjhnaapaaGreatDoor
end
section
namespace Go.Proofs.YtlefikdjhnaapaaGreatDoor
open Go.RowKit Dm
section
variable {S : Nat → Prop} {w : World} {g : Nat} {d : Dk}
theorem trunc_any (h : DRep w S g d) (i : Nat) (hi : i < 8) (n : Nat) (x : Int) (hn : n ≤ (d.fs i).data.length) (hx : x = (n : Int)) :
    Calls Tryz.prog 84 #[.pointer (some ⟨g, i * 2, none⟩), .int .i64 x] w fun e w' => e = .returned (.tuple #[]) ∧ DRep w' S g { d with fs := upd d.fs i ((d.fs i).trunc n) } ∧ Fr (fun b => b = g) w w' := by
  subst hx
  obtain ⟨A, c, cd, hc, h1⟩ := h.setTake i hi n hn
  have f0 := h.free (i * 2)
  have fr1 : Fr (fun b => b = g) w (w.setCell ⟨g, i * 2, none⟩ (.slice A n c)) := Fr.setCell (S := fun b => b = g) (p := ⟨g, i * 2, none⟩) rfl _
  have c1 := h1.cDur i hi
  simp only [upd_same] at c1
  have f1 := h1.free (i * 2 + 1)
  have h2 := h1.setDur i hi (min (d.fs i).dur n)
  simp only [upd_same] at h2
  have e2 : upd (upd d.fs i ⟨(d.fs i).data.take n, (d.fs i).dur⟩) i ⟨(d.fs i).data.take n, min (d.fs i).dur n⟩ = upd d.fs i ((d.fs i).trunc n) := by
    funext j
    unfold upd
    split <;> rfl
  rw [e2] at h2
  have H : ∀ q : Int, q = ((min (d.fs i).dur n : Nat) : Int) → DRep ((w.setCell ⟨g, i * 2, none⟩ (.slice A n c)).setCell ⟨g, i * 2 + 1, none⟩ (.int .i64 q)) S g { d with fs := upd d.fs i ((d.fs i).trunc n) } ∧ Fr (fun b => b = g) w ((w.setCell ⟨g, i * 2, none⟩ (.slice A n c)).setCell ⟨g, i * 2 + 1, none⟩ (.int .i64 q)) := by
    intro q hq
    subst hq
    exact ⟨h2, fr1.trans (Fr.setCell (S := fun b => b = g) (p := ⟨g, i * 2 + 1, none⟩) rfl _)⟩
  have H := Veil.mk H
  have hnc : (n : Int) ≤ c := by omega
  clear h h1 h2 e2 fr1
  generalize (d.fs i).dur = m at c1 H
  by_cases hm : m ≤ n
  · have hmi : ¬ (n : Int) < m := by omega
    go_enter Tryz.func84, Tryz.ntmps84
    go_wp2
    go_end0
    exact ⟨rfl, H.out _ (by omega)⟩
  · have hmi : (n : Int) < m := by omega
    go_enter Tryz.func84, Tryz.ntmps84
    go_wp2
    go_end0
    exact ⟨rfl, H.out _ (by omega)⟩
theorem Kp.keep2 {w w' : World} {v : Value} {ks : List Int} (h : Kp w v ks) (hk : ∀ b, bl v = some b → b < w.heap.size → w'.heap[b]? = w.heap[b]?) : Kp w' v ks := by
  obtain ⟨A, c, rfl, hc, hr⟩ := h
  refine ⟨A, c, rfl, hc, fun h0 => ?_⟩
  obtain ⟨b, o, rfl, h⟩ := hr h0
  refine ⟨b, o, rfl, fun j hj => ?_⟩
  have hb : bl (.slice (some ⟨b, o, none⟩) ks.length c) = some b := by
    obtain ⟨c', rfl⟩ := Nat.exists_eq_succ_of_ne_zero (show c ≠ 0 by omega)
    rfl
  have hlt := World.block_lt_of_cell? w _ (h 0 h0)
  rw [World.cell?_of_block (hk b hb hlt)]
  exact h j hj
theorem Kp.keep3 {w w' : World} {v : Value} {ks : List Int} (h : Kp w v ks) (hk : 0 < ks.length → ∀ b, bl v = some b → b < w.heap.size → w'.heap[b]? = w.heap[b]?) : Kp w' v ks := by
  by_cases h0 : 0 < ks.length
  · exact h.keep2 (hk h0)
  · obtain ⟨A, c, e, hc, _⟩ := h
    exact ⟨A, c, e, hc, fun h1 => absurd h1 h0⟩
theorem Kp.fr {w w' : World} {v : Value} {ks : List Int} {g : Nat} (h : Kp w v ks) (hb : 0 < ks.length → ∀ b, bl v = some b → b ≠ g) (hf : Fr (fun b => b = g) w w') : Kp w' v ks :=
  h.keep3 fun h0 b hv hlt => hf.block b hlt (hb h0 b hv)
def fsK (d : Dk) (ks : List Int) (k : Nat) : Nat → Fl := fun j => if j < k then (d.fs j).crash (ks.getD j 0) else d.fs j
theorem fsK_at (d : Dk) (ks : List Int) (k : Nat) : fsK d ks k k = d.fs k := if_neg (Nat.lt_irrefl k)
theorem fsK_next (d : Dk) (ks : List Int) (k : Nat) : fsK d ks (k + 1) = upd (fsK d ks k) k ((d.fs k).crash (ks.getD k 0)) := by
  funext j
  unfold fsK upd
  by_cases h : j = k
  · subst h; rw [if_pos (by omega), if_pos rfl]
  · rw [if_neg h]
    by_cases h2 : j < k
    · rw [if_pos (by omega)]; exact (if_pos h2).symm
    · rw [if_neg (by omega)]; exact (if_neg h2).symm
theorem Kp.at' {w : World} {A : Option Addr} {n c : Nat} {ks : List Int} (h : Kp w (.slice A n c) ks) (k : Nat) (hk : k < ks.length) : ∃ b o, A = some ⟨b, o, none⟩ ∧ w.cell? ⟨b, o + k, none⟩ = some (.int .i64 (ks.getD k 0)) := by
  obtain ⟨A', c', hv, hc, hr⟩ := h
  simp only [Value.slice.injEq] at hv
  obtain ⟨rfl, _, rfl⟩ := hv
  obtain ⟨b, o, rfl, h⟩ := hr (by omega)
  exact ⟨b, o, rfl, h k hk⟩
theorem DRep.congr {d' : Dk} (h : DRep w S g d) (hf : ∀ i, i < 8 → d.fs i = d'.fs i) (h1 : d.down = d'.down) (h2 : d.lost = d'.lost) (h3 : d.armed = d'.armed) (h4 : d.keep = d'.keep) : DRep w S g d' := by
  obtain ⟨vs, kv, hr, h⟩ := h
  refine ⟨vs, kv, hr.congr fun j hj => ?_, h.head, fun i hi => by rw [← hf i hi]; exact h.fil i hi, h.own, h.apart, by rw [← h4]; exact h.kp, h.kown, h.kapart, h.klt⟩
  unfold cellD
  split
  · split
    · rfl
    · rw [hf _ (by omega)]
  · rw [h1, h2, h3]
theorem DRep.cLen (h : DRep w S g d) (i : Nat) (hi : i < 8) (n : Nat) (hn : (d.fs i).data.length = n) : ∃ A c, w.cell? ⟨g, i * 2, none⟩ = some (.slice A n c) ∧ n ≤ c := by
  subst hn
  obtain ⟨A, c, h1, h2, _⟩ := h.cData i hi
  exact ⟨A, c, h1, h2⟩
theorem crash_step (d : Dk) (ks : List Int) (k : Nat) (hok : (d.fs k).Ok) :
    (upd (fsK d ks k) k ((fsK d ks k k).trunc ((d.fs k).stay (ks.getD k 0))) k).data.length = (d.fs k).stay (ks.getD k 0) ∧
    upd (upd (fsK d ks k) k ((fsK d ks k k).trunc ((d.fs k).stay (ks.getD k 0)))) k ⟨(upd (fsK d ks k) k ((fsK d ks k k).trunc ((d.fs k).stay (ks.getD k 0))) k).data, (d.fs k).stay (ks.getD k 0)⟩ = fsK d ks (k + 1) := by
  have h := Fl.stay_le hok (ks.getD k 0)
  constructor
  · rw [upd_same, fsK_at]
    show ((d.fs k).data.take _).length = _
    rw [List.length_take]; omega
  · rw [fsK_next, upd_same, fsK_at]
    funext j
    unfold upd
    split
    · rfl
    · rfl
set_option maxRecDepth 100000 in
set_option maxHeartbeats 1000000 in
theorem crash_any (h : DRep w S g d) (ho : Ok d) (kv : Value) (ks : List Int) (hk : Kp w kv ks) (hb : 0 < ks.length → ∀ b, bl kv = some b → b ≠ g) :
    Calls Tryz.prog 21 #[.pointer (some ⟨g, 0, none⟩), kv] w fun e w' => e = .returned (.tuple #[]) ∧ DRep w' S g (crash d ks) ∧ Fr (fun b => b = g) w w' := by
  have c16 := h.cDown
  rcases hd : d.down
  · have hc : crash d ks = ⟨fun i => (d.fs i).crash (ks.getD i 0), true, d.lost, 0, []⟩ := by unfold crash; rw [hd]; rfl
    have Hc := Veil.mk hc; clear hc
    rw [hd] at c16
    have Hb := Veil.mk hb; clear hb
    have Ho := Veil.mk ho; clear ho
    obtain ⟨A, c, rfl, hkc, hkr⟩ := id hk
    have hk0 := Veil.mk hk; clear hk hkr
    have h0 : Veil (DRep w S g { d with fs := fsK d ks 0 }) := ⟨h⟩
    clear h
    go_enter Tryz.func21, Tryz.ntmps21
    go_wp2
    clear c16
    go_loopw [4, 5, 6, 11] (fun _ _ _ i wr => ∃ k : Nat, k ≤ 8 ∧ i = .int .i64 k ∧ Veil (DRep wr S g { d with fs := fsK d ks k }) ∧ Veil (Kp wr (.slice A ks.length c) ks) ∧ Veil (Fr (fun b => b = g) w wr)) (fun _ _ _ i _ => 8 - (intOf i).toNat)
    case atStart => exact ⟨0, by omega, rfl, h0, hk0, ⟨Fr.refl _ _⟩⟩
    case round =>
      clear h0 hk0
      obtain ⟨k, hk, rfl, HD, HK, HF⟩ := hrel
      by_cases hlt : k < 8
      · obtain ⟨A1, c1, cdat, hc1⟩ := HD.out.cLen k hlt (d.fs k).data.length (by simp only [fsK_at])
        have cdur := HD.out.cDur k hlt
        simp only [fsK_at] at cdur
        have hok := Ho.out.fs k
        have hdl := hok.dur
        have hll := hok.len
        have hst := Fl.stay_le hok (ks.getD k 0)
        have hsd : (d.fs k).stay (ks.getD k 0) = (d.fs k).dur + min ((d.fs k).data.length - (d.fs k).dur) (ks.getD k 0).toNat := rfl
        obtain ⟨cs1, cs2⟩ := crash_step d ks k hok
        have CS1 := Veil.mk cs1; have CS2 := Veil.mk cs2; clear cs1 cs2
        have Hst : Veil ((d.fs k).stay (ks.getD k 0) ≤ (fsK d ks k k).data.length) := ⟨by rw [fsK_at]; exact hst⟩
        clear hok hst
        generalize hS : (d.fs k).stay (ks.getD k 0) = st at hsd CS1 CS2 Hst
        have HS := Veil.mk hS; clear hS
        generalize (d.fs k).data.length = ln at *
        generalize (d.fs k).dur = du at *
        by_cases hkl : k < ks.length
        · obtain ⟨b, o, rfl, ck⟩ := HK.out.at' k hkl
          generalize ks.getD k 0 = q at *
          have hcase : (0 < q ∧ q < (ln : Int) - (du : Int)) ∨ (0 < q ∧ ¬ q < (ln : Int) - (du : Int)) ∨ (¬ 0 < q ∧ 0 < (ln : Int) - (du : Int)) ∨ (¬ 0 < q ∧ ¬ 0 < (ln : Int) - (du : Int)) := by omega
          rcases hcase with ⟨hq, hm⟩ | ⟨hq, hm⟩ | ⟨hq, hm⟩ | ⟨hq, hm⟩
          all_goals
            have Hsd := Veil.mk hsd; clear hsd
            go_wp2
            go_quiet (fail)
            have HDq := Veil.mk (HD.out.drewN nq)
            go_wp2_with (
              (go_at_call 84
               refine (trunc_any HDq.out k hlt st _ Hst.out (by have := Hsd.out; omega)).mono ?_
               rintro e w1 ⟨rfl, HD1, HF1⟩
               obtain ⟨A2, c2, cd2, hc2⟩ := HD1.cLen k hlt st CS1.out
               have f2 := HD1.free (k * 2 + 1)
               have c3 := HD1.cDur k hlt
               have HDr : Veil (DRep (w1.setCell ⟨g, k * 2 + 1, none⟩ (.int .i64 (st : Int))) S g { d with fs := fsK d ks (k + 1) }) := ⟨by rw [← CS2.out]; exact HD1.setDur k hlt st⟩
               have hFr := (Fr.drewN (S := fun b => b = g) wr nq).trans (HF1.trans (Fr.setCell (S := fun b => b = g) (p := ⟨g, k * 2 + 1, none⟩) rfl (.int .i64 (st : Int))))
               have HKr := Veil.mk (HK.out.fr Hb.out hFr)
               have HFr := Veil.mk (HF.out.trans hFr)
               clear HD1 HF1 hFr))
            go_roundw
            case rel => exact ⟨k + 1, by omega, by go_num, HDr, HKr, HFr⟩
            case measure => simp [intOf]; omega
        · have hq0 : ks.getD k 0 = 0 := by rw [List.getD_eq_getElem?_getD, List.getElem?_eq_none (by omega)]; rfl
          rw [hq0] at hsd
          have hkl2 : ¬ (k : Int) < ks.length := by omega
          clear hq0
          all_goals
            have Hsd := Veil.mk hsd; clear hsd
            go_wp2
            go_quiet (fail)
            have HDq := Veil.mk (HD.out.drewN nq)
            go_wp2_with (
              (go_at_call 84
               refine (trunc_any HDq.out k hlt st _ Hst.out (by have := Hsd.out; omega)).mono ?_
               rintro e w1 ⟨rfl, HD1, HF1⟩
               obtain ⟨A2, c2, cd2, hc2⟩ := HD1.cLen k hlt st CS1.out
               have f2 := HD1.free (k * 2 + 1)
               have c3 := HD1.cDur k hlt
               have HDr : Veil (DRep (w1.setCell ⟨g, k * 2 + 1, none⟩ (.int .i64 (st : Int))) S g { d with fs := fsK d ks (k + 1) }) := ⟨by rw [← CS2.out]; exact HD1.setDur k hlt st⟩
               have hFr := (Fr.drewN (S := fun b => b = g) wr nq).trans (HF1.trans (Fr.setCell (S := fun b => b = g) (p := ⟨g, k * 2 + 1, none⟩) rfl (.int .i64 (st : Int))))
               have HKr := Veil.mk (HK.out.fr Hb.out hFr)
               have HFr := Veil.mk (HF.out.trans hFr)
               clear HD1 HF1 hFr))
            go_roundw
            case rel => exact ⟨k + 1, by omega, by go_num, HDr, HKr, HFr⟩
            case measure => simp [intOf]; omega
      · have hk8 : 8 ≤ k := by omega
        have H0 : Veil (DRep wr S g { d with fs := (crash d ks).fs }) := ⟨HD.out.congr (fun i hi => by rw [Hc.out]; exact if_pos (show i < k from by omega)) rfl rfl rfl rfl⟩
        have c16 := H0.out.cDown
        have f16 := H0.out.free 16
        have H1 := Veil.mk (H0.out.setDown true)
        have c18 := H1.out.cArmed
        have f18 := H1.out.free 18
        have H2 : Veil (DRep ((wr.setCell ⟨g, 16, none⟩ (.bool true)).setCell ⟨g, 18, none⟩ (.int .i64 0)) S g { d with fs := (crash d ks).fs, down := true, armed := 0 }) := ⟨H1.out.setArmed 0⟩
        obtain ⟨kv, c19, _, _⟩ := H2.out.cKeep
        have f19 := H2.out.free 19
        have H3 : Veil (DRep (((wr.setCell ⟨g, 16, none⟩ (.bool true)).setCell ⟨g, 18, none⟩ (.int .i64 0)).setCell ⟨g, 19, none⟩ (.slice none 0 0)) S g (crash d ks)) := ⟨H2.out.setKeepNil.congr (fun _ _ => rfl) (by rw [Hc.out]) (by rw [Hc.out]) (by rw [Hc.out]) (by rw [Hc.out])⟩
        have HF3 : Veil (Fr (fun b => b = g) w (((wr.setCell ⟨g, 16, none⟩ (.bool true)).setCell ⟨g, 18, none⟩ (.int .i64 0)).setCell ⟨g, 19, none⟩ (.slice none 0 0))) :=
          ⟨HF.out.trans ((Fr.setCell (S := fun b => b = g) (p := ⟨g, 16, none⟩) rfl _).trans ((Fr.setCell (S := fun b => b = g) (p := ⟨g, 18, none⟩) rfl _).trans (Fr.setCell (S := fun b => b = g) (p := ⟨g, 19, none⟩) rfl _)))⟩
        clear hlt
        go_wp2
        go_end0
        exact ⟨rfl, H3.out, HF3.out⟩
  · have hc : crash d ks = d := by unfold crash; rw [if_pos hd]
    rw [hd] at c16
    have H0 : Veil (DRep w S g (crash d ks)) := ⟨by rw [hc]; exact h⟩
    clear h hc hk hb ho hd
    go_enter Tryz.func21, Tryz.ntmps21
    go_wp2
    refine bodyPost_ret (results_none rfl _ _ _) rfl ?_
    exact ⟨rfl, H0.out, Fr.refl _ _⟩
end
end Go.Proofs.YtlefikdjhnaapaaGreatDoor
end
section
namespace Go.Proofs.YtlefikdjhnaapaaGreatDoor
open Go.RowKit Dm
section
variable {S : Nat → Prop} {w : World} {g : Nat} {d : Dk}
theorem struck_hit {d : Dk} {e : Int} (h : (strikes d).1 = true) : struck d e = (8, crash (strikes d).2 (strikes d).2.keep) := by unfold struck; rw [h]; rfl
theorem struck_miss {d : Dk} {e : Int} (h : (strikes d).1 = false) : struck d e = (e, (strikes d).2) := by unfold struck; rw [h]; rfl
theorem all_take {l : List Int} {k : Nat} (hk : k < l.length) (h : (l.take k).all kn = true) (hx : kn (l.getD k 0) = true) : (l.take (k + 1)).all kn = true := by
  rw [List.take_succ_eq_append_getElem hk, List.all_append, h]
  rw [List.getD_eq_getElem?_getD, List.getElem?_eq_getElem hk] at hx
  simpa using hx
theorem all_not {l : List Int} {k : Nat} (hk : k < l.length) (hx : kn (l.getD k 0) = false) : l.all kn = false := by
  rw [List.getD_eq_getElem?_getD, List.getElem?_eq_getElem hk] at hx
  rw [List.all_eq_false]
  exact ⟨l[k], List.getElem_mem hk, by simpa using hx⟩
set_option maxRecDepth 100000 in
set_option maxHeartbeats 1000000 in
theorem begin_any (h : DRep w S g d) (ho : Ok d) (fv : Value) (l : List Int) (hk : Kp w fv l) (hb : ∀ b, bl fv = some b → b ≠ g) (hl : l.length ≤ 1000) :
    Calls Tryz.prog 202 #[.pointer (some ⟨g, 0, none⟩), fv] w fun e w' => e = .returned (.int .i64 (beginD d l).1) ∧ DRep w' S g (beginD d l).2 ∧ Fr (fun b => b = g) w w' := by
  have c16 := h.cDown
  rcases hd : d.down
  · have hB : beginD d l = struck d (if l.all kn then 0 else 1) := by unfold beginD; rw [hd]; rfl
    have HB := Veil.mk hB; clear hB
    rw [hd] at c16
    have HD := Veil.mk h; have HO := Veil.mk ho; have HK := Veil.mk hk; have Hb := Veil.mk hb
    clear h ho hb hd
    rcases hs : (strikes d).1
    · have HB2 : Veil (beginD d l = (if l.all kn then 0 else 1, (strikes d).2)) := ⟨by rw [HB.out, struck_miss hs]⟩
      obtain ⟨A, c, rfl, hkc, hkr⟩ := hk
      clear hkr
      go_enter Tryz.func202, Tryz.ntmps202
      go_wp2_with ((go_at_call 219
                    refine (strikes_any HD.out HO.out).mono ?_
                    rintro e w1 ⟨rfl, HD1, HF1⟩
                    have HK1 := Veil.mk (HK.out.fr (fun _ => Hb.out) HF1)
                    have HD1 := Veil.mk HD1
                    have HF1 := Veil.mk HF1))
      clear HD HK
      go_loop [6, 21] (fun _ i => ∃ k : Nat, k ≤ l.length ∧ i = .int .i64 k ∧ Veil ((l.take k).all kn = true)) (fun _ i => l.length - (intOf i).toNat)
      case atStart => exact ⟨0, by omega, rfl, ⟨rfl⟩⟩
      case round =>
        obtain ⟨k, hk, rfl, Hall⟩ := hrel
        by_cases hlt : k < l.length
        · obtain ⟨b, o, rfl, ck⟩ := HK1.out.at' k hlt
          have hki : (k : Int) < l.length := by omega
          have Ht := Veil.mk (fun hx => all_take hlt Hall.out hx)
          have Hn := Veil.mk (fun hx => all_not (l := l) (k := k) hlt hx)
          generalize l.getD k 0 = q at ck Ht Hn
          rcases hq : kn q
          · go_wp2_with (go_at_call 199; refine (known_any _ _).mono ?_; rintro e w2 ⟨rfl, rfl⟩)
            go_ret
            refine ⟨?_, ?_, HF1.out⟩
            · rw [HB2.out, Hn.out hq]; rfl
            · rw [HB2.out]; exact HD1.out
          · go_wp2_with (go_at_call 199; refine (known_any _ _).mono ?_; rintro e w2 ⟨rfl, rfl⟩)
            go_round
            case rel => exact ⟨k + 1, by omega, by go_num, ⟨Ht.out hq⟩⟩
            case measure => simp [intOf]; omega
        · have hall : l.all kn = true := by
            have := Hall.out
            rwa [List.take_of_length_le (by omega)] at this
          have HA := Veil.mk hall; clear hall
          go_wp2
          go_ret
          refine ⟨?_, ?_, HF1.out⟩
          · rw [HB2.out, HA.out]; rfl
          · rw [HB2.out]; exact HD1.out
    · have HB2 : Veil (beginD d l = (8, crash (strikes d).2 (strikes d).2.keep)) := ⟨by rw [HB.out, struck_hit hs]⟩
      clear hk
      go_enter Tryz.func202, Tryz.ntmps202
      go_wp2_with (first
        | (go_at_call 219
           refine (strikes_any HD.out HO.out).mono ?_
           rintro e w1 ⟨rfl, HD1, HF1⟩
           obtain ⟨kv, ckv, hkp, hkb⟩ := HD1.cKeep
           have HKp := Veil.mk hkp
           have HKb := Veil.mk hkb
           have HD1 := Veil.mk HD1
           have HF1 := Veil.mk HF1
           clear hkp hkb)
        | (go_at_call 21
           refine (crash_any HD1.out (strikes_ok HO.out) _ _ HKp.out (fun _ => HKb.out)).mono ?_
           rintro e w2 ⟨rfl, HD2, HF2⟩
           have HD2 := Veil.mk HD2
           have HF2 := Veil.mk (HF1.out.trans HF2)))
      go_ret
      refine ⟨?_, ?_, HF2.out⟩
      · rw [HB2.out]; rfl
      · rw [HB2.out]; exact HD2.out
  · have hB : beginD d l = (8, d) := by unfold beginD; rw [hd]; rfl
    have HB := Veil.mk hB; clear hB
    rw [hd] at c16
    have HD := Veil.mk h
    clear h hk hb ho hd
    go_enter Tryz.func202, Tryz.ntmps202
    go_wp2
    go_ret
    refine ⟨?_, ?_, Fr.refl _ _⟩
    · rw [HB.out]; rfl
    · rw [HB.out]; exact HD.out
end
end Go.Proofs.YtlefikdjhnaapaaGreatDoor
end
section
namespace Go.Proofs.YtlefikdjhnaapaaGreatDoor
open Go.RowKit Dm
theorem step_ap_str {P : Program} {ops : Array Oper} {o : Oper} {a : Act} {K : Act → World → Prop} {Q : Exit → Act → World → Prop} {E : Prop} (w : World) (hgd : o.guard = none) (s x : Operand) (t u : TypeId)
    (ho : o.op = .call { callee := .builtin .append, args := #[s, x], argTypes := #[t, u] }) (ht : P.underlying t = some (.slice 5)) (hu : P.underlying u = some .string)
    (hE : ElemOk P t 5 1 1) (hz : ∀ i, P.info? 5 = some i → i.zero = some (.int .u8 0)) {v : Value} {l : List UInt8} (hf : Fil w v l) (hs : a.eval s = v) (str : ByteArray) (hx : a.eval x = .string str) (hb : l.length + str.size ≤ 140737488355328)
    (h : ∀ v' w', Fil w' v' (l ++ str.data.toList) → w.grownBy w' (bl v) → (bl v' = bl v ∨ bl v' = some w.heap.size) → K (a.put o.dst v') w') : if Region.wanted o (yielded ops a.tmps) = true then Oper.wp P o a w K Q else E := by
  have hw : Region.wanted o (yielded ops a.tmps) = true := by simp [Region.wanted, hgd]
  rw [if_pos hw]
  obtain ⟨v', w', hrun, h2, h3, h4⟩ := hf.append t u o.type ht hu hE hz str hb
  unfold Oper.wp execOp
  simp only [ho, resolve, invoke, builtin, Sem.run_bind, Sem.run_pure, Result.andThen_ok, List.map_toArray, List.map_cons, List.map_nil, hs, hx, hrun]
  exact h v' w' h2 h3 h4
theorem zero8 : ∀ i, Tryz.prog.info? 5 = some i → i.zero = some (.int .u8 0) := fun i h => by
  have : (Tryz.prog.info? 5).map (·.zero) = some (some (.int .u8 0)) := by kernel_rfl
  rw [h] at this
  simpa using this
section
variable {S : Nat → Prop} {w : World} {g : Nat} {d : Dk}
set_option maxRecDepth 100000 in
set_option maxHeartbeats 2000000 in
theorem append_any (h : DRep w S g d) (ho : Ok d) (hS : ∀ b, w.heap.size ≤ b → S b) (f : Int) (s : ByteArray) (hs : s.size ≤ 9223372036854775807) :
    Calls Tryz.prog 147 #[.pointer (some ⟨g, 0, none⟩), .int .i64 f, .string s] w fun e w' => e = .returned (.int .i64 (appendD d f s.data.toList).1) ∧ DRep w' S g (appendD d f s.data.toList).2 ∧ Fr S w w' := by
  have c16 := h.cDown
  have hsl : s.data.toList.length = s.size := by simp
  have hgS := Veil.mk (show ∀ b, b = g → S b from fun b hb => by rw [hb]; exact h.at')
  rcases hd : d.down
  · rw [hd] at c16
    rcases hk : kn f
    · have hA : appendD d f s.data.toList = struck d 1 := by unfold appendD; rw [hd, hk]; rfl
      have HA := Veil.mk hA; clear hA
      have HD := Veil.mk h; have HO := Veil.mk ho
      clear h ho hd hS hsl
      rcases hst : (strikes d).1
      all_goals
        have HA2 := Veil.mk (HA.out.trans (by first | exact struck_miss hst | exact struck_hit hst))
        go_enter Tryz.func147, Tryz.ntmps147
        go_wp2_with (first
          | (go_at_call 199; refine (known_any _ _).mono ?_; rintro e w2 ⟨rfl, rfl⟩)
          | (go_at_call 219
             refine (strikes_any HD.out HO.out).mono ?_
             rintro e w1 ⟨rfl, HD1, HF1⟩
             obtain ⟨kv, ckv, hkp, hkb⟩ := HD1.cKeep
             have HKp := Veil.mk hkp
             have HKb := Veil.mk hkb
             have HD1 := Veil.mk HD1
             have HF1 := Veil.mk HF1
             clear hkp hkb)
          | (go_at_call 21
             refine (crash_any HD1.out (strikes_ok HO.out) _ _ HKp.out (fun _ => HKb.out)).mono ?_
             rintro e w2 ⟨rfl, HD2, HF2⟩
             have HD1 := Veil.mk HD2
             have HF1 := Veil.mk (HF1.out.trans HF2)))
        go_ret
        refine ⟨?_, ?_, HF1.out.more hgS.out⟩
        · rw [HA2.out]; rfl
        · rw [HA2.out]; exact HD1.out
    · obtain ⟨n, rfl, hn⟩ := kn_form hk
      have hlen := (ho.fs n).len
      by_cases hfull : 16777216 < (d.fs n).data.length + s.size
      · have hA : appendD d (n : Int) s.data.toList = struck d 7 := by unfold appendD; rw [hd, hk, hsl, if_neg (by simp), if_neg (by simp)]; exact if_pos hfull
        have HA := Veil.mk hA; clear hA
        obtain ⟨A, c, cn, hc, _⟩ := h.cData n hn
        have hfi : (16777216 : Int) - ((d.fs n).data.length : Int) < (s.size : Int) := by omega
        have HD := Veil.mk h; have HO := Veil.mk ho
        clear h ho hd hS hsl hfull
        generalize (d.fs n).data.length = ln at *
        rcases hst : (strikes d).1
        all_goals
          have HA2 := Veil.mk (HA.out.trans (by first | exact struck_miss hst | exact struck_hit hst))
          go_enter Tryz.func147, Tryz.ntmps147
          go_wp2_with (first
            | (go_at_call 199; refine (known_any _ _).mono ?_; rintro e w2 ⟨rfl, rfl⟩)
            | (go_at_call 219
               refine (strikes_any HD.out HO.out).mono ?_
               rintro e w1 ⟨rfl, HD1, HF1⟩
               obtain ⟨kv, ckv, hkp, hkb⟩ := HD1.cKeep
               have HKp := Veil.mk hkp
               have HKb := Veil.mk hkb
               have HD1 := Veil.mk HD1
               have HF1 := Veil.mk HF1
               clear hkp hkb)
            | (go_at_call 21
               refine (crash_any HD1.out (strikes_ok HO.out) _ _ HKp.out (fun _ => HKb.out)).mono ?_
               rintro e w2 ⟨rfl, HD2, HF2⟩
               have HD1 := Veil.mk HD2
               have HF1 := Veil.mk (HF1.out.trans HF2)))
          go_ret
          refine ⟨?_, ?_, HF1.out.more hgS.out⟩
          · rw [HA2.out]; rfl
          · rw [HA2.out]; exact HD1.out
      · have hA : appendD d (n : Int) s.data.toList = struck { d with fs := upd d.fs n ⟨(d.fs n).data ++ s.data.toList, (d.fs n).dur⟩ } 0 := by unfold appendD; rw [hd, hk, hsl, if_neg (by simp), if_neg (by simp)]; exact if_neg hfull
        have HA := Veil.mk hA; clear hA
        have hoD : Ok { d with fs := upd d.fs n ⟨(d.fs n).data ++ s.data.toList, (d.fs n).dur⟩ } := ⟨upd_ok ho.fs _ ⟨by have := (ho.fs n).dur; simp only [List.length_append]; omega, by simp only [List.length_append]; omega⟩, ho.lost, ho.armed⟩
        have HO := Veil.mk hoD; clear hoD
        obtain ⟨vs, kv, hr, h3⟩ := h
        obtain ⟨A, c, hv, hc⟩ := (h3.fil n hn).form
        have cn := hr.cell (i := n * 2) (by omega)
        rw [cellD_data _ _ _ _ hn, hv] at cn
        have hfil := Veil.mk (h3.fil n hn)
        have hap := Veil.mk (fun {w' : World} {v : Value} {l : List UInt8} (hf : Fil w' v l) (hg : w.drew.grownBy w' (bl (vs n))) (hb : bl v = bl (vs n) ∨ bl v = some w.drew.heap.size) =>
          DRep.appended (w := w.drew) hr ⟨h3.head, h3.fil, h3.own, h3.apart, h3.kp, h3.kown, h3.kapart, h3.klt⟩ n hn hf hg hb (hS _ (Nat.le_refl _)))
        have hfi : ¬ (16777216 : Int) - ((d.fs n).data.length : Int) < (s.size : Int) := by omega
        have hsz : (d.fs n).data.length + s.size ≤ 140737488355328 := by omega
        have Hsz := Veil.mk hsz
        have hn8 : (n : Int) < 8 := by omega
        have Hlen : Veil (((d.fs n).data ++ s.data.toList).length = (d.fs n).data.length + s.size) := ⟨by rw [List.length_append, hsl]⟩
        rw [hv] at hfil hap
        clear hr h3 ho hd hS hfull hsz hv
        clear hsl
        go_enter Tryz.func147, Tryz.ntmps147
        go_wp2_with (first
          | (go_at_call 199; refine (known_any _ _).mono ?_; rintro e w2 ⟨rfl, rfl⟩))
        go_region_law (refine step_ap_str w.drew rfl (.tmp 37) (.tmp 38) _ _ rfl Tryz.underlying114 Tryz.underlying9 elem8 zero8 hfil.out rfl s rfl Hsz.out ?_; intro v' w' hf' hg' hb'; obtain ⟨A', c', hv', hc'⟩ := hf'.form; rw [Hlen.out] at hv' hc'; subst hv'; obtain ⟨cc, ff, HD0, HF0⟩ := hap.out hf' hg' hb'; have HD0 := Veil.mk HD0; have HF0 := Veil.mk HF0; clear hf' hg' hb')
        all_goals
          rcases hst : (strikes { d with fs := upd d.fs n ⟨(d.fs n).data ++ s.data.toList, (d.fs n).dur⟩ }).1
          all_goals
            have HA2 := Veil.mk (HA.out.trans (by first | exact struck_miss hst | exact struck_hit hst))
            go_wp2_with (first
              | (go_at_call 219
                 refine (strikes_any HD0.out HO.out).mono ?_
                 rintro e w1 ⟨rfl, HD1, HF1⟩
                 obtain ⟨kv, ckv, hkp, hkb⟩ := HD1.cKeep
                 have HKp := Veil.mk hkp
                 have HKb := Veil.mk hkb
                 have HD1 := Veil.mk HD1
                 have HF1 := Veil.mk (HF0.out.trans (HF1.more hgS.out))
                 clear hkp hkb)
              | (go_at_call 21
                 refine (crash_any HD1.out (strikes_ok HO.out) _ _ HKp.out (fun _ => HKb.out)).mono ?_
                 rintro e w2 ⟨rfl, HD2, HF2⟩
                 have HD1 := Veil.mk HD2
                 have HF1 := Veil.mk (HF1.out.trans (HF2.more hgS.out))))
            go_ret
            refine ⟨?_, ?_, (Fr.drewN w 1).trans HF1.out⟩
            · rw [HA2.out]; rfl
            · rw [HA2.out]; exact HD1.out
  · have hA : appendD d f s.data.toList = (8, d) := by unfold appendD; rw [if_pos hd]
    have HA := Veil.mk hA; clear hA
    rw [hd] at c16
    have HD := Veil.mk h
    clear h ho hd hS hsl
    go_enter Tryz.func147, Tryz.ntmps147
    go_wp2
    go_ret
    refine ⟨?_, ?_, Fr.refl _ _⟩
    · rw [HA.out]; rfl
    · rw [HA.out]; exact HD.out
end
end Go.Proofs.YtlefikdjhnaapaaGreatDoor
end
section
namespace Go.Proofs.YtlefikdjhnaapaaGreatDoor
open Go.RowKit Dm
section
variable {S : Nat → Prop} {w : World} {g : Nat} {d : Dk}
theorem beginD_zero {l : List Int} (h : (beginD d l).1 = 0) : l.all kn = true := by
  unfold beginD struck at h
  split at h
  · cases h
  split at h
  · cases h
  · simp only at h
    split at h
    · assumption
    · cases h
theorem Kp.lit1 (w : World) (t : TypeId) (x : Int) : Kp (w.alloc (.cells #[.int .i64 x] t)) (.slice (some ⟨w.heap.size, 0, none⟩) 1 1) [x] :=
  ⟨_, 1, rfl, Nat.le_refl _, fun _ => ⟨w.heap.size, 0, rfl, fun j hj => by
    obtain rfl : j = 0 := by simpa using hj
    rw [Nat.zero_add, cell_of_row _ _ 0 _ _ _ (heap_alloc_new w _)]
    rfl⟩⟩
theorem bl_ne {n m : Nat} (h : g < w.heap.size) : ∀ b, bl (.slice (some ⟨w.heap.size, 0, none⟩) n (m + 1)) = some b → b ≠ g := fun b hb => by
  have : w.heap.size = b := Option.some.inj hb
  omega
set_option maxRecDepth 100000 in
set_option maxHeartbeats 1000000 in
theorem flush_any (h : DRep w S g d) (ho : Ok d) (hS : ∀ b, w.heap.size ≤ b → S b) (f : Int) :
    Calls Tryz.prog 131 #[.pointer (some ⟨g, 0, none⟩), .int .i64 f] w fun e w' => e = .returned (.int .i64 (flushD d f).1) ∧ DRep w' S g (flushD d f).2 ∧ Fr S w w' := by
  have hgS := Veil.mk (show ∀ b, b = g → S b from fun b hb => by rw [hb]; exact h.at')
  have HD := Veil.mk (h.alloc (.cells #[.int .i64 f] 3))
  have HO := Veil.mk ho
  have Hne := Veil.mk (bl_ne (n := 1) (m := 0) h.lt)
  have Hgl := Veil.mk h.lt
  have HKl := Veil.mk (Kp.lit1 w 3 f)
  have HO1 := Veil.mk (begin_ok ho [f])
  have hz := beginD_zero (d := d) (l := [f])
  have hF : flushD d f = (if (beginD d [f]).1 ≠ 0 then beginD d [f] else if 0 < (beginD d [f]).2.lost then (18, { (beginD d [f]).2 with lost := (beginD d [f]).2.lost - 1 }) else (0, { (beginD d [f]).2 with fs := upd (beginD d [f]).2.fs f.toNat ⟨((beginD d [f]).2.fs f.toNat).data, ((beginD d [f]).2.fs f.toNat).data.length⟩ })) := rfl
  have hB := begin_any HD.out ho (.slice (some ⟨w.heap.size, 0, none⟩) 1 1) [f] HKl.out Hne.out (by show 1 ≤ 1000; omega)
  obtain ⟨e1, D1, hbe⟩ : ∃ e1 D1, beginD d [f] = (e1, D1) := ⟨_, _, rfl⟩
  rw [hbe] at hB hF HO1 hz
  simp only at hB hF HO1 hz
  have HF := Veil.mk hF
  have HB := Veil.mk hB
  clear hF hB h ho HD HKl hbe
  by_cases h0 : e1 = 0
  · subst h0
    have hkf : kn f = true := by simpa using hz rfl
    obtain ⟨n, rfl, hn⟩ := kn_form hkf
    clear hz hkf
    by_cases hl : 0 < D1.lost
    · have HF2 : Veil (flushD d (n : Int) = (18, { D1 with lost := D1.lost - 1 })) := ⟨by rw [HF.out, if_neg (by simp), if_pos hl]⟩
      have hll := HO1.out.lost
      go_enter Tryz.func131, Tryz.ntmps131
      go_wp2_with ((go_at_call 202
                    refine HB.out.mono ?_
                    rintro e w1 ⟨rfl, HD1, HF1⟩
                    have c17 := HD1.cLost
                    have f17 := HD1.free 17
                    have HD2 : Veil (∀ q : Int, q = (D1.lost : Int) - 1 → DRep (w1.setCell ⟨g, 17, none⟩ (.int .i64 q)) S g { D1 with lost := D1.lost - 1 }) := ⟨fun q hq => by
                      rw [show q = ((D1.lost - 1 : Nat) : Int) from by omega]; exact HD1.setLost (D1.lost - 1)⟩
                    have HF1 := Veil.mk ((Fr.alloc (S := S) w (.cells #[.int .i64 (n : Int)] 3)).trans (HF1.more hgS.out))
                    clear HD1))
      go_ret
      refine ⟨?_, ?_, HF1.out.trans (Fr.setCell (p := ⟨g, 17, none⟩) (hgS.out g rfl) _)⟩
      · rw [HF2.out]; rfl
      · rw [HF2.out]; exact HD2.out _ (by omega)
    · have HF2 : Veil (flushD d (n : Int) = (0, { D1 with fs := upd D1.fs n ⟨(D1.fs n).data, (D1.fs n).data.length⟩ })) := ⟨by rw [HF.out, if_neg (by simp), if_neg hl]; rfl⟩
      have hn8 : (n : Int) < 8 := by omega
      go_enter Tryz.func131, Tryz.ntmps131
      go_wp2_with ((go_at_call 202
                    refine HB.out.mono ?_
                    rintro e w1 ⟨rfl, HD1, HF1⟩
                    have c17 := HD1.cLost
                    obtain ⟨A, c, cn, hc⟩ := HD1.cLen n hn _ rfl
                    have cdu := HD1.cDur n hn
                    have fdu := HD1.free (n * 2 + 1)
                    have HD2 := Veil.mk ((HD1.drewN 1).setDur n hn (D1.fs n).data.length)
                    have HF1 := Veil.mk ((Fr.alloc (S := S) w (.cells #[.int .i64 (n : Int)] 3)).trans (HF1.more hgS.out))
                    clear HD1))
      refine wp_region_still_tail 14 (by kernel_rfl) (by kernel_rfl) ?_
      simp only [List.take_succ_cons, List.take_zero, List.drop_succ_cons, List.drop_zero]
      repeat still_step
      refine wpStill_nil ?_
      change wpList _ _ _ _ _ w1.drew
      go_wp2
      go_ret
      refine ⟨?_, ?_, HF1.out.trans ((Fr.drewN w1 1).trans (Fr.setCell (p := ⟨g, n * 2 + 1, none⟩) (hgS.out g rfl) _))⟩
      · rw [HF2.out]; rfl
      · rw [HF2.out]; exact HD2.out
  · have HF2 : Veil (flushD d f = (e1, D1)) := ⟨by rw [HF.out, if_pos h0]⟩
    clear hz
    have h0' : (e1 == 0) = false := beq_false_of_ne h0
    go_enter Tryz.func131, Tryz.ntmps131
    go_wp2_with ((go_at_call 202
                  refine HB.out.mono ?_
                  rintro e w1 ⟨rfl, HD1, HF1⟩
                  have HD1 := Veil.mk HD1
                  have HF1 := Veil.mk ((Fr.alloc (S := S) w (.cells #[.int .i64 f] 3)).trans (HF1.more hgS.out))))
    go_ret
    refine ⟨?_, ?_, HF1.out⟩
    · rw [HF2.out]; rfl
    · rw [HF2.out]; exact HD1.out
end
end Go.Proofs.YtlefikdjhnaapaaGreatDoor
end
section
namespace Go.Proofs.YtlefikdjhnaapaaGreatDoor
open Go.RowKit Dm
section
variable {S : Nat → Prop} {w : World} {g : Nat} {d : Dk}
set_option maxRecDepth 100000 in
set_option maxHeartbeats 1000000 in
theorem cut_any (h : DRep w S g d) (ho : Ok d) (hS : ∀ b, w.heap.size ≤ b → S b) (f m : Int) :
    Calls Tryz.prog 129 #[.pointer (some ⟨g, 0, none⟩), .int .i64 f, .int .i64 m] w fun e w' => e = .returned (.int .i64 (cutD d f m).1) ∧ DRep w' S g (cutD d f m).2 ∧ Fr S w w' := by
  have hgS := Veil.mk (show ∀ b, b = g → S b from fun b hb => by rw [hb]; exact h.at')
  have HD := Veil.mk (h.alloc (.cells #[.int .i64 f] 3))
  have Hne := Veil.mk (bl_ne (n := 1) (m := 0) h.lt)
  have HKl := Veil.mk (Kp.lit1 w 3 f)
  have HO1 := Veil.mk (begin_ok ho [f])
  have hz := beginD_zero (d := d) (l := [f])
  have hF : cutD d f m = (if (beginD d [f]).1 ≠ 0 then beginD d [f] else if m < 0 ∨ (size (beginD d [f]).2 f : Int) < m then (1, (beginD d [f]).2) else (0, { (beginD d [f]).2 with fs := upd (beginD d [f]).2.fs f.toNat (((beginD d [f]).2.fs f.toNat).trunc m.toNat) })) := rfl
  have hB := begin_any HD.out ho (.slice (some ⟨w.heap.size, 0, none⟩) 1 1) [f] HKl.out Hne.out (by show 1 ≤ 1000; omega)
  obtain ⟨e1, D1, hbe⟩ : ∃ e1 D1, beginD d [f] = (e1, D1) := ⟨_, _, rfl⟩
  rw [hbe] at hB hF HO1 hz
  simp only at hB hF HO1 hz
  have HF := Veil.mk hF
  have HB := Veil.mk hB
  clear hF hB h ho HD HKl hbe
  by_cases h0 : e1 = 0
  · subst h0
    have hkf : kn f = true := by simpa using hz rfl
    obtain ⟨n, rfl, hn⟩ := kn_form hkf
    clear hz
    have hn8 : (n : Int) < 8 := by omega
    have hsz : size D1 (n : Int) = (D1.fs n).data.length := by unfold size; rw [hkf]; rfl
    rw [hsz] at HF
    have Hsz := Veil.mk hsz; clear hsz hkf
    by_cases hm0 : m < 0
    · have HF2 : Veil (cutD d (n : Int) m = (1, D1)) := ⟨by rw [HF.out, if_neg (by simp), if_pos (.inl hm0)]⟩
      go_enter Tryz.func129, Tryz.ntmps129
      go_wp2_with ((go_at_call 202
                    refine HB.out.mono ?_
                    rintro e w1 ⟨rfl, HD1, HF1⟩
                    have HD1 := Veil.mk HD1
                    have HF1 := Veil.mk ((Fr.alloc (S := S) w (.cells #[.int .i64 (n : Int)] 3)).trans (HF1.more hgS.out))))
      go_ret
      refine ⟨?_, ?_, HF1.out⟩
      · rw [HF2.out]; rfl
      · rw [HF2.out]; exact HD1.out
    · obtain ⟨k, rfl⟩ := Int.eq_ofNat_of_zero_le (show 0 ≤ m by omega)
      by_cases hmk : (D1.fs n).data.length < k
      · have HF2 : Veil (cutD d (n : Int) (k : Int) = (1, D1)) := ⟨by rw [HF.out, if_neg (by simp), if_pos (.inr (by omega))]⟩
        have hmi : ((D1.fs n).data.length : Int) < (k : Int) := by omega
        go_enter Tryz.func129, Tryz.ntmps129
        go_wp2_with (first
          | (go_at_call 202
             refine HB.out.mono ?_
             rintro e w1 ⟨rfl, HD1, HF1⟩
             have HD1 := Veil.mk HD1
             have HF1 := Veil.mk ((Fr.alloc (S := S) w (.cells #[.int .i64 (n : Int)] 3)).trans (HF1.more hgS.out)))
          | (go_at_call 203
             refine (size_any HD1.out _).mono ?_
             rintro e w2 ⟨rfl, rfl⟩
             rw [Hsz.out]))
        go_ret
        refine ⟨?_, ?_, HF1.out⟩
        · rw [HF2.out]; rfl
        · rw [HF2.out]; exact HD1.out
      · have HF2 : Veil (cutD d (n : Int) (k : Int) = (0, { D1 with fs := upd D1.fs n ((D1.fs n).trunc k) })) := ⟨by rw [HF.out, if_neg (by simp), if_neg (by omega)]; rfl⟩
        have hmi : ¬ ((D1.fs n).data.length : Int) < (k : Int) := by omega
        have Hkl : Veil (k ≤ (D1.fs n).data.length) := ⟨by omega⟩
        clear hmk
        go_enter Tryz.func129, Tryz.ntmps129
        go_wp2_with (first
          | (go_at_call 202
             refine HB.out.mono ?_
             rintro e w1 ⟨rfl, HD1, HF1⟩
             have HD1 := Veil.mk HD1
             have HF1 := Veil.mk ((Fr.alloc (S := S) w (.cells #[.int .i64 (n : Int)] 3)).trans (HF1.more hgS.out)))
          | (go_at_call 203
             refine (size_any HD1.out _).mono ?_
             rintro e w2 ⟨rfl, rfl⟩
             rw [Hsz.out])
          | (go_at_call 84
             refine (trunc_any HD1.out n hn k _ Hkl.out rfl).mono ?_
             rintro e w2 ⟨rfl, HD2, HF2'⟩
             have HD2 := Veil.mk HD2
             have HF1 := Veil.mk (HF1.out.trans (HF2'.more hgS.out))))
        go_ret
        refine ⟨?_, ?_, HF1.out⟩
        · rw [HF2.out]; rfl
        · rw [HF2.out]; exact HD2.out
  · have HF2 : Veil (cutD d f m = (e1, D1)) := ⟨by rw [HF.out, if_pos h0]⟩
    clear hz
    have h0' : (e1 == 0) = false := beq_false_of_ne h0
    go_enter Tryz.func129, Tryz.ntmps129
    go_wp2_with ((go_at_call 202
                  refine HB.out.mono ?_
                  rintro e w1 ⟨rfl, HD1, HF1⟩
                  have HD1 := Veil.mk HD1
                  have HF1 := Veil.mk ((Fr.alloc (S := S) w (.cells #[.int .i64 f] 3)).trans (HF1.more hgS.out))))
    go_ret
    refine ⟨?_, ?_, HF1.out⟩
    · rw [HF2.out]; rfl
    · rw [HF2.out]; exact HD1.out
end
theorem DRep.fresh (w : World) (S : Nat → Prop) (hS : ∀ b, w.heap.size ≤ b → S b) (cs : Array Value) (hc : cs = (List.replicate 8 [Value.slice none 0 0, .int .i64 0]).flatten.toArray ++ #[.bool false, .int .i64 0, .int .i64 0, .slice none 0 0]) :
    DRep (w.alloc (.cells cs 119)) S w.heap.size dk0 := by
  subst hc
  refine ⟨fun _ => .slice none 0 0, .slice none 0 0, World.rowIs_alloc w _ _ (cellD (fun _ => .slice none 0 0) (.slice none 0 0) dk0) fun i hi => ?_, hS _ (Nat.le_refl _), fun i _ => Fil.nil _, fun i b _ hb => (by cases hb), fun i j b _ _ _ hb => (by cases hb), Kp.nil _, fun b hb => (by cases hb), fun i b _ hb => (by cases hb), fun b hb => (by cases hb)⟩
  have hi : i < 20 := hi
  rcases i with _ | _ | _ | _ | _ | _ | _ | _ | _ | _ | _ | _ | _ | _ | _ | _ | _ | _ | _ | _ | i
  all_goals first | rfl | omega
set_option maxRecDepth 100000 in
theorem new_any (w : World) (S : Nat → Prop) (hS : ∀ b, w.heap.size ≤ b → S b) :
    Calls Tryz.prog 12 #[] w fun e w' => ∃ g, e = .returned (.pointer (some ⟨g, 0, none⟩)) ∧ DRep w' S g dk0 ∧ Fr S w w' ∧ g = w.heap.size := by
  have H := Veil.mk (DRep.fresh w S hS _ rfl)
  go_enter Tryz.func12, Tryz.ntmps12
  go_wp2
  go_ret
  exact ⟨_, rfl, H.out, Fr.alloc _ _, rfl⟩
end Go.Proofs.YtlefikdjhnaapaaGreatDoor
end
section
namespace Go.Proofs.YtlefikdjhnaapaaGreatDoor
open Go.RowKit Dm
def intC (ks : List Int) : List Value := ks.map (Value.int .i64)
theorem Kp.rd {w : World} {v : Value} {ks : List Int} (h : Kp w v ks) : Rd w w.heap.size 1 v (intC ks) := by
  obtain ⟨A, c, rfl, hc, hr⟩ := h
  refine ⟨A, ks.length, c, rfl, hc, by simp [intC], fun h0 => ?_⟩
  obtain ⟨b, o, rfl, h⟩ := hr h0
  refine ⟨_, rfl, World.block_lt_of_cell? w _ (h 0 h0), fun j u hu => ?_⟩
  rw [Addr.add_lit]
  unfold intC at hu
  rw [List.getElem?_map] at hu
  obtain ⟨x, hx, rfl⟩ := Option.map_eq_some_iff.1 hu
  have hj := (List.getElem?_eq_some_iff.1 hx).1
  rw [h j hj, List.getD_eq_getElem?_getD, hx]
  rfl
section
variable {S : Nat → Prop} {w : World} {g : Nat} {d : Dk}
end
end Go.Proofs.YtlefikdjhnaapaaGreatDoor
end
section
namespace Go.Proofs.YtlefikdjhnaapaaGreatDoor
open Go.RowKit Dm
structure Copied (w wr : World) (vs : Nat → Value) (kv : Value) (d : Dk) (k : Nat) (vs' : Nat → Value) : Prop where
  row : wr.rowIs w.heap.size 119 20 (cellD (fun i => if i < k then vs' i else vs i) kv d)
  grown : w.grownBy wr none
  fil : ∀ i, i < k → Fil wr (vs' i) (d.fs i).data
  own : ∀ i b, i < k → bl (vs' i) = some b → w.heap.size < b ∧ b < wr.heap.size
  apart : ∀ i j b, i < k → j < k → i ≠ j → bl (vs' i) = some b → bl (vs' j) ≠ some b
theorem Copied.step {w wr w1 : World} {vs : Nat → Value} {kv : Value} {d : Dk} {k : Nat} {vs' : Nat → Value} (h : Copied w wr vs kv d k vs') (hk : k < 8) {v : Value} (hg : wr.grownBy w1 none) (hf : Fil w1 v (d.fs k).data)
    (hb : ∀ b, bl v = some b → wr.heap.size ≤ b ∧ b < w1.heap.size) :
    (∃ u, w1.cell? ⟨w.heap.size, k * 2, none⟩ = some u) ∧ w1.frozen? ⟨w.heap.size, k * 2, none⟩ = false ∧ Copied w (w1.setCell ⟨w.heap.size, k * 2, none⟩ v) vs kv d (k + 1) (fun i => if i = k then v else vs' i) := by
  have hrl := h.row.lt
  have hr1 := h.row.of_block (hg.block _ hrl (by simp))
  have h0 : w.heap.size < wr.heap.size := hrl
  refine ⟨⟨_, hr1.cell (by omega)⟩, hr1.frozen _, (hr1.set (k * 2) v).congr fun j hj => ?_, ?_, fun i hi => ?_, fun i b hi hbl => ?_, fun i j b hi hj hij hbi hbj => ?_⟩
  · show (if j = k * 2 then _ else _) = _
    by_cases e : j = k * 2
    · subst e
      rw [if_pos rfl, cellD_data _ _ _ _ hk, if_pos (by omega), if_pos rfl]
    · rw [if_neg e]
      unfold cellD
      split
      · split
        · show (if j / 2 < k then vs' (j / 2) else vs (j / 2)) = (if j / 2 < k + 1 then (if j / 2 = k then v else vs' (j / 2)) else vs (j / 2))
          by_cases e1 : j / 2 < k
          · rw [if_pos e1, if_pos (by omega), if_neg (by omega)]
          · rw [if_neg e1, if_neg (by omega)]
        · rfl
      · rfl
  · exact ⟨hg.os.trans h.grown.os, hg.tape.trans h.grown.tape, hg.output.trans h.grown.output, by simpa using Nat.le_trans h.grown.size hg.size, fun b hlt hne => (Below.heap_setCell w1 _ v b (show b ≠ w.heap.size by omega)).trans ((hg.block b (by omega) (by simp)).trans (h.grown.block b hlt hne))⟩
  · by_cases e : i = k
    · subst e
      simp only [if_pos]
      exact hf.keep fun b hbl => Below.heap_setCell w1 _ v b (show b ≠ w.heap.size by have := (hb b hbl).1; omega)
    · simp only [if_neg e]
      have hi' : i < k := by omega
      exact ((h.fil i hi').keep fun b hbl => hg.block b (h.own i b hi' hbl).2 (by simp)).keep fun b hbl => Below.heap_setCell w1 _ v b (show b ≠ w.heap.size by have := (h.own i b hi' hbl).1; omega)
  · by_cases e : i = k
    · subst e
      simp only [if_pos] at hbl
      have := hb b hbl
      exact ⟨by omega, by simpa using this.2⟩
    · simp only [if_neg e] at hbl
      have := h.own i b (by omega) hbl
      have := hg.size
      exact ⟨by omega, by simp; omega⟩
  · by_cases e : i = k
    · subst e
      have e2 : j ≠ i := fun h => hij h.symm
      simp only [if_pos, if_neg e2] at hbi hbj
      have h1 := hb b hbi
      have h2 := h.own j b (by omega) hbj
      omega
    · by_cases e2 : j = k
      · subst e2
        simp only [if_pos, if_neg e] at hbi hbj
        have h1 := hb b hbj
        have h2 := h.own i b (by omega) hbi
        omega
      · simp only [if_neg e, if_neg e2] at hbi hbj
        exact h.apart i j b (by omega) (by omega) hij hbi hbj
section
variable {S : Nat → Prop} {w : World} {g : Nat} {d : Dk}
end
end Go.Proofs.YtlefikdjhnaapaaGreatDoor
end
section
namespace Go.Proofs.YtlefikdjhnaapaaGreatDoor.Pe
open Go Go.RowKit Dm
variable [Tab]
section
variable {P : Program} {w w' : World} {g : Gh}
theorem drep_lt {S : Nat → Prop} {p : Nat} {d : Dk} (h : DRep w S p d) : DRep w (fun b => S b ∧ b < w.heap.size) p d := by
  obtain ⟨vs, kv, hr, h⟩ := h
  exact ⟨vs, kv, hr, ⟨h.head, hr.lt⟩, h.fil, fun i b hi hb => ⟨⟨(h.own i b hi hb).1, (h.fil i hi).block b hb⟩, (h.own i b hi hb).2⟩, h.apart, h.kp, fun b hb => ⟨⟨(h.kown b hb).1, h.klt b hb⟩, (h.kown b hb).2⟩, h.kapart, h.klt⟩
abbrev XD (d : Dk) : SObj := .ext fun w p S => DRep w S p d ∧ Ok d
theorem AC.ofFr {f : FuncId} {args : List AV} {v : AV} {X X' : World → Nat → (Nat → Prop) → Prop} (hcan : callable P f = true)
    (hX : ∀ w p (S T : Nat → Prop), X w p S → (∀ b, S b → T b) → X w p T)
    (hX' : ∀ (w w' : World) p (S : Nat → Prop), X' w p S → (∀ b, S b ∧ b < w.heap.size → w'.heap[b]? = w.heap[b]?) → X' w' p (fun b => S b ∧ b < w.heap.size))
    (h : ∀ (w : World) (g : Gh) (S : Nat → Prop) (cargs : Array Value), LRel w g args cargs → g.buf 0 = false → 0 < g.nid → g.G (g.pl 0) = 0 → S (g.pl 0) → (∀ b, w.heap.size ≤ b → S b) → X w (g.pl 0) S →
      Calls P f cargs w fun r w' => ∃ cv, r = .returned cv ∧ (∀ g', Rel w' g' v cv) ∧ X' w' (g.pl 0) S ∧ Fr S w w') : AC P f args [.ext X] v [.ext X'] := by
  refine ⟨hcan, fun w g cargs hw hargs => ?_⟩
  obtain ⟨ho1, ho2, ho3, ho4⟩ := hw.obj 0 _ rfl
  have hn : g.nid = 1 := hw.nid
  have hlt := hw.lt 0
  refine (h w g (fun b => g.own 0 b ∨ w.heap.size ≤ b) cargs hargs ho1 (by omega) (ho3 _ ho2) (.inl ho2) (fun b hb => .inr hb) (hX _ _ _ _ (ho4 w (fun _ _ => rfl)) fun b hb => .inl hb)).mono ?_
  rintro r w' ⟨cv, rfl, h1, h2, h3⟩
  have hb : ∀ b, b < w.heap.size → ¬ g.own 0 b → w'.heap[b]? = w.heap[b]? := fun b hb hno => h3.block b hb (fun e => e.elim hno (fun e => by omega))
  have hsz := h3.size
  generalize hg' : ({ g with own := fun l b => if l = 0 then (g.own 0 b ∨ w.heap.size ≤ b) ∧ b < w'.heap.size else g.own l b, G := fun b => if b < w.heap.size then g.G b else 0 } : Gh) = g'
  have eG : ∀ b, b < w.heap.size → g'.G b = g.G b := fun b hb => by rw [← hg']; exact if_pos hb
  have eG0 : ∀ b, ¬ b < w.heap.size → g'.G b = 0 := fun b hb => by rw [← hg']; exact if_neg hb
  have eo : g'.own 0 = fun b => (g.own 0 b ∨ w.heap.size ≤ b) ∧ b < w'.heap.size := by rw [← hg']; rfl
  have epl : g'.pl = g.pl := by rw [← hg']
  have ebuf : g'.buf = g.buf := by rw [← hg']
  have enid : g'.nid = g.nid := by rw [← hg']
  have ewm : g'.wm = g.wm := by rw [← hg']
  have ecap : g'.cap = g.cap := by rw [← hg']
  clear hg'
  have hcl : ∀ b o u, w.cell? ⟨b, o, none⟩ = some u → b < w.heap.size := fun b o u hu => World.block_lt_of_cell? w _ hu
  have hle : Le w g w' g' := ⟨fun b o u hG hc => by
      rw [World.cell?_of_block (hb b (hcl b o u hc) (fun e => by rw [ho3 b e] at hG; omega))]; exact hc,
    fun b o u hG hc => by rw [eG b (hcl b o u hc)]; exact hG, by rw [enid]; exact Nat.le_refl _, fun l _ => ⟨by rw [ebuf], .inl ⟨by rw [epl], by rw [ewm], by rw [ecap]⟩⟩,
    fun b me c hG hm => by
      have hlt' := (Array.getElem?_eq_some_iff.1 hm).1
      have hno : ¬ g.own 0 b := fun e => by rw [ho3 b e] at hG; omega
      exact ⟨by rw [eG b hlt']; exact hG, (hb b hlt' hno).trans hm⟩⟩
  refine ⟨cv, g', rfl, ?_, h1 g', ?_⟩
  · refine hw.touch (l := 0) (by simp) hle enid (fun k hk hk' => by omega) (fun b hbo => ?_) hsz (fun b hb _ => eG b hb) hb ?_
    · rw [eo] at hbo
      rcases hbo with ⟨h | h, h'⟩
      · exact .inl h
      · exact .inr ⟨h, h'⟩
    · refine ⟨by rw [ebuf]; exact ho1, ?_, ?_, ?_⟩
      · rw [eo, epl]; exact ⟨.inl ho2, by have := hlt _ (by omega) ho2; omega⟩
      · intro b hbo
        rw [eo] at hbo
        by_cases hlt' : b < w.heap.size
        · rw [eG b hlt']; exact ho3 b (hbo.1.elim id fun e => by omega)
        · exact eG0 b hlt'
      · intro w'' hs
        rw [eo, epl]
        rw [eo] at hs
        exact hX' w' w'' _ _ h2 hs
  · refine ⟨hle, h3.os, h3.tape, h3.output, hsz, fun b hlt' hno => hb b hlt' (hno 0 (by omega)), fun l b hl hbo hlt' => ?_, fun b hlt' _ => eG b hlt'⟩
    rw [enid] at hl
    obtain rfl : l = 0 := by omega
    rw [eo] at hbo
    exact ⟨hl, hbo.1.elim id fun e => by omega⟩
theorem AC.newFr {f : FuncId} {args : List AV} {S0 : Store} {X : World → Nat → (Nat → Prop) → Prop} (hcan : callable P f = true)
    (hX' : ∀ (w w' : World) p (S : Nat → Prop), X w p S → (∀ b, S b ∧ b < w.heap.size → w'.heap[b]? = w.heap[b]?) → X w' p (fun b => S b ∧ b < w.heap.size))
    (hp : ∀ w p S, X w p S → S p ∧ p < w.heap.size)
    (h : ∀ (w : World) (g : Gh) (cargs : Array Value), WF w g S0 → LRel w g args cargs →
      Calls P f cargs w fun r w' => ∃ p, r = .returned (.pointer (some ⟨p, 0, none⟩)) ∧ X w' p (fun b => w.heap.size ≤ b) ∧ Fr (fun b => w.heap.size ≤ b) w w') : AC P f args S0 (.ptr S0.length 0) (S0 ++ [.ext X]) := by
  refine ⟨hcan, fun w g cargs hw hargs => (h w g cargs hw hargs).mono ?_⟩
  rintro r w' ⟨p, rfl, h2, h3⟩
  have hb : ∀ b, b < w.heap.size → w'.heap[b]? = w.heap[b]? := fun b hb => h3.block b hb (by omega)
  have hsz := h3.size
  have hn : g.nid = S0.length := hw.nid
  have hpp := hp _ _ _ h2
  generalize hg' : (⟨fun b => if b < w.heap.size then g.G b else 0, fun l => if l = g.nid then p else g.pl l, fun l b => if l = g.nid then w.heap.size ≤ b ∧ b < w'.heap.size else g.own l b, g.nid + 1, fun l => if l = g.nid then false else g.buf l, g.wm, g.cap⟩ : Gh) = g'
  have eG : ∀ b, b < w.heap.size → g'.G b = g.G b := fun b hb => by rw [← hg']; exact if_pos hb
  have eG0 : ∀ b, ¬ b < w.heap.size → g'.G b = 0 := fun b hb => by rw [← hg']; exact if_neg hb
  have eo : g'.own g.nid = fun b => w.heap.size ≤ b ∧ b < w'.heap.size := by rw [← hg']; funext b; exact if_pos rfl
  have eo' : ∀ l, l ≠ g.nid → g'.own l = g.own l := fun l hl => by rw [← hg']; funext b; exact if_neg hl
  have epl : g'.pl g.nid = p := by rw [← hg']; exact if_pos rfl
  have epl' : ∀ l, l ≠ g.nid → g'.pl l = g.pl l := fun l hl => by rw [← hg']; exact if_neg hl
  have ebuf : g'.buf g.nid = false := by rw [← hg']; exact if_pos rfl
  have ebuf' : ∀ l, l ≠ g.nid → g'.buf l = g.buf l := fun l hl => by rw [← hg']; exact if_neg hl
  have enid : g'.nid = g.nid + 1 := by rw [← hg']
  have ewm : g'.wm = g.wm := by rw [← hg']
  have ecap : g'.cap = g.cap := by rw [← hg']
  clear hg'
  have hcl : ∀ b o u, w.cell? ⟨b, o, none⟩ = some u → b < w.heap.size := fun b o u hu => World.block_lt_of_cell? w _ hu
  have hle : Le w g w' g' := ⟨fun b o u hG hc => by rw [World.cell?_of_block (hb b (hcl b o u hc))]; exact hc,
    fun b o u hG hc => by rw [eG b (hcl b o u hc)]; exact hG, by rw [enid]; omega, fun l hl => ⟨ebuf' l (by omega), .inl ⟨epl' l (by omega), by rw [ewm], by rw [ecap]⟩⟩,
    fun b me c hG hm => by
      have hlt' := (Array.getElem?_eq_some_iff.1 hm).1
      exact ⟨by rw [eG b hlt']; exact hG, (hb b hlt').trans hm⟩⟩
  refine ⟨_, g', rfl, ⟨by rw [enid, hn, List.length_append]; rfl, fun l o hl => ?_, fun l l' b hl hl' ho ho' => ?_, fun l b hl ho => ?_, hw.tab.le hle⟩, ?_, ?_⟩
  · by_cases hln : l = g.nid
    · subst hln
      rw [List.getElem?_append_right (by omega), hn, Nat.sub_self] at hl
      cases hl
      refine ⟨ebuf, ?_, ?_, ?_⟩
      · rw [eo, epl]; exact hpp
      · intro b hbo
        rw [eo] at hbo
        exact eG0 b (by omega)
      · intro w'' hs
        rw [eo, epl]
        rw [eo] at hs
        exact hX' w' w'' _ _ h2 hs
    · have hlt : l < g.nid := by have := (List.getElem?_eq_some_iff.1 hl).1; rw [List.length_append] at this; simp at this; omega
      rw [List.getElem?_append_left (by omega)] at hl
      exact (hw.obj l o hl).keep hle (epl' l hln) (ebuf' l hln) (by rw [ewm]) (by rw [ecap]) (eo' l hln) (fun b hbo => eG b (hw.lt l b hlt hbo)) (fun b hbo => hb b (hw.lt l b hlt hbo))
  · rw [enid] at hl hl'
    by_cases h1 : l = g.nid <;> by_cases h2 : l' = g.nid
    · rw [h1, h2]
    · subst h1; rw [eo] at ho; rw [eo' l' h2] at ho'; have := hw.lt l' b (by omega) ho'; omega
    · subst h2; rw [eo] at ho'; rw [eo' l h1] at ho; have := hw.lt l b (by omega) ho; omega
    · rw [eo' l h1] at ho; rw [eo' l' h2] at ho'; exact hw.disj l l' b (by omega) (by omega) ho ho'
  · rw [enid] at hl
    by_cases h1 : l = g.nid
    · subst h1; rw [eo] at ho; exact ho.2
    · rw [eo' l h1] at ho; have := hw.lt l b (by omega) ho; omega
  · have := Rel.ptr (w := w') g' g.nid 0 (by omega) ebuf
    rw [epl, hn] at this
    exact this
  · refine ⟨hle, h3.os, h3.tape, h3.output, hsz, fun b hlt' _ => hb b hlt', fun l b hl ho hlt' => ?_, fun b hlt' _ => eG b hlt'⟩
    rw [enid] at hl
    by_cases h1 : l = g.nid
    · subst h1; rw [eo] at ho; omega
    · rw [eo' l h1] at ho; exact ⟨by omega, ho⟩
end
theorem xd_mono (d : Dk) : ∀ w p (S T : Nat → Prop), (DRep w S p d ∧ Ok d) → (∀ b, S b → T b) → DRep w T p d ∧ Ok d := fun _ _ _ _ h hs => ⟨h.1.more hs, h.2⟩
theorem xd_keep (d : Dk) : ∀ (w w' : World) p (S : Nat → Prop), (DRep w S p d ∧ Ok d) → (∀ b, S b ∧ b < w.heap.size → w'.heap[b]? = w.heap[b]?) → DRep w' (fun b => S b ∧ b < w.heap.size) p d ∧ Ok d :=
  fun _ _ _ _ h hs => ⟨(drep_lt h.1).keep fun b hb _ => hs b hb, h.2⟩
theorem lrel_cons {w : World} {g : Gh} {u : AV} {us : List AV} {cargs : Array Value} (h : LRel w g (u :: us) cargs) : ∃ (cv : Value) (cs : List Value), cargs = (cv :: cs).toArray ∧ Rel w g u cv ∧ LRel w g us cs.toArray := by
  obtain ⟨h1, h2⟩ := h
  obtain ⟨l⟩ := cargs
  cases l with
  | nil => simp at h1
  | cons cv cs => exact ⟨cv, cs, rfl, h2 0 u cv rfl rfl, by simpa using h1, fun j u v hu hv => h2 (j + 1) u v (by simpa using hu) (by simpa using hv)⟩
theorem lrelc {w : World} {g : Gh} {u : AV} {us : List AV} {cs : List Value} (h : LRel w g (u :: us) cs.toArray) : ∃ (cv : Value) (cs' : List Value), cs = cv :: cs' ∧ Rel w g u cv ∧ LRel w g us cs'.toArray := by
  obtain ⟨cv, cs', e, h1, h2⟩ := lrel_cons h
  exact ⟨cv, cs', by simpa using e, h1, h2⟩
theorem lrel_nil {w : World} {g : Gh} {cargs : Array Value} (h : LRel w g [] cargs) : cargs = #[] := by
  obtain ⟨h1, _⟩ := h
  exact Array.eq_empty_of_size_eq_zero h1
theorem rel_ptr {w : World} {g : Gh} {l off : Nat} {cv : Value} (h : Rel w g (.ptr l off) cv) : cv = .pointer (some ⟨g.pl l, off, none⟩) := by cases h; rfl
theorem rel_it {w : World} {g : Gh} {k : IntKind} {n : Int} {cv : Value} (h : Rel w g (.it k n) cv) : cv = .int k n := by cases h; rfl
theorem rel_st {w : World} {g : Gh} {l : List UInt8} {cv : Value} (h : Rel w g (.st l) cv) : cv = .string ⟨l.toArray⟩ := by cases h; rfl
theorem rel_tup2 {w : World} {g : Gh} {a b : AV} {x y : Value} (h : Rel w g a x) (h' : Rel w g b y) : Rel w g (.tup [a, b]) (.tuple #[x, y]) := by
  refine .tup _ _ _ rfl fun j u v hu hv => ?_
  match j with
  | 0 => cases hu; cases hv; exact h
  | 1 => cases hu; cases hv; exact h'
  | j + 2 => simp at hu
abbrev ints (m : Mode) (ks : List Int) : AV := .sl m (ks.map (AV.it .i64))
section
variable {d : Dk}
theorem d_append (d : Dk) (f : Int) (s : List UInt8) (hs : s.length ≤ 9223372036854775807) :
    AC Tryz.prog 147 [.ptr 0 0, .it .i64 f, .st s] [XD d] (.it .i64 (appendD d f s).1) [XD (appendD d f s).2] := by
  refine AC.ofFr (by kernel_rfl) (xd_mono d) (xd_keep _) fun w g S cargs hargs hbuf hn hG hSp hS hX => ?_
  obtain ⟨v0, c0, rfl, h0, hargs⟩ := lrel_cons hargs
  obtain ⟨v1, c1, rfl, h1, hargs⟩ := lrelc hargs
  obtain ⟨v2, c2, rfl, h2, hargs⟩ := lrelc hargs
  obtain rfl : c2 = [] := by simpa using lrel_nil hargs
  obtain rfl := rel_ptr h0; obtain rfl := rel_it h1; obtain rfl := rel_st h2
  refine (append_any hX.1 hX.2 hS f ⟨s.toArray⟩ (by simpa [ByteArray.size] using hs)).mono fun r w' ⟨e, hD, hF⟩ => ?_
  exact ⟨_, e, fun g' => .it _ _ _, ⟨hD, append_ok hX.2 _ _⟩, hF⟩
theorem d_flush (d : Dk) (f : Int) : AC Tryz.prog 131 [.ptr 0 0, .it .i64 f] [XD d] (.it .i64 (flushD d f).1) [XD (flushD d f).2] := by
  refine AC.ofFr (by kernel_rfl) (xd_mono d) (xd_keep _) fun w g S cargs hargs hbuf hn hG hSp hS hX => ?_
  obtain ⟨v0, c0, rfl, h0, hargs⟩ := lrel_cons hargs
  obtain ⟨v1, c1, rfl, h1, hargs⟩ := lrelc hargs
  obtain rfl : c1 = [] := by simpa using lrel_nil hargs
  obtain rfl := rel_ptr h0; obtain rfl := rel_it h1
  exact (flush_any hX.1 hX.2 hS f).mono fun r w' ⟨e, hD, hF⟩ => ⟨_, e, fun g' => .it _ _ _, ⟨hD, flush_ok hX.2 _⟩, hF⟩
theorem d_cut (d : Dk) (f n : Int) : AC Tryz.prog 129 [.ptr 0 0, .it .i64 f, .it .i64 n] [XD d] (.it .i64 (cutD d f n).1) [XD (cutD d f n).2] := by
  refine AC.ofFr (by kernel_rfl) (xd_mono d) (xd_keep _) fun w g S cargs hargs hbuf hn hG hSp hS hX => ?_
  obtain ⟨v0, c0, rfl, h0, hargs⟩ := lrel_cons hargs
  obtain ⟨v1, c1, rfl, h1, hargs⟩ := lrelc hargs
  obtain ⟨v2, c2, rfl, h2, hargs⟩ := lrelc hargs
  obtain rfl : c2 = [] := by simpa using lrel_nil hargs
  obtain rfl := rel_ptr h0; obtain rfl := rel_it h1; obtain rfl := rel_it h2
  exact (cut_any hX.1 hX.2 hS f n).mono fun r w' ⟨e, hD, hF⟩ => ⟨_, e, fun g' => .it _ _ _, ⟨hD, cut_ok hX.2 _ _⟩, hF⟩
theorem d_read (d : Dk) (f : Int) : AC Tryz.prog 127 [.ptr 0 0, .it .i64 f] [XD d] (.tup [.st (peek d f).1, .it .i64 (peek d f).2]) [XD d] := by
  refine AC.ofFr (by kernel_rfl) (xd_mono d) (xd_keep _) fun w g S cargs hargs hbuf _ hG hSp hS hX => ?_
  obtain ⟨v0, c0, rfl, h0, hargs⟩ := lrel_cons hargs
  obtain ⟨v1, c1, rfl, h1, hargs⟩ := lrelc hargs
  obtain rfl : c1 = [] := by simpa using lrel_nil hargs
  obtain rfl := rel_ptr h0; obtain rfl := rel_it h1
  exact (read_any hX.1 f).mono fun r w' ⟨e, e'⟩ => by subst e'; exact ⟨_, e, fun g' => rel_tup2 (.st _ _) (.it _ _ _), hX, Fr.refl _ _⟩
theorem d_size (d : Dk) (f : Int) : AC Tryz.prog 203 [.ptr 0 0, .it .i64 f] [XD d] (.it .i64 (size d f : Int)) [XD d] := by
  refine AC.ofFr (by kernel_rfl) (xd_mono d) (xd_keep _) fun w g S cargs hargs hbuf _ hG hSp hS hX => ?_
  obtain ⟨v0, c0, rfl, h0, hargs⟩ := lrel_cons hargs
  obtain ⟨v1, c1, rfl, h1, hargs⟩ := lrelc hargs
  obtain rfl : c1 = [] := by simpa using lrel_nil hargs
  obtain rfl := rel_ptr h0; obtain rfl := rel_it h1
  exact (size_any hX.1 f).mono fun r w' ⟨e, e'⟩ => by subst e'; exact ⟨_, e, fun g' => .it _ _ _, hX, Fr.refl _ _⟩
theorem d_new : AC Tryz.prog 12 [] [] (.ptr 0 0) [XD dk0] := by
  refine AC.newFr (S0 := []) (by kernel_rfl) (xd_keep _) (fun w p S h => ⟨h.1.at', h.1.lt⟩) fun w g cargs hw hargs => ?_
  obtain rfl := lrel_nil hargs
  exact (new_any w _ (fun b hb => hb)).mono fun r w' ⟨p, e, hD, hF, _⟩ => ⟨p, e, ⟨hD, dk0_ok⟩, hF⟩
end
end Go.Proofs.YtlefikdjhnaapaaGreatDoor.Pe
end
section
namespace Go.Proofs.YtlefikdjhnaapaaGreatDoor.Pe
open Go Go.RowKit
variable [Tab]
def Closed (md : Region.Mode) (ops : Array Oper) (listed : Array Bool) : Prop :=
 ∀ (j : Nat) oj, ops[j]? = some oj → listed.getD j true = true → ∀ e ∈ oj.after, Region.binds md e = true → listed.getD e.on true = true
theorem dep_un {md : Region.Mode} {ops : Array Oper} {k : Nat} {listed : Array Bool} (hc : Closed md ops listed) (hk : listed.getD k true = false) : ∀ n j, dep md ops k n j = true → listed.getD j true = false := by
 intro n
 induction n with
 | zero => intro j hj; unfold dep at hj; rw [beq_iff_eq.1 hj]; exact hk
 | succ n ih =>
  intro j hj
  unfold dep at hj
  rw [Bool.or_eq_true] at hj
  rcases hj with hj | hj
  ·rw [beq_iff_eq.1 hj]; exact hk
  ·cases ho : ops[j]? with
   | none => rw [ho] at hj; cases hj
   | some oj =>
    rw [ho] at hj
    simp only at hj
    rw [Array.any_eq_true'] at hj
    obtain ⟨e, he, h2⟩ := hj
    simp only [Bool.and_eq_true] at h2
    have h3 := ih e.on h2.2
    cases hl : listed.getD j true with
    | false => rfl
    | true =>
     have := hc j oj ho hl e he h2.1
     rw [h3] at this
     cases this
theorem closed_set {md : Region.Mode} {ops : Array Oper} {listed : Array Bool} {k : Nat} (hc : Closed md ops listed) (hk : k ∈ Region.ready md ops listed) : Closed md ops (listed.setIfInBounds k true) := by
 intro j oj hj hl e he hb
 obtain ⟨_, ok, hok, hall⟩ := mem_ready.1 hk
 have hmono : ∀ i, listed.getD i true = true → (listed.setIfInBounds k true).getD i true = true := fun i hi => by
  by_cases hik : k = i
  ·subst hik
   rw [Array.getD_eq_getD_getElem?, Array.getElem?_setIfInBounds]
   simp only [if_true]
   split <;> rfl
  ·rw [getD_set_ne true hik]; exact hi
 refine hmono _ ?_
 by_cases hjk : k = j
 ·subst hjk
  rw [hok] at hj
  cases hj
  have h1 := hall e he hb
  rcases Nat.lt_or_ge e.on listed.size with h' | h'
  ·simp [h'] at h1 ⊢; exact h1
  ·simp [Array.getElem?_eq_none h'] at h1
 ·rw [getD_set_ne true hjk] at hl
  exact hc j oj hj hl e he hb
def lexC3 (cls : Op → Cls) (md : Region.Mode) (ops : Array Oper) : List Nat → Array Bool → Bool
 | [], listed => (Region.ready md ops listed).isEmpty
 | k :: r, listed => (Region.ready md ops listed).contains k && freeC2 cls md ops listed k && lexC3 cls md ops r (listed.setIfInBounds k true)
def lexOk3 (cls : Op → Cls) (ops : Array Oper) (ord : List Nat) : Bool := ord.length == ops.size && lexC3 cls .any ops ord (Array.replicate ops.size false)
section
variable {P : Program} {N N0 : Nat} {w0 : World} {g0 : Gh} {pf rf : List FuncId}
theorem wpX_lex3 {cls : Op → Cls} {md : Region.Mode} {ops : Array Oper} {Q : Env → Store → Prop} : ∀ (l : List Nat) (listed : Array Bool) (e : Env) (S : Store), Closed md ops listed →
  lexC3 cls md ops l listed = true → wpL P cls ops Q (l.filterMap fun i => ops[i]?) e S → wpX P cls md ops Q l.length listed e S
 | [], _, _, _, _, hB, h => ⟨by simpa [lexC3] using hB, h⟩
 | k :: l, listed, e, S, hc, hB, h => by
  simp only [lexC3, Bool.and_eq_true] at hB
  obtain ⟨⟨hr, hf⟩, hB'⟩ := hB
  have hr : k ∈ Region.ready md ops listed := by simpa using hr
  obtain ⟨hun, o, h0, _⟩ := mem_ready.1 hr
  rw [List.filterMap_cons, h0] at h
  have hst : xOp P cls ops k (wpL P cls ops Q (l.filterMap fun i => ops[i]?)) e S := by unfold xOp; simp only [h0]; exact h
  obtain ⟨v, S', hy, hK⟩ := yieldsX_of_xOp h0 hst
  exact wpX_first2 h0 l.length listed e S S' (dep_un hc hun) (freeC2_spec h0 hf) hr hy (wpX_lex3 l _ _ _ (closed_set hc hr) hB' hK)
theorem region_draws3 {ro : Option Nat} {cls : Op → Cls} {ops : Array Oper} {ord : List Nat} {id : Nat} {Q : Env → Store → Prop} {Q' : Exit → Act → World → Prop} {e : Env} {S : Store} {a : Act} {w : World} (hm : P.follows .mixedOrders = true) (hB : lexOk3 cls ops ord = true) (hds : dstsOk N ops = true)
  (hQ : ∀ e S a w, Conc N w0 g0 e S a w → Q e S → Q' .normal a w) (hc : Conc N w0 g0 e S a w) (h : wpL P cls ops Q (ord.filterMap fun i => ops[i]?) e S) : (Code.region id ops true).wpIn (wR ro) 0 P Q' a w := by
 refine wpIn_region_any hm (wpAny_of_x ro (cls := cls) hds hQ _ _ e S a _ (hc.draw _) ?_)
 simp only [lexOk3, Bool.and_eq_true, beq_iff_eq] at hB
 have h0 : Closed .any ops (Array.replicate ops.size false) := fun j oj hj hl => by
  have hlt : j < ops.size := (Array.getElem?_eq_some_iff.1 hj).1
  simp [hlt] at hl
 have := wpX_lex3 (md := .any) ord (Array.replicate ops.size false) e S h0 hB.2 h
 rw [hB.1] at this
 exact this
end
def codeOk3 (P : Program) (pf rf : List FuncId) (N : Nat) (ord : List (Nat × List Nat)) : Code → Bool
 | .region id ops draw => dstsOk N ops && (match ord.lookup id with
  | none => !draw || lexOk2 (clsOf P pf rf) ops
  | some l => draw && lexOk3 (clsOf P pf rf) ops l)
 | .seq a b => codeOk3 P pf rf N ord a && codeOk3 P pf rf N ord b
 | .cond _ a b => codeOk3 P pf rf N ord a && codeOk3 P pf rf N ord b
 | .block _ b => codeOk3 P pf rf N ord b
 | .loop b => codeOk3 P pf rf N ord b
 | _ => true
def eraseC3 (ord : List (Nat × List Nat)) : Code → CC
 | .skip => .skip
 | .label _ => .skip
 | .region id ops _ => (match ord.lookup id with
  | none => .reg (ops.toList.map (eraseO ops))
  | some l => .reg ((l.filterMap fun i => ops[i]?).map (eraseO ops)))
 | .seq a b => .seq (eraseC3 ord a) (eraseC3 ord b)
 | .cond c a b => .cond c (eraseC3 ord a) (eraseC3 ord b)
 | .block id b => .block id (eraseC3 ord b)
 | .loop b => .loop (eraseC3 ord b)
 | .exit id => .exit id
 | .ret => .ret
 | _ => .bad
section
variable {P : Program} {N N0 : Nat} {w0 : World} {g0 : Gh} {pf rf : List FuncId} {ord : List (Nat × List Nat)}
theorem AW_ok3 {ro : Option Nat} (hm : P.follows .mixedOrders = true) (hN0 : g0.nid = N0) : ∀ (c : Code) (Q : AX → Env → Store → Prop) (e : Env) (S : Store) (a : Act) (w : World), codeOk3 P pf rf N ord c = true → Conc N w0 g0 e S a w → AW P pf rf N0 (eraseC3 ord c) Q e S → c.wpIn (wR ro) 0 P (toQ N w0 g0 Q) a w := by
 intro c
 induction c with
 | skip => intro Q e S a w _ hc h; exact wpIn_skip ⟨e, S, hc, h⟩
 | label l => intro Q e S a w _ hc h; exact wpIn_label ⟨e, S, hc, h⟩
 | ret => intro Q e S a w _ hc h; exact wpIn_ret ⟨e, S, hc, h⟩
 | exit id => intro Q e S a w _ hc h; exact wpIn_exit ⟨e, S, hc, h⟩
 | region id ops draw =>
  intro Q e S a w hok hc h
  have hQ : ∀ e S a w, Conc N w0 g0 e S a w → Q .norm e S → toQ N w0 g0 Q .normal a w := fun e S a w hc hq => ⟨e, S, hc, hq⟩
  simp only [codeOk3, Bool.and_eq_true] at hok
  simp only [eraseC3] at h
  cases ho : ord.lookup id with
  | none =>
   rw [ho] at hok h
   simp only at hok h
   rw [AW] at h
   have hL := wpL_of_ARg ops.toList e S h
   cases draw with
   | false => exact region_list hok.1 hQ hc hL ro
   | true => exact region_draws2 hm (by simpa using hok.2) hok.1 hQ hc hL
  | some l =>
   rw [ho] at hok h
   simp only at hok h
   rw [AW] at h
   have hL := wpL_of_ARg _ e S h
   cases draw with
   | false => simp at hok
   | true => exact region_draws3 hm (by simpa using hok.2) hok.1 hQ hc hL
 | seq x y ihx ihy =>
  intro Q e S a w hok hc h
  simp only [codeOk3, Bool.and_eq_true] at hok
  simp only [eraseC3, AW] at h
  refine wpIn_seq (Go.wpIn_mono (ihx _ e S a w hok.1 hc h) ?_)
  intro ex a' w' hq
  cases ex with
  | normal => obtain ⟨e', S', hc', h'⟩ := hq; exact ihy Q e' S' a' w' hok.2 hc' h'
  | exit id => exact hq
  | ret => exact hq
  | _ => exact hq.elim
 | cond c x y ihx ihy =>
  intro Q e S a w hok hc h
  simp only [codeOk3, Bool.and_eq_true] at hok
  simp only [eraseC3, AW] at h
  split at h
  ·rename_i b hb
   have hcb : a.eval c = .bool b := by
    obtain ⟨_, _, g, _, h4, _⟩ := hc
    have := ev_ok h4 c
    rw [hb] at this
    cases hv : a.eval c <;> rw [hv] at this <;> cases this
    rfl
   refine wpIn_cond_split hcb (fun ht => ihx Q e S a w hok.1 hc (h.1 ht)) (fun hf => ihy Q e S a w hok.2 hc (h.2 hf))
  ·exact h.elim
 | block id c ih =>
  intro Q e S a w hok hc h
  simp only [eraseC3, AW] at h
  refine wpIn_block (Go.wpIn_mono (ih _ e S a w hok hc h) ?_)
  intro ex a' w' hq
  cases ex with
  | normal => exact hq
  | exit i =>
   obtain ⟨e', S', hc', h'⟩ := hq
   simp only [blockQ] at h'
   simp only [Exit.inBlock]
   by_cases hi : i = id
   ·rw [if_pos hi] at h' ⊢; exact ⟨e', S', hc', h'⟩
   ·rw [if_neg hi] at h' ⊢; exact ⟨e', S', hc', h'⟩
  | ret => exact hq
  | _ => exact hq.elim
 | loop c ih =>
  intro Q e S a w hok hc h
  simp only [eraseC3, AW] at h
  obtain ⟨I, ⟨n, e', S', hwk, hI⟩, hround⟩ := h
  refine wpIn_loop_ghost (fun n a w => ∃ e S, Conc N w0 g0 e S a w ∧ I n e S) n ⟨e', S', hwk N w0 g0 a w hN0 hc, hI⟩ ?_
  rintro n a w ⟨e, S, hc, hI⟩
  refine Go.wpIn_mono (ih _ e S a w hok hc (hround n e S hI)) ?_
  intro ex a' w' hq
  cases ex with
  | normal =>
   obtain ⟨e1, S1, hc1, n', e2, S2, hlt, hwk', hI'⟩ := hq
   exact ⟨n', hlt, e2, S2, hwk' N w0 g0 a' w' hN0 hc1, hI'⟩
  | exit i => exact hq
  | ret => exact hq
  | _ => exact hq.elim
 | _ => intro Q e S a w _ _ h; exact h.elim
end
section
variable {P : Program}
end
end Go.Proofs.YtlefikdjhnaapaaGreatDoor.Pe
namespace Go.Proofs.YtlefikdjhnaapaaGreatDoor.Pe
open Go Go.RowKit
variable [Tab]
def keeps (Kp : List Nat) (S S' : Store) : Prop := ∀ k ∈ Kp, S'[k]? = S[k]?
inductive K4 where
 | rp | wr | al | ot
def kdO (lp wp : List Nat) (d : Option Nat) (op : Op) : K4 := match d with
 | some d => if lp.contains d then .rp else if wp.contains d then (match op with
   | .call c => (match c.callee with
    | .builtin _ => .al
    | _ => .wr)
   | _ => .wr) else match op with
  | .alloc _ => .al
  | _ => .ot
 | none => .ot
inductive K5 where
 | rp | wr | ap | ot
def kdA (lp wp : List Nat) (d : Option Nat) (op : Op) : K5 := match kdO lp wp d op with
 | .rp => .rp
 | .wr => .wr
 | .al => (match op with
  | .call _ => .ap
  | _ => .ot)
 | .ot => .ot
def XStep4 (P : Program) (Kp lp wp : List Nat) (cls : Op → Cls) (o : Oper) (e : Env) (S : Store) (v : AV) (S' : Store) : Prop :=
 match kdO lp wp o.dst o.op with
 | .rp => S' = S ∧ ∃ k ∈ Kp, ∀ S2 : Store, S2[k]? = S[k]? → Does P o e S2 v S2
 | .wr => S'.length = S.length ∧ keeps Kp S S' ∧ ∀ R, Does P o e (S ++ R) v (S' ++ R)
 | .al => (∃ z, S' = S ++ [z] ∧ ∀ S2 : Store, S2.length = S.length → Does P o e S2 v (S2 ++ [z])) ∧ keeps Kp S S'
 | .ot => XStep P (cls o.op) o e S v S' ∧ keeps Kp S S'
theorem XStep4.does {P : Program} {Kp lp wp : List Nat} {cls : Op → Cls} {o : Oper} {e : Env} {S S' : Store} {v : AV} (h : XStep4 P Kp lp wp cls o e S v S') : Does P o e S v S' := by
 unfold XStep4 at h
 split at h
 ·obtain ⟨rfl, k, _, h⟩ := h; exact h _ rfl
 ·have := h.2.2 []; simpa using this
 ·obtain ⟨⟨z, rfl, h⟩, _⟩ := h; exact h _ rfl
 ·exact h.1.does
theorem XStep4.keeps {P : Program} {Kp lp wp : List Nat} {cls : Op → Cls} {o : Oper} {e : Env} {S S' : Store} {v : AV} (h : XStep4 P Kp lp wp cls o e S v S') : keeps Kp S S' := by
 unfold XStep4 at h
 split at h
 ·obtain ⟨rfl, _⟩ := h; exact fun _ _ => rfl
 ·exact h.2.1
 ·exact h.2
 ·exact h.2
theorem XStep4.put {P : Program} {Kp lp wp : List Nat} {cls : Op → Cls} {o : Oper} {e : Env} {S S' : Store} {v : AV} {ops : Array Oper} {dst : Option Nat} {u : AV} (h : ∀ d, dst = some d → d ∉ o.looksAt ops) : XStep4 P Kp lp wp cls o (Pe.put e dst u) S v S' ↔ XStep4 P Kp lp wp cls o e S v S' := by
 unfold XStep4
 split
 ·exact and_congr Iff.rfl (exists_congr fun k => and_congr Iff.rfl (forall_congr' fun S2 => imp_congr Iff.rfl (Does.put h)))
 ·exact and_congr Iff.rfl (and_congr Iff.rfl (forall_congr' fun R => Does.put h))
 ·exact and_congr (exists_congr fun z => and_congr Iff.rfl (forall_congr' fun S2 => imp_congr Iff.rfl (Does.put h))) Iff.rfl
 ·exact and_congr (XStep.put h) Iff.rfl
def indep4 (lp wp : List Nat) (cls : Op → Cls) (ops : Array Oper) (x y : Oper) : Bool :=
 x.apart ops y && (match kdO lp wp x.dst x.op, kdO lp wp y.dst y.op with
  | .rp, _ => true
  | _, .rp => true
  | .wr, .al => true
  | .wr, .ot => (match cls y.op with | .free => true | _ => false)
  | .al, .ot => (match cls y.op with | .free => true | _ => false)
  | .ot, .wr => (match cls x.op with | .free => true | _ => false)
  | .ot, .al => (match cls x.op with | .free => true | .read => true | _ => false)
  | .ot, .ot => (match cls x.op, cls y.op with
   | .free, _ => true
   | _, .free => true
   | .read, .read => true
   | .read, .fresh => true
   | _, _ => false)
  | _, _ => false)
theorem XStep4.swap {P : Program} {Kp lp wp : List Nat} {cls : Op → Cls} {ops : Array Oper} {oi oj : Oper} {e : Env} {S Si Sj : Store} {v u : AV} (hap : indep4 lp wp cls ops oi oj = true) (hi : XStep4 P Kp lp wp cls oi e S v Si) (hj : XStep4 P Kp lp wp cls oj e Si u Sj) :
  ∃ Sm, XStep4 P Kp lp wp cls oj e S u Sm ∧ XStep4 P Kp lp wp cls oi e Sm v Sj := by
 have hki := hi.keeps
 have hkj := hj.keeps
 simp only [indep4, Bool.and_eq_true] at hap
 have hcls := hap.2
 unfold XStep4 at hi hj ⊢
 cases hri : kdO lp wp oi.dst oi.op with
 | rp =>
  simp only [hri] at hi hj ⊢
  obtain ⟨rfl, k, hk, hi⟩ := hi
  exact ⟨Sj, hj, rfl, k, hk, fun S2 h2 => hi S2 (h2.trans (hkj k hk))⟩
 | wr =>
  cases hrj : kdO lp wp oj.dst oj.op with
  | rp =>
   simp only [hri, hrj] at hi hj ⊢
   obtain ⟨rfl, k, hk, hj⟩ := hj
   exact ⟨S, ⟨rfl, k, hk, fun S2 h2 => hj S2 (h2.trans (hki k hk).symm)⟩, hi⟩
  | wr => rw [hri, hrj] at hcls; cases hcls
  | al =>
   simp only [hri, hrj] at hi hj ⊢
   obtain ⟨hl, _, hi⟩ := hi
   obtain ⟨⟨z, rfl, hj⟩, _⟩ := hj
   have h1 : Pe.keeps Kp S (S ++ [z]) := fun k hk => by
    have h1 := hkj k hk
    rcases Nat.lt_trichotomy k S.length with hlt | heq | hgt
    ·rw [List.getElem?_append_left hlt]
    ·exfalso
     rw [heq, ← hl, List.getElem?_append_right (Nat.le_refl _), Nat.sub_self, List.getElem?_eq_none (Nat.le_refl _)] at h1
     cases h1
    ·rw [List.getElem?_eq_none (by simp; omega), List.getElem?_eq_none (by omega)]
   have hS : Pe.keeps Kp S (S ++ [z]) ∧ Pe.keeps Kp (S ++ [z]) (Si ++ [z]) := ⟨h1, fun k hk => by rw [hkj k hk, hki k hk, h1 k hk]⟩
   refine ⟨S ++ [z], ⟨⟨z, rfl, fun S2 h2 => hj S2 (by omega)⟩, hS.1⟩, by simp [hl], hS.2, fun R => ?_⟩
   rw [List.append_assoc, List.append_assoc]
   exact hi _
  | ot =>
   simp only [hri, hrj] at hi hj hcls ⊢
   obtain ⟨hl, hk, hi⟩ := hi
   cases hcj : cls oj.op with
   | free =>
    rw [hcj] at hj
    obtain ⟨⟨rfl, hj⟩, _⟩ := hj
    exact ⟨S, ⟨⟨rfl, hj⟩, fun _ _ => rfl⟩, hl, hk, hi⟩
   | read => rw [hcj] at hcls; cases hcls
   | fresh => rw [hcj] at hcls; cases hcls
   | write => rw [hcj] at hcls; cases hcls
 | al =>
  cases hrj : kdO lp wp oj.dst oj.op with
  | rp =>
   simp only [hri, hrj] at hi hj ⊢
   obtain ⟨rfl, k, hk, hj⟩ := hj
   exact ⟨S, ⟨rfl, k, hk, fun S2 h2 => hj S2 (h2.trans (hki k hk).symm)⟩, hi⟩
  | wr => rw [hri, hrj] at hcls; cases hcls
  | al => rw [hri, hrj] at hcls; cases hcls
  | ot =>
   simp only [hri, hrj] at hi hj hcls ⊢
   cases hcj : cls oj.op with
   | free =>
    rw [hcj] at hj
    obtain ⟨⟨rfl, hj⟩, _⟩ := hj
    exact ⟨S, ⟨⟨rfl, hj⟩, fun _ _ => rfl⟩, hi⟩
   | read => rw [hcj] at hcls; cases hcls
   | fresh => rw [hcj] at hcls; cases hcls
   | write => rw [hcj] at hcls; cases hcls
 | ot =>
  cases hrj : kdO lp wp oj.dst oj.op with
  | rp =>
   simp only [hri, hrj] at hi hj ⊢
   obtain ⟨rfl, k, hk, hj⟩ := hj
   exact ⟨S, ⟨rfl, k, hk, fun S2 h2 => hj S2 (h2.trans (hki k hk).symm)⟩, hi⟩
  | wr =>
   simp only [hri, hrj] at hi hj hcls ⊢
   cases hci : cls oi.op with
   | free =>
    rw [hci] at hi
    obtain ⟨⟨rfl, hi⟩, _⟩ := hi
    exact ⟨Sj, hj, ⟨rfl, hi⟩, fun _ _ => rfl⟩
   | read => rw [hci] at hcls; cases hcls
   | fresh => rw [hci] at hcls; cases hcls
   | write => rw [hci] at hcls; cases hcls
  | al =>
   simp only [hri, hrj] at hi hj hcls ⊢
   cases hci : cls oi.op with
   | free =>
    rw [hci] at hi
    obtain ⟨⟨rfl, hi⟩, _⟩ := hi
    exact ⟨Sj, hj, ⟨rfl, hi⟩, fun _ _ => rfl⟩
   | read =>
    rw [hci] at hi
    obtain ⟨⟨rfl, hi⟩, _⟩ := hi
    obtain ⟨⟨z, rfl, hj⟩, hk⟩ := hj
    exact ⟨_, ⟨⟨z, rfl, hj⟩, hk⟩, ⟨rfl, fun R' => by rw [List.append_assoc]; exact hi _⟩, fun _ _ => rfl⟩
   | fresh => rw [hci] at hcls; cases hcls
   | write => rw [hci] at hcls; cases hcls
  | ot =>
   simp only [hri, hrj] at hi hj hcls ⊢
   obtain ⟨hi, _⟩ := hi
   obtain ⟨hj, _⟩ := hj
   cases hci : cls oi.op with
   | free =>
    rw [hci] at hi
    obtain ⟨rfl, hi⟩ := hi
    exact ⟨Sj, ⟨hj, hkj⟩, ⟨rfl, hi⟩, fun _ _ => rfl⟩
   | read =>
    rw [hci] at hi
    obtain ⟨rfl, hi⟩ := hi
    cases hcj : cls oj.op with
    | free =>
     rw [hcj] at hj
     obtain ⟨rfl, hj⟩ := hj
     exact ⟨_, ⟨⟨rfl, hj⟩, hkj⟩, ⟨rfl, hi⟩, fun _ _ => rfl⟩
    | read =>
     rw [hcj] at hj
     obtain ⟨rfl, hj⟩ := hj
     exact ⟨_, ⟨⟨rfl, hj⟩, hkj⟩, ⟨rfl, hi⟩, fun _ _ => rfl⟩
    | fresh =>
     rw [hcj] at hj
     obtain ⟨⟨R, rfl⟩, hj⟩ := hj
     exact ⟨_, ⟨⟨⟨R, rfl⟩, hj⟩, hkj⟩, ⟨rfl, fun R' => by rw [List.append_assoc]; exact hi (R ++ R')⟩, fun _ _ => rfl⟩
    | write => rw [hci, hcj] at hcls; cases hcls
   | fresh =>
    rw [hci] at hi
    cases hcj : cls oj.op with
    | free =>
     rw [hcj] at hj
     obtain ⟨rfl, hj⟩ := hj
     exact ⟨_, ⟨⟨rfl, hj⟩, fun _ _ => rfl⟩, hi, hki⟩
    | read => rw [hci, hcj] at hcls; cases hcls
    | fresh => rw [hci, hcj] at hcls; cases hcls
    | write => rw [hci, hcj] at hcls; cases hcls
   | write =>
    rw [hci] at hi
    cases hcj : cls oj.op with
    | free =>
     rw [hcj] at hj
     obtain ⟨rfl, hj⟩ := hj
     exact ⟨_, ⟨⟨rfl, hj⟩, fun _ _ => rfl⟩, hi, hki⟩
    | read => rw [hci, hcj] at hcls; cases hcls
    | fresh => rw [hci, hcj] at hcls; cases hcls
    | write => rw [hci, hcj] at hcls; cases hcls
section
variable {P : Program} {N N0 : Nat} {w0 : World} {g0 : Gh} {pf rf : List FuncId} {Kp lp wp : List Nat}
def xOp4 (P : Program) (Kp lp wp : List Nat) (cls : Op → Cls) (ops : Array Oper) (i : Nat) (K : Env → Store → Prop) (e : Env) (S : Store) : Prop :=
 match ops[i]? with
 | none => K e S
 | some o => match aWant ops o e with
  | some true => ∃ v S', XStep4 P Kp lp wp cls o e S v S' ∧ K (Pe.put e o.dst v) S'
  | some false => K (Pe.put e o.dst (.tup [])) S
  | none => False
theorem xOp_mono4 {cls : Op → Cls} {ops : Array Oper} {i : Nat} {K K' : Env → Store → Prop} {e : Env} {S : Store} (h : ∀ e S, K e S → K' e S) (hh : xOp4 P Kp lp wp cls ops i K e S) : xOp4 P Kp lp wp cls ops i K' e S := by
 unfold xOp4 at *
 split
 ·rename_i ho; simp only [ho] at hh; exact h _ _ hh
 ·rename_i o ho
  simp only [ho] at hh
  split
  ·rename_i hw; simp only [hw] at hh; obtain ⟨v, S', h1, h2⟩ := hh; exact ⟨v, S', h1, h _ _ h2⟩
  ·rename_i hw; simp only [hw] at hh; exact h _ _ hh
  ·rename_i hw; simp only [hw] at hh
def wpX4 (P : Program) (Kp lp wp : List Nat) (cls : Op → Cls) (md : Region.Mode) (ops : Array Oper) (Q : Env → Store → Prop) : Nat → Array Bool → Env → Store → Prop
 | 0, listed, e, S => Region.ready md ops listed = [] ∧ Q e S
 | fuel + 1, listed, e, S =>
  (Region.ready md ops listed = [] → Q e S) ∧
  ∀ i ∈ Region.ready md ops listed, xOp4 P Kp lp wp cls ops i (wpX4 P Kp lp wp cls md ops Q fuel (listed.setIfInBounds i true)) e S
theorem wpAny_of_x4 {ro : Option Nat} {cls : Op → Cls} {md : Region.Mode} {ops : Array Oper} (hds : dstsOk N ops = true) {Q : Env → Store → Prop} {Q' : Exit → Act → World → Prop} (hQ : ∀ e S a w, Conc N w0 g0 e S a w → Q e S → Q' .normal a w) :
  ∀ (fuel : Nat) (listed : Array Bool) (e : Env) (S : Store) (a : Act) (w : World), Conc N w0 g0 e S a w → wpX4 P Kp lp wp cls md ops Q fuel listed e S → wpAnyIn (wR ro) 0 P md ops Q' fuel listed a w
 | 0, _, e, S, a, w, hc, h => ⟨h.1, hQ e S a w hc h.2⟩
 | fuel + 1, listed, e, S, a, w, hc, h => ⟨fun h0 => hQ e S a w hc (h.1 h0), fun i hi => by
  have hx := h.2 i hi
  unfold xOp4 at hx
  unfold wpOpIn
  split
  ·rename_i ho; simp only [ho] at hx; exact wpAny_of_x4 hds hQ fuel _ e S a w hc hx
  ·rename_i o ho
   simp only [ho] at hx
   have hd := dstsOk_spec hds ho
   have her : ∃ g, ERel w g e a := by obtain ⟨_, _, g, _, h4, _⟩ := hc; exact ⟨g, h4⟩
   obtain ⟨g, her⟩ := her
   split at hx
   ·rename_i hw
    rw [aWant_ok her hw]
    obtain ⟨v, S', h1, h2⟩ := hx
    simp only [if_true]
    exact hc.does hd h1.does (fun a' w' hc' => wpAny_of_x4 hds hQ fuel _ _ _ a' w' hc' h2) ro
   ·rename_i hw
    rw [aWant_ok her hw]
    simp only [Bool.false_eq_true, if_false]
    exact ⟨fun _ _ => trivial, wpAny_of_x4 hds hQ fuel _ _ _ _ w (hc.skip hd) hx⟩
   ·exact hx.elim⟩
def YieldsX4 (P : Program) (Kp lp wp : List Nat) (cls : Op → Cls) (ops : Array Oper) (o : Oper) (e : Env) (S : Store) (v : AV) (S' : Store) : Prop :=
 (aWant ops o e = some true ∧ XStep4 P Kp lp wp cls o e S v S') ∨ (aWant ops o e = some false ∧ v = .tup [] ∧ S' = S)
theorem YieldsX4.xOp4 {cls : Op → Cls} {ops : Array Oper} {i : Nat} {o : Oper} {e : Env} {S S' : Store} {v : AV} (hi : ops[i]? = some o) (hy : YieldsX4 P Kp lp wp cls ops o e S v S') {K : Env → Store → Prop} (h : K (Pe.put e o.dst v) S') : xOp4 P Kp lp wp cls ops i K e S := by
 unfold Pe.xOp4
 simp only [hi]
 rcases hy with ⟨hw, hx⟩ | ⟨hw, rfl, rfl⟩
 ·simp only [hw]; exact ⟨v, S', hx, h⟩
 ·simp only [hw]; exact h
theorem yieldsX_of_xOp4 {cls : Op → Cls} {ops : Array Oper} {i : Nat} {o : Oper} {e : Env} {S : Store} {K : Env → Store → Prop} (hi : ops[i]? = some o) (h : xOp4 P Kp lp wp cls ops i K e S) : ∃ v S', YieldsX4 P Kp lp wp cls ops o e S v S' ∧ K (Pe.put e o.dst v) S' := by
 unfold xOp4 at h
 simp only [hi] at h
 split at h
 ·rename_i hw; obtain ⟨v, S', h1, h2⟩ := h; exact ⟨v, S', .inl ⟨hw, h1⟩, h2⟩
 ·rename_i hw; exact ⟨.tup [], S, .inr ⟨hw, rfl, rfl⟩, h⟩
 ·exact h.elim
theorem xOp_swap4 {cls : Op → Cls} {ops : Array Oper} {j : Nat} {oi oj : Oper} {v : AV} {e : Env} {S Si : Store} (hj : ops[j]? = some oj) (hap : indep4 lp wp cls ops oi oj = true) {K : Env → Store → Prop}
  (hy : YieldsX4 P Kp lp wp cls ops oi e S v Si) (h : xOp4 P Kp lp wp cls ops j K (Pe.put e oi.dst v) Si) :
  xOp4 P Kp lp wp cls ops j (fun e' S' => ∃ Si', YieldsX4 P Kp lp wp cls ops oi e' S' v Si' ∧ K (Pe.put e' oi.dst v) Si') e S := by
 have hap0 := hap
 simp only [indep4, Bool.and_eq_true] at hap
 obtain ⟨h1, h2, h3⟩ := Oper.apart_spec hap.1
 have keep : ∀ u, aWant ops oi (Pe.put e oj.dst u) = aWant ops oi e := fun u => aWant_put h3
 unfold xOp4 at *
 simp only [hj] at *
 rw [aWant_put h1] at h
 split
 ·rename_i hw
  simp only [hw] at h
  obtain ⟨u, Sj, hu, hn⟩ := h
  rw [XStep4.put h1] at hu
  rcases hy with ⟨hwi, hx⟩ | ⟨hwi, rfl, rfl⟩
  ·obtain ⟨Sm, a1, a2⟩ := XStep4.swap hap0 hx hu
   exact ⟨u, Sm, a1, Sj, .inl ⟨by rw [keep]; exact hwi, (XStep4.put h3).2 a2⟩, by rw [← put_comm e v u h2]; exact hn⟩
  ·exact ⟨u, Sj, hu, Sj, .inr ⟨by rw [keep]; exact hwi, rfl, rfl⟩, by rw [← put_comm e _ u h2]; exact hn⟩
 ·rename_i hw
  simp only [hw] at h
  refine ⟨Si, ?_, by rw [← put_comm e v _ h2]; exact h⟩
  rcases hy with ⟨hwi, hx⟩ | ⟨hwi, rfl, rfl⟩
  ·exact .inl ⟨by rw [keep]; exact hwi, (XStep4.put h3).2 hx⟩
  ·exact .inr ⟨by rw [keep]; exact hwi, rfl, rfl⟩
 ·rename_i hw
  simp only [hw] at h
def wpL4 (P : Program) (Kp lp wp : List Nat) (cls : Op → Cls) (ops : Array Oper) (Q : Env → Store → Prop) : List Oper → Env → Store → Prop
 | [], e, S => Q e S
 | o :: rest, e, S => match aWant ops o e with
  | some true => ∃ v S', XStep4 P Kp lp wp cls o e S v S' ∧ wpL4 P Kp lp wp cls ops Q rest (Pe.put e o.dst v) S'
  | some false => wpL4 P Kp lp wp cls ops Q rest (Pe.put e o.dst (.tup [])) S
  | none => False
def freeC24 (lp wp : List Nat) (cls : Op → Cls) (md : Region.Mode) (ops : Array Oper) (listed : Array Bool) (k : Nat) : Bool :=
 match ops[k]? with
 | none => false
 | some ok => (List.range ops.size).all fun j =>
  match ops[j]? with
  | none => true
  | some oj => j == k || listed.getD j true || dep md ops k 8 j || indep4 lp wp cls ops ok oj
theorem freeC2_spec4 {cls : Op → Cls} {md : Region.Mode} {ops : Array Oper} {listed : Array Bool} {k : Nat} {ok : Oper} (hk : ops[k]? = some ok) (h : freeC24 lp wp cls md ops listed k = true) :
  ∀ (j : Nat) oj, ops[j]? = some oj → j ≠ k → listed.getD j true = false → (∀ n, dep md ops k n j = false) → indep4 lp wp cls ops ok oj = true := by
 intro j oj hj hne hun hno
 unfold freeC24 at h
 rw [hk] at h
 simp only at h
 have hlt : j < ops.size := (Array.getElem?_eq_some_iff.1 hj).1
 have h1 := (List.all_eq_true.1 h) j (List.mem_range.2 hlt)
 rw [hj] at h1
 simp only [Bool.or_eq_true, beq_iff_eq] at h1
 rcases h1 with ((h1 | h1) | h1) | h1
 ·exact absurd h1 hne
 ·rw [hun] at h1; cases h1
 ·rw [hno 8] at h1; cases h1
 ·exact h1
theorem wpX_first24 {cls : Op → Cls} {md : Region.Mode} {ops : Array Oper} {Q : Env → Store → Prop} {i : Nat} {oi : Oper} {v : AV} (hi : ops[i]? = some oi) :
  ∀ (fuel : Nat) (listed : Array Bool) (e : Env) (S Si : Store),
   (∀ n j, dep md ops i n j = true → listed.getD j true = false) →
   (∀ (j : Nat) oj, ops[j]? = some oj → j ≠ i → listed.getD j true = false → (∀ n, dep md ops i n j = false) → indep4 lp wp cls ops oi oj = true) →
   i ∈ Region.ready md ops listed → YieldsX4 P Kp lp wp cls ops oi e S v Si →
   wpX4 P Kp lp wp cls md ops Q fuel (listed.setIfInBounds i true) (Pe.put e oi.dst v) Si → wpX4 P Kp lp wp cls md ops Q (fuel + 1) listed e S := by
 intro fuel
 induction fuel with
 | zero =>
  intro listed e S Si _ _ hr hy H
  refine ⟨fun h => (by rw [h] at hr; cases hr), fun j hj => ?_⟩
  by_cases hji : j = i
  ·subst hji; exact hy.xOp4 hi H
  ·have := ready_mono hj hji
   rw [H.1] at this
   cases this
 | succ fuel ih =>
  intro listed e S Si hinv hfree hr hy H
  refine ⟨fun h => (by rw [h] at hr; cases hr), fun j hj => ?_⟩
  by_cases hji : j = i
  ·subst hji; exact hy.xOp4 hi H
  ·have h1 := H.2 j (ready_mono hj hji)
   have hnd := dep_ready hinv hj hji
   obtain ⟨hjun, oj, hoj, hall⟩ := mem_ready.1 hj
   have h2 := xOp_swap4 hoj (hfree j oj hoj hji hjun hnd) hy h1
   have hinv' : ∀ n k, dep md ops i n k = true → (listed.setIfInBounds j true).getD k true = false := fun n k hk => by
    have hjk : j ≠ k := fun e => by rw [← e, hnd n] at hk; cases hk
    rw [getD_set_ne true hjk]
    exact hinv n k hk
   have hfree' : ∀ (k : Nat) ok, ops[k]? = some ok → k ≠ i → (listed.setIfInBounds j true).getD k true = false →
     (∀ n, dep md ops i n k = false) → indep4 lp wp cls ops oi ok = true := fun k ok hk hki hun hno => by
    refine hfree k ok hk hki ?_ hno
    by_cases hjk : j = k
    ·subst hjk; exact hjun
    ·rw [getD_set_ne true hjk] at hun; exact hun
   refine xOp_mono4 (fun e' S' h3 => ?_) h2
   obtain ⟨Si', h3, h4⟩ := h3
   refine ih (listed.setIfInBounds j true) e' S' Si' hinv' hfree' (ready_mono hr (Ne.symm hji)) h3 ?_
   rw [Array.setIfInBounds_comm _ _ hji]
   exact h4
def lexC34 (lp wp : List Nat) (cls : Op → Cls) (md : Region.Mode) (ops : Array Oper) : List Nat → Array Bool → Bool
 | [], listed => (Region.ready md ops listed).isEmpty
 | k :: r, listed => (Region.ready md ops listed).contains k && freeC24 lp wp cls md ops listed k && lexC34 lp wp cls md ops r (listed.setIfInBounds k true)
def lexOk34 (lp wp : List Nat) (cls : Op → Cls) (ops : Array Oper) (ord : List Nat) : Bool := ord.length == ops.size && lexC34 lp wp cls .any ops ord (Array.replicate ops.size false)
theorem wpX_lex34 {cls : Op → Cls} {md : Region.Mode} {ops : Array Oper} {Q : Env → Store → Prop} : ∀ (l : List Nat) (listed : Array Bool) (e : Env) (S : Store), Closed md ops listed →
  lexC34 lp wp cls md ops l listed = true → wpL4 P Kp lp wp cls ops Q (l.filterMap fun i => ops[i]?) e S → wpX4 P Kp lp wp cls md ops Q l.length listed e S
 | [], _, _, _, _, hB, h => ⟨by simpa [lexC34] using hB, h⟩
 | k :: l, listed, e, S, hc, hB, h => by
  simp only [lexC34, Bool.and_eq_true] at hB
  obtain ⟨⟨hr, hf⟩, hB'⟩ := hB
  have hr : k ∈ Region.ready md ops listed := by simpa using hr
  obtain ⟨hun, o, h0, _⟩ := mem_ready.1 hr
  rw [List.filterMap_cons, h0] at h
  have hst : xOp4 P Kp lp wp cls ops k (wpL4 P Kp lp wp cls ops Q (l.filterMap fun i => ops[i]?)) e S := by unfold xOp4; simp only [h0]; exact h
  obtain ⟨v, S', hy, hK⟩ := yieldsX_of_xOp4 h0 hst
  exact wpX_first24 h0 l.length listed e S S' (dep_un hc hun) (freeC2_spec4 h0 hf) hr hy (wpX_lex34 l _ _ _ (closed_set hc hr) hB' hK)
theorem region_draws34 {ro : Option Nat} {cls : Op → Cls} {ops : Array Oper} {ord : List Nat} {id : Nat} {Q : Env → Store → Prop} {Q' : Exit → Act → World → Prop} {e : Env} {S : Store} {a : Act} {w : World} (hm : P.follows .mixedOrders = true) (hB : lexOk34 lp wp cls ops ord = true) (hds : dstsOk N ops = true)
  (hQ : ∀ e S a w, Conc N w0 g0 e S a w → Q e S → Q' .normal a w) (hc : Conc N w0 g0 e S a w) (h : wpL4 P Kp lp wp cls ops Q (ord.filterMap fun i => ops[i]?) e S) : (Code.region id ops true).wpIn (wR ro) 0 P Q' a w := by
 refine wpIn_region_any hm (wpAny_of_x4 (Kp := Kp) (lp := lp) (wp := wp) (cls := cls) hds hQ _ _ e S a _ (hc.draw _) ?_)
 simp only [lexOk34, Bool.and_eq_true, beq_iff_eq] at hB
 have h0 : Closed .any ops (Array.replicate ops.size false) := fun j oj hj hl => by
  have hlt : j < ops.size := (Array.getElem?_eq_some_iff.1 hj).1
  simp [hlt] at hl
 have := wpX_lex34 (md := .any) ord (Array.replicate ops.size false) e S h0 hB.2 h
 rw [hB.1] at this
 exact this
end
inductive CD where
 | of (c : CC) | seq (a b : CD) | cond (c : Operand) (t f : CD) | block (id : Nat) (b : CD) | loop (b : CD) | spec (Kp lp wp : List Nat) (l : List AO) | weak (c : CD)
def WkP (N0 : Nat) (e : Env) (S : Store) (K : Env → Store → Prop) : Prop := ∃ e' S', Weak N0 e S e' S' ∧ K e' S'
theorem wk1 {N0 : Nat} {e e' : Env} {S S' : Store} {K : Env → Store → Prop} (hw : Weak N0 e S e' S') (h : K e' S') : WkP N0 e S K := ⟨e', S', hw, h⟩
def plcOk (Kp : List Nat) (op : Op) (e : Env) : Bool := match op with
 | .load _ x => (match ev e x with
  | .ptr k _ => Kp.contains k
  | .pst _ _ => !Kp.isEmpty
  | _ => false)
 | _ => false
def CallF (P : Program) (op : Op) (e : Env) (S : Store) (v : AV) (S' : Store) : Prop := S'.length = S.length ∧ match op with
 | .call c => (match c.callee with
  | .value (.func f) => ∀ R, AC P f ((c.args.toList.map (ev e)).map AV.wk) (S ++ R) v (S' ++ R)
  | _ => False)
 | _ => False
def AppF (P : Program) (op : Op) (e : Env) (S : Store) : Option (AV × SObj) := match op with
 | .call c => (match c.callee with
  | .builtin .append => (match c.args.toList, c.argTypes.toList with
   | [x, y], [t, u] => aAppW P t u S (ev e x) (ev e y)
   | _, _ => none)
  | _ => none)
 | _ => none
def ARg4 (P : Program) (pf rf : List FuncId) (Kp lp wp : List Nat) : List AO → Env → Store → (Env → Store → Prop) → Prop
 | [], e, S, K => K e S
 | o :: rest, e, S, K => o.gd = none ∧ match kdA lp wp o.dst o.op with
  | .rp => ARg P pf rf [⟨o.dst, o.op, none⟩] e S (fun e' S' => plcOk Kp o.op e = true ∧ ARg4 P pf rf Kp lp wp rest e' S' K)
  | .ap => ∃ v z, AppF P o.op e S = some (v, z) ∧ keeps Kp S (S ++ [z]) ∧ ARg4 P pf rf Kp lp wp rest (put e o.dst v) (S ++ [z]) K
  | .wr => ∃ v S', CallF P o.op e S v S' ∧ keeps Kp S S' ∧ ARg4 P pf rf Kp lp wp rest (put e o.dst v) S' K
  | _ => ARg P pf rf [⟨o.dst, o.op, none⟩] e S (fun e' S' => keeps Kp S S' ∧ ARg4 P pf rf Kp lp wp rest e' S' K)
def AX4 (P : Program) (pf rf : List FuncId) (N0 : Nat) : CD → (AX → Env → Store → Prop) → Env → Store → Prop
 | .of c, Q, e, S => AW P pf rf N0 c Q e S
 | .spec Kp lp wp l, Q, e, S => ARg4 P pf rf Kp lp wp l e S (Q .norm)
 | .weak c, Q, e, S => WkP N0 e S (AX4 P pf rf N0 c Q)
 | .seq a b, Q, e, S => AX4 P pf rf N0 a (thenQ Q (AX4 P pf rf N0 b Q)) e S
 | .cond c t f, Q, e, S => match ev e c with
  | .bo b => iteP b (AX4 P pf rf N0 t Q e S) (AX4 P pf rf N0 f Q e S)
  | _ => False
 | .block id b, Q, e, S => AX4 P pf rf N0 b (blockQ id Q) e S
 | .loop b, Q, e, S => ALoop N0 (AX4 P pf rf N0 b) Q e S
def hasSp (sp : List (Nat × (List Nat × List Nat × List Nat))) : Code → Bool
 | .region id _ _ => (sp.lookup id).isSome
 | .seq a b => hasSp sp a || hasSp sp b
 | .cond _ a b => hasSp sp a || hasSp sp b
 | .block _ b => hasSp sp b
 | .loop b => hasSp sp b
 | _ => false
def ordOf (ord : List (Nat × List Nat)) (id : Nat) (ops : Array Oper) : List Nat := match ord.lookup id with
 | none => List.range ops.size
 | some l => l
def eraseC4 (sp : List (Nat × (List Nat × List Nat × List Nat))) (ord : List (Nat × List Nat)) (c : Code) : CD :=
 if !hasSp sp c then .of (eraseC3 ord c) else match c with
 | .region id ops d => (match sp.lookup id with
  | some (Kp, lp, wp) => if lp.isEmpty && wp.isEmpty then .weak (.of (eraseC3 ord (.region id ops d))) else .weak (.spec Kp lp wp ((if d then (ordOf ord id ops).filterMap (fun i => ops[i]?) else ops.toList).map (eraseO ops)))
  | none => .of .bad)
 | .seq a b => .seq (eraseC4 sp ord a) (eraseC4 sp ord b)
 | .cond c a b => .cond c (eraseC4 sp ord a) (eraseC4 sp ord b)
 | .block id b => .block id (eraseC4 sp ord b)
 | .loop b => .loop (eraseC4 sp ord b)
 | _ => .of .bad
def codeOk4 (P : Program) (pf rf : List FuncId) (N : Nat) (sp : List (Nat × (List Nat × List Nat × List Nat))) (ord : List (Nat × List Nat)) : Code → Bool
 | .region id ops draw => (match sp.lookup id with
  | some (_, lp, wp) => if lp.isEmpty && wp.isEmpty then codeOk3 P pf rf N ord (.region id ops draw) else dstsOk N ops && (!draw || lexOk34 lp wp (clsOf P pf rf) ops (ordOf ord id ops))
  | none => codeOk3 P pf rf N ord (.region id ops draw))
 | .seq a b => codeOk4 P pf rf N sp ord a && codeOk4 P pf rf N sp ord b
 | .cond _ a b => codeOk4 P pf rf N sp ord a && codeOk4 P pf rf N sp ord b
 | .block _ b => codeOk4 P pf rf N sp ord b
 | .loop b => codeOk4 P pf rf N sp ord b
 | _ => true
section
variable {P : Program} {N N0 : Nat} {w0 : World} {g0 : Gh} {pf rf : List FuncId} {sp : List (Nat × (List Nat × List Nat × List Nat))} {ord : List (Nat × List Nat)}
theorem eraseC4_ns {c : Code} (h : hasSp sp c = false) : eraseC4 sp ord c = .of (eraseC3 ord c) := by
 unfold eraseC4
 rw [h]
 rfl
theorem eraseC4_seq {a b : Code} (h : hasSp sp (.seq a b) = true) : eraseC4 sp ord (.seq a b) = .seq (eraseC4 sp ord a) (eraseC4 sp ord b) := by
 rw [eraseC4, h]
 rfl
theorem eraseC4_cond {x : Operand} {a b : Code} (h : hasSp sp (.cond x a b) = true) : eraseC4 sp ord (.cond x a b) = .cond x (eraseC4 sp ord a) (eraseC4 sp ord b) := by
 rw [eraseC4, h]
 rfl
theorem eraseC4_block {id : Nat} {b : Code} (h : hasSp sp (.block id b) = true) : eraseC4 sp ord (.block id b) = .block id (eraseC4 sp ord b) := by
 rw [eraseC4, h]
 rfl
theorem eraseC4_loop {b : Code} (h : hasSp sp (.loop b) = true) : eraseC4 sp ord (.loop b) = .loop (eraseC4 sp ord b) := by
 rw [eraseC4, h]
 rfl
theorem codeOk4_ns : ∀ {c : Code}, hasSp sp c = false → codeOk4 P pf rf N sp ord c = true → codeOk3 P pf rf N ord c = true := by
 intro c
 induction c with
 | region id ops d =>
  intro h hk
  simp only [hasSp, Option.isSome_eq_false_iff, Option.isNone_iff_eq_none] at h
  simpa only [codeOk4, h] using hk
 | seq a b iha ihb =>
  intro h hk
  simp only [hasSp, Bool.or_eq_false_iff] at h
  simp only [codeOk4, codeOk3, Bool.and_eq_true] at hk ⊢
  exact ⟨iha h.1 hk.1, ihb h.2 hk.2⟩
 | cond x a b iha ihb =>
  intro h hk
  simp only [hasSp, Bool.or_eq_false_iff] at h
  simp only [codeOk4, codeOk3, Bool.and_eq_true] at hk ⊢
  exact ⟨iha h.1 hk.1, ihb h.2 hk.2⟩
 | block id b ih => intro h hk; exact ih (by simpa only [hasSp] using h) (by simpa only [codeOk4] using hk)
 | loop b ih => intro h hk; exact ih (by simpa only [hasSp] using h) (by simpa only [codeOk4] using hk)
 | _ => intro _ _; rfl
theorem aw4_of {ro : Option Nat} (hm : P.follows .mixedOrders = true) (hN0 : g0.nid = N0) {c : Code} {Q : AX → Env → Store → Prop} {e : Env} {S : Store} {a : Act} {w : World} (hns : hasSp sp c = false) (hok : codeOk4 P pf rf N sp ord c = true) (hc : Conc N w0 g0 e S a w) (h : AX4 P pf rf N0 (eraseC4 sp ord c) Q e S) : c.wpIn (wR ro) 0 P (toQ N w0 g0 Q) a w := by
 rw [eraseC4_ns hns] at h
 exact AW_ok3 hm hN0 c Q e S a w (codeOk4_ns hns hok) hc h
theorem does_loadp {o : Oper} {t : TypeId} {x : Operand} {e : Env} {S : Store} {v : AV} {Kp : List Nat} (ho : o.op = .load t x) (hv : aLoad (szOf P t) S (ev e x) = some v) (hp : plcOk Kp o.op e = true) : ∃ k ∈ Kp, ∀ S2 : Store, S2[k]? = S[k]? → Does P o e S2 v S2 := by
 rw [ho] at hp
 unfold plcOk at hp
 simp only at hp
 split at hp
 ·rename_i k off hx
  refine ⟨k, by simpa using hp, fun S2 h2 => does_load ho ?_⟩
  rw [hx] at hv ⊢
  unfold aLoad at hv ⊢
  split at hv
  ·rename_i hz he
   cases he
   simp only [h2]
   exact hv
  ·rename_i he; cases he
  ·rename_i he; cases he
  ·cases hv
 ·rename_i u off hx
  obtain ⟨k, hk⟩ : ∃ k, k ∈ Kp := by
   cases Kp with
   | nil => cases hp
   | cons k _ => exact ⟨k, by simp⟩
  refine ⟨k, hk, fun S2 _ => does_load ho ?_⟩
  rw [hx] at hv ⊢
  cases hz : szOf P t with
  | none => rw [hz] at hv; cases hv
  | some z => rw [hz] at hv; exact hv
 ·cases hp
theorem wpL4_of_ARg4 {Kp lp wp : List Nat} {ops : Array Oper} {Q : Env → Store → Prop} : ∀ (l : List Oper) (e : Env) (S : Store), ARg4 P pf rf Kp lp wp (l.map (eraseO ops)) e S Q → wpL4 P Kp lp wp (clsOf P pf rf) ops Q l e S
 | [], e, S, h => h
 | o :: rest, e, S, h => by
  simp only [List.map_cons, ARg4] at h
  obtain ⟨hgd, h⟩ := h
  have hg : aWant ops o e = some true := by
   unfold eraseO at hgd
   unfold aWant
   cases hx : o.guard with
   | none => rfl
   | some p => obtain ⟨j, want⟩ := p; rw [hx] at hgd; cases hgd
  have hop : (eraseO ops o).op = o.op := rfl
  have hds : (eraseO ops o).dst = o.dst := rfl
  rw [hop, hds] at h
  unfold kdA at h
  unfold wpL4
  simp only [hg]
  unfold XStep4
  have one : ∀ K : Env → Store → Prop, ARg P pf rf [⟨o.dst, o.op, none⟩] e S K → AOp P pf rf o.op e S (fun v S' => K (put e o.dst v) S') := fun K h => by
   rw [ARg] at h
   obtain ⟨b, hb, h⟩ := bindO_spec h
   cases hb
   have h := h.1 rfl
   have e1 : (fun v S' => ARg P pf rf [] (put e o.dst v) S' K) = fun v S' => K (put e o.dst v) S' := by funext v S'; rw [ARg]
   rw [e1] at h
   exact h
  cases hk : kdO lp wp o.dst o.op with
  | rp =>
   rw [hk] at h
   simp only at h ⊢
   have h := one _ h
   cases hl : o.op with
   | load t x =>
    rw [hl] at h
    unfold AOp at h
    simp only at h
    obtain ⟨v, hv, h1, h2⟩ := bindO_spec h
    rw [← hl] at h1
    exact ⟨v, S, ⟨rfl, does_loadp hl hv h1⟩, wpL4_of_ARg4 rest _ _ h2⟩
   | _ =>
    exfalso
    obtain ⟨v, S', _, h2, _⟩ := AOp_ok h
    unfold plcOk at h2
    rw [hl] at h2
    cases h2
  | wr =>
   rw [hk] at h
   simp only at h ⊢
   obtain ⟨v, S', ⟨h1, h2⟩, h3, h4⟩ := h
   refine ⟨v, S', ⟨h1, h3, fun R => ?_⟩, wpL4_of_ARg4 rest _ _ h4⟩
   split at h2
   ·rename_i c ho
    split at h2
    ·rename_i f hf
     refine does_call (fa := []) (ca := []) ho hf rfl ?_
     simp only [List.nil_append, List.append_nil]
     exact (h2 R).weak
    ·exact h2.elim
   ·exact h2.elim
  | al =>
   rw [hk] at h
   simp only at h ⊢
   cases hl : o.op with
   | alloc t =>
    rw [hl] at h
    simp only at h
    rw [← hl] at h
    have h := one _ h
    rw [hl] at h
    unfold AOp at h
    simp only at h
    obtain ⟨z, hz, h1, h2⟩ := bindO_spec h
    refine ⟨_, _, ⟨⟨_, rfl, fun S2 h3 => ?_⟩, h1⟩, wpL4_of_ARg4 rest _ _ h2⟩
    rw [← h3]
    exact does_alloc hl hz
   | call c =>
    rw [hl] at h
    simp only at h
    obtain ⟨v, z, h1, h2, h3⟩ := h
    unfold AppF at h1
    simp only at h1
    split at h1
    ·rename_i hb
     split at h1
     ·rename_i x y t u hargs hts
      have hc : c = { callee := .builtin .append, args := #[x, y], argTypes := #[t, u] } := by
       cases c with | mk ce ar at_ =>
       simp only at hb hargs hts
       rw [hb]
       congr 1
       ·exact Array.ext' hargs
       ·exact Array.ext' hts
      refine ⟨_, _, ⟨⟨_, rfl, fun S2 h4 => does_appendW (by rw [hl, hc]) ?_⟩, h2⟩, wpL4_of_ARg4 rest _ _ h3⟩
      unfold aAppW at h1 ⊢
      rw [h4]
      exact h1
     ·cases h1
    ·cases h1
   | _ =>
    exfalso
    unfold kdO at hk
    rw [hl] at hk
    split at hk
    ·split at hk
     ·cases hk
     ·split at hk <;> cases hk
    ·cases hk
  | ot =>
   rw [hk] at h
   simp only at h ⊢
   have h := one _ h
   obtain ⟨v, S', h1, h3, h4⟩ := AOp_ok h
   exact ⟨v, S', ⟨h1, h3⟩, wpL4_of_ARg4 rest _ _ h4⟩
theorem wpList_of_L4 {ro : Option Nat} {Kp lp wp : List Nat} {cls : Op → Cls} {ops : Array Oper} {Q : Env → Store → Prop} {Q' : Exit → Act → World → Prop} (hds : dstsOk N ops = true) (hQ : ∀ e S a w, Conc N w0 g0 e S a w → Q e S → Q' .normal a w) :
  ∀ (l : List Oper), (∀ o ∈ l, ∃ i : Nat, ops[i]? = some o) → ∀ (e : Env) (S : Store) (a : Act) (w : World), Conc N w0 g0 e S a w → wpL4 P Kp lp wp cls ops Q l e S → wpListIn (wR ro) 0 P ops Q' l a w
 | [], _, e, S, a, w, hc, h => hQ e S a w hc h
 | o :: l, hl, e, S, a, w, hc, h => by
  obtain ⟨i, hi⟩ := hl o (by simp)
  have hd := dstsOk_spec hds hi
  have her : ∃ g, ERel w g e a := by obtain ⟨_, _, g, _, h4, _⟩ := hc; exact ⟨g, h4⟩
  obtain ⟨g, her⟩ := her
  unfold wpL4 at h
  unfold wpListIn
  split at h
  ·rename_i hw
   rw [aWant_ok her hw]
   obtain ⟨v, S', h1, h2⟩ := h
   simp only [if_true]
   exact hc.does hd h1.does (fun a' w' hc' => wpList_of_L4 hds hQ l (fun o ho => hl o (by simp [ho])) _ _ a' w' hc' h2) ro
  ·rename_i hw
   rw [aWant_ok her hw]
   simp only [Bool.false_eq_true, if_false]
   exact ⟨fun _ _ => trivial, wpList_of_L4 hds hQ l (fun o ho => hl o (by simp [ho])) _ _ _ w (hc.skip hd) h⟩
  ·exact h.elim
theorem AW_ok4 {ro : Option Nat} (hm : P.follows .mixedOrders = true) (hN0 : g0.nid = N0) : ∀ (c : Code) (Q : AX → Env → Store → Prop) (e : Env) (S : Store) (a : Act) (w : World), codeOk4 P pf rf N sp ord c = true → Conc N w0 g0 e S a w → AX4 P pf rf N0 (eraseC4 sp ord c) Q e S → c.wpIn (wR ro) 0 P (toQ N w0 g0 Q) a w := by
 intro c
 induction c with
 | region id ops draw =>
  intro Q e S a w hok hc h
  cases hns : hasSp sp (.region id ops draw) with
  | false => exact aw4_of hm hN0 hns hok hc h
  | true =>
   simp only [hasSp] at hns
   obtain ⟨⟨Kp, lp, wp⟩, hs⟩ := Option.isSome_iff_exists.1 hns
   have hQ : ∀ e S a w, Conc N w0 g0 e S a w → Q .norm e S → toQ N w0 g0 Q .normal a w := fun e S a w hc hq => ⟨e, S, hc, hq⟩
   simp only [codeOk4, hs] at hok
   simp only [eraseC4, hasSp, hs, Option.isSome_some, Bool.not_true, Bool.false_eq_true, if_false] at h
   by_cases hem : (lp.isEmpty && wp.isEmpty) = true
   ·rw [if_pos hem] at h hok
    simp only [AX4] at h
    obtain ⟨e1, S1, hwk, h⟩ := h
    exact AW_ok3 hm hN0 _ Q e1 S1 a w hok (hwk N w0 g0 a w hN0 hc) h
   ·rw [if_neg hem] at h hok
    simp only [AX4] at h
    obtain ⟨e1, S1, hwk, h⟩ := h
    have hc1 := hwk N w0 g0 a w hN0 hc
    simp only [Bool.and_eq_true] at hok
    cases draw with
    | true =>
     simp only [if_true, Bool.not_true, Bool.false_or] at h hok
     exact region_draws34 hm hok.2 hok.1 hQ hc1 (wpL4_of_ARg4 _ e1 S1 h)
    | false =>
     simp only [Bool.false_eq_true, if_false] at h
     refine wpIn_region_list (wpList_of_L4 (cls := clsOf P pf rf) hok.1 hQ ops.toList (fun o ho => ?_) e1 S1 a w hc1 (wpL4_of_ARg4 _ e1 S1 h))
     obtain ⟨i, hi⟩ := List.mem_iff_getElem?.1 ho
     exact ⟨i, by simpa using hi⟩
 | seq x y ihx ihy =>
  intro Q e S a w hok hc h
  cases hns : hasSp sp (.seq x y) with
  | false => exact aw4_of hm hN0 hns hok hc h
  | true =>
   rw [eraseC4_seq hns] at h
   simp only [codeOk4, Bool.and_eq_true] at hok
   simp only [AX4] at h
   refine wpIn_seq (Go.wpIn_mono (ihx _ e S a w hok.1 hc h) ?_)
   intro ex a' w' hq
   cases ex with
   | normal => obtain ⟨e', S', hc', h'⟩ := hq; exact ihy Q e' S' a' w' hok.2 hc' h'
   | exit id => exact hq
   | ret => exact hq
   | _ => exact hq.elim
 | cond c x y ihx ihy =>
  intro Q e S a w hok hc h
  cases hns : hasSp sp (.cond c x y) with
  | false => exact aw4_of hm hN0 hns hok hc h
  | true =>
   rw [eraseC4_cond hns] at h
   simp only [codeOk4, Bool.and_eq_true] at hok
   simp only [AX4] at h
   split at h
   ·rename_i b hb
    have hcb : a.eval c = .bool b := by
     obtain ⟨_, _, g, _, h4, _⟩ := hc
     have := ev_ok h4 c
     rw [hb] at this
     cases hv : a.eval c <;> rw [hv] at this <;> cases this
     rfl
    refine wpIn_cond_split hcb (fun ht => ihx Q e S a w hok.1 hc (h.1 ht)) (fun hf => ihy Q e S a w hok.2 hc (h.2 hf))
   ·exact h.elim
 | block id c ih =>
  intro Q e S a w hok hc h
  cases hns : hasSp sp (.block id c) with
  | false => exact aw4_of hm hN0 hns hok hc h
  | true =>
   rw [eraseC4_block hns] at h
   simp only [AX4] at h
   refine wpIn_block (Go.wpIn_mono (ih _ e S a w hok hc h) ?_)
   intro ex a' w' hq
   cases ex with
   | normal => exact hq
   | exit i =>
    obtain ⟨e', S', hc', h'⟩ := hq
    simp only [blockQ] at h'
    simp only [Exit.inBlock]
    by_cases hi : i = id
    ·rw [if_pos hi] at h' ⊢; exact ⟨e', S', hc', h'⟩
    ·rw [if_neg hi] at h' ⊢; exact ⟨e', S', hc', h'⟩
   | ret => exact hq
   | _ => exact hq.elim
 | loop c ih =>
  intro Q e S a w hok hc h
  cases hns : hasSp sp (.loop c) with
  | false => exact aw4_of hm hN0 hns hok hc h
  | true =>
   rw [eraseC4_loop hns] at h
   simp only [AX4] at h
   obtain ⟨I, ⟨n, e', S', hwk, hI⟩, hround⟩ := h
   refine wpIn_loop_ghost (fun n a w => ∃ e S, Conc N w0 g0 e S a w ∧ I n e S) n ⟨e', S', hwk N w0 g0 a w hN0 hc, hI⟩ ?_
   rintro n a w ⟨e, S, hc, hI⟩
   refine Go.wpIn_mono (ih _ e S a w hok hc (hround n e S hI)) ?_
   intro ex a' w' hq
   cases ex with
   | normal =>
    obtain ⟨e1, S1, hc1, n', e2, S2, hlt, hwk', hI'⟩ := hq
    exact ⟨n', hlt, e2, S2, hwk' N w0 g0 a' w' hN0 hc1, hI'⟩
   | exit i => exact hq
   | ret => exact hq
   | _ => exact hq.elim
 | _ =>
  intro Q e S a w hok hc h
  exact aw4_of hm hN0 rfl hok hc h
end
section
variable {P : Program}
theorem AC.enter4 {f : FuncId} {fn : Func} {c : Code} {args : List AV} {S S' : Store} {v : AV} (pf rf : List FuncId) (sp : List (Nat × (List Nat × List Nat × List Nat))) (ord : List (Nat × List Nat)) (hf : P.funcs[f]? = some fn) (hb : fn.body = some c) (hname : fn.name ≠ "runtime.NumGoroutine") (hm : P.follows .mixedOrders = true)
  (hn : args.length ≤ fn.ntmps) (hok : codeOk4 P pf rf fn.ntmps sp ord c = true) (h : AX4 P pf rf S.length (eraseC4 sp ord c) (finQ P fn.results.toList S.length v S') (argEnv args) S) : AC P f args S v S' := by
 exact AC.of_wp hf hb hname hn fun w g a hg hc => AW_ok4 hm hg c _ (argEnv args) S a w hok hc h
end
section
variable (P : Program) (pf rf : List FuncId) (N0 : Nat) (Q : AX → Env → Store → Prop) (e : Env) (S : Store) (K : Env → Store → Prop)
theorem AX4_of (c : CC) : AX4 P pf rf N0 (.of c) Q e S = AW P pf rf N0 c Q e S := rfl
theorem AX4_seq (a b : CD) : AX4 P pf rf N0 (.seq a b) Q e S = AX4 P pf rf N0 a (thenQ Q (AX4 P pf rf N0 b Q)) e S := rfl
theorem AX4_weak (c : CD) : AX4 P pf rf N0 (.weak c) Q e S = WkP N0 e S (AX4 P pf rf N0 c Q) := rfl
theorem AX4_spec (Kp lp wp : List Nat) (l : List AO) : AX4 P pf rf N0 (.spec Kp lp wp l) Q e S = ARg4 P pf rf Kp lp wp l e S (Q .norm) := rfl
def AXs (c : CD) : Prop := AX4 P pf rf N0 c Q e S
theorem AX4_cond (c : Operand) (t f : CD) : AX4 P pf rf N0 (.cond c t f) Q e S = condP (ev e c) (AXs P pf rf N0 Q e S t) (AXs P pf rf N0 Q e S f) := rfl
theorem AXs_eq (c : CD) : AXs P pf rf N0 Q e S c = AX4 P pf rf N0 c Q e S := rfl
theorem AX4_block (id : Nat) (b : CD) : AX4 P pf rf N0 (.block id b) Q e S = AX4 P pf rf N0 b (blockQ id Q) e S := rfl
theorem AX4_loop (b : CD) : AX4 P pf rf N0 (.loop b) Q e S = ALoop N0 (AX4 P pf rf N0 b) Q e S := rfl
theorem ARg4_nil (Kp lp wp : List Nat) : ARg4 P pf rf Kp lp wp [] e S K = K e S := rfl
end
def sideR (P : Program) (pf rf : List FuncId) (K : Env → Store → Prop) (Kp lp wp : List Nat) (op : Op) (rest : List AO) (e : Env) (e' : Env) (S' : Store) : Prop := plcOk Kp op e = true ∧ ARg4 P pf rf Kp lp wp rest e' S' K
def sideK (P : Program) (pf rf : List FuncId) (K : Env → Store → Prop) (Kp lp wp : List Nat) (rest : List AO) (S : Store) (e' : Env) (S' : Store) : Prop := keeps Kp S S' ∧ ARg4 P pf rf Kp lp wp rest e' S' K
section
variable {P : Program} {pf rf : List FuncId} {e e' : Env} {S S' : Store} {K : Env → Store → Prop} {Kp lp wp : List Nat} {rest : List AO}
theorem a4r {d : Option Nat} {op : Op} (h : ARg P pf rf [⟨d, op, none⟩] e S (sideR P pf rf K Kp lp wp op rest e)) (hk : kdA lp wp d op = .rp := by rfl) : ARg4 P pf rf Kp lp wp (⟨d, op, none⟩ :: rest) e S K := by
 refine ⟨rfl, ?_⟩
 show match kdA lp wp d op with
  | .rp => _
  | .ap => _
  | .wr => _
  | _ => _
 rw [hk]
 exact h
theorem a4 {d : Option Nat} {op : Op} (h : ARg P pf rf [⟨d, op, none⟩] e S (sideK P pf rf K Kp lp wp rest S)) (hk : kdA lp wp d op = .ot := by rfl) : ARg4 P pf rf Kp lp wp (⟨d, op, none⟩ :: rest) e S K := by
 refine ⟨rfl, ?_⟩
 show match kdA lp wp d op with
  | .rp => _
  | .ap => _
  | .wr => _
  | _ => _
 rw [hk]
 exact h
theorem p4 {d : Option Nat} {op : Op} {v : AV} {z : SObj} (h : AppF P op e S = some (v, z)) (h' : ARg4 P pf rf Kp lp wp rest (put e d v) (S ++ [z]) K) (hk : kdA lp wp d op = .ap := by rfl) (hk' : keeps Kp S (S ++ [z]) := by (intro k hk; simp only [List.mem_cons, List.not_mem_nil, or_false] at hk; first | (subst hk; rfl) | (rcases hk with rfl | rfl <;> rfl) | (rcases hk with rfl | rfl | rfl <;> rfl))) : ARg4 P pf rf Kp lp wp (⟨d, op, none⟩ :: rest) e S K := by
 refine ⟨rfl, ?_⟩
 show match kdA lp wp d op with
  | .rp => _
  | .ap => _
  | .wr => _
  | _ => _
 rw [hk]
 exact ⟨v, z, h, hk', h'⟩
theorem k4 (h : ARg4 P pf rf Kp lp wp rest e' S' K) (hk : keeps Kp S S' := by (intro k hk; simp only [List.mem_cons, List.not_mem_nil, or_false] at hk; first | (subst hk; rfl) | (rcases hk with rfl | rfl <;> rfl) | (rcases hk with rfl | rfl | rfl <;> rfl))) : sideK P pf rf K Kp lp wp rest S e' S' := ⟨hk, h⟩
theorem k4r {op : Op} (h : ARg4 P pf rf Kp lp wp rest e' S' K) (hk : plcOk Kp op e = true := by rfl) : sideR P pf rf K Kp lp wp op rest e e' S' := ⟨hk, h⟩
theorem w4 {d : Option Nat} {c : Call} {f : FuncId} {args : List AV} {o o' : SObj} {v : AV} (l : Nat) (h : AC P f (.ptr 0 0 :: args) [o] v [o']) (h' : ARg4 P pf rf Kp lp wp rest (put e d v) (S.set l o') K) (hf : c.callee = .value (.func f) := by rfl) (hw : kdA lp wp d (.call c) = .wr := by rfl)
  (ho : o.ok 0 = true := by rfl) (ho' : o'.ok 0 = true := by rfl) (ha : args.all (AV.ok 0) = true := by rfl) (hv : v.ok 0 = true := by rfl) (hT : S[l]? = some o := by rfl) (hg : (c.args.toList.map (ev e)).map AV.wk = .ptr l 0 :: args := by rfl) (hk : keeps Kp S (S.set l o') := by (intro k hk; simp only [List.mem_cons, List.not_mem_nil, or_false] at hk; first | (subst hk; rfl) | (rcases hk with rfl | rfl <;> rfl) | (rcases hk with rfl | rfl | rfl <;> rfl))) :
  ARg4 P pf rf Kp lp wp (⟨d, .call c, none⟩ :: rest) e S K := by
 refine ⟨rfl, ?_⟩
 show match kdA lp wp d (.call c) with
  | .rp => _
  | .ap => _
  | .wr => ∃ v S', CallF P (.call c) e S v S' ∧ keeps Kp S S' ∧ ARg4 P pf rf Kp lp wp rest (put e d v) S' K
  | _ => _
 rw [hw]
 refine ⟨v, S.set l o', ⟨by simp, ?_⟩, hk, h'⟩
 simp only [hf]
 intro R
 rw [hg]
 have := h.here l (S ++ R) ho ho' ha hv (get_app hT R)
 rw [List.set_append_left _ _ (List.getElem?_eq_some_iff.1 hT).1] at this
 exact this
end
set_option maxRecDepth 100000
theorem run4 {A B : Prop} (h : B) (e : A = B := by
  conv =>
   lhs
   (try simp only [AWs_eq, ARgs_eq, AOps_eq, AXs_eq, iteP_true, iteP_false])
   (try simp -implicitDefEqProofs (maxSteps := 4000000) (disch := (first | omega | (simp only [List.length_append, List.length_cons, List.length_map, List.length_nil, List.length_take, List.length_drop]; omega))) only [↓AX4_of, ↓AX4_seq, ↓AX4_spec, ↓AX4_weak, ↓AX4_cond, ↓AX4_block, ↓AX4_loop, ↓ARg4_nil, ↓zpre, zpost, cst1, ↓reduceIte, Nat.reduceEqDiff, Nat.reduceAdd, Nat.reduceLT, Nat.reduceLeDiff, Nat.reduceMul, Nat.reduceSub, Int.reduceToNat, Int.reduceAdd, Int.reduceSub, Int.reduceMul, Int.reduceNeg, Int.reduceLE, Int.reduceLT, Int.reduceEq, Int.reduceBEq, Int.reduceBNe, Nat.reduceBEq, Nat.reduceBNe, aBin, aEq, aEqF, aNilEq, aInt, aStr, aUn, aConv, aNil, aFldAddr, aFld, aIdxAddr, aIdx, aBui, aLoad, aStore, aLits, aLit, aMake, aMakeW, aMapSet, aLook, kfind, keq, kok, lookOut, aMk, aRange, aNext, aBytes, aApp, srcOf, aSlice, aBound, modeCut, apart, aFill, aval, aGd, zobj, zfr, ACall, AV.wk, AV.wk2, AV.wk1, AV.cells, AV.solid, AV.ro, AV.ro1, ← List.map_take, ← List.map_drop, reduceCtorEq, Option.isNone_some, Option.isSome_none, tf0, tf1, tf2, tf3, tf4, tf5, tf6, tf7, tf8, tf9, tf10, tf11, tf12, tf13, tf14, tf15, tf16, tf17, tf18, tf19, tf20, tf21, tf22, tf23, tf24, tf25, tf26, tf27, tf28, tf29, tf30, tf31, tf32, tf33, tf34])
   (try simp only [iteP_true, iteP_false])) : A := e ▸ h
theorem runf4 {F A B : Prop} (f : F) (h : B) (e : F → A = B := by
  intro f
  conv =>
   lhs
   (try simp only [AWs_eq, ARgs_eq, AOps_eq, AXs_eq, iteP_true, iteP_false])
   (try simp -implicitDefEqProofs (maxSteps := 4000000) (disch := (first | omega | (simp only [List.length_append, List.length_cons, List.length_map, List.length_nil, List.length_take, List.length_drop]; omega))) only [↓AX4_of, ↓AX4_seq, ↓AX4_spec, ↓AX4_weak, ↓AX4_cond, ↓AX4_block, ↓AX4_loop, ↓ARg4_nil, ↓zpre, zpost, cst1, ↓reduceIte, Nat.reduceEqDiff, Nat.reduceAdd, Nat.reduceLT, Nat.reduceLeDiff, Nat.reduceMul, Nat.reduceSub, Int.reduceToNat, Int.reduceAdd, Int.reduceSub, Int.reduceMul, Int.reduceNeg, Int.reduceLE, Int.reduceLT, Int.reduceEq, Int.reduceBEq, Int.reduceBNe, Nat.reduceBEq, Nat.reduceBNe, aBin, aEq, aEqF, aNilEq, aInt, aStr, aUn, aConv, aNil, aFldAddr, aFld, aIdxAddr, aIdx, aBui, aLoad, aStore, aLits, aLit, aMake, aMakeW, aMapSet, aLook, kfind, keq, kok, lookOut, aMk, aRange, aNext, aBytes, aApp, srcOf, aSlice, aBound, modeCut, apart, aFill, aval, aGd, zobj, zfr, ACall, AV.wk, AV.wk2, AV.wk1, AV.cells, AV.solid, AV.ro, AV.ro1, ← List.map_take, ← List.map_drop, reduceCtorEq, Option.isNone_some, Option.isSome_none, tf0, tf1, tf2, tf3, tf4, tf5, tf6, tf7, tf8, tf9, tf10, tf11, tf12, tf13, tf14, tf15, tf16, tf17, tf18, tf19, tf20, tf21, tf22, tf23, tf24, tf25, tf26, tf27, tf28, tf29, tf30, tf31, tf32, tf33, tf34, f])
   (try simp only [iteP_true, iteP_false])) : A := e f ▸ h
end Go.Proofs.YtlefikdjhnaapaaGreatDoor.Pe
namespace Go.Proofs.YtlefikdjhnaapaaGreatDoor.Pe
open Go Go.RowKit
variable [Tab]
theorem WF.still {w : World} {g : Gh} {S : Store} (h : WF w g S) {l n : Nat} {o : SObj} {arr : Array Value} {T : TypeId} {fr : Nat × Nat} (hS : S[l]? = some o) (hown : g.own l (g.pl l)) (hG : g.G (g.pl l) = 0) (hh : w.heap[g.pl l]? = some (.cells arr T fr)) :
  WF w { g with G := fun x => if x = g.pl l then n else g.G x } (S.set l .dead) ∧ Evo w g w { g with G := fun x => if x = g.pl l then n else g.G x } := by
 have hlS := (List.getElem?_eq_some_iff.1 hS).1
 have hln : l < g.nid := by rw [h.nid]; exact hlS
 let g' : Gh := { g with G := fun x => if x = g.pl l then n else g.G x }
 have hne : ∀ b, 0 < g.G b → b ≠ g.pl l := fun b h e => by rw [e, hG] at h; exact absurd h (Nat.lt_irrefl 0)
 have hle : Le w g w g' := ⟨fun _ _ _ _ h => h, fun b o v hb _ => by
  show o < (if b = g.pl l then n else g.G b)
  rw [if_neg (hne b (by omega))]; exact hb, Nat.le_refl _, fun _ _ => ⟨rfl, .inl ⟨rfl, rfl, rfl⟩⟩, fun b me c hg hm => ⟨by
  show 0 < (if b = g.pl l then n else g.G b)
  rw [if_neg (hne b hg)]; exact hg, hm⟩⟩
 refine ⟨⟨by rw [List.length_set]; exact h.nid, fun k o hk => ?_, h.disj, h.lt, h.tab.le hle⟩, ⟨hle, rfl, rfl, rfl, Nat.le_refl _, fun _ _ _ => rfl, fun _ _ hk hb _ => ⟨hk, hb⟩, fun b _ hno => if_neg (fun e => hno l hln (by rw [e]; exact hown))⟩⟩
 by_cases hkl : k = l
 ·subst hkl; rw [List.getElem?_set_self hlS] at hk; cases hk; trivial
 ·rw [List.getElem?_set_ne (Ne.symm hkl)] at hk
  have hkn : k < g.nid := by rw [h.nid]; exact (List.getElem?_eq_some_iff.1 hk).1
  refine (h.obj k o hk).keep hle rfl rfl rfl rfl rfl (fun b hb' => ?_) (fun _ _ => rfl)
  exact if_neg (fun e => hkl (h.disj k l b hkn hln hb' (by rw [e]; exact hown)))
end Go.Proofs.YtlefikdjhnaapaaGreatDoor.Pe
end
section
namespace Go.Proofs.YtlefikdjhnaapaaGreatDoor.Pe
open Go Go.RowKit
variable [Tab]
def putE (e : Env) (ps : List Tmp) (vs : List AV) : Env := (ps.zip vs).foldl (fun e p => upd e p.1 p.2) e
theorem argEnv_envL {N t : Nat} (e : Env) (h : t < N) : argEnv (envL N e) t = e t := by
 simp [argEnv, envL, h]
theorem putE_nil (e : Env) (vs : List AV) : putE e [] vs = e := by simp [putE]
theorem putE_cons (e : Env) (p : Tmp) (ps : List Tmp) (v : AV) (vs : List AV) : putE e (p :: ps) (v :: vs) = putE (upd e p v) ps vs := rfl
theorem putE_rel {w : World} {g : Gh} : ∀ (q : List Tmp) (vs : List AV) (cs : List Value) (e : Env) (a : Act), vs.length = q.length → cs.length = q.length → (∀ (j : Nat) u x, vs[j]? = some u → cs[j]? = some x → Rel w g u x) → (∀ p ∈ q, p < a.tmps.size) → ERel w g e a →
  ERel w g (putE e q vs) { a with tmps := (q.zip cs).foldl (fun t p => t.setIfInBounds p.1 p.2) a.tmps } ∧ ((q.zip cs).foldl (fun t p => t.setIfInBounds p.1 p.2) a.tmps).size = a.tmps.size
 | [], vs, cs, e, a, _, _, _, _, he => ⟨by rw [putE_nil]; exact he, rfl⟩
 | p :: q, [], cs, e, a, h, _, _, _, _ => by simp at h
 | p :: q, v :: vs, [], e, a, _, h, _, _, _ => by simp at h
 | p :: q, v :: vs, c :: cs, e, a, h1, h2, h3, h4, he => by
  have hp : ERel w g (Pe.put e (some p) v) (a.put (some p) c) := he.put (fun x hx => by cases hx; exact h4 p (by simp)) (h3 0 v c rfl rfl)
  have := putE_rel q vs cs (upd e p v) (a.put (some p) c) (by simpa using h1) (by simpa using h2) (fun j u x hu hx => h3 (j + 1) u x (by simpa using hu) (by simpa using hx)) (fun x hx => by simpa [Act.put] using h4 x (by simp [hx])) hp
  refine ⟨this.1, ?_⟩
  have h5 := this.2
  simp only [Act.put, Array.size_setIfInBounds] at h5
  exact h5
section
variable {P : Program} {pf rf : List FuncId}
def bdyQ (N0 l : Nat) (o : LoopState → SObj) (S' : Store) : AX → Env → Store → Prop
 | .norm => fun e S => ∃ e1 S1 κ, Weak N0 e S e1 S1 ∧ S1[l]? = some (o .busy) ∧ SubOk κ (S1.set l (o .ready)) S' ∧ κ.take N0 = List.range N0
 | _ => fun _ _ => False
def asnQ (l : Nat) (o : LoopState → SObj) (B : Env → Store → Prop) : AX → Env → Store → Prop
 | .norm => fun e S => S[l]? = some (o .ready) ∧ B e (S.set l (o .busy))
 | _ => fun _ _ => False
theorem loop_turn {w : World} {g : Gh} {S : Store} {l b D : Nat} {fn : FuncId} {es : List AV} {ps : Array Tmp} {asn bdy : Code} {st : LoopState} (hw : WF w g S) (hl : S[l]? = some (.loop b D fn es ps asn bdy st)) :
  ∃ tm, w.heap[b]? = some (.loop { state := st, pending := none, fn, tmps := tm, params := ps, assign := asn, body := bdy, defers := D }) ∧ tm.size = es.length ∧ (∀ (j : Nat) u x, es[j]? = some u → tm[j]? = some x → Rel w g u x) ∧
   ∀ st', WF (w.putObj b (.loop { state := st', pending := none, fn, tmps := tm, params := ps, assign := asn, body := bdy, defers := D })) g (S.set l (.loop b D fn es ps asn bdy st')) ∧
    Evo w g (w.putObj b (.loop { state := st', pending := none, fn, tmps := tm, params := ps, assign := asn, body := bdy, defers := D })) g := by
 obtain ⟨b1, b2, b3, rfl, tm, b5, b6, b7⟩ := hw.obj _ _ hl
 refine ⟨tm, b5, b6, b7, fun st' => ?_⟩
 refine hw.put (o := .loop (g.pl l) D fn es ps asn bdy st') (List.getElem?_eq_some_iff.1 hl).1 b2 b3 ?_
 have hle := Le.setObj (w := w) b3 (.loop { state := st', pending := none, fn, tmps := tm, params := ps, assign := asn, body := bdy, defers := D })
 have hlt := (Array.getElem?_eq_some_iff.1 b5).1
 exact ⟨b1, b2, b3, rfl, tm, by simp [hlt], b6, fun j u x hu hx => (b7 j u x hu hx).le hle⟩
theorem AYB.of_wp {b D : Nat} {fn : FuncId} {es args : List AV} {ps : Array Tmp} {asn bdy : Code} {S S' : Store} (pf rf : List FuncId) (l : Nat) (hl : S[l]? = some (.loop b D fn es ps asn bdy .ready)) (hlen : args.length = ps.size) (hps : ∀ p ∈ ps.toList, p < es.length)
  (hm : P.follows .mixedOrders = true) (hoa : codeOk P pf rf es.length asn = true) (hra : noRF asn = true) (B : Env → Store → Prop)
  (hB : ∀ (w0 : World) (g0 : Gh) (e : Env) (T : Store) (a : Act) (w : World), g0.nid = S.length → Conc es.length w0 g0 e T a w → B e T → bdy.wpIn (wR (some b)) 0 P (toQ es.length w0 g0 (bdyQ S.length l (.loop b D fn es ps asn bdy) S')) a w)
  (h : AW P pf rf S.length (eraseC asn) (asnQ l (.loop b D fn es ps asn bdy) B) (putE (argEnv es) ps.toList args) S) : AYB P b args S (.bo true) S' := by
 intro w g cargs hw hargs
 obtain ⟨tm, b5, b6, b7, _⟩ := loop_turn hw hl
 have hsz : cargs.size = ps.size := by rw [hargs.1, hlen]
 have hfold : (ps.zip cargs).foldl (fun tmps (t, a) => tmps.setIfInBounds t a) tm = (ps.toList.zip cargs.toList).foldl (fun t p => t.setIfInBounds p.1 p.2) tm := by
  rw [← Array.foldl_toList, Array.toList_zip]
 refine ⟨fn, _, asn, bdy, run_yield b5 hsz, ?_⟩
 have hE0 : ERel w g (argEnv es) { tmps := tm, defers := [] } := fun t => by
  show Rel w g (es.getD t .junk) (tm.getD t undef)
  rw [List.getD_eq_getElem?_getD]
  cases ht : es[t]? with
  | none => exact .junk _ _
  | some u =>
   have hlt : t < tm.size := by rw [b6]; exact (List.getElem?_eq_some_iff.1 ht).1
   have h1 : tm[t]? = some tm[t] := Array.getElem?_eq_getElem hlt
   rw [Array.getD_eq_getD_getElem?, h1]
   exact b7 t u _ ht h1
 obtain ⟨hE1, hsz1⟩ := putE_rel ps.toList args cargs.toList (argEnv es) { tmps := tm, defers := [] } (by simpa using hlen) (by simpa using hsz) (fun j u x hu hx => hargs.2 j u x hu (by simpa using hx)) (fun p hp => by show p < tm.size; rw [b6]; exact hps p hp) hE0
 refine roundIn_of_wpIn (F := Fence.wide) (n := 0) trivial ?_
 simp only at hE1 hsz1
 rw [← hfold] at hE1 hsz1
 have hc : Conc es.length w g (putE (argEnv es) ps.toList args) S { tmps := (ps.zip cargs).foldl (fun tmps (t, a) => tmps.setIfInBounds t a) tm, defers := [] } w := ⟨hsz1.trans b6, trivial, g, hw, hE1, .none (Evo.refl w g)⟩
 have ha := AW_ok (some b) (.inr hra) hm hw.nid _ _ S _ w hoa hc h
 refine Go.wpIn_mono (F := Fence.wide.inRound b) ha ?_
 intro ex a1 w1 hq
 cases ex with
 | normal =>
  obtain ⟨e1, S1, ⟨c1, _, g1, c2, c3, c4⟩, hl1, hbd⟩ := hq
  obtain ⟨tm1, d5, _, _, d8⟩ := loop_turn c2 hl1
  obtain ⟨d9, d10⟩ := d8 .busy
  refine ⟨_, run_beginRound d5 rfl, ?_⟩
  have hc1 : Conc es.length w g e1 (S1.set l (.loop b D fn es ps asn bdy .busy)) a1 (w1.putObj b (.loop { state := .busy, pending := none, fn, tmps := tm1, params := ps, assign := asn, body := bdy, defers := D })) := ⟨c1, trivial, g1, d9, fun t => (c3 t).le d10.toLe, c4.trans d10⟩
  have hb := hB _ _ _ _ _ _ hw.nid hc1 hbd
  refine Go.wpIn_mono (F := Fence.wide.inRound b) hb ?_
  intro ex2 a2 w2 hq2
  cases ex2 with
  | normal =>
   obtain ⟨e2, S2, hc2, e3, S3, κ, k0, k1, k2, k3⟩ := hq2
   obtain ⟨_, _, g3, m1, m2, m3⟩ := k0 es.length w g a2 w2 hw.nid hc2
   obtain ⟨tm3, n1, _, _, n4⟩ := loop_turn m1 k1
   obtain ⟨n5, n6⟩ := n4 .ready
   refine ⟨_, _, run_endRound none n1, .bool true, g3.sub κ, rfl, n5.sub k2, .bo _ _, ?_⟩
   exact (m3.toEvo.trans n6).sub k2.nodup (k2.lt n5) (by rw [hw.nid]; exact k3)
  | exit i => obtain ⟨_, _, _, q⟩ := hq2; exact q.elim
  | ret => obtain ⟨_, _, _, q⟩ := hq2; exact q.elim
  | _ => exact hq2.elim
 | exit i => obtain ⟨_, _, _, q⟩ := hq; exact q.elim
 | ret => obtain ⟨_, _, _, q⟩ := hq; exact q.elim
 | _ => exact hq.elim
theorem AYB.enter {b D : Nat} {fn : FuncId} {es args : List AV} {ps : Array Tmp} {asn bdy : Code} {S S' : Store} (pf rf : List FuncId) (l : Nat) (hl : S[l]? = some (.loop b D fn es ps asn bdy .ready)) (hlen : args.length = ps.size) (hps : ∀ p ∈ ps.toList, p < es.length)
  (hm : P.follows .mixedOrders = true) (hoa : codeOk P pf rf es.length asn = true) (hob : codeOk P pf rf es.length bdy = true) (hra : noRF asn = true) (hrb : noRF bdy = true)
  (h : AW P pf rf S.length (eraseC asn) (asnQ l (.loop b D fn es ps asn bdy) (AW P pf rf S.length (eraseC bdy) (bdyQ S.length l (.loop b D fn es ps asn bdy) S'))) (putE (argEnv es) ps.toList args) S) : AYB P b args S (.bo true) S' :=
 AYB.of_wp pf rf l hl hlen hps hm hoa hra _ (fun w0 g0 e T a w hn hc hb => AW_ok (some b) (.inr hrb) hm hn _ _ _ _ _ hob hc hb) h
end
end Go.Proofs.YtlefikdjhnaapaaGreatDoor.Pe
end
section
namespace Go.Proofs.YtlefikdjhnaapaaGreatDoor.Pe
open Go Go.RowKit
variable [Tab] {P : Program}
theorem AYB.enter4 {b D : Nat} {fn : FuncId} {es args : List AV} {ps : Array Tmp} {asn bdy : Code} {S S' : Store} (pf rf : List FuncId) (sp : List (Nat × (List Nat × List Nat × List Nat))) (ord : List (Nat × List Nat)) (l : Nat) (hl : S[l]? = some (.loop b D fn es ps asn bdy .ready)) (hlen : args.length = ps.size) (hps : ∀ p ∈ ps.toList, p < es.length)
  (hm : P.follows .mixedOrders = true) (hoa : codeOk P pf rf es.length asn = true) (hob : codeOk4 P pf rf es.length sp ord bdy = true) (hra : noRF asn = true)
  (h : AW P pf rf S.length (eraseC asn) (asnQ l (.loop b D fn es ps asn bdy) (AX4 P pf rf S.length (eraseC4 sp ord bdy) (bdyQ S.length l (.loop b D fn es ps asn bdy) S'))) (putE (argEnv es) ps.toList args) S) : AYB P b args S (.bo true) S' :=
 AYB.of_wp pf rf l hl hlen hps hm hoa hra _ (fun w0 g0 e T a w hn hc hb => AW_ok4 hm hn _ _ _ _ _ _ hob hc hb) h
theorem Weak.reserveN [Tab] (N0 : Nat) {e : Env} {S : Store} (l i : Nat) {cs es : List AV} (hS : S[l]? = some (.cells cs)) (hi : cs[i]? = some (.sl .full es)) (ty : TypeId) (sz : Nat) : Weak N0 e S e (S.set l (.cells (cs.set i (.sl (.own S.length) es))) ++ [.buf es.length ty sz]) := by
 rintro N w0 g0 a w hn ⟨h1, h2, g, h3, h4, h5⟩
 obtain ⟨g', h6, h7, h8, h9, h10⟩ := h3.reserve es.length ty sz
 have hlS := (List.getElem?_eq_some_iff.1 hS).1
 have hic := (List.getElem?_eq_some_iff.1 hi).1
 have hn3 := h3.nid
 have hn6 := h6.nid
 rw [List.length_append, List.length_singleton] at hn6
 refine ⟨h1, h2, g', ⟨by rw [List.length_append, List.length_set, List.length_singleton]; exact hn6, fun k o hk => ?_, h6.disj, h6.lt, h6.tab⟩, fun t => (h4 t).le h7.toLe, h5.trans h7⟩
 by_cases hkl : k = l
 ·subst hkl
  rw [List.getElem?_append_left (by rw [List.length_set]; exact hlS), List.getElem?_set_self hlS] at hk
  cases hk
  obtain ⟨k1, k2, k3, arr, T, fr, k4, k5, k6, k7, k8⟩ := h6.obj k (.cells cs) (get_app hS _)
  refine ⟨k1, k2, k3, arr, T, fr, k4, k5, by rw [List.length_set]; exact k6, k7, fun j u v hu hv => ?_⟩
  by_cases hj : j = i
  ·subst hj
   rw [List.getElem?_set_self hic] at hu
   cases hu
   refine (k8 j _ v hi hv).own_full (by omega) ?_ ?_
   ·rw [← hn3]; exact h9
   ·rw [← hn3]; exact h10
  ·rw [List.getElem?_set_ne (Ne.symm hj)] at hu
   exact k8 j u v hu hv
 ·refine h6.obj k o ?_
  by_cases hkS : k < S.length
  ·rw [List.getElem?_append_left (by rw [List.length_set]; exact hkS), List.getElem?_set_ne (Ne.symm hkl)] at hk
   rw [List.getElem?_append_left hkS]
   exact hk
  ·rw [List.getElem?_append_right (by rw [List.length_set]; omega), List.length_set] at hk
   rw [List.getElem?_append_right (by omega)]
   exact hk
def Keep (E e : Env) : Prop := ∀ t, E t = e t ∨ E t = .junk
theorem Keep.nil (e : Env) : Keep (fun _ => .junk) e := fun _ => .inr rfl
theorem Keep.cons {E e : Env} (h : Keep E e) (t : Nat) (v : AV) (hv : e t = v) : Keep (upd E t v) e := fun u => by
 unfold upd
 by_cases hu : u = t
 ·rw [if_pos hu, hu]; exact .inl hv.symm
 ·rw [if_neg hu]; exact h u
theorem Weak.keep (N0 : Nat) {E e : Env} {S : Store} (h : Keep E e) : Weak N0 e S E S := by
 rintro N w0 g0 a w hn ⟨h1, h2, g, h3, h4, h5⟩
 refine ⟨h1, h2, g, h3, fun t => ?_, h5⟩
 rcases h t with e1 | e1 <;> rw [e1]
 ·exact h4 t
 ·exact .junk _ _
theorem Weak.trans2 {N0 : Nat} {e e1 e2 : Env} {S S1 S2 : Store} (h : Weak N0 e S e1 S1) (h' : Weak N0 e1 S1 e2 S2) : Weak N0 e S e2 S2 := fun N w0 g0 a w hn hc => h' N w0 g0 a w hn (h N w0 g0 a w hn hc)
theorem ARF_mk {N : Nat} {g : Operand} {ps : Array Tmp} {asn bdy : Code} {K : Env → Store → Prop} {e : Env} {S : Store} {f : FuncId} {fa ca : List AV} (hg : ev e g = .fn (.func f) fa ca) (v : AV) (S' U : Store) (hl : S'.length = S.length)
  (hac : ∀ b D fn, AC P f (fa ++ [.fn (.yield b) [] []] ++ ca) (S ++ [.loop b D fn (envL N e) ps asn bdy .ready]) v (S' ++ .loop b D fn (envL N e) ps asn bdy .ready :: U)) (hK : K e (S' ++ .dead :: U)) : ARF P N g ps asn bdy K e S := by
 unfold ARF
 rw [hg]
 exact ⟨v, S', U, hl, hac, hK⟩
end Go.Proofs.YtlefikdjhnaapaaGreatDoor.Pe
end
section
namespace Go.Proofs.YtlefikdjhnaapaaGreatDoor.Pe
open Go Go.RowKit Co Dm Wl
set_option maxRecDepth 100000
set_option maxHeartbeats 4000000
theorem crc_c (l : By) (h : l.length ≤ 9223372036854775807) : AC Tryz.prog 260 [.st l] [] (.it .u32 ((Sm.crc l).toNat : Int)) [] := by
 refine AC.ofBelow (by kernel_rfl) fun w g cargs ht hargs => ?_
 rw [lrel_st hargs]
 refine (crc_any ⟨l.toArray⟩ w (by simp [ByteArray.size]; omega)).mono ?_
 rintro r w' ⟨rfl, rfl⟩
 refine ⟨_, rfl, fun g' => ?_, Below.refl _ _⟩
 exact .it g' _ _
theorem shr32 (n k : Nat) (hk : k < 32) : aShr .u32 (n : Int) (k : Int) = some (.it .u32 ((n / 2 ^ k : Nat) : Int)) := by
 unfold aShr
 rw [if_pos (by omega)]
 simp only [Int.toNat_natCast, show IntKind.u32.bits = 32 from rfl, Nat.min_eq_left (Nat.le_of_lt hk)]
 congr 2
 rw [Int.fdiv_eq_ediv_of_nonneg _ (by exact_mod_cast Nat.zero_le _)]
 norm_cast
theorem wrapb (n : Nat) : IntKind.u8.wrap (n : Int) = ((UInt8.ofNat (n % 256)).toNat : Int) := by
 rw [ofNat8 (by omega)]
 unfold IntKind.wrap
 simp [IntKind.bits, IntKind.signed]
theorem checksum_c (s : By) (h : s.length ≤ 9223372036854775807) : AC Tryz.prog 201 [.st s] [] (.st (ck s)) [] := by
 have e0 := wrapb (Sm.crc s).toNat
 have e1 := wrapb ((Sm.crc s).toNat / 256)
 have e2 := wrapb ((Sm.crc s).toNat / 65536)
 have e3 := wrapb ((Sm.crc s).toNat / 16777216)
 have g1 : aShr .u32 ((Sm.crc s).toNat : Int) 8 = _ := shr32 _ 8 (by omega)
 have g2 : aShr .u32 ((Sm.crc s).toNat : Int) 16 = _ := shr32 _ 16 (by omega)
 have g3 : aShr .u32 ((Sm.crc s).toNat : Int) 24 = _ := shr32 _ 24 (by omega)
 simp only [Nat.reducePow] at g1 g2 g3
 have hk : ck s = [UInt8.ofNat ((Sm.crc s).toNat % 256), UInt8.ofNat ((Sm.crc s).toNat / 256 % 256), UInt8.ofNat ((Sm.crc s).toNat / 65536 % 256), UInt8.ofNat ((Sm.crc s).toNat / 16777216 % 256)] := rfl
 rw [hk]
 have hc := crc_c s h
 clear hk
 generalize (Sm.crc s).toNat = n at *
 generalize UInt8.ofNat (n % 256) = b0 at *
 generalize UInt8.ofNat (n / 256 % 256) = b1 at *
 generalize UInt8.ofNat (n / 65536 % 256) = b2 at *
 generalize UInt8.ofNat (n / 16777216 % 256) = b3 at *
 refine AC.enter [260] [] Tryz.func201 rfl (by decide) (by decide) (Nat.le_of_ble_eq_true rfl) (by kernel_rfl) ?_; refine zev ?_
 refine run ?_
 refine cp hc ?_
 have hb : bytesOf [AV.it .u8 (b0.toNat : Int), .it .u8 (b1.toNat : Int), .it .u8 (b2.toNat : Int), .it .u8 (b3.toNat : Int)] = some [b0, b1, b2, b3] := bytesOf_map [b0, b1, b2, b3]
 refine runf (an @e0 (an @e1 (an @e2 (an @e3 (an @g1 (an @g2 (an @g3 @hb))))))) ?_
 exact er0
theorem record_c (s : By) (h : s.length ≤ 140737488355328) : AC Tryz.prog 148 [.st s] [] (.st (rec1 s)) [] := by
 refine AC.enter [57, 201] [] Tryz.func148 rfl (by decide) (by decide) (Nat.le_of_ble_eq_true rfl) (by kernel_rfl) ?_; refine zev ?_
 have hl := numI_le (s.length : Int) (by omega)
 refine run ?_
 refine cp (num_c s.length (by omega) (by omega)) ?_
 rw [numI_nat] at *
 refine run ?_
 refine cp (checksum_c s (by omega)) ?_
 have hc := ck_len s
 refine run ?_
 exact er0
theorem records_c (s : By) : AC Tryz.prog 128 [.st s] [] (.fn (.func 200) [] [.ptr 0 0]) [.cells [.st s]] := by
 refine AC.enter [] [] Tryz.func128 rfl (by decide) (by decide) (Nat.le_of_ble_eq_true rfl) (by kernel_rfl) ?_; refine zev ?_
 refine run ?_
 exact ends_ret [0] (by rfl) (subOk_one 0 (by rfl) (by rfl)) (by rfl) (by rfl) (by rfl)
end Go.Proofs.YtlefikdjhnaapaaGreatDoor.Pe
end
