/- Several texts in one. -/
import Derived.Test.YthbpbkbjdfcnjaaGreatDoorItW
import Derived.Test.YthbpbkbjdfcnjaaGreatDoorAcF
set_option linter.unusedSectionVars false
set_option linter.unusedVariables false
set_option linter.unusedSimpArgs false
namespace Go.Proofs.YthbpbkbjdfcnjaaGreatDoor.Pe
open Go Go.RowKit Co Sg Ac It
set_option maxRecDepth 100000
set_option maxHeartbeats 4000000
theorem item0_wrong : It.right item0 = false := by decide +kernel
theorem read_nil' : It.read [] = (item0, false) := Prod.ext (It.read_wrong It.read_nil) It.read_nil
theorem readEntry_nil : readEntry [] = (entry0, false) := by
 have h : (It.read ((rNum ⟨[], false⟩).2.take (rNum ⟨[], false⟩).2.rest.length).1).2 = false := It.read_nil
 unfold readEntry
 exact if_neg (fun e => by rw [h] at e; cases e.1)
theorem izI0 : Iz item0 := ⟨szI0, by decide, by decide, dz0⟩
theorem entry0_nil : entryB entry0 = [] := by unfold entryB; rw [if_neg]; rw [show entry0.item = item0 from rfl, item0_wrong]; simp
theorem fstep {α β : Type} (g : α → List β) {l : List α} {k : Nat} (hk : k < l.length) : ((l.take (k + 1)).map g).flatten = ((l.take k).map g).flatten ++ g l[k] := by
 rw [List.take_succ_eq_append_getElem hk, List.map_append, List.flatten_append]
 congr 1
 exact List.append_nil _
theorem fsize {α β : Type} (g : α → List β) (n : Nat) (hg : ∀ x, (g x).length = n) (l : List α) : (l.map g).flatten.length = l.length * n := by
 induction l with
 | nil => simp
 | cons a l ih => rw [List.map_cons, List.flatten_cons, List.length_append, hg, ih, List.length_cons, Nat.succ_mul]; omega
def three (w : Wrap) : List By := [w.box.nonce, w.box.data, w.box.tag]
def base16 (i : It.Item) : List By := [i.act.author, i.act.prev, i.act.object, i.act.target, i.act.group, i.act.text, i.act.body.nonce, i.act.body.data, i.act.body.tag, i.claim.actor, i.claim.prev, i.ballot.actor, i.ballot.claim, i.decision.actor, i.decision.object, i.decision.text]
def strs (i : It.Item) : List By := base16 i ++ (i.act.to ++ i.decision.to) ++ (i.act.wraps.map three).flatten
def fewI (i : It.Item) : Bool := decide (i.act.to.length ≤ 70) && decide (i.act.wraps.length ≤ 70) && decide (i.decision.to.length ≤ 70) && (strs i).all (fun s => decide (s.length ≤ 5000))
abbrev decL (d : It.Decision) : List AV := [.it .i64 d.server, .it .i64 d.number, .it .i64 d.kind, .st d.actor, .st d.object, .st d.text, sls d.to, .it .i64 d.n, .it .i64 d.frm, .it .i64 d.til, .it .i64 d.sig.e, .it .i64 d.sig.s]
structure InI (i : It.Item) : Prop where
 act : In i.act
 iz : Iz i
 ci : ∀ x ∈ [i.claim.base, i.claim.gen, i.claim.home, i.claim.pub, i.claim.time], -9223372036854775808 ≤ x ∧ x ≤ 9223372036854775807
 bi : ∀ x ∈ [i.ballot.server, i.ballot.gen, i.ballot.time], -9223372036854775808 ≤ x ∧ x ≤ 9223372036854775807
 di : ∀ x ∈ [i.decision.server, i.decision.number, i.decision.kind, i.decision.n, i.decision.frm, i.decision.til], -9223372036854775808 ≤ x ∧ x ≤ 9223372036854775807
 si : ∀ x ∈ [i.claim.sig.e, i.claim.sig.s, i.ballot.sig.e, i.ballot.sig.s, i.decision.sig.e, i.decision.sig.s], -9223372036854775808 ≤ x ∧ x ≤ 9223372036854775807
theorem shp_sigI {n us} (h : shp Tryz.prog 140737488351232 (n + 2) 36 us) : ∃ s : Sig, us = [.it .i64 s.e, .it .i64 s.s] ∧ (-9223372036854775808 ≤ s.e ∧ s.e ≤ 9223372036854775807) ∧ (-9223372036854775808 ≤ s.s ∧ s.s ≤ 9223372036854775807) := by
 have h := shp_struct Tryz.underlying36 h
 obtain ⟨a0, b0, rfl, h0, h⟩ := h
 obtain ⟨a1, b1, rfl, h1, rfl⟩ := h
 obtain ⟨i0, rfl, w0⟩ := shp_i64 Tryz.underlying3 h0
 obtain ⟨i1, rfl, w1⟩ := shp_i64 Tryz.underlying3 h1
 exact ⟨⟨i0, i1⟩, rfl, w0, w1⟩
theorem shp_claimI {n us} (h : shp Tryz.prog 140737488351232 (n + 3) 63 us) : ∃ c : It.Claim, us = (claimV c).cells ∧ c.actor.length ≤ 140737488355328 ∧ (∀ x ∈ [c.base, c.gen, c.home, c.pub, c.time], -9223372036854775808 ≤ x ∧ x ≤ 9223372036854775807) ∧ (∀ x ∈ [c.sig.e, c.sig.s], -9223372036854775808 ≤ x ∧ x ≤ 9223372036854775807) := by
 have h := shp_struct Tryz.underlying63 h
 obtain ⟨a0, b0, rfl, h0, h⟩ := h
 obtain ⟨a1, b1, rfl, h1, h⟩ := h
 obtain ⟨a2, b2, rfl, h2, h⟩ := h
 obtain ⟨a3, b3, rfl, h3, h⟩ := h
 obtain ⟨a4, b4, rfl, h4, h⟩ := h
 obtain ⟨a5, b5, rfl, h5, h⟩ := h
 obtain ⟨a6, b6, rfl, h6, h⟩ := h
 obtain ⟨a7, b7, rfl, h7, rfl⟩ := h
 obtain ⟨actor, rfl, w0⟩ := shp_str Tryz.underlying9 h0
 obtain ⟨base, rfl, w1⟩ := shp_i64 Tryz.underlying3 h1
 obtain ⟨prev, rfl, w2⟩ := shp_str Tryz.underlying9 h2
 obtain ⟨gen, rfl, w3⟩ := shp_i64 Tryz.underlying3 h3
 obtain ⟨home, rfl, w4⟩ := shp_i64 Tryz.underlying3 h4
 obtain ⟨pub, rfl, w5⟩ := shp_i64 Tryz.underlying3 h5
 obtain ⟨time, rfl, w6⟩ := shp_i64 Tryz.underlying3 h6
 obtain ⟨sg, rfl, w7, w7q⟩ := shp_sigI h7
 refine ⟨⟨actor, base, prev, gen, home, pub, time, sg⟩, rfl, Nat.le_trans w0 (by decide), by simp only [List.forall_mem_cons, List.not_mem_nil, false_implies, implies_true, and_true]; omega, by simp only [List.forall_mem_cons, List.not_mem_nil, false_implies, implies_true, and_true]; omega⟩
theorem shp_ballotI {n us} (h : shp Tryz.prog 140737488351232 (n + 3) 65 us) : ∃ c : It.Ballot, us = (ballotV c).cells ∧ c.actor.length ≤ 140737488355328 ∧ (∀ x ∈ [c.server, c.gen, c.time], -9223372036854775808 ≤ x ∧ x ≤ 9223372036854775807) ∧ (∀ x ∈ [c.sig.e, c.sig.s], -9223372036854775808 ≤ x ∧ x ≤ 9223372036854775807) := by
 have h := shp_struct Tryz.underlying65 h
 obtain ⟨a0, b0, rfl, h0, h⟩ := h
 obtain ⟨a1, b1, rfl, h1, h⟩ := h
 obtain ⟨a2, b2, rfl, h2, h⟩ := h
 obtain ⟨a3, b3, rfl, h3, h⟩ := h
 obtain ⟨a4, b4, rfl, h4, h⟩ := h
 obtain ⟨a5, b5, rfl, h5, rfl⟩ := h
 obtain ⟨server, rfl, w0⟩ := shp_i64 Tryz.underlying3 h0
 obtain ⟨actor, rfl, w1⟩ := shp_str Tryz.underlying9 h1
 obtain ⟨gen, rfl, w2⟩ := shp_i64 Tryz.underlying3 h2
 obtain ⟨claim, rfl, w3⟩ := shp_str Tryz.underlying9 h3
 obtain ⟨time, rfl, w4⟩ := shp_i64 Tryz.underlying3 h4
 obtain ⟨sg, rfl, w5, w5q⟩ := shp_sigI h5
 refine ⟨⟨server, actor, gen, claim, time, sg⟩, rfl, Nat.le_trans w1 (by decide), by simp only [List.forall_mem_cons, List.not_mem_nil, false_implies, implies_true, and_true]; omega, by simp only [List.forall_mem_cons, List.not_mem_nil, false_implies, implies_true, and_true]; omega⟩
theorem shp_decisionI {n us} (h : shp Tryz.prog 140737488351232 (n + 3) 67 us) : ∃ c : It.Decision, us = (decisionV c).cells ∧ Dz c ∧ (∀ x ∈ [c.server, c.number, c.kind, c.n, c.frm, c.til], -9223372036854775808 ≤ x ∧ x ≤ 9223372036854775807) ∧ (∀ x ∈ [c.sig.e, c.sig.s], -9223372036854775808 ≤ x ∧ x ≤ 9223372036854775807) := by
 have h := shp_struct Tryz.underlying67 h
 obtain ⟨a0, b0, rfl, h0, h⟩ := h
 obtain ⟨a1, b1, rfl, h1, h⟩ := h
 obtain ⟨a2, b2, rfl, h2, h⟩ := h
 obtain ⟨a3, b3, rfl, h3, h⟩ := h
 obtain ⟨a4, b4, rfl, h4, h⟩ := h
 obtain ⟨a5, b5, rfl, h5, h⟩ := h
 obtain ⟨a6, b6, rfl, h6, h⟩ := h
 obtain ⟨a7, b7, rfl, h7, h⟩ := h
 obtain ⟨a8, b8, rfl, h8, h⟩ := h
 obtain ⟨a9, b9, rfl, h9, h⟩ := h
 obtain ⟨a10, b10, rfl, h10, rfl⟩ := h
 obtain ⟨server, rfl, w0⟩ := shp_i64 Tryz.underlying3 h0
 obtain ⟨number, rfl, w1⟩ := shp_i64 Tryz.underlying3 h1
 obtain ⟨kind, rfl, w2⟩ := shp_i64 Tryz.underlying3 h2
 obtain ⟨actor, rfl, w3⟩ := shp_str Tryz.underlying9 h3
 obtain ⟨object, rfl, w4⟩ := shp_str Tryz.underlying9 h4
 obtain ⟨txt, rfl, w5⟩ := shp_str Tryz.underlying9 h5
 obtain ⟨to, rfl, w6, w6q⟩ := shp_strs h6
 obtain ⟨n1, rfl, w7⟩ := shp_i64 Tryz.underlying3 h7
 obtain ⟨frm, rfl, w8⟩ := shp_i64 Tryz.underlying3 h8
 obtain ⟨til, rfl, w9⟩ := shp_i64 Tryz.underlying3 h9
 obtain ⟨sg, rfl, w10, w10q⟩ := shp_sigI h10
 refine ⟨⟨server, number, kind, actor, object, txt, to, n1, frm, til, sg⟩, rfl, ⟨Nat.le_trans w3 (by decide), Nat.le_trans w6 (by decide), fun s hs => Nat.le_trans (w6q s hs) (by decide)⟩, by simp only [List.forall_mem_cons, List.not_mem_nil, false_implies, implies_true, and_true]; omega, by simp only [List.forall_mem_cons, List.not_mem_nil, false_implies, implies_true, and_true]; omega⟩
theorem shp_itemI {n us} (h : shp Tryz.prog 140737488351232 (n + 6) 69 us) : ∃ i : It.Item, us = (itemV i).cells ∧ InI i := by
 have h := shp_struct Tryz.underlying69 h
 obtain ⟨a0, b0, rfl, h0, h⟩ := h
 obtain ⟨a1, b1, rfl, h1, h⟩ := h
 obtain ⟨a2, b2, rfl, h2, h⟩ := h
 obtain ⟨a3, b3, rfl, h3, h⟩ := h
 obtain ⟨a4, b4, rfl, h4, rfl⟩ := h
 obtain ⟨kind, rfl, w0⟩ := shp_i64 Tryz.underlying3 h0
 obtain ⟨a, rfl, w1⟩ := shp_actA h1
 obtain ⟨c, rfl, w2, w2c, w2s⟩ := shp_claimI h2
 obtain ⟨b, rfl, w3, w3c, w3s⟩ := shp_ballotI h3
 obtain ⟨d, rfl, w4, w4c, w4s⟩ := shp_decisionI h4
 refine ⟨⟨kind, a, c, b, d⟩, rfl, w1, ⟨w1.sz, w2, w3, w4⟩, w2c, w3c, w4c, ?_⟩
 simp only [List.forall_mem_cons, List.not_mem_nil, false_implies, implies_true, and_true] at w2s w3s w4s ⊢
 exact ⟨w2s.1, w2s.2, w3s.1, w3s.2, w4s.1, w4s.2⟩
end Go.Proofs.YthbpbkbjdfcnjaaGreatDoor.Pe
namespace Go.Proofs.YthbpbkbjdfcnjaaGreatDoor.Pe
open Go Go.RowKit Co Sg Ac It
set_option maxRecDepth 100000
set_option maxHeartbeats 4000000
def zItem : Value := .agg #[.int .i64 0, .string ⟨#[]⟩, .int .i64 0, .string ⟨#[]⟩, .int .i64 0, .int .i64 0, .string ⟨#[]⟩, .string ⟨#[]⟩, .int .i64 0, .string ⟨#[]⟩, .slice none 0 0, .string ⟨#[]⟩, .string ⟨#[]⟩, .string ⟨#[]⟩, .string ⟨#[]⟩, .int .i64 0, .slice none 0 0, .int .i64 0, .int .i64 0, .int .i64 0, .int .i64 0, .string ⟨#[]⟩, .int .i64 0, .string ⟨#[]⟩, .int .i64 0, .int .i64 0, .int .i64 0, .int .i64 0, .int .i64 0, .int .i64 0, .int .i64 0, .string ⟨#[]⟩, .int .i64 0, .string ⟨#[]⟩, .int .i64 0, .int .i64 0, .int .i64 0, .int .i64 0, .int .i64 0, .int .i64 0, .string ⟨#[]⟩, .string ⟨#[]⟩, .string ⟨#[]⟩, .slice none 0 0, .int .i64 0, .int .i64 0, .int .i64 0, .int .i64 0, .int .i64 0]
theorem textT {s : By} {n : Nat} (h : s.length ≤ n) (hn : n ≤ 1000000) : (text s).length ≤ n + 9 := by
 have := num_len9 (n := s.length) (by omega)
 unfold text
 rw [List.length_append]
 omega
theorem coreR_len {i : It.Item} (h : It.right i = true) (h0 : i.kind ≠ 0) : (coreOf i).length ≤ 20000 := by
 unfold coreOf
 rcases right_kind h with e | e | e | e
 ·exact absurd e h0
 ·rw [if_pos e]
  have s := claim_sm ((right_claim e).1 h).1
  have h1 := s.actor; have h2 := s.base; have h3 := s.prev; have h4 := s.gen; have h5 := s.home; have h6 := s.pub; have h7 := s.time
  have l1 := textT (n := 16) (s := i.claim.actor) (by omega) (by omega)
  have l2 := textT (n := 32) (s := i.claim.prev) (by omega) (by omega)
  have n1 := numI_le i.claim.base (by omega)
  have n2 := numI_le i.claim.gen (by omega)
  have n3 := numI_le i.claim.home (by omega)
  have n4 := numI_le i.claim.pub (by omega)
  have n5 := numI_le i.claim.time (by omega)
  unfold claimB
  simp only [List.length_append]
  omega
 ·rw [if_neg (by omega), if_pos e]
  have s := ballot_sm ((right_ballot e).1 h).1
  have h1 := s.actor; have h2 := s.server; have h3 := s.claim; have h4 := s.gen; have h5 := s.time
  have l1 := textT (n := 16) (s := i.ballot.actor) (by omega) (by omega)
  have l2 := textT (n := 32) (s := i.ballot.claim) (by omega) (by omega)
  have n1 := numI_le i.ballot.server (by omega)
  have n2 := numI_le i.ballot.gen (by omega)
  have n3 := numI_le i.ballot.time (by omega)
  unfold ballotB
  simp only [List.length_append]
  omega
 ·rw [if_neg (by omega), if_neg (by omega)]
  have s := decision_sm ((right_decision e).1 h).1
  have h1 := s.actor; have h2 := s.server; have h3 := s.number; have h4 := s.kind; have h5 := s.object; have h6 := s.text; have h7 := s.to; have h8 := s.n; have h9 := s.frm; have h10 := s.til
  have l1 := textT (n := 16) (s := i.decision.actor) (by omega) (by omega)
  have l2 := textT (n := 32) (s := i.decision.object) (by omega) (by omega)
  have l3 := textT (n := 4096) (s := i.decision.text) (by omega) (by omega)
  have l4 := list_len16 ⟨h7.1, fun s hs => Nat.le_of_eq (h7.2 s hs)⟩
  have n1 := numI_le i.decision.server (by omega)
  have n2 := numI_le i.decision.number (by omega)
  have n3 := numI_le i.decision.kind (by omega)
  have n4 := numI_le i.decision.n (by omega)
  have n5 := numI_le i.decision.frm (by omega)
  have n6 := numI_le i.decision.til (by omega)
  unfold decisionB
  simp only [List.length_append]
  omega
theorem bytesIt_len6 (i : It.Item) : (It.bytes i).length ≤ 200000 := by
 cases hr : It.right i with
 | false => rw [It.bytes_wrong hr]; decide
 | true =>
  have hk := right_kind hr
  have n0 := numI_le i.kind (by omega)
  rw [bytes_right hr]
  unfold bodyB
  rw [List.length_append]
  by_cases h0 : i.kind = 0
  ·rw [if_pos h0]
   have := bytes_len (a := i.act)
   omega
  ·rw [if_neg h0]
   have hs := sig_right hr h0
   simp only [sigR, Bool.and_eq_true, wi_iff] at hs
   have n1 := numI_le (sigOf i).e (by omega)
   have n2 := numI_le (sigOf i).s (by omega)
   have hc := coreR_len hr h0
   simp only [List.length_append]
   omega
theorem read_x : (It.read [120]).2 = false := by decide +kernel
theorem digest_wrong {i : It.Item} (h : It.right i = false) : It.digest i = [] := by unfold It.digest; rw [It.bytes_wrong h]; rfl
theorem sha_ne (l : By) : Sm.sha l ≠ [] := by
 intro e
 have h : (Sm.sha l).length = 32 := rfl
 rw [e] at h
 cases h
theorem digest_ne {i : It.Item} (h : It.right i = true) : It.digest i ≠ [] := by
 unfold It.digest
 rw [if_neg (It.bytes_ne h)]
 exact sha_ne _
end Go.Proofs.YthbpbkbjdfcnjaaGreatDoor.Pe
