/- The walk of ItemReads on plain values. Printed by tools/mkitf.py. -/
import Derived.Test.YthbpbkbjdfcnjaaGreatDoorItE
namespace Go.Proofs.YthbpbkbjdfcnjaaGreatDoor.Pe
set_option linter.unusedSectionVars false
set_option linter.unusedVariables false
set_option linter.unusedSimpArgs false
open Go Go.RowKit Co Sg Ac It
set_option maxRecDepth 100000
set_option maxHeartbeats 4000000
/-- the zero item -/
def zItem : Value := .agg #[.int .i64 0, .string ⟨#[]⟩, .int .i64 0, .string ⟨#[]⟩, .int .i64 0, .int .i64 0, .string ⟨#[]⟩, .string ⟨#[]⟩, .int .i64 0, .string ⟨#[]⟩, .slice none 0 0, .string ⟨#[]⟩, .string ⟨#[]⟩, .string ⟨#[]⟩, .string ⟨#[]⟩, .int .i64 0, .slice none 0 0, .int .i64 0, .int .i64 0, .int .i64 0, .int .i64 0, .string ⟨#[]⟩, .int .i64 0, .string ⟨#[]⟩, .int .i64 0, .int .i64 0, .int .i64 0, .int .i64 0, .int .i64 0, .int .i64 0, .int .i64 0, .string ⟨#[]⟩, .int .i64 0, .string ⟨#[]⟩, .int .i64 0, .int .i64 0, .int .i64 0, .int .i64 0, .int .i64 0, .int .i64 0, .string ⟨#[]⟩, .string ⟨#[]⟩, .string ⟨#[]⟩, .slice none 0 0, .int .i64 0, .int .i64 0, .int .i64 0, .int .i64 0, .int .i64 0]
theorem textT {s : By} {n : Nat} (h : s.length ≤ n) (hn : n ≤ 1000000) : (text s).length ≤ n + 9 := by
  have := num_len9 (n := s.length) (by omega)
  unfold text
  rw [List.length_append]
  omega
theorem coreR_len {i : It.Item} (h : It.right i = true) (h0 : i.kind ≠ 0) : (coreOf i).length ≤ 20000 := by
  unfold coreOf
  rcases right_kind h with e | e | e | e
  · exact absurd e h0
  · rw [if_pos e]
    have s := claim_sm ((right_claim e).1 h).1
    have h1 := s.actor; have h2 := s.base; have h3 := s.prev; have h4 := s.gen; have h5 := s.home; have h6 := s.pub; have h7 := s.time
    have l1 := textT (n := 16) (s := i.claim.actor) (by omega) (by omega)
    have l2 := textT (n := 32) (s := i.claim.prev) (by omega) (by omega)
    have n1 := numI_le i.claim.base (by omega)
    have n2 := numI_le i.claim.gen (by omega)
    have n3 := numI_le i.claim.home (by omega)
    have n4 := numI_le i.claim.pub (by omega)
    have n5 := numI_le i.claim.time (by omega)
    unfold claimB
    simp only [List.length_append]
    omega
  · rw [if_neg (by omega), if_pos e]
    have s := ballot_sm ((right_ballot e).1 h).1
    have h1 := s.actor; have h2 := s.server; have h3 := s.claim; have h4 := s.gen; have h5 := s.time
    have l1 := textT (n := 16) (s := i.ballot.actor) (by omega) (by omega)
    have l2 := textT (n := 32) (s := i.ballot.claim) (by omega) (by omega)
    have n1 := numI_le i.ballot.server (by omega)
    have n2 := numI_le i.ballot.gen (by omega)
    have n3 := numI_le i.ballot.time (by omega)
    unfold ballotB
    simp only [List.length_append]
    omega
  · rw [if_neg (by omega), if_neg (by omega)]
    have s := decision_sm ((right_decision e).1 h).1
    have h1 := s.actor; have h2 := s.server; have h3 := s.number; have h4 := s.kind; have h5 := s.object; have h6 := s.text; have h7 := s.to; have h8 := s.n; have h9 := s.frm; have h10 := s.til
    have l1 := textT (n := 16) (s := i.decision.actor) (by omega) (by omega)
    have l2 := textT (n := 32) (s := i.decision.object) (by omega) (by omega)
    have l3 := textT (n := 4096) (s := i.decision.text) (by omega) (by omega)
    have l4 := list_len16 ⟨h7.1, fun s hs => Nat.le_of_eq (h7.2 s hs)⟩
    have n1 := numI_le i.decision.server (by omega)
    have n2 := numI_le i.decision.number (by omega)
    have n3 := numI_le i.decision.kind (by omega)
    have n4 := numI_le i.decision.n (by omega)
    have n5 := numI_le i.decision.frm (by omega)
    have n6 := numI_le i.decision.til (by omega)
    unfold decisionB
    simp only [List.length_append]
    omega
theorem bytesIt_len6 (i : It.Item) : (It.bytes i).length ≤ 200000 := by
  cases hr : It.right i with
  | false => rw [It.bytes_wrong hr]; decide
  | true =>
    have hk := right_kind hr
    have n0 := numI_le i.kind (by omega)
    rw [bytes_right hr]
    unfold bodyB
    rw [List.length_append]
    by_cases h0 : i.kind = 0
    · rw [if_pos h0]
      have := bytes_len (a := i.act)
      omega
    · rw [if_neg h0]
      have hs := sig_right hr h0
      simp only [sigR, Bool.and_eq_true, wi_iff] at hs
      have n1 := numI_le (sigOf i).e (by omega)
      have n2 := numI_le (sigOf i).s (by omega)
      have hc := coreR_len hr h0
      simp only [List.length_append]
      omega
theorem read_x : (It.read [120]).2 = false := by decide +kernel
theorem digest_wrong {i : It.Item} (h : It.right i = false) : It.digest i = [] := by unfold It.digest; rw [It.bytes_wrong h]; rfl
theorem sha_ne (l : By) : Sm.sha l ≠ [] := by
  intro e
  have h : (Sm.sha l).length = 32 := rfl
  rw [e] at h
  cases h
theorem digest_ne {i : It.Item} (h : It.right i = true) : It.digest i ≠ [] := by
  unfold It.digest
  rw [if_neg (It.bytes_ne h)]
  exact sha_ne _
end Go.Proofs.YthbpbkbjdfcnjaaGreatDoor.Pe
