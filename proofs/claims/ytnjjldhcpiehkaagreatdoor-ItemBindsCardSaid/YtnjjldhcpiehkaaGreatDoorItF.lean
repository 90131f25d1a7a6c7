/- The walk of ItemReads on plain values. Printed by tools/mkitf.py. -/
import Derived.Test.YtnjjldhcpiehkaaGreatDoorItE
namespace Go.Proofs.YtnjjldhcpiehkaaGreatDoor.Pe
set_option linter.unusedSectionVars false
set_option linter.unusedVariables false
set_option linter.unusedSimpArgs false
open Go Go.RowKit Co Sg Ac It
set_option maxRecDepth 100000
set_option maxHeartbeats 4000000
/-- the zero item -/
def zItem : Value := .agg #[.int .i64 0, .string ⟨#[]⟩, .int .i64 0, .string ⟨#[]⟩, .int .i64 0, .int .i64 0, .string ⟨#[]⟩, .string ⟨#[]⟩, .int .i64 0, .string ⟨#[]⟩, .slice none 0 0, .string ⟨#[]⟩, .string ⟨#[]⟩, .string ⟨#[]⟩, .string ⟨#[]⟩, .int .i64 0, .slice none 0 0, .int .i64 0, .int .i64 0, .int .i64 0, .int .i64 0, .string ⟨#[]⟩, .int .i64 0, .string ⟨#[]⟩, .int .i64 0, .int .i64 0, .int .i64 0, .int .i64 0, .int .i64 0, .int .i64 0, .int .i64 0, .string ⟨#[]⟩, .int .i64 0, .string ⟨#[]⟩, .int .i64 0, .int .i64 0, .int .i64 0, .int .i64 0, .int .i64 0, .int .i64 0, .string ⟨#[]⟩, .string ⟨#[]⟩, .string ⟨#[]⟩, .slice none 0 0, .int .i64 0, .int .i64 0, .int .i64 0, .int .i64 0, .int .i64 0]
theorem textT {s : By} {n : Nat} (h : s.length ≤ n) (hn : n ≤ 1000000) : (text s).length ≤ n + 9 := by
  have := num_len9 (n := s.length) (by omega)
  unfold text
  rw [List.length_append]
  omega
theorem coreR_len {i : It.Item} (h : It.right i = true) (h0 : i.kind ≠ 0) : (coreOf i).length ≤ 20000 := by
  unfold coreOf
  rcases right_kind h with e | e | e | e
  · exact absurd e h0
  · rw [if_pos e]
    have s := claim_sm ((right_claim e).1 h).1
    have h1 := s.actor; have h2 := s.base; have h3 := s.prev; have h4 := s.gen; have h5 := s.home; have h6 := s.pub; have h7 := s.time
    have l1 := textT (n := 16) (s := i.claim.actor) (by omega) (by omega)
    have l2 := textT (n := 32) (s := i.claim.prev) (by omega) (by omega)
    have n1 := numI_le i.claim.base (by omega)
    have n2 := numI_le i.claim.gen (by omega)
    have n3 := numI_le i.claim.home (by omega)
    have n4 := numI_le i.claim.pub (by omega)
    have n5 := numI_le i.claim.time (by omega)
    unfold claimB
    simp only [List.length_append]
    omega
  · rw [if_neg (by omega), if_pos e]
    have s := ballot_sm ((right_ballot e).1 h).1
    have h1 := s.actor; have h2 := s.server; have h3 := s.claim; have h4 := s.gen; have h5 := s.time
    have l1 := textT (n := 16) (s := i.ballot.actor) (by omega) (by omega)
    have l2 := textT (n := 32) (s := i.ballot.claim) (by omega) (by omega)
    have n1 := numI_le i.ballot.server (by omega)
    have n2 := numI_le i.ballot.gen (by omega)
    have n3 := numI_le i.ballot.time (by omega)
    unfold ballotB
    simp only [List.length_append]
    omega
  · rw [if_neg (by omega), if_neg (by omega)]
    have s := decision_sm ((right_decision e).1 h).1
    have h1 := s.actor; have h2 := s.server; have h3 := s.number; have h4 := s.kind; have h5 := s.object; have h6 := s.text; have h7 := s.to; have h8 := s.n; have h9 := s.frm; have h10 := s.til
    have l1 := textT (n := 16) (s := i.decision.actor) (by omega) (by omega)
    have l2 := textT (n := 32) (s := i.decision.object) (by omega) (by omega)
    have l3 := textT (n := 4096) (s := i.decision.text) (by omega) (by omega)
    have l4 := list_len16 ⟨h7.1, fun s hs => Nat.le_of_eq (h7.2 s hs)⟩
    have n1 := numI_le i.decision.server (by omega)
    have n2 := numI_le i.decision.number (by omega)
    have n3 := numI_le i.decision.kind (by omega)
    have n4 := numI_le i.decision.n (by omega)
    have n5 := numI_le i.decision.frm (by omega)
    have n6 := numI_le i.decision.til (by omega)
    unfold decisionB
    simp only [List.length_append]
    omega
theorem bytesIt_len6 (i : It.Item) : (It.bytes i).length ≤ 200000 := by
  cases hr : It.right i with
  | false => rw [It.bytes_wrong hr]; decide
  | true =>
    have hk := right_kind hr
    have n0 := numI_le i.kind (by omega)
    rw [bytes_right hr]
    unfold bodyB
    rw [List.length_append]
    by_cases h0 : i.kind = 0
    · rw [if_pos h0]
      have := bytes_len (a := i.act)
      omega
    · rw [if_neg h0]
      have hs := sig_right hr h0
      simp only [sigR, Bool.and_eq_true, wi_iff] at hs
      have n1 := numI_le (sigOf i).e (by omega)
      have n2 := numI_le (sigOf i).s (by omega)
      have hc := coreR_len hr h0
      simp only [List.length_append]
      omega
theorem read_x : (It.read [120]).2 = false := by decide +kernel
theorem digest_wrong {i : It.Item} (h : It.right i = false) : It.digest i = [] := by unfold It.digest; rw [It.bytes_wrong h]; rfl
theorem sha_ne (l : By) : Sm.sha l ≠ [] := by
  intro e
  have h : (Sm.sha l).length = 32 := rfl
  rw [e] at h
  cases h
theorem digest_ne {i : It.Item} (h : It.right i = true) : It.digest i ≠ [] := by
  unfold It.digest
  rw [if_neg (It.bytes_ne h)]
  exact sha_ne _
theorem itemReads_c (a b : It.Item) (s : By) (ha : InI a) (hb : InI b) (hs : s.length ≤ 140737488351232) : AC Tryz.prog 3 [itemV a, itemV b, .st s] [] (.bo true) [] := by
  refine AC.enter [8, 9, 13, 11, 10, 14, 12] [] Tryz.func3 rfl (by decide) (by decide) (Nat.le_of_ble_eq_true rfl) (by kernel_rfl) ?_; simp only [eraseC, eraseO, List.map_cons, List.map_nil, List.map_toArray, List.getElem?_toArray, List.getElem?_cons_zero, List.getElem?_cons_succ, Option.bind_some, Option.bind_none, List.append_eq, List.cons_append, List.nil_append]
  refine run ?_
  refine cp small13_c ?_
  refine run ?_
  refine cp (few13_c a) ?_
  by_cases hf : fewI a = true
  rotate_left
  · have hf : fewI a = false := by simpa using hf
    rw [hf]
    refine run ?_
    exact er0
  rw [hf]
  refine run ?_
  refine cp (few13_c b) ?_
  by_cases hg : fewI b = true
  rotate_left
  · have hg : fewI b = false := by simpa using hg
    rw [hg]
    refine run ?_
    exact er0
  rw [hg]
  by_cases hl : s.length ≤ 9000
  rotate_left
  · refine run ?_
    exact er0
  have kr := readI_c s (by omega)
  have hd : (It.read s).2 = true → It.right (It.read s).1 = true ∧ It.bytes (It.read s).1 = s := It.read_right
  generalize It.read s = q at *
  obtain ⟨d, is⟩ := q
  simp only at kr hd
  have ks := sameI_c a a ha.iz.lz ha.iz.lz
  rw [decide_eq_true (p := a = a) rfl] at ks
  have kx := bytesI_c a ha.iz
  have ky := bytesI_c b hb.iz
  have kra := rightI_c a ha.iz
  have kda := digest_c a ha.iz
  have lx := bytesIt_len6 a
  have ly := bytesIt_len6 b
  have krb := sameI_c a b ha.iz.lz hb.iz.lz
  by_cases hra : It.right a = true
  rotate_left
  · have hra : It.right a = false := by simpa using hra
    have k1 := readI_c [] (by decide)
    rw [read_nil'] at k1
    have k2 := readI_c [120] (by decide)
    rw [read_x] at k2
    generalize (It.read [120]).1 = y2 at *
    rw [It.bytes_wrong hra] at kx
    rw [hra] at kra
    rw [digest_wrong hra] at kda
    generalize It.bytes b = y at *
    refine run ?_
    refine cp kx ?_
    refine run ?_
    refine cp ky ?_
    refine run ?_
    refine cp kra ?_
    refine run ?_
    refine cp kda ?_
    refine run ?_
    refine cp kra ?_
    refine run ?_
    refine cp k1 ?_
    refine run ?_
    refine cp k2 ?_
    refine run ?_
    refine cp k1 ?_
    refine run ?_
    refine cp kra ?_
    refine run ?_
    refine cp kr ?_
    cases is with
    | false =>
      refine run ?_
      refine cp ks ?_
      refine run ?_
      exact er0
    | true =>
      obtain ⟨r1, r2⟩ := hd rfl
      have k1 := rightI_c d (iz_right r1)
      rw [r1] at k1
      have k2 := bytesI_c d (iz_right r1)
      rw [r2] at k2
      refine run ?_
      refine cp k1 ?_
      refine run ?_
      refine cp k2 ?_
      refine run ?_
      refine cp ks ?_
      refine run ?_
      exact er0
  have hne := It.bytes_ne hra
  have hpos : 0 < (It.bytes a).length := List.length_pos_iff.2 hne
  have hdn := digest_ne hra
  have q1 := readI_c (It.bytes a) (by omega)
  rw [It.read_bytes hra] at q1
  have q3 := readI_c (It.bytes a ++ [120]) (by simp only [List.length_append, List.length_singleton]; omega)
  rw [It.read_more hra (by simp)] at q3
  have q4 := readI_c ((It.bytes a).take ((It.bytes a).length - 1)) (by rw [List.length_take]; omega)
  rw [It.read_less (s := (It.bytes a).take ((It.bytes a).length - 1)) (r := (It.bytes a).drop ((It.bytes a).length - 1)) hra (by
    intro e
    have := congrArg List.length e
    rw [List.length_drop] at this
    simp at this
    omega) (List.take_append_drop _ _).symm] at q4
  rw [hra] at kra
  have hsub : (((It.bytes a).length : Int) - 1).toNat = (It.bytes a).length - 1 := by omega
  have hmax : (if (0 : Int) > ((It.bytes a).length : Int) - 1 then (0 : Int) else ((It.bytes a).length : Int) - 1) = ((It.bytes a).length : Int) - 1 := if_neg (by omega)
  have hxn := nilI _ _ hne
  have hdn' := nilI _ _ hdn
  generalize (It.read (It.bytes a ++ [120])).1 = y1 at *
  generalize (It.read ((It.bytes a).take ((It.bytes a).length - 1))).1 = y2 at *
  have hyn : It.right b = false → It.bytes b = [] := It.bytes_wrong
  have hyq : It.right b = true → (It.bytes a == It.bytes b) = decide (a = b) ∧ It.bytes b ≠ [] ∧ ((It.bytes a).length < (It.bytes b).length → (It.bytes b).take (It.bytes a).length ≠ It.bytes a) := fun hrb => by
    refine ⟨?_, It.bytes_ne hrb, fun hlt e => ?_⟩
    · rw [Bool.eq_iff_iff]
      simp only [beq_iff_eq, decide_eq_true_eq]
      exact ⟨fun e => It.bytes_inj hra hrb e, fun e => by rw [e]⟩
    · have e2 : It.bytes b = It.bytes a ++ (It.bytes b).drop (It.bytes a).length := by
        have := List.take_append_drop (It.bytes a).length (It.bytes b)
        rw [e] at this
        exact this.symm
      have e3 := (It.bytes_prefix hrb hra e2).1
      have := congrArg List.length e3
      rw [List.length_drop] at this
      simp at this
      omega
  generalize It.bytes b = y at *
  generalize It.digest a = dg at *
  generalize It.bytes a = x at *
  generalize decide (a = b) = sm at *
  refine run ?_
  refine cp kx ?_
  refine run ?_
  refine cp ky ?_
  refine run ?_
  refine cp kra ?_
  refine runf @hxn ?_
  refine cp kda ?_
  refine runf @hdn' ?_
  refine cp kra ?_
  refine runf @hdn' ?_
  refine cp q1 ?_
  refine run ?_
  refine cp q3 ?_
  refine runf (And.intro @hsub @hmax) ?_
  refine cp q4 ?_
  refine run ?_
  refine cp kra ?_
  refine run ?_
  refine cp ks ?_
  cases hrb : It.right b with
  | false =>
    obtain rfl := hyn hrb
    refine runf @hxn ?_
    refine cp kr ?_
    cases is with
    | false =>
      refine run ?_
      refine cp ks ?_
      refine run ?_
      exact er0
    | true =>
      obtain ⟨r1, r2⟩ := hd rfl
      have k1 := rightI_c d (iz_right r1)
      rw [r1] at k1
      have k2 := bytesI_c d (iz_right r1)
      rw [r2] at k2
      refine run ?_
      refine cp k1 ?_
      refine run ?_
      refine cp k2 ?_
      refine run ?_
      refine cp ks ?_
      refine run ?_
      exact er0
  | true =>
    obtain ⟨p1, p2, p3⟩ := hyq hrb
    have hyn' := nilI _ _ p2
    refine runf (And.intro @hxn @hyn') ?_
    refine cp krb ?_
    by_cases hlt : x.length < y.length
    · have p4 := nilI _ _ (p3 hlt)
      have hge : ¬ (y.length : Int) ≤ (x.length : Int) := by omega
      refine runf (And.intro @p1 (And.intro @p4 @hge)) ?_
      refine cp kr ?_
      cases is with
      | false =>
        refine run ?_
        refine cp ks ?_
        refine run ?_
        exact er0
      | true =>
        obtain ⟨r1, r2⟩ := hd rfl
        have k1 := rightI_c d (iz_right r1)
        rw [r1] at k1
        have k2 := bytesI_c d (iz_right r1)
        rw [r2] at k2
        refine run ?_
        refine cp k1 ?_
        refine run ?_
        refine cp k2 ?_
        refine run ?_
        refine cp ks ?_
        refine run ?_
        exact er0
    · have hge : (y.length : Int) ≤ (x.length : Int) := by omega
      refine runf (And.intro @p1 @hge) ?_
      refine cp kr ?_
      cases is with
      | false =>
        refine run ?_
        refine cp ks ?_
        refine run ?_
        exact er0
      | true =>
        obtain ⟨r1, r2⟩ := hd rfl
        have k1 := rightI_c d (iz_right r1)
        rw [r1] at k1
        have k2 := bytesI_c d (iz_right r1)
        rw [r2] at k2
        refine run ?_
        refine cp k1 ?_
        refine run ?_
        refine cp k2 ?_
        refine run ?_
        refine cp ks ?_
        refine run ?_
        exact er0
end Go.Proofs.YtnjjldhcpiehkaaGreatDoor.Pe
