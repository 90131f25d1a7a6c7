/- Package act in plain terms: what a valid activity's fields are, kind by kind; what one field more makes of it. Nothing of the program. -/
import Derived.Test.YtaphpbiaoofmkaaGreatDoorIdW
set_option linter.unusedSectionVars false
set_option linter.unusedVariables false
set_option linter.unusedSimpArgs false
namespace Go.Proofs.YtaphpbiaoofmkaaGreatDoor.Ac
open Go Co Sg
theorem right_two {a b : Act} (ha : right a = true) (hb : right b = true) (hk : b.kind = a.kind) : ∃ r, (a.kind, r) ∈ ruleL ∧ out a r = true ∧ r.ok a = true ∧ out b r = true ∧ r.ok b = true := by
 obtain ⟨_, _, _, _, r, h5, h6, h7⟩ := right_iff.1 ha
 obtain ⟨_, _, _, _, q, g5, g6, g7⟩ := right_iff.1 hb
 rw [hk, h5] at g5
 cases g5
 exact ⟨r, rule_mem h5, h6, h7, g6, g7⟩
theorem mem_kind {k : Int} {r : Ru} (h : (k, r) ∈ ruleL) : match r with
  | .begin => k = 0 | .post => k = 1 | .reply => k = 2 ∨ k = 3 ∨ k = 14 | .about => k = 4 ∨ k = 5 ∨ k = 6 ∨ k = 13 ∨ k = 20 | .tie => 7 ≤ k ∧ k ≤ 11 | .reason => k = 12 ∨ k = 21
  | .circle => k = 15 | .grant => k = 16 | .label => k = 17 | .move => k = 18 | .setup => k = 19 | .judge => k = 22 | .list => k = 23 := by
 simp only [ruleL, List.mem_cons, Prod.mk.injEq, List.not_mem_nil, or_false] at h
 cases r <;> simp at h ⊢ <;> omega
theorem idR_ne {s : By} (h : idR s = true) : s ≠ [] := by
 intro e; have := idR_len h; rw [e] at this; simp at this
theorem aud_to {a : Act} (h : audience a = true) : idsR a.to = true := by
 unfold audience at h
 rw [Bool.and_eq_true] at h
 exact h.1
theorem wrapped_len {a : Act} (h : wrapped a = true) : a.wraps.length = a.to.length := by
 simp only [wrapped, Bool.and_eq_true, decide_eq_true_eq] at h; exact h.2
theorem right_fields {a : Act} (h : right a = true) : idR a.author = true ∧ idsR a.to = true ∧
  ((a.seq = 0 ∧ a.kind = 0 ∧ a.prev = []) ∨ (0 < a.seq ∧ a.kind ≠ 0 ∧ a.prev.length = 32)) ∧
  (1 ≤ a.kind → a.kind ≤ 3 → a.scope ≠ 0 → a.text = [] ∧ a.body.nonce.length = 32) ∧
  (7 ≤ a.kind → a.kind ≤ 11 → idR a.target = true ∧ a.object = [] ∧ a.text = [] ∧ a.to = []) ∧
  (a.kind = 16 ∨ a.kind = 19 → a.wraps.length = a.to.length) ∧ (a.kind ≠ 16 → a.kind ≠ 19 → a.wraps.length = 0) := by
 obtain ⟨h1, h2, h3, h4, r, h5, h6, h7⟩ := right_iff.1 h
 have hp : (a.seq = 0 ∧ a.kind = 0 ∧ a.prev = []) ∨ (0 < a.seq ∧ a.kind ≠ 0 ∧ a.prev.length = 32) := by
  unfold placed at h2
  split at h2
  ·simp only [Bool.and_eq_true, decide_eq_true_eq] at h2; exact .inl ⟨by assumption, h2.1, h2.2⟩
  ·simp only [Bool.and_eq_true, decide_eq_true_eq, wi_iff] at h2; exact .inr ⟨by omega, h2.1.2, of_decide_eq_true h2.2⟩
 have hm := mem_kind (rule_mem h5)
 have i0 : idsR [] = true := rfl
 have aud : audience a = true → a.scope ≠ 0 → a.text = [] ∧ a.body.nonce.length = 32 := fun h h0 => by
  unfold audience at h
  rw [Bool.and_eq_true, if_neg h0] at h
  simp only [Bool.and_eq_true, decide_eq_true_eq] at h
  exact ⟨h.2.1.2, (sealedB_len h.2.2).1⟩
 refine ⟨h1, ?_, hp, ?_⟩
 ·cases r <;> simp only [out, outB, Bool.and_eq_true, decide_eq_true_eq] at h6 <;> simp only [Ru.ok, Bool.and_eq_true, Ac.grant, Ac.setup] at h7
  case post => exact aud_to h7
  case reply => exact aud_to h7.2
  case circle => exact h7.2
  case grant => exact h7.1.2
  case setup => exact h7.1.1.1.2
  all_goals
   have : a.to = [] := by simp_all
   rw [this]; exact i0
 ·cases r <;> simp only [out, outB, Bool.and_eq_true, decide_eq_true_eq] at h6 <;> simp only [Ru.ok, Bool.and_eq_true, Ac.grant, Ac.setup] at h7 <;> simp only at hm
  case post =>
   have hw : a.wraps = [] := by simp_all
   exact ⟨fun _ _ => aud h7, fun _ _ => by omega, fun _ => by omega, fun _ _ => by rw [hw]; rfl⟩
  case reply =>
   have hw : a.wraps = [] := by simp_all
   exact ⟨fun _ _ => aud h7.2, fun _ _ => by omega, fun _ => by omega, fun _ _ => by rw [hw]; rfl⟩
  case tie =>
   have hw : a.wraps = [] := by simp_all
   have h8 : a.object = [] := by simp_all
   have h9 : a.text = [] := by simp_all
   have h10 : a.to = [] := by simp_all
   exact ⟨fun _ _ => by omega, fun _ _ => ⟨h7, h8, h9, h10⟩, fun _ => by omega, fun _ _ => by rw [hw]; rfl⟩
  case grant => exact ⟨fun _ _ => by omega, fun _ _ => by omega, fun _ => wrapped_len h7.2, fun _ _ => by omega⟩
  case setup => exact ⟨fun _ _ => by omega, fun _ _ => by omega, fun _ => wrapped_len h7.1.1.2, fun _ _ => by omega⟩
  all_goals
   have hw : a.wraps = [] := by simp_all
   exact ⟨fun _ _ => by omega, fun _ _ => by omega, fun _ => by omega, fun _ _ => by rw [hw]; rfl⟩
theorem not_right {b : Act} (h : right b = true → False) : right b = false := by
 cases e : right b with
 | false => rfl
 | true => exact (h e).elim
theorem no_object {a : Act} (h : right a = true) : right { a with object := a.object ++ [120] } = false := not_right fun hb => by
 obtain ⟨r, _, o1, k1, o2, k2⟩ := right_two h hb rfl
 cases r <;> simp only [out, outB, Bool.and_eq_true, decide_eq_true_eq] at o1 o2 <;> simp only [Ru.ok, Bool.and_eq_true, Ac.label, dig, Bool.or_eq_true, decide_eq_true_eq, List.length_append, List.length_singleton] at k1 k2 <;> simp_all
theorem no_target {a : Act} (h : right a = true) : right { a with target := a.target ++ [120] } = false := not_right fun hb => by
 obtain ⟨r, _, o1, k1, o2, k2⟩ := right_two h hb rfl
 have hl : ∀ {s : By}, idR s = true → idR (s ++ [120]) = true → False := fun h1 h2 => by
  have e1 := idR_len h1
  have e2 := idR_len h2
  simp at e2
  omega
 have hl1 : idR [120] = true → False := fun h2 => by have := idR_len h2; simp at this
 cases r <;> simp only [out, outB, Bool.and_eq_true, decide_eq_true_eq] at o1 o2 <;> simp only [Ru.ok, Bool.and_eq_true, Ac.label, dig, Bool.or_eq_true, decide_eq_true_eq] at k1 k2
 case tie => exact hl k1 k2
 case list => exact hl k1.1.1 k2.1.1
 case label =>
  rcases k2.2 with ⟨_, e⟩ | ⟨e, e'⟩
  ·simp at e
  ·rcases k1.2 with ⟨f, f'⟩ | ⟨f, f'⟩
   ·simp [f'] at e
    exact hl1 e
   ·exact hl f e
 all_goals simp_all
theorem no_wrap {a : Act} (h : right a = true) : right { a with wraps := ⟨1, 1, box0⟩ :: a.wraps } = false := not_right fun hb => by
 obtain ⟨r, _, o1, k1, o2, k2⟩ := right_two h hb rfl
 have hw : ∀ {c : Act}, wrapped { c with wraps := ⟨1, 1, box0⟩ :: c.wraps } = true → False := fun h => by
  simp only [wrapped, List.all_cons, Bool.and_eq_true] at h
  exact absurd h.1.1 (by decide)
 cases r <;> simp only [out, outB, Bool.and_eq_true, decide_eq_true_eq] at o1 o2 <;> simp only [Ru.ok, Bool.and_eq_true, Ac.grant, Ac.setup] at k1 k2
 case grant => exact hw k2.2
 case setup => exact hw k2.1.1.2
 all_goals simp_all
theorem no_epoch {a : Act} (h : right a = true) (h0 : a.scope = 0) (h16 : a.kind ≠ 16) : right { a with epoch := a.epoch + 1 } = false := not_right fun hb => by
 obtain ⟨r, hm, o1, k1, o2, k2⟩ := right_two h hb rfl
 have hm := mem_kind hm
 have ha : ∀ {c : Act}, c.scope = 0 → audience c = true → c.epoch = 0 := fun h0 h => by
  unfold audience at h
  rw [Bool.and_eq_true, if_pos h0] at h
  simp only [Bool.and_eq_true, decide_eq_true_eq] at h
  exact h.2.1.1.2
 cases r <;> simp only [out, outB, Bool.and_eq_true, decide_eq_true_eq] at o1 o2 <;> simp only [Ru.ok, Bool.and_eq_true] at k1 k2 <;> simp only at hm
 case post =>
  have e1 := ha h0 k1
  have e2 := ha (c := { a with epoch := a.epoch + 1 }) h0 k2
  simp only at e2
  omega
 case reply =>
  have e1 := ha h0 k1.2
  have e2 := ha (c := { a with epoch := a.epoch + 1 }) h0 k2.2
  simp only at e2
  omega
 case grant => exact h16 hm
 all_goals omega
theorem no_m {a : Act} (h : right a = true) (h0 : a.kind ≠ 0) (h18 : a.kind ≠ 18) (h19 : a.kind ≠ 19) : right { a with m := a.m - 1 } = false := not_right fun hb => by
 obtain ⟨r, hm, o1, k1, o2, k2⟩ := right_two h hb rfl
 have hm := mem_kind hm
 cases r <;> simp only [out, outB, Bool.and_eq_true, decide_eq_true_eq] at o1 o2 <;> simp only at hm <;> omega
theorem post_rule {k : Int} {r : Ru} (h : (k, r) ∈ ruleL) (h1 : 1 ≤ k) (h3 : k ≤ 3) : r = .post ∨ r = .reply := by
 have := mem_kind h
 cases r <;> simp at this ⊢ <;> omega
theorem public_right {a : Act} (h : right a = true) (h1 : 1 ≤ a.kind) (h3 : a.kind ≤ 3) (t : By) : right { a with scope := 0, group := [], epoch := 0, text := t, body := box0 } = short t := by
 obtain ⟨g1, g2, g3, g4, r, g5, g6, g7⟩ := right_iff.1 h
 have hr := post_rule (rule_mem g5) h1 h3
 have hids := (right_fields h).2.1
 have hau : audience { a with scope := 0, group := [], epoch := 0, text := t, body := box0 } = short t := by
  unfold audience
  simp only [hids, if_true, decide_true, Bool.true_and, Bool.and_true]
 rw [Bool.eq_iff_iff, right_iff]
 constructor
 ·rintro ⟨_, _, _, _, q, q5, q6, q7⟩
  have e : some q = some r := q5.symm.trans g5
  cases e
  rcases hr with rfl | rfl
  ·exact hau ▸ q7
  ·simp only [Ru.ok, Bool.and_eq_true] at q7; exact hau ▸ q7.2
 ·intro ht
  refine ⟨g1, g2, g3, g4, r, g5, ?_, ?_⟩
  ·rcases hr with rfl | rfl
   ·simp only [out, outB, Bool.and_eq_true, decide_eq_true_eq] at g6 ⊢; exact g6
   ·simp only [out, outB, Bool.and_eq_true, decide_eq_true_eq] at g6 ⊢; exact g6
  ·rcases hr with rfl | rfl
   ·exact hau.trans ht
   ·simp only [Ru.ok, Bool.and_eq_true] at g7 ⊢; exact ⟨g7.1, hau.trans ht⟩
theorem scope_facts {a : Act} (h : right a = true) (h1 : 1 ≤ a.kind) (h3 : a.kind ≤ 3) (sc : Int) (g : By) (hc : right { a with scope := sc, group := g } = true) :
  (0 ≤ sc ∧ sc ≤ 3) ∧ (sc = 2 ↔ g ≠ []) ∧ (g ≠ [] → nameR g = true) ∧ (sc = 0 ↔ a.scope = 0) := by
 obtain ⟨r, hm, o1, k1, o2, k2⟩ := right_two h hc rfl
 have hr := post_rule hm h1 h3
 have a1 : audience a = true := by
  rcases hr with rfl | rfl
  ·exact k1
  ·simp only [Ru.ok, Bool.and_eq_true] at k1; exact k1.2
 have a2 : audience { a with scope := sc, group := g } = true := by
  rcases hr with rfl | rfl
  ·exact k2
  ·simp only [Ru.ok, Bool.and_eq_true] at k2; exact k2.2
 have hs := (right_sm hc).scope
 simp only at hs
 have key : ∀ {c : Act}, audience c = true → (c.scope = 0 → c.body = box0 ∧ c.group = []) ∧ (c.scope ≠ 0 → c.body ≠ box0 ∧ sealedSc c.scope c.group = true) := fun {c} h => by
  unfold audience at h
  rw [Bool.and_eq_true] at h
  refine ⟨fun h0 => ?_, fun h0 => ?_⟩
  ·have h := h.2
   rw [if_pos h0] at h
   simp only [Bool.and_eq_true, decide_eq_true_eq] at h
   exact ⟨h.2, h.1.1.1⟩
  ·have h := h.2
   rw [if_neg h0] at h
   simp only [Bool.and_eq_true, decide_eq_true_eq] at h
   refine ⟨fun e => ?_, h.1.1.1.2⟩
   have := (sealedB_len h.2).1
   rw [e] at this
   simp [box0] at this
 obtain ⟨b1, b2⟩ := key a1
 obtain ⟨c1, c2⟩ := key a2
 simp only at c1 c2
 refine ⟨hs, ?_⟩
 by_cases h0 : sc = 0
 ·have d1 := c1 h0
  have e : a.scope = 0 := Classical.byContradiction fun e => (b2 e).1 d1.1
  exact ⟨⟨fun e => by omega, fun e => absurd d1.2 e⟩, fun e => absurd d1.2 e, ⟨fun _ => e, fun _ => h0⟩⟩
 ·have d2 := c2 h0
  have e : a.scope ≠ 0 := fun e => d2.1 (b1 e).1
  have d3 := d2.2
  unfold sealedSc at d3
  refine ⟨?_, ?_, ⟨fun x => absurd x h0, fun x => absurd x e⟩⟩
  ·split at d3
   ·refine ⟨fun _ e => ?_, fun _ => by assumption⟩
    rw [e] at d3; cases d3
   ·split at d3
    ·have := of_decide_eq_true d3
     exact ⟨fun e => by omega, fun e => absurd this e⟩
    ·cases d3
  ·intro hg
   split at d3
   ·exact d3
   ·split at d3
    ·exact absurd (of_decide_eq_true d3) hg
    ·cases d3
end Go.Proofs.YtaphpbiaoofmkaaGreatDoor.Ac
